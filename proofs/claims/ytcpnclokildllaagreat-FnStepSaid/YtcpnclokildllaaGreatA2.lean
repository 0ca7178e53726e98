/- Walks and laws, printed by program and by hand: what each function comes to, for all arguments, part 2. -/
import Derived.Test.YtcpnclokildllaaGreatA1
import Derived.Shelf.SlSortCmp.Whole1
import Derived.Ground.SlsfProg
namespace Go.Proofs.YtcpnclokildllaaGreat
set_option linter.unusedVariables false
set_option linter.unusedSimpArgs false
open Go.Proofs.YtcpnclokildllaaGreat.Tot (tot)
open Go.Proofs.YtcpnclokildllaaGreat.Mark (cnt mrk mkd mkd_mark cnt_mark)
section
open Go.Proofs.Tryz
open Go.RowKit
set_option linter.unusedVariables false
set_option linter.unusedSimpArgs false
set_option maxRecDepth 100000
set_option maxHeartbeats 4000000
variable {cl cm : Nat}
theorem both_ok (w:World) (l:yLI) (m:yLI) (of:FuncId) (capsof:Array Value) (gof:Nat→Int) {al:yOA} {Fl:yLN} {am:yOA} {Fm:yLN} (hl:qU.rep w Fl [Sv al l.length cl] l) (hm:qU.rep w Fm [Sv am m.length cm] m) (p0:l.length≤m.length) (p1:l.length≤1000000) (hfof:∀ args w,(callFunc of args).run Tryz.prog w=.ok (.enter of args) w) (hofof:∀ k w',k < l.length→Ext w w' →Calls Tryz.prog of (([yI (l[k]!),yI (m[k]!)]:List Value)++capsof.toList).toArray w' (Ret (fun v _=>v=yI (gof k)) w')):Calls Tryz.prog 155 #[Sv al l.length cl,Sv am m.length cm,.func (.func of) #[] capsof] w (Ret (fun v w' =>OwnNew w w' 2 v (tabTo gof l.length)) w):=by
 refine en func155 ntmps155 ?_
 have H:=((St.start w).arg hm).arg hl
 have nhl:=qQ hl
 have nhm:=qQ hm
 clear hl hm
 refine zcr (sp yN (zjc (sw (jR H underlying24 ti2 fun b1 w2 H=>sp (Sv (aa b1 0) 0 0) (zjcc (sp (Sv al l.length cl) (oN rfl (sp (yI 0) (zjn (qZ ?_))))))))))
 replace H:=H.boxRow 0 rfl 1 0 rfl qj
 replace H:St _ _ [rr (aa b1 0) 0 0 2 1 []] _:=H
 refine zU (fun m' ρ w3=>∃ (zl:Env) (k:Nat) (vr7:Value),ρ=upd (upd (upd (upd (upd (upd (upd zl 1 (Sv am m.length cm)) 2 (.func (.func of) #[] capsof)) 6 yN) 7 (vr7)) 11 (Sv al l.length cl)) 12 (yI l.length)) 13 (yI k)∧(k≤l.length)∧m' =l.length - k∧St w w3 [.row vr7 2 1 k ((tabTo gof k).map (Value.int .i64))] [sF false Fl al cl l,sF false Fm am cm m]) (l.length - 0) ⟨_,0,(Sv (aa b1 0) 0 0),uE7,qf,rfl,H⟩ ?_
 clear H
 rintro m' ρ w4 ⟨zl,k,vr7,rfl,i0,rfl,H⟩
 refine zcr (sp (Bv (decide ((k:Int) < l.length))) (zjn (zg (cD rfl (fun h5=>?_) (fun h5=>?_)))))
 ·skip
  refine xe (t_n (zg (qZ (zcr (sp (yI k) ?_)))))
  obtain ⟨b6,o7,rfl⟩:=H.addr 0 rfl qf
  refine oI rfl rfl (oL rfl (H.jg 0 rfl k qf qf) (sps [yI k,yI (l[k]!)] (zjn (zn (sps [vr7,.func (.func of) #[] capsof,yI (l[k]!),Sv am m.length cm,yI k] ?_)))))
  obtain ⟨b8,o9,rfl⟩:=H.addr 1 rfl qf
  refine oI rfl rfl (oL rfl (H.jg 1 rfl k qf qf) (sw (o_callV [yI (l[k]!),yI (m[k]!)] rfl rfl hfof (hofof k _ qf H.base) ?_)))
  rintro _ w10 rfl x11
  replace H:=H.ext x11
  refine sw (o_build1 H underlying24 ti2 qj qj (yI (gof k)) rfl rfl fun b12 w13 H=>sw (o_append H 1 rfl 0 rfl underlying24 ti2 rfl qj rfl rfl rfl (by simp [Value.oneCell',Value.cells]) qp qf fun v14 w15 H=>?_))
  replace H:St _ _ [.box b12 [yI (gof k)] 2,.row v14 2 1 (k+1) (((tabTo gof k).map (Value.int .i64))++[yI (gof k)])] _:=H
  refine sp (v14) (zo (b_n (t_n (zn (sw (zN k 1 rfl rfl qf (sp (yI (k+1)) (zo ?_))))))))
  rw [show ((tabTo gof k).map (Value.int .i64))++[yI (gof k)]=(tabTo gof (k+1)).map (Value.int .i64) from by (rw [tabTo_succ];simp)] at H
  refine xm (m' :=l.length - (k+1)) qf ⟨_,k+1,v14,uE7,?_,rfl,H.sel _ (.cons _ (.refl _)) _ qm⟩
  · omega
 refine zx4 (zcr (sps [vr7,vr7] (zjr (ret1 (vr7) rfl rfl ⟨_,rfl,?_,H.base⟩))))
 obtain rfl:k=l.length:=by omega
 exact H.newInts 0 rfl qm

theorem plus1_ok (w:World) (x:Int) (y:Int) (t:Int) (bt ot:Nat) (hpt:jQ w bt ot [yI t]) (p0: -1000000000000000≤x∧x≤1000000000000000) (p1: -1000000000000000≤t * y∧t * y≤1000000000000000):Calls Tryz.prog 156 #[yI x,yI y,pp bt ot] w (Ret (fun v w' =>v=yI (x+t * y)) w):=by
 refine en func156 ntmps156 ?_
 have H:=(St.start w).argAt hpt
 clear hpt
 refine zcr (sp (yI 0) (zjc (sp (yI x) (oL rfl (H.zu 0 rfl 0 rfl) (sp (yI y) (sw (o_mul t y rfl rfl qf (sw (zN x (t * y) rfl rfl qf (sp (yI (x+(t * y))) (zjr (ret1 (yI (x+(t * y))) rfl rfl ⟨_,rfl,?_,H.base⟩))))))))))))
 rfl

theorem Xq (w:World) (l:yLI) (m:yLI) (t:Int) {al:yOA} {Fl:yLN} {am:yOA} {Fm:yLN} (hl:qU.rep w Fl [Sv al l.length cl] l) (hm:qU.rep w Fm [Sv am m.length cm] m) (p0:l.length≤m.length) (p1:Mid l) (p2:Ve m t):Calls Tryz.prog 87 #[Sv al l.length cl,Sv am m.length cm,yI t] w (Ret (fun v w' =>OwnNew w w' 2 v (vZ l m t)) w):=by
 refine en func87 ntmps87 ?_
 have H:=((St.start w).arg hm).arg hl
 have nhl:=qQ hl
 have nhm:=qQ hm
 clear hl hm
 have p3:=p1.1
 refine zcr (sw (o_box H (yI t) rfl fun b1 w2 H=>?_))
 replace H:St _ _ [.box b1 [yI t] 2] _:=H
 refine sp yN (zjc (sps [Sv al l.length cl,Sv am m.length cm,.func (.func 156) #[] #[pp b1 0]] ?_))
 have szx4:=H.base.size
 refine sw (oc (both_ok _ l m 156 #[pp b1 0] (fun k=>l[k]! +t * m[k]!) (H.get 0 rfl).1 (H.get 1 rfl).1 qf qf call156 (fun k w' hk e=>plus1_ok w' _ _ t _ _ ((H.ext e).cells 0 rfl) (by have:=p1.2 k hk;omega) (p2 k qf))) ?_)
 rintro v5 w3 r5 x4
 replace H:=H.zW x4 r5
 refine sp (v5) (zjr (ret1 (v5) rfl rfl ⟨_,rfl,(H.newInts 0 rfl (by simp [y7])),H.base⟩))

theorem l01Plus_ok (w:World) (l:yLI) (m:yLI) (t:Int) {al:yOA} {Fl:yLN} {am:yOA} {Fm:yLN} (hl:qU.rep w Fl [Sv al l.length cl] l) (hm:qU.rep w Fm [Sv am m.length cm] m) (p0:l.length≤m.length) (p1:Mid l) (p2:Ve m t):Calls Tryz.prog 112 #[Sv al l.length cl,Sv am m.length cm,yI t] w (Ret (fun v w' =>OwnNew w w' 2 v (vZ l m t)) w):=by
 refine en func112 ntmps112 ?_
 have H:=((St.start w).arg hm).arg hl
 have nhl:=qQ hl
 have nhm:=qQ hm
 clear hl hm
 have p3:=p1.1
 refine zcr (sp yN (zjc (sw (jR H underlying24 ti2 fun b1 w2 H=>sp (Sv (aa b1 0) 0 0) (zjcc (sp (yI 0) (zjn (qZ ?_))))))))
 replace H:=H.boxRow 0 rfl 1 0 rfl qj
 replace H:St _ _ [rr (aa b1 0) 0 0 2 1 []] _:=H
 refine zU (fun m' ρ w3=>∃ (zl:Env) (k:Nat) (vr7:Value),ρ=upd (upd (upd (upd (upd (upd zl 0 (Sv al l.length cl)) 1 (Sv am m.length cm)) 2 (yI t)) 6 yN) 7 (vr7)) 8 (yI k)∧(k≤l.length)∧m' =l.length - k∧St w w3 [.row vr7 2 1 k ((plusTo l m t k).map (Value.int .i64))] [sF false Fl al cl l,sF false Fm am cm m]) (l.length - 0) ⟨_,0,(Sv (aa b1 0) 0 0),uE6,qf,rfl,H⟩ ?_
 clear H
 rintro m' ρ w4 ⟨zl,k,vr7,rfl,i0,rfl,H⟩
 refine zcc (sps [yI k,Sv al l.length cl] (oN rfl (sp (Bv (decide ((k:Int) < l.length))) (zjn (cD rfl (fun h5=>?_) (fun h5=>?_))))))
 ·skip
  refine xe (t_n (zg (qZ ?_)))
  refine c_draw (fun w6=>St w w6 [] [sF false Fl al cl l,sF false Fm am cm m]) rfl ((H.ext (ext_drew _)).sel _ (.cons _ (.refl _)) _ (fun _ h=>h)) ?_
  replace H:=H.ext (ext_drew _)
  refine rtp 0 (vr7) (H.sel _ (.cons _ (.refl _)) _ (fun _ h=>h)) ?_
  refine rtp 1 (Sv al l.length cl) (H.sel _ (.cons _ (.refl _)) _ (fun _ h=>h)) ?_
  refine rtp 2 (yI k) (H.sel _ (.cons _ (.refl _)) _ (fun _ h=>h)) ?_
  obtain ⟨b7,o8,rfl⟩:=H.addr 0 rfl qf
  refine tI 3 rfl rfl rfl (H.sel _ (.cons _ (.refl _)) _ (fun _ h=>h)) ?_
  refine tL 4 rfl rfl (fun _ h=>h.QG 0 rfl k qf) (H.sel _ (.cons _ (.refl _)) _ (fun _ h=>h)) ?_
  refine rtp 5 (Sv am m.length cm) (H.sel _ (.cons _ (.refl _)) _ (fun _ h=>h)) ?_
  refine rtp 6 (yI k) (H.sel _ (.cons _ (.refl _)) _ (fun _ h=>h)) ?_
  obtain ⟨b9,o10,rfl⟩:=H.addr 1 rfl qf
  refine tI 7 rfl rfl rfl (H.sel _ (.cons _ (.refl _)) _ (fun _ h=>h)) ?_
  refine tL 8 rfl rfl (fun _ h=>h.QG 1 rfl k qf) (H.sel _ (.cons _ (.refl _)) _ (fun _ h=>h)) ?_
  refine rtp 9 (yI t) (H.sel _ (.cons _ (.refl _)) _ (fun _ h=>h)) ?_
  refine rt 10 (yI ((m[k]!) * t)) (y_mul (m[k]!) t rfl rfl (by (have:=p1.2 k qf;have:=p2 k qf;rw [Int.mul_comm] at this;omega))) (H.sel _ (.cons _ (.refl _)) _ (fun _ h=>h)) ?_
  refine rt 11 (yI ((l[k]!)+((m[k]!) * t))) (y_add (l[k]!) ((m[k]!) * t) rfl rfl (by (have:=p1.2 k qf;have:=p2 k qf;rw [Int.mul_comm] at this;omega))) (H.sel _ (.cons _ (.refl _)) _ (fun _ h=>h)) ?_
  refine ro 12 rfl (o_build1 H underlying24 ti2 qj qj (yI ((l[k]!)+((m[k]!) * t))) rfl rfl fun b11 w12 H=>?_)
  replace H:St _ _ [.box b11 [yI ((l[k]!)+((m[k]!) * t))] 2,.row vr7 2 1 k ((plusTo l m t k).map (Value.int .i64))] _:=H
  refine ⟨H.sel _ (.cons _ (.cons _ (.refl _))) _ (fun _ h=>h),(ro 13 rfl (o_append H 1 rfl 0 rfl underlying24 ti2 rfl qj rfl rfl rfl (by simp [Value.oneCell',Value.cells]) qp qf fun v13 w14 H=>?_))⟩
  replace H:St _ _ [.box b11 [yI ((l[k]!)+((m[k]!) * t))] 2,.row v13 2 1 (k+1) (((plusTo l m t k).map (Value.int .i64))++[yI ((l[k]!)+((m[k]!) * t))])] _:=H
  refine ⟨H.sel _ (.cons _ (.cons _ (.refl _))) _ (fun _ h=>h),(rtp 14 (v13) (H.sel _ (.cons _ (.cons _ (.refl _))) _ (fun _ h=>h)) ?_)⟩
  refine xg qh (b_n (t_n (zn (sp (yI k) (sw (zN k 1 rfl rfl (by (have:=p1.2 k qf;have:=p2 k qf;rw [Int.mul_comm] at this;omega)) (sp (yI (k+1)) (zo ?_))))))))
  rw [show ((plusTo l m t k).map (Value.int .i64))++[yI ((l[k]!)+((m[k]!) * t))]=(plusTo l m t (k+1)).map (Value.int .i64) from by (rw [plusTo_succ,Int.mul_comm t];simp)] at H
  refine xm (m' :=l.length - (k+1)) qf ⟨_,k+1,v13,uE6,?_,rfl,H.sel _ (.cons _ (.refl _)) _ qm⟩
  · omega
 refine zx4 (zcr (sps [vr7,vr7] (zjr (ret1 (vr7) rfl rfl ⟨_,rfl,?_,H.base⟩))))
 obtain rfl:k=l.length:=by omega
 exact H.newInts 0 rfl (by simp [vZ,plusTo])

theorem l00Own_ok (w:World) (l:yLI) {al:yOA} {Fl:yLN} (hl:qU.rep w Fl [Sv al l.length cl] l) (p0:l.length≤1000000):Calls Tryz.prog 67 #[Sv al l.length cl] w (Ret (fun v w' =>OwnNew w w' 2 v l) w):=by
 refine en func67 ntmps67 ?_
 have H:=(St.start w).arg hl
 have nhl:=qQ hl
 clear hl
 refine zcr (sp yN (zjc (sw (jR H underlying24 ti2 fun b1 w2 H=>sp (Sv al l.length cl) ?_))))
 replace H:=H.boxRow 0 rfl 1 0 rfl qj
 refine sw (o_appendInts H 0 rfl 0 rfl underlying24 ti2 rfl rfl rfl qp qf fun v3 w4 H=>?_)
 replace H:St _ _ [.row v3 2 1 (0+l.length) ([]++l.map (Value.int .i64))] _:=H
 refine sp (v3) (zjr (ret1 (v3) rfl rfl ⟨_,rfl,(H.newInts 0 rfl qf),H.base⟩))

theorem cloneI_ok (w:World) (l:yLI) {al:yOA} {Fl:yLN} (hl:qU.rep w Fl [Sv al l.length cl] l) (p0:l.length≤1000000):Calls Tryz.prog 86 #[Sv al l.length cl] w (Ret (fun v w' =>OwnNew w w' 2 v l) w):=by
 refine en func86 ntmps86 ?_
 have H:=(St.start w).arg hl
 have nhl:=qQ hl
 clear hl
 refine zcr (sp yN (zjcc (sp (Sv al l.length cl) (sw (o_eqnil underlying24 al l.length cl rfl (zjn (xI (al.isNone) rfl (fun h1=>?_) (fun h1=>?_))))))))
 ·skip
  refine zcr (sp yN (zjr (t_r (ret1 yN rfl rfl ⟨_,rfl,?_,H.base⟩))))
  obtain rfl:=H.nilOf 0 rfl ‹_›
  exact ownNew_nil _ _ _
 refine xe (t_n (zcr (sw (jR H underlying24 ti2 fun b2 w3 H=>sp (Sv al l.length cl) ?_))))
 replace H:=H.boxRow 0 rfl 1 0 rfl qj
 refine sw (o_appendInts H 0 rfl 0 rfl underlying24 ti2 rfl rfl rfl qp qf fun v4 w5 H=>?_)
 replace H:St _ _ [.row v4 2 1 (0+l.length) ([]++l.map (Value.int .i64))] _:=H
 refine sp (v4) (zjr (ret1 (v4) rfl rfl ⟨_,rfl,(H.newInts 0 rfl qf),H.base⟩))
end
section
open Go.RowKit
set_option linter.unusedVariables false
set_option linter.unusedSimpArgs false
set_option maxRecDepth 100000
set_option maxHeartbeats 4000000
instance:Mark IntoD where
  cnt x:=1+cnt x.Qm
  mrk x k:=⟨mrk x.qE (k),mrk x.Qm (k+1)⟩
  mkd x k:=mkd x.qE (k)∧mkd x.Qm (k+1)
  mkd_mark x k:=by
    simp only [cnt_mark]
    exact ⟨mkd_mark _ _,mkd_mark _ _⟩
  cnt_mark x k:=by simp only [cnt_mark]
theorem cnt_IntoD (x:IntoD):cnt x=1+cnt x.Qm:=rfl

instance:Mark jy where
  cnt x:=1+1+cnt x.xM+cnt x.zF+cnt x.zD+cnt x.zC+cnt x.jI+cnt x.qO+1
  mrk x k:=⟨mrk x.qE (k),mrk x.vI (k+1),mrk x.xM (k+1+1),mrk x.zF (k+1+1+(cnt x.xM:Nat)),mrk x.zD (k+1+1+(cnt x.xM:Nat)+(cnt x.zF:Nat)),mrk x.zC (k+1+1+(cnt x.xM:Nat)+(cnt x.zF:Nat)+(cnt x.zD:Nat)),mrk x.jI (k+1+1+(cnt x.xM:Nat)+(cnt x.zF:Nat)+(cnt x.zD:Nat)+(cnt x.zC:Nat)),mrk x.qO (k+1+1+(cnt x.xM:Nat)+(cnt x.zF:Nat)+(cnt x.zD:Nat)+(cnt x.zC:Nat)+(cnt x.jI:Nat)),mrk x.zV (k+1+1+(cnt x.xM:Nat)+(cnt x.zF:Nat)+(cnt x.zD:Nat)+(cnt x.zC:Nat)+(cnt x.jI:Nat)+(cnt x.qO:Nat))⟩
  mkd x k:=mkd x.qE (k)∧mkd x.vI (k+1)∧mkd x.xM (k+1+1)∧mkd x.zF (k+1+1+(cnt x.xM:Nat))∧mkd x.zD (k+1+1+(cnt x.xM:Nat)+(cnt x.zF:Nat))∧mkd x.zC (k+1+1+(cnt x.xM:Nat)+(cnt x.zF:Nat)+(cnt x.zD:Nat))∧mkd x.jI (k+1+1+(cnt x.xM:Nat)+(cnt x.zF:Nat)+(cnt x.zD:Nat)+(cnt x.zC:Nat))∧mkd x.qO (k+1+1+(cnt x.xM:Nat)+(cnt x.zF:Nat)+(cnt x.zD:Nat)+(cnt x.zC:Nat)+(cnt x.jI:Nat))∧mkd x.zV (k+1+1+(cnt x.xM:Nat)+(cnt x.zF:Nat)+(cnt x.zD:Nat)+(cnt x.zC:Nat)+(cnt x.jI:Nat)+(cnt x.qO:Nat))
  mkd_mark x k:=by
    simp only [cnt_mark]
    exact ⟨mkd_mark _ _,mkd_mark _ _,mkd_mark _ _,mkd_mark _ _,mkd_mark _ _,mkd_mark _ _,mkd_mark _ _,mkd_mark _ _,mkd_mark _ _⟩
  cnt_mark x k:=by simp only [cnt_mark]
theorem cnt_RuleD (x:jy):cnt x=1+1+cnt x.xM+cnt x.zF+cnt x.zD+cnt x.zC+cnt x.jI+cnt x.qO+1:=rfl

instance:Mark qA where
  cnt x:=cnt x.qF+cnt x.qG+cnt x.qH
  mrk x k:=⟨mrk x.qF (k),mrk x.qG (k+(cnt x.qF:Nat)),mrk x.qH (k+(cnt x.qF:Nat)+(cnt x.qG:Nat))⟩
  mkd x k:=mkd x.qF (k)∧mkd x.qG (k+(cnt x.qF:Nat))∧mkd x.qH (k+(cnt x.qF:Nat)+(cnt x.qG:Nat))
  mkd_mark x k:=by
    simp only [cnt_mark]
    exact ⟨mkd_mark _ _,mkd_mark _ _,mkd_mark _ _⟩
  cnt_mark x k:=by simp only [cnt_mark]
end
section

class CntTot (α:Type) [Mark α] [Tot α]:Prop where
  le:∀ x:α,cnt x≤10+10 * tot x
instance:CntTot Int:=⟨fun _=>by show 1≤_;omega⟩
instance:CntTot Bool:=⟨fun _=>by show 1≤_;omega⟩
section
variable {α : Type} [Mark α] [Tot α] [Inhabited α] [CntTot α]
theorem cntTo_tot (l:List α):∀ k,cntTo l k≤10 * k+10 * totTo l k
  | 0=>Nat.zero_le _
  | k+1=>by
    have h1:=cntTo_tot l k
    have h2:=CntTot.le (l[k]!)
    rw [cntTo_succ,totTo_succ]
    omega
theorem cntL_tot (l:List α):cnt l≤10 * tot l:=by
  have:=cntTo_tot l l.length
  rw [cnt_list,tot_list]
  omega
instance:CntTot (List α):=⟨fun l=>by have:=cntL_tot l;omega⟩
end
instance:CntTot IntoD:=⟨fun x=>by
  have h1:=cntL_tot x.Qm
  have h2:=tot_IntoD x
  have h3:=cnt_IntoD x
  omega⟩
instance:CntTot jy:=⟨fun x=>by
  have h1:=cntL_tot x.xM
  have h2:=cntL_tot x.zF
  have h3:=cntL_tot x.zD
  have h4:=cntL_tot x.zC
  have h5:=cntL_tot x.jI
  have h6:=cntL_tot x.qO
  have h7:=tot_RuleD x
  have h8:=cnt_RuleD x
  omega⟩
theorem ft {b:Bool} (h:b=true) (h' :b=false):False:=by rw [h] at h';cases h'

theorem getset {α:Type} [Inhabited α] {l:List α} {c p:Nat} {v:α} (hc:c < l.length):(l.set c v)[p]! =if p=c then v else l[p]! :=by
  by_cases hp:p < l.length
  · rw [getElem!_pos _ _ (by simpa using hp),getElem!_pos l p hp,List.getElem_set]
    by_cases e:c=p
    · rw [if_pos e,if_pos e.symm]
    · rw [if_neg e,if_neg (fun h=>e h.symm)]
  · rw [if_neg qf,getElem!_neg (l.set c v) p (by simpa using hp),getElem!_neg l p hp]
theorem plus_get {l m:yLI} {t:Int} {k:Nat} (hk:k < l.length):(vZ l m t)[k]! =l[k]! +t * m[k]! :=by
  rw [getElem!_pos (vZ l m t) k (by rw [y7];exact hk)]
  simp [vZ,plusTo]
theorem ext_get {α:Type} [Inhabited α] {l m:List α} (hl:l.length=m.length) (h:∀ k,k < l.length→l[k]! =m[k]!):l=m:=by
  apply List.ext_getElem hl
  intro i h1 h2
  have:=h i h1
  rwa [getElem!_pos l i h1,getElem!_pos m i h2] at this
theorem set_self {α:Type} [Inhabited α] {l:List α} {c:Nat} {v:α} (hc:c < l.length) (h:v=l[c]!):l.set c v=l:=by
  refine ext_get qm fun k hk=>?_
  rw [getset hc]
  by_cases e:k=c
  · rw [if_pos e,e,h]
  · rw [if_neg e]
theorem plus_zero {l m:yLI} {t:Int} (ht:t=0):vZ l m t=l:=by
  refine ext_get (y7 _ _ _) fun k hk=>?_
  rw [y7] at hk
  rw [plus_get hk,ht];omega

def Shape (n K:Nat) (B:Int) (b:yLL):Prop:=b.length=n∧∀ p,p < n→(b[p]!).length=K∧∀ k,k < K→ -B≤(b[p]!)[k]! ∧(b[p]!)[k]! ≤B
structure Ent (n K:Nat) (f:Nat→Nat→Int) (B:Int) (b:yLL):Prop where
  sh:Shape n K B b
  eq:∀ p k,p < n→k < K→(b[p]!)[k]! =f p k
def at' (p c:Nat) (x:Int):Int:=if p=c then x else 0
theorem Shape.set {n K:Nat} {B D:Int} {b:yLL} (h:Shape n K B b) {c:Nat} {v:yLI} (hc:c < n) (hv:v.length=K) (hb:∀ k,k < K→ -D≤v[k]! ∧v[k]! ≤D) (hD:B≤D):Shape n K D (b.set c v):=by
  refine ⟨by simp [h.1],fun p hp=>?_⟩
  rw [getset (by rw [h.1];exact hc)]
  by_cases e:p=c
  · rw [if_pos e];exact ⟨hv,hb⟩
  · rw [if_neg e]
    refine ⟨(h.2 p hp).1,fun k hk=>?_⟩
    have:=(h.2 p hp).2 k hk
    omega
theorem Shape.plus {n K:Nat} {B D:Int} {b:yLL} (h:Shape n K B b) {c:Nat} {m:yLI} {t:Int} (hc:c < n) (ht:∀ k,k < K→ -D≤t * m[k]! ∧t * m[k]! ≤D) (hD:0≤D):
    Shape n K (B+D) (b.set c (vZ (b[c]!) m t)):=by
  have h1:=h.2 c hc
  refine h.set hc (by rw [y7];exact h1.1) (fun k hk=>?_) qf
  rw [plus_get (by rw [h1.1];exact hk)]
  have:=h1.2 k hk
  have:=ht k hk
  omega
theorem Shape.row {n K:Nat} {B:Int} {b:yLL} (h:Shape n K B b) (hB:B≤1000000000000000) (hK:K≤8) {c:Nat} (hc:c < n):(b[c]!).length=K∧Mid (b[c]!):=by
  have h1:=h.2 c hc
  refine ⟨h1.1,by have:=h1.1;omega,fun k hk=>?_⟩
  have:=h1.2 k (by have:=h1.1;omega)
  omega
theorem Ent.add {n K:Nat} {f:Nat→Nat→Int} {B:Int} {b:yLL} (h:Ent n K f B b) {c:Nat} {m:yLI} {t:Int} {D:Int} {b' :yLL} (e:b' =b.set c (vZ (b[c]!) m t)) (hc:c < n) (ht:∀ k,k < K→ -D≤t * m[k]! ∧t * m[k]! ≤D) (hD:0≤D):
    Ent n K (fun p k=>f p k+at' p c (t * m[k]!)) (B+D) b' :=by
  subst e
  refine ⟨h.sh.plus hc ht hD,fun p k hp hk=>?_⟩
  rw [getset (by rw [h.sh.1];exact hc)]
  unfold at'
  by_cases e:p=c
  · subst e
    rw [if_pos rfl,if_pos rfl,plus_get (by rw [(h.sh.2 p hp).1];exact hk),h.eq p k hp hk]
  · rw [if_neg e,if_neg e,h.eq p k hp hk];omega
theorem Shape.mono {n K:Nat} {B D:Int} {b:yLL} (h:Shape n K B b) (hD:B≤D):Shape n K D b:=⟨h.1,fun p hp=>⟨(h.2 p hp).1,fun k hk=>by have:=(h.2 p hp).2 k hk;omega⟩⟩
theorem Ent.to {n K:Nat} {f g:Nat→Nat→Int} {B D:Int} {b:yLL} (h:Ent n K f B b) (e:∀ p k,f p k=g p k) (hD:B≤D):Ent n K g D b:=⟨h.sh.mono hD,fun p k hp hk=>(h.eq p k hp hk).trans (e p k)⟩
theorem Ent.same {n K:Nat} {f g:Nat→Nat→Int} {B D:Int} {b c:yLL} (h:Ent n K f B b) (h' :Ent n K g D c) (e:∀ p k,p < n→k < K→f p k=g p k):b=c:=by
  refine ext_get (by rw [h.sh.1,h'.sh.1]) fun p hp=>?_
  rw [h.sh.1] at hp
  refine ext_get (by rw [(h.sh.2 p hp).1,(h'.sh.2 p hp).1]) fun k hk=>?_
  rw [(h.sh.2 p hp).1] at hk
  rw [h.eq p k hp hk,h'.eq p k hp hk,e p k hp hk]
def tab2 (n K:Nat) (f:Nat→Nat→Int):yLL:=(List.range n).map fun p=>(List.range K).map (f p)
theorem tab2_len (n K:Nat) (f:Nat→Nat→Int):(tab2 n K f).length=n:=by simp [tab2]
theorem tab2_row {n K:Nat} {f:Nat→Nat→Int} {p:Nat} (hp:p < n):(tab2 n K f)[p]! =(List.range K).map (f p):=by
  rw [getElem!_pos (tab2 n K f) p (by rw [tab2_len];exact hp)];simp [tab2]
theorem Ent.tab {n K:Nat} {f:Nat→Nat→Int} {B:Int} {b:yLL} (h:Ent n K f B b):b=tab2 n K f:=by
  refine ext_get (by rw [h.sh.1,tab2_len]) fun p hp=>?_
  rw [h.sh.1] at hp
  rw [tab2_row hp]
  refine ext_get (by rw [(h.sh.2 p hp).1];simp) fun k hk=>?_
  rw [(h.sh.2 p hp).1] at hk
  rw [h.eq p k hp hk,getElem!_pos ((List.range K).map (f p)) k (by simpa using hk)];simp
theorem Ent.snoc {n K:Nat} {f:Nat→Nat→Int} {B:Int} {b:yLL} {a:yLI} (h:Ent n K f B b) (ha:a.length=K) (hb:∀ k,k < K→ -B≤a[k]! ∧a[k]! ≤B) (he:∀ k,k < K→a[k]! =f n k):Ent (n+1) K f B (b++[a]):=by
  have hl:(b++[a]).length=n+1:=by simp [h.sh.1]
  have h1:∀ p,p < n→(b++[a])[p]! =b[p]! :=fun p hp=>by
    rw [getElem!_pos (b++[a]) p qf,getElem!_pos b p (by rw [h.sh.1];exact hp),List.getElem_append_left]
  have h2:(b++[a])[n]! =a:=by
    rw [getElem!_pos (b++[a]) n qf,List.getElem_append_right (by rw [h.sh.1];exact Nat.le_refl _)];simp
  refine ⟨⟨hl,fun p hp=>?_⟩,fun p k hp hk=>?_⟩
  · by_cases e:p=n
    · subst e;rw [h2];exact ⟨ha,hb⟩
    · rw [h1 p qf];exact h.sh.2 p qf
  · by_cases e:p=n
    · subst e;rw [h2];exact he k hk
    · rw [h1 p qf];exact h.eq p k qf hk

def xY (s:qy):Nat:=s.xf.toNat
abbrev xB (s:qy):Nat:=s.qw.length
def IntoUp (s:qy) (t:qA) (r:jy) (k:Nat):Prop:=∀ j,j < k→t.qF[(r.qO[j]!).qE.toNat]! =true∧xh s t (r.qO[j]!).qE=r.qE
theorem IntoUp.succ {s:qy} {t:qA} {r:jy} {k:Nat} (h:IntoUp s t r k) (h1:t.qF[(r.qO[k]!).qE.toNat]! =true) (h2:xh s t (r.qO[k]!).qE=r.qE):IntoUp s t r (k+1):=fun j hj=>by
  by_cases e:j=k
  · subst e;exact ⟨h1,h2⟩
  · exact h j qf
def EnOk (s:qy) (t:qA) (r:jy):Prop:=
  t.qF[r.qE.toNat]! =true∧within r.xM (t.qG[r.qE.toNat]!)=true∧within r.zF (t.qG[r.qE.toNat]!)=true∧¬ (0 < QJ r.zD∧within r.zD (t.qG[r.qE.toNat]!)=true)∧IntoUp s t r r.qO.length
open Classical in
noncomputable def bestOf (s:qy) (t:qA) (z:Int) (c:Nat):Nat→Int
  | 0=>z
  | k+1=>if EnOk s t (s.qx[k]!)∧(s.qx[k]!).qE.toNat=c then max (bestOf s t z c k) (s.qx[k]!).vI else bestOf s t z c k
noncomputable def bests (s:qy) (t:qA) (z:Int) (n k:Nat):yLI:=tabTo (fun c=>bestOf s t z c k) n
theorem Xh (s:qy) (t:qA) (z:Int) (n k:Nat):(bests s t z n k).length=n:=tabTo_len _ _
theorem tab_get {g:Nat→Int} {n c:Nat} (h:c < n):(tabTo g n)[c]! =g c:=by
  rw [getElem!_pos (tabTo g n) c (by rw [tabTo_len];exact h)];simp [tabTo]
theorem bests_zero (s:qy) (t:qA) (z:Int) (n:Nat):List.replicate n z=bests s t z n 0:=by
  refine ext_get (by simp [Xh]) fun k hk=>?_
  rw [List.length_replicate] at hk
  rw [bests,tab_get hk,getElem!_pos (List.replicate n z) k (by simpa using hk)];simp [bestOf]
theorem bests_get {s:qy} {t:qA} {z:Int} {n k c:Nat} (h:c < n):(bests s t z n k)[c]! =bestOf s t z c k:=tab_get h
theorem bests_set {s:qy} {t:qA} {z:Int} {n k:Nat} (h:EnOk s t (s.qx[k]!)) (hc:(s.qx[k]!).qE.toNat < n):
    (bests s t z n k).set (s.qx[k]!).qE.toNat (max ((bests s t z n k)[(s.qx[k]!).qE.toNat]!) (s.qx[k]!).vI)=bests s t z n (k+1):=by
  refine ext_get (by simp [Xh]) fun p hp=>?_
  rw [List.length_set,Xh] at hp
  rw [getset (by rw [Xh];exact hc),bests_get hc,bests_get hp,bests_get hp,bestOf]
  by_cases e:p=(s.qx[k]!).qE.toNat
  · rw [if_pos e,if_pos ⟨h,e.symm⟩,e]
  · rw [if_neg e,if_neg fun x=>e x.2.symm]
theorem bests_skip {s:qy} {t:qA} {z:Int} {n k:Nat} (h:¬ EnOk s t (s.qx[k]!)):bests s t z n k=bests s t z n (k+1):=by
  refine ext_get (by simp [Xh]) fun p hp=>?_
  rw [Xh] at hp
  rw [bests_get hp,bests_get hp,bestOf,if_neg fun x=>h x.1]
def Appl (s:qy) (t:qA) (i:Nat):Prop:=
  EnOk s t (s.qx[i]!)∧∀ j,j < s.qx.length→EnOk s t (s.qx[j]!)→(s.qx[j]!).qE.toNat=(s.qx[i]!).qE.toNat→(s.qx[j]!).vI≤(s.qx[i]!).vI
theorem best_ge {s:qy} {t:qA} {z:Int} {c:Nat}:∀ {k j:Nat},j < k→EnOk s t (s.qx[j]!)→(s.qx[j]!).qE.toNat=c→(s.qx[j]!).vI≤bestOf s t z c k
  | k+1,j,h,h1,h2=>by
    rw [bestOf]
    by_cases e:j=k
    · subst e;rw [if_pos ⟨h1,h2⟩];omega
    · have:=best_ge (z:=z) (show j < k by omega) h1 h2
      split <;> omega
theorem best_le {s:qy} {t:qA} {z:Int} {c:Nat} {x:Int} (hz:z≤x):∀ {k:Nat},(∀ j,j < k→EnOk s t (s.qx[j]!)→(s.qx[j]!).qE.toNat=c→(s.qx[j]!).vI≤x)→bestOf s t z c k≤x
  | 0,_=>hz
  | k+1,h=>by
    rw [bestOf]
    have h1:=best_le hz (k:=k) fun j hj=>h j qf
    split
    · next h2=>have:=h k qf h2.1 h2.2;omega
    · exact h1
theorem appl_iff {s:qy} {t:qA} {z:Int} {i:Nat} (hi:i < s.qx.length) (hz:z≤(s.qx[i]!).vI):
    Appl s t i↔EnOk s t (s.qx[i]!)∧(s.qx[i]!).vI=bestOf s t z (s.qx[i]!).qE.toNat s.qx.length:=by
  constructor
  · rintro ⟨h1,h2⟩
    refine ⟨h1,?_⟩
    have h3:=best_ge (z:=z) hi h1 rfl
    have h4:=best_le (c:=(s.qx[i]!).qE.toNat) hz (k:=s.qx.length) h2
    omega
  · rintro ⟨h1,h2⟩
    exact ⟨h1,fun j hj h3 h4=>by rw [h2];exact best_ge hj h3 h4⟩
noncomputable def applB (s:qy) (t:qA) (k m:Nat):List Bool:=(List.range m).map fun j=>if j < k then dec (Appl s t j) else dec (EnOk s t (s.qx[j]!))
theorem applB_len (s:qy) (t:qA) (k m:Nat):(applB s t k m).length=m:=by simp [applB]
theorem applB_get {s:qy} {t:qA} {k m j:Nat} (h:j < m):(applB s t k m)[j]! =if j < k then dec (Appl s t j) else dec (EnOk s t (s.qx[j]!)):=by
  rw [getElem!_pos (applB s t k m) j (by rw [applB_len];exact h)];simp [applB]
theorem applB_snoc (s:qy) (t:qA) (m:Nat):applB s t 0 m++[dec (EnOk s t (s.qx[m]!))]=applB s t 0 (m+1):=by simp [applB,List.range_succ]
theorem applB_set {s:qy} {t:qA} {k m:Nat} {x:Bool} (hk:k < m) (hx:x=dec (Appl s t k)):(applB s t k m).set k x=applB s t (k+1) m:=by
  refine ext_get (by simp [applB_len]) fun p hp=>?_
  rw [List.length_set,applB_len] at hp
  rw [getset (by rw [applB_len];exact hk),applB_get hp,applB_get hp]
  by_cases e:p=k
  · subst e;rw [if_pos rfl,if_pos qf,hx]
  · rw [if_neg e]
    by_cases e1:p < k
    · rw [if_pos e1,if_pos qf]
    · rw [if_neg e1,if_neg qf]
theorem applB_step0 {s:qy} {t:qA} {k m:Nat} (hk:k < m) (h:(applB s t k m)[k]! =false):false=dec (Appl s t k):=by
  rw [applB_get hk,if_neg qf] at h
  exact (xk fun x=>zO h x.1).symm
theorem applB_step1 {s:qy} {t:qA} {k m n i:Nat} {z:Int} (hk:k < m) (h:(applB s t k m)[k]! =true) (hm:m=s.qx.length) (hc:(s.qx[k]!).qE.toNat < n) (hz:z≤(s.qx[k]!).vI) (hi:i=s.qx.length):
    ((s.qx[k]!).vI == (bests s t z n i)[(s.qx[k]!).qE.toNat]!)=dec (Appl s t k):=by
  rw [applB_get hk,if_neg qf] at h
  refine dec_eq ?_
  rw [beq_iff_eq,bests_get hc,hi,appl_iff qf hz]
  exact ⟨fun e=>⟨yB h,e⟩,fun e=>e.2⟩
noncomputable def appl (s:qy) (t:qA):List Bool:=applB s t s.qx.length s.qx.length
theorem appl_len (s:qy) (t:qA):(appl s t).length=s.qx.length:=applB_len _ _ _ _
theorem appl_get {s:qy} {t:qA} {j:Nat} (h:j < s.qx.length):(appl s t)[j]! =dec (Appl s t j):=by rw [appl,applB_get h,if_pos h]
theorem Xi {s:qy} {t:qA} {j:Nat} (h:j < s.qx.length) (h1:(appl s t)[j]! =true):Appl s t j:=yB (appl_get (s:=s) (t:=t) h▸h1)
theorem QE {s:qy} {t:qA} {j:Nat} (h:j < s.qx.length) (h1:(appl s t)[j]! =false):¬ Appl s t j:=zO (appl_get (s:=s) (t:=t) h▸h1)
def HaltTo (s:qy) (t:qA) (k:Nat):Prop:=∀ j,j < k→¬ Appl s t j
theorem HaltTo.succ {s:qy} {t:qA} {k:Nat} (h:HaltTo s t k) (h1:¬ Appl s t k):HaltTo s t (k+1):=fun j hj=>by
  by_cases e:j=k
  · subst e;exact h1
  · exact h j qf
noncomputable def applL (s:qy) (t:qA) (k:Nat):yLI:=((List.range k).filter fun j=>dec (Appl s t j)).map Int.ofNat
theorem applL_yes {s:qy} {t:qA} {k:Nat} (h:Appl s t k):applL s t k++[(k:Int)]=applL s t (k+1):=by simp [applL,List.range_succ,List.filter_append,yl h]
theorem applL_no {s:qy} {t:qA} {k:Nat} (h:¬ Appl s t k):applL s t k=applL s t (k+1):=by simp [applL,List.range_succ,List.filter_append,xk h]
noncomputable def appls (s:qy) (t:qA):yLI:=applL s t s.qx.length
theorem applL_le (s:qy) (t:qA) (k:Nat):(applL s t k).length≤k:=by
  have:=List.length_filter_le (fun j=>dec (Appl s t j)) (List.range k)
  simpa [applL] using this
theorem mem_applL {s:qy} {t:qA} {k:Nat} {x:Int}:x∈applL s t k↔0≤x∧x.toNat < k∧Appl s t x.toNat:=by
  simp only [applL,List.mem_map,List.mem_filter,List.mem_range]
  constructor
  · rintro ⟨j,⟨h1,h2⟩,rfl⟩
    exact ⟨Int.natCast_nonneg j,h1,yB h2⟩
  · rintro ⟨h0,h1,h2⟩
    exact ⟨x.toNat,⟨h1,yl h2⟩,by show ((x.toNat:Nat):Int)=x;omega⟩
theorem vw.rule {s:qy} (h:vw s) {i:Nat} (hi:i < s.qx.length):RuleOk s (s.qx[i]!):=(h.2.2 i hi).1
theorem RuleOk.cell {s:qy} {r:jy} (h:RuleOk s r):r.qE.toNat < xB s:=by have:=h.1.1;have:=h.1.2;unfold xB;omega
theorem zZ.len {s:qy} {l:yLI} (h:zZ s.xf l):l.length=xY s:=by have:=h.2;unfold xY;omega
theorem zZ.get {n:Int} {l:yLI} (h:zZ n l) {k:Nat} (hk:k < l.length):0≤l[k]! ∧l[k]! ≤1000:=h.1.1 k hk
theorem zZ.mul {s:qy} {m:yLI} (h:zZ s.xf m) {t:Int} (ht: -1000≤t∧t≤1000):∀ k,k < xY s→ -1000000≤t * m[k]! ∧t * m[k]! ≤1000000:=fun k hk=>by
  have h1:=h.1.1 k (by rw [h.len];exact hk)
  rcases Int.le_total 0 t with h0 | h0
  · have h2:=Int.mul_nonneg h0 h1.1
    have h3:=Int.mul_le_mul_of_nonneg_left h1.2 h0
    omega
  · have h2:=Int.mul_nonneg (show 0≤ -t by omega) h1.1
    have h3:=Int.mul_le_mul_of_nonneg_left h1.2 (show 0≤ -t by omega)
    have h4: -t * m[k]! = -(t * m[k]!):=Int.neg_mul ..
    omega
theorem zZ.jU {s:qy} {m:yLI} (h:zZ s.xf m) {t:Int} (ht: -1000≤t∧t≤1000):Ve m t:=bagOk_smallT h qf
theorem kinds_le {s:qy} (h:vw s):xY s≤8:=by have:=h.1.1.2;unfold xY;omega
theorem xJ.shape {s:qy} {t:qA} (h:xJ s t):Shape (xB s) (xY s) 1000 t.qG:=by
  refine ⟨h.2.1,fun p hp=>?_⟩
  have hb:=h.bagLen (k:=p) (by rw [h.2.1];exact hp)
  refine ⟨hb.len,fun k hk=>?_⟩
  have:=hb.get (k:=k) (by rw [hb.len];exact hk)
  omega
def Xx (s:qy) (counts:yLI):Prop:=counts.length=s.qx.length∧∀ i,i < counts.length→0≤counts[i]! ∧counts[i]! ≤1000
theorem Xx.bd {s:qy} {counts:yLI} (h:Xx s counts) {i:Nat} (hi:i < s.qx.length):0≤counts[i]! ∧counts[i]! ≤1000:=h.2 i (by rw [h.1];exact hi)

def Q7 (s:qy) (t:qA) (counts:yLI):Nat→yLL
  | 0=>t.qG
  | k+1=>(Q7 s t counts k).set (s.qx[k]!).qE.toNat (vZ ((Q7 s t counts k)[(s.qx[k]!).qE.toNat]!) (s.qx[k]!).xM (-(counts[k]!)))
def needF (s:qy) (counts:yLI) (i p k:Nat):Int:=at' p (s.qx[i]!).qE.toNat (-(counts[i]!) * ((s.qx[i]!).xM)[k]!)
def needS (s:qy) (counts:yLI):Nat→Nat→Nat→Int
  | 0,_,_=>0
  | i+1,p,k=>needS s counts i p k+needF s counts i p k
theorem restR_ent {s:qy} {t:qA} {counts:yLI} (hs:vw s) (ht:xJ s t) (hc:Xx s counts):∀ k,k≤s.qx.length→
    Ent (xB s) (xY s) (fun p q=>(t.qG[p]!)[q]! +needS s counts k p q) (1000+1000000 * k) (Q7 s t counts k)
  | 0,_=>⟨by simpa [Q7] using ht.shape,fun p k hp hk=>by simp [Q7,needS]⟩
  | k+1,h=>by
    have hr:=hs.rule (i:=k) qf
    have hcb:=hc.bd (i:=k) qf
    refine ((restR_ent hs ht hc k qf).add (D:=1000000) rfl hr.cell (hr.2.2.2.2.1.mul qf) qf).to (fun p q=>?_) qf
    show _=_+(needS s counts k p q+needF s counts k p q)
    unfold needF;omega
theorem restR_row {s:qy} {t:qA} {counts:yLI} (hs:vw s) (ht:xJ s t) (hc:Xx s counts) {k c:Nat} (hk:k≤s.qx.length) (h:c < xB s):
    ((Q7 s t counts k)[c]!).length=xY s∧Mid ((Q7 s t counts k)[c]!):=(restR_ent hs ht hc k hk).sh.row (by have:=hs.2.1;omega) (kinds_le hs) h
theorem restR_len {s:qy} {t:qA} {counts:yLI}:∀ k,(Q7 s t counts k).length=t.qG.length
  | 0=>rfl
  | k+1=>by rw [Q7,List.length_set];exact restR_len k
theorem restR_skip {s:qy} {t:qA} {counts:yLI} (hs:vw s) (ht:xJ s t) {k:Nat} (hk:k < s.qx.length) (h:counts[k]! =0):Q7 s t counts (k+1)=Q7 s t counts k:=by
  rw [Q7,plus_zero qf]
  exact set_self (by rw [restR_len,ht.2.1];exact (hs.rule hk).cell) rfl
def BadAt (s:qy) (t:qA) (counts:yLI) (i:Nat):Prop:=0 < counts[i]! ∧¬ Appl s t i
def GoodTo (s:qy) (t:qA) (counts:yLI) (k:Nat):Prop:=∀ i,i < k→¬ BadAt s t counts i
theorem GoodTo.succ {s:qy} {t:qA} {counts:yLI} {k:Nat} (h:GoodTo s t counts k) (h1:¬ BadAt s t counts k):GoodTo s t counts (k+1):=fun j hj=>by
  by_cases e:j=k
  · subst e;exact h1
  · exact h j qf
def NonNeg (b:yLL) (n:Nat):Prop:=∀ p,p < n→∀ k,k < (b[p]!).length→0≤(b[p]!)[k]!
theorem NonNeg.succ {b:yLL} {n:Nat} (h:NonNeg b n) (h1:∀ k,k < (b[n]!).length→0≤(b[n]!)[k]!):NonNeg b (n+1):=fun j hj=>by
  by_cases e:j=n
  · subst e;exact h1
  · exact h j qf
def IsCh (s:qy) (t:qA) (counts:yLI):Prop:=GoodTo s t counts counts.length∧NonNeg (Q7 s t counts counts.length) t.qG.length
def IsMost (s:qy) (t:qA) (counts:yLI):Prop:=IsCh s t counts∧∀ i,i < s.qx.length→Appl s t i→within (s.qx[i]!).xM ((Q7 s t counts counts.length)[(s.qx[i]!).qE.toNat]!)=false

def yA (l m:yLI):Nat→Int
  | 0=>1000
  | k+1=>if 0 < l[k]! then min (yA l m k) (m[k]! / l[k]!) else yA l m k
def vY (l m:yLI):Int:=yA l m l.length
theorem timesTo_pos {l m:yLI} {k:Nat} (h:0 < l[k]!):yA l m (k+1)=min (yA l m k) (m[k]! / l[k]!):=by rw [yA,if_pos h]
theorem timesTo_skip {l m:yLI} {k:Nat} (h:¬ 0 < l[k]!):yA l m (k+1)=yA l m k:=by rw [yA,if_neg h]
theorem Xz {l m:yLI} (hm:∀ k,k < l.length→0≤m[k]!):∀ k,k≤l.length→0≤yA l m k∧yA l m k≤1000
  | 0,_=>by simp [yA]
  | k+1,h=>by
    have:=Xz hm k qf
    rw [yA]
    split
    · next h1=>have:=Int.ediv_nonneg (hm k qf) (show 0≤l[k]! by omega);omega
    · exact this
theorem timesTo_le {l m:yLI}:∀ {k j:Nat},j < k→0 < l[j]! →yA l m k≤m[j]! / l[j]!
  | k+1,j,h,h1=>by
    rw [yA]
    by_cases e:j=k
    · subst e;rw [if_pos h1];omega
    · have:=timesTo_le (m:=m) (show j < k by omega) h1
      split <;> omega
theorem timesL_left {l m:yLI} (hl:∀ k,k < l.length→0≤l[k]!) (hm:∀ k,k < l.length→0≤m[k]!) {k:Nat} (hk:k < l.length):0≤m[k]! + -(vY l m) * l[k]! :=by
  have h0:=Xz hm l.length (Nat.le_refl _)
  rcases Int.lt_or_eq_of_le (hl k hk) with h | h
  · have h1:=timesTo_le (m:=m) hk h
    have h2:m[k]! / l[k]! * l[k]! ≤m[k]! :=Int.ediv_mul_le _ qf
    have h3:=Int.mul_le_mul_of_nonneg_right h1 (show 0≤l[k]! by omega)
    have h4: -(vY l m) * l[k]! = -(vY l m * l[k]!):=Int.neg_mul ..
    unfold vY at *
    omega
  · rw [← h];have:=hm k hk;omega
def QX (l m:yLI) (i:Nat) (best:Int):Prop:=(best=yA l m i∧∃ j,j < i∧0 < l[j]!)∨(best= -1∧yA l m i=1000∧∀ j,j < i→l[j]! ≤0)
theorem QX.zero (l m:yLI):QX l m 0 (-1):=.inr ⟨rfl,rfl,fun j hj=>by omega⟩
theorem QX.take {l m:yLI} {i:Nat} {best:Int} (h:QX l m i best) (hm:0≤m[i]! ∧m[i]! ≤1000) (hl:0 < l[i]!) (hb:best < 0∨m[i]! / l[i]! < best) (hn:0≤yA l m i):QX l m (i+1) (m[i]! / l[i]!):=by
  refine .inl ⟨?_,i,by omega,hl⟩
  rw [timesTo_pos hl]
  have h1:m[i]! / l[i]! ≤m[i]! :=Int.ediv_le_self _ hm.1
  rcases h with ⟨h,_⟩ | ⟨h,h2,_⟩ <;> omega
theorem QX.keep {l m:yLI} {i:Nat} {best:Int} (h:QX l m i best) (hl:¬ 0 < l[i]!):QX l m (i+1) best:=by
  unfold QX
  rw [timesTo_skip hl]
  rcases h with ⟨h,j,h1,h2⟩ | ⟨h,h2,h3⟩
  · exact .inl ⟨h,j,by omega,h2⟩
  · refine .inr ⟨h,h2,fun j hj=>?_⟩
    by_cases e:j=i
    · subst e;omega
    · exact h3 j qf
theorem QX.keep2 {l m:yLI} {i:Nat} {best:Int} (h:QX l m i best) (hl:0 < l[i]!) (hb:¬ best < 0) (hn:¬ m[i]! / l[i]! < best):QX l m (i+1) best:=by
  refine .inl ⟨?_,i,by omega,hl⟩
  rw [timesTo_pos hl]
  rcases h with ⟨h,_⟩ | ⟨h,_⟩ <;> omega
theorem QX.done {l m:yLI} {i:Nat} {best:Int} (h:QX l m i best) (hp:∃ j,j < i∧0 < l[j]!):best=yA l m i:=by
  rcases h with ⟨h,_⟩ | ⟨_,_,h3⟩
  · exact h
  · obtain ⟨j,h1,h2⟩:=hp
    have:=h3 j h1;omega
theorem sum_pos {l:yLI} (h:Ql l) (h1:QJ l≠0):∃ j,j < l.length∧0 < l[j]! :=by
  apply Classical.byContradiction
  intro hn
  have h0:∀ k,k≤l.length→sumTo l k=0:=by
    intro k
    induction k with
    | zero=>intro _;rfl
    | succ k ih=>
      intro hk
      have h2:=h.1 k qf
      have h3:¬ 0 < l[k]! :=fun h4=>hn ⟨k,by omega,h4⟩
      rw [sumTo,ih qf];omega
  exact h1 (h0 _ (Nat.le_refl _))
open Classical in
noncomputable def Xo (s:qy) (t:qA):Nat→yLL
  | 0=>t.qG
  | k+1=>if Appl s t k then (Xo s t k).set (s.qx[k]!).qE.toNat (vZ ((Xo s t k)[(s.qx[k]!).qE.toNat]!) (s.qx[k]!).xM (-(vY (s.qx[k]!).xM ((Xo s t k)[(s.qx[k]!).qE.toNat]!)))) else Xo s t k
open Classical in
noncomputable def firstC (s:qy) (t:qA) (k:Nat):Int:=if Appl s t k then vY (s.qx[k]!).xM ((Xo s t k)[(s.qx[k]!).qE.toNat]!) else 0
noncomputable def firstTo (s:qy) (t:qA) (m n:Nat):yLI:=(List.range n).map fun j=>if j < m then firstC s t j else 0
noncomputable def yg (s:qy) (t:qA):yLI:=firstTo s t s.qx.length s.qx.length
theorem firstR_yes {s:qy} {t:qA} {k:Nat} (h:Appl s t k):Xo s t (k+1)=(Xo s t k).set (s.qx[k]!).qE.toNat (vZ ((Xo s t k)[(s.qx[k]!).qE.toNat]!) (s.qx[k]!).xM (-(vY (s.qx[k]!).xM ((Xo s t k)[(s.qx[k]!).qE.toNat]!)))):=by rw [Xo,if_pos h]
theorem firstR_no {s:qy} {t:qA} {k:Nat} (h:¬ Appl s t k):Xo s t (k+1)=Xo s t k:=by rw [Xo,if_neg h]
theorem firstC_yes {s:qy} {t:qA} {k:Nat} (h:Appl s t k):firstC s t k=vY (s.qx[k]!).xM ((Xo s t k)[(s.qx[k]!).qE.toNat]!):=by rw [firstC,if_pos h]
theorem firstC_no {s:qy} {t:qA} {k:Nat} (h:¬ Appl s t k):firstC s t k=0:=by rw [firstC,if_neg h]
theorem firstTo_len (s:qy) (t:qA) (m n:Nat):(firstTo s t m n).length=n:=by simp [firstTo]
theorem firstTo_get {s:qy} {t:qA} {m n j:Nat} (h:j < n):(firstTo s t m n)[j]! =if j < m then firstC s t j else 0:=by
  rw [getElem!_pos (firstTo s t m n) j (by rw [firstTo_len];exact h)];simp [firstTo]
def Box (n K:Nat) (b:yLL):Prop:=b.length=n∧∀ p,p < n→(b[p]!).length=K∧∀ k,k < K→0≤(b[p]!)[k]! ∧(b[p]!)[k]! ≤1000
theorem xJ.box {s:qy} {t:qA} (h:xJ s t):Box (xB s) (xY s) t.qG:=by
  refine ⟨h.2.1,fun p hp=>?_⟩
  have hb:=h.bagLen (k:=p) (by rw [h.2.1];exact hp)
  exact ⟨hb.len,fun k hk=>hb.get (by rw [hb.len];exact hk)⟩
theorem firstR_box {s:qy} {t:qA} (hs:vw s) (ht:xJ s t):∀ k,k≤s.qx.length→Box (xB s) (xY s) (Xo s t k)
  | 0,_=>ht.box
  | k+1,h=>by
    have ih:=firstR_box hs ht k qf
    by_cases ha:Appl s t k
    · rw [firstR_yes ha]
      have hr:=hs.rule (i:=k) qf
      have hb:=hr.2.2.2.2.1
      have hc:=ih.2 _ hr.cell
      refine ⟨by rw [List.length_set];exact ih.1,fun p hp=>?_⟩
      rw [getset (by rw [ih.1];exact hr.cell)]
      by_cases e:p=(s.qx[k]!).qE.toNat
      · rw [if_pos e,y7]
        refine ⟨hc.1,fun q hq=>?_⟩
        rw [plus_get (by rw [hc.1];exact hq)]
        have h1:=timesL_left (l:=(s.qx[k]!).xM) (m:=(Xo s t k)[(s.qx[k]!).qE.toNat]!) (fun j hj=>(hb.get hj).1) (fun j hj=>(hc.2 j (by rw [← hb.len];exact hj)).1) (k:=q) (by rw [hb.len];exact hq)
        refine ⟨h1,?_⟩
        have h2:=Xz (l:=(s.qx[k]!).xM) (m:=(Xo s t k)[(s.qx[k]!).qE.toNat]!) (fun j hj=>(hc.2 j (by rw [← hb.len];exact hj)).1) _ (Nat.le_refl _)
        have h3:=Int.mul_nonneg h2.1 (hb.get (k:=q) (by rw [hb.len];exact hq)).1
        have h4:=(hc.2 q hq).2
        have h5: -(vY (s.qx[k]!).xM ((Xo s t k)[(s.qx[k]!).qE.toNat]!)) * ((s.qx[k]!).xM)[q]! = -(vY (s.qx[k]!).xM ((Xo s t k)[(s.qx[k]!).qE.toNat]!) * ((s.qx[k]!).xM)[q]!):=Int.neg_mul ..
        unfold vY at *
        omega
      · rw [if_neg e];exact ih.2 p hp
    · rw [firstR_no ha];exact ih
theorem firstR_row {s:qy} {t:qA} (hs:vw s) (ht:xJ s t) {k c:Nat} (hk:k≤s.qx.length) (h:c < xB s):
    ((Xo s t k)[c]!).length=xY s∧Mid ((Xo s t k)[c]!)∧∀ q,q < xY s→0≤((Xo s t k)[c]!)[q]! ∧((Xo s t k)[c]!)[q]! ≤1000:=by
  have h1:=(firstR_box hs ht k hk).2 c h
  have:=kinds_le hs
  exact ⟨h1.1,⟨by have:=h1.1;omega,fun q hq=>by have:=h1.2 q (by have:=h1.1;omega);omega⟩,h1.2⟩
theorem firstC_bd {s:qy} {t:qA} (hs:vw s) (ht:xJ s t) {k:Nat} (hk:k < s.qx.length):0≤firstC s t k∧firstC s t k≤1000:=by
  by_cases ha:Appl s t k
  · rw [firstC_yes ha]
    have hr:=hs.rule hk
    have hc:=firstR_row hs ht (Nat.le_of_lt hk) hr.cell
    exact Xz (fun j hj=>(hc.2.2 j (by rw [← hr.2.2.2.2.1.len];exact hj)).1) _ (Nat.le_refl _)
  · rw [firstC_no ha];omega
theorem first_cnt {s:qy} {t:qA} (hs:vw s) (ht:xJ s t):Xx s (yg s t):=by
  refine ⟨firstTo_len _ _ _ _,fun i hi=>?_⟩
  rw [yg,firstTo_len] at hi
  rw [yg,firstTo_get hi,if_pos hi]
  exact firstC_bd hs ht hi
theorem first_rest {s:qy} {t:qA} (hs:vw s) (ht:xJ s t):∀ k,k≤s.qx.length→Q7 s t (yg s t) k=Xo s t k
  | 0,_=>rfl
  | k+1,h=>by
    have ih:=first_rest hs ht k qf
    have hg:(yg s t)[k]! =firstC s t k:=by rw [yg,firstTo_get qf,if_pos qf]
    by_cases ha:Appl s t k
    · rw [firstR_yes ha,Q7,ih,hg,firstC_yes ha]
    · rw [firstR_no ha,restR_skip hs ht qf (by rw [hg,firstC_no ha]),ih]
theorem first_isCh {s:qy} {t:qA} (hs:vw s) (ht:xJ s t):IsCh s t (yg s t):=by
  have hl:(yg s t).length=s.qx.length:=firstTo_len _ _ _ _
  constructor
  · intro i hi
    rw [hl] at hi
    rintro ⟨h1,h2⟩
    rw [yg,firstTo_get hi,if_pos hi,firstC_no h2] at h1
    omega
  · rw [hl,first_rest hs ht _ (Nat.le_refl _)]
    have hb:=firstR_box hs ht _ (Nat.le_refl _)
    intro p hp k hk
    rw [ht.2.1] at hp
    have:=hb.2 p hp
    exact (this.2 k (by rw [← this.1];exact hk)).1
theorem parentNow_root {s:qy} {t:qA} (hs:jO s):xh s t 0= -1:=by
  unfold xh
  rw [show s.qw[(0:Int).toNat]! = -1 from hs.2.2.1]
  exact climb_end fun h=>by omega
def outPl (s:qy) (t:qA) (r:jy):Nat:=if r.qE=0 then xB s else (xh s t r.qE).toNat
theorem outPl_root {s:qy} {t:qA} {r:jy} (h:r.qE=0):outPl s t r=xB s:=by rw [outPl,if_pos h]
theorem outPl_up {s:qy} {t:qA} {r:jy} (h:r.qE≠0):outPl s t r=(xh s t r.qE).toNat:=by rw [outPl,if_neg h]
def Vf (r:jy) (c:Int):Nat→Nat→Nat→Int
  | 0,_,_=>0
  | j+1,p,k=>Vf r c j p k+at' p (r.qO[j]!).qE.toNat (c * ((r.qO[j]!).Qm)[k]!)
def putF (s:qy) (t:qA) (r:jy) (c:Int) (p k:Nat):Int:=at' p r.qE.toNat (c * r.zC[k]!)+at' p (outPl s t r) (c * r.jI[k]!)+Vf r c r.qO.length p k
def putS (s:qy) (t:qA) (counts:yLI):Nat→Nat→Nat→Int
  | 0,_,_=>0
  | i+1,p,k=>putS s t counts i p k+putF s t (s.qx[i]!) (counts[i]!) p k
def allS (s:qy) (t:qA) (counts:yLI):Nat→Nat→Nat→Int
  | 0,_,_=>0
  | i+1,p,k=>allS s t counts i p k+needF s counts i p k+putF s t (s.qx[i]!) (counts[i]!) p k
theorem allS_eq (s:qy) (t:qA) (counts:yLI) (p k:Nat):∀ i,allS s t counts i p k=needS s counts i p k+putS s t counts i p k
  | 0=>rfl
  | i+1=>by
    have:=allS_eq s t counts p k i
    simp only [allS,needS,putS]
    omega
theorem at_zero (p c:Nat) (x:Int):at' p c (0 * x)=0:=by unfold at';split <;> simp
theorem intoF_zero (r:jy) (p k:Nat):∀ j,Vf r 0 j p k=0
  | 0=>rfl
  | j+1=>by rw [Vf,intoF_zero r p k j,at_zero];rfl
theorem putF_zero (s:qy) (t:qA) (r:jy) {c:Int} (h:c=0) (p k:Nat):putF s t r c p k=0:=by
  subst h;rw [putF,at_zero,at_zero,intoF_zero];rfl
def base0 (s:qy) (t:qA) (p k:Nat):Int:=if p < xB s then (t.qG[p]!)[k]! else t.qH[k]!
def stepF (s:qy) (t:qA) (counts:yLI) (p k:Nat):Int:=base0 s t p k+allS s t counts s.qx.length p k
noncomputable def xE (s:qy) (t:qA) (counts:yLI):qA:=
  ⟨t.qF,(tab2 (xB s+1) (xY s) (stepF s t counts)).take (xB s),(tab2 (xB s+1) (xY s) (stepF s t counts))[xB s]!⟩
theorem xJ.around {s:qy} {t:qA} (h:xJ s t):t.qH.length=xY s∧∀ k,k < xY s→0≤t.qH[k]! ∧t.qH[k]! ≤1000:=by
  have hb:=h.2.2.2.1
  exact ⟨hb.len,fun k hk=>hb.get (by rw [hb.len];exact hk)⟩
theorem start_ent {s:qy} {t:qA} {counts:yLI} (ht:xJ s t):Ent (xB s+1) (xY s) (fun p k=>base0 s t p k+allS s t counts 0 p k) 1000 (t.qG++[t.qH]):=by
  have h1:Ent (xB s) (xY s) (fun p k=>base0 s t p k+allS s t counts 0 p k) 1000 t.qG:=⟨ht.shape,fun p k hp hk=>by simp [base0,hp,allS]⟩
  refine h1.snoc ht.around.1 (fun k hk=>by have:=ht.around.2 k hk;omega) fun k hk=>?_
  simp [base0,allS]
theorem step_tab {s:qy} {t:qA} {counts:yLI} {B:Int} {b:yLL} (h:Ent (xB s+1) (xY s) (fun p k=>base0 s t p k+allS s t counts s.qx.length p k) B b):
    b.take (xB s)=(xE s t counts).qG∧b[xB s]! =(xE s t counts).qH:=by
  have e:=h.tab
  constructor
  · show _=(tab2 _ _ _).take _
    rw [e];rfl
  · show _=(tab2 _ _ _)[_]!
    rw [e];rfl
def yz (s:qy) (counts:yLI) (c:Int) (k:Nat):Prop:=∃ i,i < k∧0 < counts[i]! ∧(s.qx[i]!).zV=true∧(s.qx[i]!).qE=c
theorem melts_zero (s:qy) (counts:yLI) (c:Int):¬ yz s counts c 0:=fun ⟨i,h,_⟩=>by omega
theorem melts_succ {s:qy} {counts:yLI} {c:Int} {k:Nat}:yz s counts c (k+1)↔yz s counts c k∨(0 < counts[k]! ∧(s.qx[k]!).zV=true∧(s.qx[k]!).qE=c):=by
  constructor
  · rintro ⟨i,h,h1⟩
    by_cases e:i=k
    · subst e;exact .inr h1
    · exact .inl ⟨i,by omega,h1⟩
  · rintro (⟨i,h,h1⟩ | h)
    · exact ⟨i,by omega,h1⟩
    · exact ⟨k,by omega,h⟩
abbrev Melts (s:qy) (counts:yLI) (c:Int):Prop:=yz s counts c s.qx.length
noncomputable def yu (s:qy) (counts:yLI) (n k:Nat):List Bool:=(List.range n).map fun c:Nat=>dec (yz s counts (c:Int) k)
theorem meltsL_len (s:qy) (counts:yLI) (n k:Nat):(yu s counts n k).length=n:=by simp [yu]
theorem meltsL_get {s:qy} {counts:yLI} {n k c:Nat} (h:c < n):(yu s counts n k)[c]! =dec (yz s counts (c:Int) k):=by
  rw [getElem!_pos (yu s counts n k) c (by rw [meltsL_len];exact h)];simp [yu]
theorem meltsL_zero (s:qy) (counts:yLI) (n:Nat):List.replicate n false=yu s counts n 0:=by
  refine ext_get (by simp [meltsL_len]) fun k hk=>?_
  rw [List.length_replicate] at hk
  rw [meltsL_get hk,xk (melts_zero _ _ _),getElem!_pos (List.replicate n false) k (by simpa using hk)];simp
theorem meltsL_set {s:qy} {counts:yLI} {n k:Nat} (h0:0≤(s.qx[k]!).qE) (h:(s.qx[k]!).qE.toNat < n) {x:Bool} (hx:x=true↔((yu s counts n k)[(s.qx[k]!).qE.toNat]! =true∨(0 < counts[k]! ∧(s.qx[k]!).zV=true))):
    (yu s counts n k).set (s.qx[k]!).qE.toNat x=yu s counts n (k+1):=by
  refine ext_get (by simp [meltsL_len]) fun p hp=>?_
  rw [List.length_set,meltsL_len] at hp
  rw [getset (by rw [meltsL_len];exact h),meltsL_get hp,meltsL_get hp]
  rw [meltsL_get h] at hx
  by_cases e:p=(s.qx[k]!).qE.toNat
  · rw [if_pos e]
    refine dec_eq (hx.trans ?_)
    rw [melts_succ,e,show (((s.qx[k]!).qE.toNat:Nat):Int)=(s.qx[k]!).qE by omega]
    constructor
    · rintro (h1 | h1)
      · exact .inl (yB h1)
      · exact .inr ⟨h1.1,h1.2,rfl⟩
    · rintro (h1 | h1)
      · exact .inl (yl h1)
      · exact .inr ⟨h1.1,h1.2.1⟩
  · rw [if_neg e]
    refine dec_congr ?_
    rw [melts_succ]
    constructor
    · exact .inl
    · rintro (h1 | ⟨_,_,h1⟩)
      · exact h1
      · exfalso;omega
open Classical in
noncomputable def xG (s:qy) (counts:yLI) (u:qA):Nat→qA
  | 0=>u
  | j+1=>if Melts s counts ((xB s:Int) - 1 - j) then melted s (xG s counts u j) ((xB s:Int) - 1 - j) else xG s counts u j
theorem meltDown_yes {s:qy} {counts:yLI} {u:qA} {j:Nat} {c:Int} (h:Melts s counts c) (hc:c=(xB s:Int) - 1 - j):xG s counts u (j+1)=melted s (xG s counts u j) c:=by subst hc;rw [xG,if_pos h]
theorem X3 {s:qy} {counts:yLI} {u:qA} {j:Nat} {c:Int} (h:¬ Melts s counts c) (hc:c=(xB s:Int) - 1 - j):xG s counts u (j+1)=xG s counts u j:=by subst hc;rw [xG,if_neg h]
theorem meltDown_yes' {s:qy} {counts:yLI} {u:qA} {j i:Nat} {c:Int} (h:dec (yz s counts c i)=true) (hi:i=s.qx.length) (hc:c=(xB s:Int) - 1 - j):xG s counts u (j+1)=melted s (xG s counts u j) c:=by subst hi;exact meltDown_yes (yB h) hc
theorem meltDown_no' {s:qy} {counts:yLI} {u:qA} {j i:Nat} {c:Int} (h:dec (yz s counts c i)=false) (hi:i=s.qx.length) (hc:c=(xB s:Int) - 1 - j):xG s counts u (j+1)=xG s counts u j:=by subst hi;exact X3 (zO h) hc
theorem Qr (s:qy) (counts:yLI) (u:qA):∀ j,(xG s counts u j).qH=u.qH
  | 0=>rfl
  | j+1=>by
    rw [xG]
    split
    · exact Qr s counts u j
    · exact Qr s counts u j
structure Live (s:qy) (B:Int) (u:qA):Prop where
  alive:u.qF.length=xB s
  root:u.qF[0]! =true
  bags:Shape (xB s) (xY s) B u.qG
  around:u.qH.length=xY s
theorem Live.melt {s:qy} {B:Int} {u:qA} (hs:vw s) (h:Live s B u) (hB:0≤B) {c:Int} (h0:0 < c) (h1:c≤(xB s:Int) - 1):Live s (2 * B) (melted s u c):=by
  have hp:=X9 (t:=u) hs.1 h.root h0 h1
  have hpc:(xh s u c).toNat < xB s:=by omega
  have hcc:c.toNat < xB s:=by omega
  refine ⟨by simp [melted,h.alive],?_,?_,h.around⟩
  · show (u.qF.set c.toNat false)[0]! =true
    rw [getset (by rw [h.alive];exact hcc),if_neg qf];exact h.root
  · have hr:=(h.bags.2 _ hcc).2
    have hk:=(h.bags.2 _ hcc).1
    have h2:=h.bags.plus (m:=u.qG[c.toNat]!) (t:=1) (D:=B) hpc (fun k hk=>by have:=hr k hk;omega) hB
    refine (h2.set (D:=B+B) hcc (by simp [xY]) (fun k hk=>?_) qf).mono qf
    rw [getElem!_pos (List.replicate s.xf.toNat (0:Int)) k (by simpa [xY] using hk)]
    simp;omega
def bnd:Nat→Int
  | 0=>200000000
  | j+1=>2 * bnd j
theorem bnd_pos:∀ j,0≤bnd j
  | 0=>by simp [bnd]
  | j+1=>by have:=bnd_pos j;simp only [bnd];omega
theorem bnd_mono:∀ {i j:Nat},i≤j→bnd i≤bnd j
  | i, 0, h => by obtain rfl : i = 0 := by omega
                  exact Int.le_refl _
  | i,j+1,h=>by
    by_cases e:i=j+1
    · subst e;exact Int.le_refl _
    · have:=bnd_mono (show i≤j by omega)
      have:=bnd_pos j
      simp only [bnd];omega
theorem bnd_le {j:Nat} (h:j≤6):bnd j≤12800000000:=Int.le_trans (bnd_mono h) (by simp [bnd])
theorem Live.mono {s:qy} {B D:Int} {u:qA} (h:Live s B u) (hD:B≤D):Live s D u:=⟨h.alive,h.root,h.bags.mono hD,h.around⟩
theorem stepped_live {s:qy} {t:qA} {counts:yLI} {B:Int} {b:yLL} (ht:xJ s t) (h:Ent (xB s+1) (xY s) (fun p k=>base0 s t p k+allS s t counts s.qx.length p k) B b) (hB:B≤200000000):Live s (bnd 0) (xE s t counts):=by
  have h1:=step_tab h
  have hr:=h.sh.2 (xB s) qf
  refine ⟨ht.1,ht.2.2.1,?_,by rw [← h1.2];exact hr.1⟩
  rw [← h1.1]
  refine ⟨by rw [List.length_take,h.sh.1];omega,fun p hp=>?_⟩
  have e:(b.take (xB s))[p]! =b[p]! :=by
    rw [getElem!_pos (b.take (xB s)) p (by rw [List.length_take,h.sh.1];omega),getElem!_pos b p (by rw [h.sh.1];omega)];simp
  rw [e]
  have:=h.sh.2 p qf
  exact ⟨this.1,fun k hk=>by have:=this.2 k hk;simp only [bnd];omega⟩
theorem meltDown_live {s:qy} {counts:yLI} {u:qA} (hs:vw s) (h:Live s (bnd 0) u):∀ j,j+1≤xB s→Live s (bnd j) (xG s counts u j)
  | 0,_=>h
  | j+1,hj=>by
    have ih:=meltDown_live (counts:=counts) hs h j qf
    by_cases hm:Melts s counts ((xB s:Int) - 1 - j)
    · rw [meltDown_yes hm rfl];exact ih.melt hs (bnd_pos j) qf qf
    · rw [X3 hm rfl];exact ih.mono (bnd_mono qf)
theorem Live.rows {s:qy} {B:Int} {u:qA} (hs:vw s) (h:Live s B u) (hB:B≤12800000000) {p c:Nat} (hp:p < xB s) (hc:c < xB s):
    (u.qG[p]!).length≤(u.qG[c]!).length∧Mid (u.qG[p]!)∧Ve (u.qG[c]!) 1:=by
  have h1:=h.bags.row qf (kinds_le hs) hp
  have h2:=h.bags.row qf (kinds_le hs) hc
  refine ⟨by omega,h1.2,fun k hk=>?_⟩
  have:=h2.2.2 k hk
  omega
noncomputable def stepRes (s:qy) (t:qA) (counts:yLI):qA×Int:=told s (xG s counts (xE s t counts) (xB s - 1))
open Classical in
noncomputable def yP (s:qy) (t:qA) (counts:yLI):qA×Int:=if IsCh s t counts then stepRes s t counts else (default,4)
theorem X8 {s:qy} {t:qA} {counts:yLI} (h:IsCh s t counts):yP s t counts=stepRes s t counts:=by rw [yP,if_pos h]
theorem stepBy_no {s:qy} {t:qA} {counts:yLI} (h:¬ IsCh s t counts):yP s t counts=(default,4):=by rw [yP,if_neg h]
def minus (k:Nat):yLI:=(List.range 6).map fun j=>if j < k then -1 else 0
theorem minus_len (k:Nat):(minus k).length=6:=by simp [minus]
theorem minus_get {k j:Nat} (h:j < 6):(minus k)[j]! =if j < k then -1 else 0:=by
  rw [getElem!_pos (minus k) j (by rw [minus_len];exact h)];simp [minus]
theorem minus_set {k:Nat} (h:k < 6):(minus k).set k (-1)=minus (k+1):=by
  refine ext_get (by simp [minus_len]) fun p hp=>?_
  rw [List.length_set,minus_len] at hp
  rw [getset (by rw [minus_len];exact h),minus_get hp,minus_get hp]
  by_cases e:p=k
  · rw [if_pos e,if_pos qf]
  · rw [if_neg e]
    by_cases h1:p < k
    · rw [if_pos h1,if_pos qf]
    · rw [if_neg h1,if_neg qf]
theorem minus_six {k:Nat} (h:k=6) (s:qy) (t:qA):minus k=bests s t (-1) 6 0:=by
  subst h
  rw [← bests_zero];rfl
theorem appl_yes {s:qy} {t:qA} {i k n:Nat} {z:Int} (hk:k=s.qx.length) (hi:i < s.qx.length) (hz:z≤(s.qx[i]!).vI) (hc:(s.qx[i]!).qE.toNat < n) (h1:(s.qx[i]!).vI=(bests s t z n k)[(s.qx[i]!).qE.toNat]!) (h2:EnOk s t (s.qx[i]!)):Appl s t i:=by
  rw [bests_get hc,hk] at h1
  exact (appl_iff hi hz).2 ⟨h2,h1⟩
theorem appl_no {s:qy} {t:qA} {i k n:Nat} {z:Int} (hk:k=s.qx.length) (hi:i < s.qx.length) (hz:z≤(s.qx[i]!).vI) (hc:(s.qx[i]!).qE.toNat < n) (h1:(s.qx[i]!).vI≠(bests s t z n k)[(s.qx[i]!).qE.toNat]!):¬ Appl s t i:=fun h=>by
  rw [bests_get hc,hk] at h1
  exact h1 ((appl_iff hi hz).1 h).2
theorem outPl_in {s:qy} {t:qA} {r:jy} (hs:jO s) (h:0≤xh s t r.qE):outPl s t r=(xh s t r.qE).toNat:=by
  refine outPl_up fun e=>?_
  rw [e,parentNow_root hs] at h;omega
theorem outPl_out {s:qy} {t:qA} {r:jy} (hs:jO s) (h0:t.qF[0]! =true) (hc:CellIn s r.qE) (h:¬ 0≤xh s t r.qE):outPl s t r=s.qw.length:=by
  refine outPl_root ?_
  rcases Int.lt_or_eq_of_le hc.1 with h1 | h1
  · exact absurd (X9 hs h0 h1 hc.2).1 h
  · exact h1.symm
theorem parentNow_lt {s:qy} {t:qA} (hs:jO s) (h0:t.qF[0]! =true) {c:Int} (hc:CellIn s c):xh s t c≤(s.qw.length:Int) - 1:=by
  rcases Int.lt_or_eq_of_le hc.1 with h1 | h1
  · have:=X9 hs h0 h1 hc.2;have:=hc.2;omega
  · rw [← h1,parentNow_root hs];have:=hs.2.1;omega
theorem stepBy_ok {s:qy} {t:qA} {counts:yLI} (h:(yP s t counts).2=0):xJ s (yP s t counts).1:=by
  by_cases hc:IsCh s t counts
  · rw [X8 hc] at h ⊢
    unfold stepRes at h ⊢
    by_cases ho:xJ s (xG s counts (xE s t counts) (xB s - 1))
    · rw [told_yes ho];exact ho
    · rw [told_no ho] at h;cases h
  · rw [stepBy_no hc] at h;cases h
theorem meltsL_1 {s:qy} {counts:yLI} {n k:Nat} (h0:0≤(s.qx[k]!).qE) (h:(s.qx[k]!).qE.toNat < n) (h1:(yu s counts n k)[(s.qx[k]!).qE.toNat]! =true):(yu s counts n k).set (s.qx[k]!).qE.toNat true=yu s counts n (k+1):=
  meltsL_set h0 h ⟨fun _=>.inl h1,fun _=>rfl⟩
theorem meltsL_2 {s:qy} {counts:yLI} {n k:Nat} (h0:0≤(s.qx[k]!).qE) (h:(s.qx[k]!).qE.toNat < n) (h1:(yu s counts n k)[(s.qx[k]!).qE.toNat]! =false) (h2:¬ counts[k]! > 0):(yu s counts n k).set (s.qx[k]!).qE.toNat false=yu s counts n (k+1):=
  meltsL_set h0 h ⟨fun h=>(by cases h),fun h=>h.elim (fun h=>(ft h h1).elim) fun h=>(h2 h.1).elim⟩
theorem meltsL_3 {s:qy} {counts:yLI} {n k:Nat} (h0:0≤(s.qx[k]!).qE) (h:(s.qx[k]!).qE.toNat < n) (h1:(yu s counts n k)[(s.qx[k]!).qE.toNat]! =false) (h2:counts[k]! > 0):(yu s counts n k).set (s.qx[k]!).qE.toNat (s.qx[k]!).zV=yu s counts n (k+1):=
  meltsL_set h0 h ⟨fun h=>.inr ⟨h2,h⟩,fun h=>h.elim (fun h=>(ft h h1).elim) fun h=>h.2⟩
theorem meltDown_yesL {s:qy} {counts:yLI} {u:qA} {j i n:Nat} {c:Int} (h:(yu s counts n i)[c.toNat]! =true) (hn:c.toNat < n) (h0:0≤c) (hi:i=s.qx.length) (hc:c=(xB s:Int) - 1 - j):xG s counts u (j+1)=melted s (xG s counts u j) c:=by
  rw [meltsL_get hn,show ((c.toNat:Nat):Int)=c by omega] at h
  exact meltDown_yes' h hi hc
theorem meltDown_noL {s:qy} {counts:yLI} {u:qA} {j i n:Nat} {c:Int} (h:(yu s counts n i)[c.toNat]! =false) (hn:c.toNat < n) (h0:0≤c) (hi:i=s.qx.length) (hc:c=(xB s:Int) - 1 - j):xG s counts u (j+1)=xG s counts u j:=by
  rw [meltsL_get hn,show ((c.toNat:Nat):Int)=c by omega] at h
  exact meltDown_no' h hi hc
theorem copy_pre {n K:Nat} {f:Nat→Nat→Int} {B:Int} {b:yLL} {al:List Bool} (h:Ent (n+1) K f B b) (hK:K≤8) (hn:n≤6) (ha:al.length=n):
    (⟨al,b.take n,b[n]!⟩:qA).qF.length≤1000000∧(⟨al,b.take n,b[n]!⟩:qA).qH.length≤1000000∧(⟨al,b.take n,b[n]!⟩:qA).qG.length≤1000000∧
      ∀ j,j < (⟨al,b.take n,b[n]!⟩:qA).qG.length→((⟨al,b.take n,b[n]!⟩:qA).qG[j]!).length≤1000000:=by
  have hl:(b.take n).length=n:=by rw [List.length_take,h.sh.1];omega
  have hr:=h.sh.2 n qf
  refine ⟨?_,?_,?_,fun j hj=>?_⟩
  · show al.length≤1000000;omega
  · show (b[n]!).length≤1000000;omega
  · show (b.take n).length≤1000000;omega
  · have hj:j < (b.take n).length:=hj
    show ((b.take n)[j]!).length≤1000000
    rw [getElem!_pos (b.take n) j hj,List.getElem_take,← getElem!_pos b j (by rw [h.sh.1];omega)]
    have:=(h.sh.2 j qf).1;omega
theorem anyTo_mem {l:yLI} {x:Int}:anyTo (fun k=>x == l[k]!) l.length=dec (x∈l):=by
  refine dec_eq ?_
  rw [anyTo_iff]
  constructor
  · rintro ⟨k,h,h1⟩
    rw [beq_iff_eq,getElem!_pos l k h] at h1
    rw [h1];exact List.getElem_mem h
  · intro h
    obtain ⟨k,hk,e⟩:=List.mem_iff_getElem.1 h
    exact ⟨k,hk,by rw [beq_iff_eq,getElem!_pos l k hk,e]⟩
theorem mem_appls {s:qy} {t:qA} {i:Nat} (hi:i < s.qx.length):(i:Int)∈appls s t↔Appl s t i:=by
  unfold appls
  rw [mem_applL]
  constructor
  · rintro ⟨_,_,h⟩;simpa using h
  · intro h;exact ⟨Int.natCast_nonneg i,by simpa using hi,by simpa using h⟩
def minTo (l:yLI):Nat→Int
  | 0=>l[0]!
  | k+1=>if k=0 then l[0]! else min (minTo l k) (l[k]!)
theorem minTo_one (l:yLI):minTo l 1=l[0]! :=rfl
theorem minTo_succ {l:yLI} {k:Nat} (h:1≤k):minTo l (k+1)=min (minTo l k) (l[k]!):=by rw [minTo,if_neg qf]
def minL (l:yLI):Int:=minTo l l.length
theorem minTo_neg {l:yLI}:∀ {k:Nat},1≤k→(minTo l k < 0↔∃ j,j < k∧l[j]! < 0)
  | 1,_=>by
    rw [minTo_one]
    constructor
    · intro h;exact ⟨0,by omega,h⟩
    · rintro ⟨j,h,h1⟩;obtain rfl:j=0:=by omega
      exact h1
  | k+2,_=>by
    have ih:=minTo_neg (l:=l) (k:=k+1) qf
    rw [minTo_succ qf]
    constructor
    · intro h
      by_cases h1:minTo l (k+1) < 0
      · obtain ⟨j,h2,h3⟩:=ih.1 h1;exact ⟨j,by omega,h3⟩
      · exact ⟨k+1,by omega,by omega⟩
    · rintro ⟨j,h,h1⟩
      by_cases e:j=k+1
      · subst e;omega
      · have:=ih.2 ⟨j,by omega,h1⟩;omega
theorem minL_neg {l:yLI} (h:1≤l.length):minL l < 0↔¬ ∀ k,k < l.length→0≤l[k]! :=by
  unfold minL
  rw [minTo_neg h]
  constructor
  · rintro ⟨j,h1,h2⟩ h3;have:=h3 j h1;omega
  · intro h1
    apply Classical.byContradiction
    intro h2
    refine h1 fun k hk=>?_
    have:¬ l[k]! < 0:=fun h3=>h2 ⟨k,hk,h3⟩
    omega
open Classical in
noncomputable def QM (s:qy) (t:qA) (counts:yLI):Int:=if ¬ (vw s∧xJ s t) then 1 else if ¬ Xx s counts then 2 else 0
theorem ask_1 {s:qy} {t:qA} {counts:yLI} (h:¬ (vw s∧xJ s t)):QM s t counts=1:=by rw [QM,if_pos h]
theorem ask_2 {s:qy} {t:qA} {counts:yLI} (h:vw s∧xJ s t) (h1:¬ Xx s counts):QM s t counts=2:=by rw [QM,if_neg (by simpa using h),if_pos h1]
theorem ask_0 {s:qy} {t:qA} {counts:yLI} (h:vw s∧xJ s t) (h1:Xx s counts):QM s t counts=0:=by rw [QM,if_neg (by simpa using h),if_neg (by simpa using h1)]
theorem ask_ok {s:qy} {t:qA} {counts:yLI} (h:QM s t counts=0):vw s∧xJ s t∧Xx s counts:=by
  by_cases h1:vw s∧xJ s t
  · by_cases h2:Xx s counts
    · exact ⟨h1.1,h1.2,h2⟩
    · rw [ask_2 h1 h2] at h;omega
  · rw [ask_1 h1] at h;omega
open Classical in
noncomputable def xO (s:qy) (t:qA) (counts:yLI):qA×Int:=if QM s t counts≠0 then (default,QM s t counts) else yP s t counts
theorem by_bad {s:qy} {t:qA} {counts:yLI} (h:QM s t counts≠0):xO s t counts=(default,QM s t counts):=by rw [xO,if_pos h]
theorem by_ok {s:qy} {t:qA} {counts:yLI} (h:QM s t counts=0):xO s t counts=yP s t counts:=by rw [xO,if_neg (by simpa using h)]
def single (s:qy) (i:Nat):yLI:=(List.replicate s.qx.length (0:Int)).set i 1
theorem most_of {s:qy} {t:qA} {P:Nat→Prop} (h:∀ q,q < (appls s t).length→P ((appls s t)[q]!).toNat):∀ i,i < s.qx.length→Appl s t i→P i:=by
  intro i hi ha
  obtain ⟨q,hq,e⟩:=List.mem_iff_getElem.1 ((mem_appls hi).2 ha)
  have:=h q hq
  rwa [getElem!_pos _ q hq,e] at this
def MostTo (s:qy) (t:qA) (counts:yLI) (k:Nat):Prop:=∀ i,i < k→Appl s t i→within (s.qx[i]!).xM ((Q7 s t counts counts.length)[(s.qx[i]!).qE.toNat]!)=false
theorem MostTo.succ {s:qy} {t:qA} {counts:yLI} {k:Nat} (h:MostTo s t counts k) (h1:Appl s t k→within (s.qx[k]!).xM ((Q7 s t counts counts.length)[(s.qx[k]!).qE.toNat]!)=false):MostTo s t counts (k+1):=fun j hj=>by
  by_cases e:j=k
  · subst e;exact h1
  · exact h j qf
def MostL (s:qy) (t:qA) (counts:yLI) (k:Nat):Prop:=∀ q,q < k→within (s.qx[((appls s t)[q]!).toNat]!).xM ((Q7 s t counts counts.length)[(s.qx[((appls s t)[q]!).toNat]!).qE.toNat]!)=false
theorem MostL.succ {s:qy} {t:qA} {counts:yLI} {k:Nat} (h:MostL s t counts k) (h1:within (s.qx[((appls s t)[k]!).toNat]!).xM ((Q7 s t counts counts.length)[(s.qx[((appls s t)[k]!).toNat]!).qE.toNat]!)=false):MostL s t counts (k+1):=fun j hj=>by
  by_cases e:j=k
  · subst e;exact h1
  · exact h j qf
theorem MostL.most {s:qy} {t:qA} {counts:yLI} (h:MostL s t counts (appls s t).length) (hc:IsCh s t counts):IsMost s t counts:=
  ⟨hc,most_of (P:=fun i=>within (s.qx[i]!).xM ((Q7 s t counts counts.length)[(s.qx[i]!).qE.toNat]!)=false) h⟩
def AllCnt (s:qy) (ch:yLL) (k:Nat):Prop:=∀ j,j < k→Xx s (ch[j]!)
theorem AllCnt.succ {s:qy} {ch:yLL} {k:Nat} (h:AllCnt s ch k) (h1:Xx s (ch[k]!)):AllCnt s ch (k+1):=fun j hj=>by
  by_cases e:j=k
  · subst e;exact h1
  · exact h j qf
def CodeBad (s:qy) (t:qA) (cs:yLL) (k:Nat):Prop:=(yP s t (cs[k]!)).2≠0
def NoBad (s:qy) (t:qA) (cs:yLL) (k:Nat):Prop:=∀ j,j < k→¬ CodeBad s t cs j
theorem NoBad.succ {s:qy} {t:qA} {cs:yLL} {k:Nat} (h:NoBad s t cs k) (h1:(yP s t (cs[k]!)).2=0):NoBad s t cs (k+1):=fun j hj=>by
  by_cases e:j=k
  · subst e;exact fun x=>x h1
  · exact h j qf
def NotIn (l:List qA) (u:qA) (k:Nat):Prop:=∀ j,j < k→l[j]! ≠u
theorem NotIn.succ {l:List qA} {u:qA} {k:Nat} (h:NotIn l u k) (h1:l[k]! ≠u):NotIn l u (k+1):=fun j hj=>by
  by_cases e:j=k
  · subst e;exact h1
  · exact h j qf
theorem NotIn.out {l:List qA} {u:qA} (h:NotIn l u l.length):¬ u∈l:=fun hm=>by
  obtain ⟨k,hk,e⟩:=List.mem_iff_getElem.1 hm
  exact h k hk (by rw [getElem!_pos l k hk];exact e)
def StillTo (s:qy) (k:Nat):Prop:=∀ i,i < k→(s.qx[i]!).zV=false
theorem StillTo.succ {s:qy} {k:Nat} (h:StillTo s k) (h1:(s.qx[k]!).zV=false):StillTo s (k+1):=fun j hj=>by
  by_cases e:j=k
  · subst e;exact h1
  · exact h j qf
abbrev Still (s:qy):Prop:=StillTo s s.qx.length
def WholeTo (t:qA) (k:Nat):Prop:=∀ c,c < k→t.qF[c]! =true
theorem WholeTo.succ {t:qA} {k:Nat} (h:WholeTo t k) (h1:t.qF[k]! =true):WholeTo t (k+1):=fun j hj=>by
  by_cases e:j=k
  · subst e;exact h1
  · exact h j qf
abbrev Whole (t:qA):Prop:=WholeTo t t.qF.length
def putsOf (s:qy) (t:qA) (counts:yLI) (cell:Int):Nat→Nat→Nat→Int
  | 0,_,_=>0
  | i+1,p,q=>putsOf s t counts cell i p q+if (s.qx[i]!).qE=cell then putF s t (s.qx[i]!) (counts[i]!) p q else 0
def TookOk (s:qy) (l:yLI) (i:Nat):Prop:=l.length=xY s∧∀ q,q < xY s→ -(1000000 * (i:Int))≤l[q]! ∧l[q]! ≤1000000 * (i:Int)
theorem TookOk.zero (s:qy):TookOk s (List.replicate s.xf.toNat 0) 0:=by
  refine ⟨by simp [xY],fun k hk=>?_⟩
  rw [getElem!_pos (List.replicate s.xf.toNat (0:Int)) k (by simpa [xY] using hk)];simp
theorem TookOk.keep {s:qy} {l:yLI} {i:Nat} (h:TookOk s l i):TookOk s l (i+1):=⟨h.1,fun q hq=>by have:=h.2 q hq;omega⟩
theorem TookOk.plus {s:qy} {l m:yLI} {i:Nat} {n:Int} (h:TookOk s l i) (hm:zZ s.xf m) (hn: -1000≤n∧n≤1000):TookOk s (vZ l m n) (i+1):=by
  refine ⟨by rw [y7];exact h.1,fun q hq=>?_⟩
  rw [plus_get (by rw [h.1];exact hq)]
  have:=h.2 q hq
  have:=hm.mul hn q hq
  omega
theorem TookOk.mid {s:qy} {l:yLI} {i:Nat} (h:TookOk s l i) (hi:i≤16) (hk:xY s≤8):l.length=xY s∧Mid l:=by
  refine ⟨h.1,by have:=h.1;omega,fun q hq=>?_⟩
  have:=h.2 q (by have:=h.1;omega)
  omega
def AllBags (b:yLL) (k:Nat):Prop:=∀ j,j < k→Ql (b[j]!)
theorem AllBags.succ {b:yLL} {k:Nat} (h:AllBags b k) (h1:Ql (b[k]!)):AllBags b (k+1):=fun j hj=>by
  by_cases e:j=k
  · subst e;exact h1
  · exact h j qf
theorem bagAny_ok {l:yLI}:zZ (l.length:Int) l↔Ql l:=⟨fun h=>h.1,fun h=>⟨h,rfl⟩⟩
def putsL (s:qy) (t:qA) (counts:yLI) (cell:Int):yLL:=tab2 (xB s+1) (xY s) (putsOf s t counts cell s.qx.length)
open Classical in
noncomputable def putsRes (s:qy) (t:qA) (cell:Int):yLL×Int:=
  if ¬ (vw s∧Still s∧xJ s t∧Whole t) then ([],1) else if ¬ CellIn s cell then ([],2) else if AllBags (putsL s t (yg s t) cell) (putsL s t (yg s t) cell).length then (putsL s t (yg s t) cell,0) else ([],3)
theorem puts_0 {s:qy} {t:qA} {cell:Int} {b:yLL} (h:vw s∧Still s∧xJ s t∧Whole t) (h1:CellIn s cell) (e:b=putsL s t (yg s t) cell) (h2:AllBags b b.length):putsRes s t cell=(b,0):=by
  subst e;rw [putsRes,if_neg (fun x=>x h),if_neg (fun x=>x h1),if_pos h2]
end
section
open Go.RowKit
set_option linter.unusedVariables false
set_option linter.unusedSimpArgs false
instance:qU UInt8 where
  size:=1
  rep:=fun _ F cs x=>F=[]∧cs=[.int .u8 (x.toNat:Int)]
  len:=by rintro w F cs x ⟨_,rfl⟩;rfl
  one:=by rintro w F cs x ⟨_,rfl⟩ u hu;simp only [List.mem_singleton] at hu;subst hu;rfl
  stay:=by rintro w w' F cs x h _;exact h
  lt:=by rintro w F cs x ⟨rfl,_⟩ b hb;simp at hb

section
variable {P : Program} {ops : Array Oper} {Q : Exit → Act → World → Prop} {n : Nat} {ρ : Env} {W0 w : World} {rest : List Oper} {ps : List Prv} {Γ : List Fact}
  {d:Nat} {ty:TypeId} {pos:String} {af:Array Edge} {K:Env→World→Prop}
theorem St.elemByte (H:St W0 w ps Γ) (i:Nat) {fr:Bool} {F:yLN} {b o m c:Nat} {l:List UInt8} (hf:Γ[i]? =some (isF fr F (Sv (some ⟨b,o,none⟩) m c) l)) (iv:Int) (k:Nat) (hk:iv.toNat=k) (h0:0≤iv) (h1:iv < l.length):
    w.cell? ⟨b,o+iv.toNat * 1,none⟩=some (.int .u8 (((l[k]!).toNat:Nat):Int)):=by
  obtain ⟨cs,Fk,hc,hr,_⟩:=H.elem i hf iv h0 h1
  rw [hk] at hr
  obtain ⟨_,rfl⟩:=hr
  have:=hc 0 _ rfl
  simpa [qU.size] using this
theorem byte_lt (x:UInt8):((x.toNat:Nat):Int)≤255:=by have:=x.toNat_lt;omega
theorem o_mulU {x y:Operand} {t u:TypeId} (a b:Int) (hx:ev n ρ x=.int .u64 a) (hy:ev n ρ y=.int .u64 b) (k:∀ r,K (upd ρ d (.int .u64 r)) w):OW P Q ⟨some d,.binOp .mul t x y u,ty,pos,af,none⟩ n ρ w K:=
  Xr (.int .u64 (IntKind.u64.wrap (a * b))) (by simp [execOp,hx,hy,eqGuard,binOp,Op.intArith]) (k _)
theorem o_addU {x y:Operand} {t u:TypeId} (a b:Int) (hx:ev n ρ x=.int .u64 a) (hy:ev n ρ y=.int .u64 b) (k:∀ r,K (upd ρ d (.int .u64 r)) w):OW P Q ⟨some d,.binOp .add t x y u,ty,pos,af,none⟩ n ρ w K:=
  Xr (.int .u64 (IntKind.u64.wrap (a+b))) (by simp [execOp,hx,hy,eqGuard,binOp,Op.intArith]) (k _)
theorem o_shrU {x y:Operand} {t u:TypeId} (a b:Int) (h:0≤b) (hx:ev n ρ x=.int .u64 a) (hy:ev n ρ y=.int .u64 b) (k:∀ r,K (upd ρ d (.int .u64 r)) w):OW P Q ⟨some d,.binOp .shr t x y u,ty,pos,af,none⟩ n ρ w K:=
  Xr (.int .u64 (a.fdiv (2 ^ (min b.toNat IntKind.u64.bits)))) (by simp [execOp,hx,hy,eqGuard,binOp,Op.shift,show ¬ b < 0 by omega]) (k _)
theorem and_bd (a:Int):0≤IntKind.u64.wrap ((BitVec.ofInt IntKind.u64.bits a &&& BitVec.ofInt IntKind.u64.bits 255).toNat:Int)∧IntKind.u64.wrap ((BitVec.ofInt IntKind.u64.bits a &&& BitVec.ofInt IntKind.u64.bits 255).toNat:Int)≤255:=by
  have b6:IntKind.u64.bits=64:=rfl
  have s6:IntKind.u64.signed=false:=rfl
  have h:(BitVec.ofInt IntKind.u64.bits a &&& BitVec.ofInt IntKind.u64.bits 255).toNat≤255:=by
    rw [BitVec.toNat_and]
    exact Nat.le_trans Nat.and_le_right qj
  generalize (BitVec.ofInt IntKind.u64.bits a &&& BitVec.ofInt IntKind.u64.bits 255).toNat=m at h ⊢
  simp only [IntKind.wrap,b6,s6,Bool.false_and,Bool.false_eq_true,if_false]
  omega
theorem o_andU {x y:Operand} {t u:TypeId} (a:Int) (hx:ev n ρ x=.int .u64 a) (hy:ev n ρ y=.int .u64 255) (k:∀ r,0≤r∧r≤255→K (upd ρ d (.int .u64 r)) w):OW P Q ⟨some d,.binOp .and t x y u,ty,pos,af,none⟩ n ρ w K:=
  Xr (.int .u64 (IntKind.u64.wrap ((BitVec.ofInt IntKind.u64.bits a &&& BitVec.ofInt IntKind.u64.bits 255).toNat:Int))) (by simp [execOp,hx,hy,eqGuard,binOp,Op.intBits]) (k _ (and_bd a))
theorem o_conv {x:Operand} {s t:TypeId} {ds:TypeDesc} {k k' :IntKind} (a:Int) (hs:P.underlying s=some ds) (ht:P.underlying t=some (.int k')) (hx:ev n ρ x=.int k a) (h:K (upd ρ d (.int k' (k'.wrap a))) w):
    OW P Q ⟨some d,.convert s t x,ty,pos,af,none⟩ n ρ w K:=
  Xr _ (by simp [execOp,hx,convert,run_underlying hs,run_underlying ht,Conv.intToInt]) h
theorem o_convI {x:Operand} {s t:TypeId} {ds:TypeDesc} {k:IntKind} (a:Int) (hs:P.underlying s=some ds) (ht:P.underlying t=some (.int .i64)) (hx:ev n ρ x=.int k a) (h0:0≤a∧a≤255) (h:K (upd ρ d (.int .i64 a)) w):
    OW P Q ⟨some d,.convert s t x,ty,pos,af,none⟩ n ρ w K:=by
  refine o_conv a hs ht hx ?_
  rw [wrap_in qf]
  exact h
theorem o_convU {x:Operand} {s t:TypeId} {ds:TypeDesc} {k:IntKind} (a:Int) (hs:P.underlying s=some ds) (ht:P.underlying t=some (.int .u64)) (hx:ev n ρ x=.int k a) (h:∀ r,K (upd ρ d (.int .u64 r)) w):
    OW P Q ⟨some d,.convert s t x,ty,pos,af,none⟩ n ρ w K:=o_conv a hs ht hx (h _)
end
section
variable {P : Program} {n : Nat} {ρ : Env} {W0 w : World} {ps : List Prv} {Γ : List Fact}
theorem retCC {fn:Func} {R:Ending→World→Prop} {t u T U b c:Nat} {cs ds:List Value} {tb tc:TypeId} (H:St W0 w ps Γ) (i:Nat) (hp:ps[i]? =some (.box b cs tb)) (j:Nat) (hq:ps[j]? =some (.box c ds tc)) (hr:fn.results=#[.cell t T,.cell u U])
    (ha:∀ w,(isAgg T).run P w=.ok true w) (hs:∀ w,(Go.sizeOf T).run P w=.ok cs.length w) (ha' :∀ w,(isAgg U).run P w=.ok true w) (hs' :∀ w,(Go.sizeOf U).run P w=.ok ds.length w)
    (hv:ev n ρ (.tmp t)=.pointer (some ⟨b,0,none⟩)) (hx:ev n ρ (.tmp u)=.pointer (some ⟨c,0,none⟩)) (h:R (.returned (.tuple #[.agg cs.toArray,.agg ds.toArray])) w):bodyPost P fn R .ret (mk n ρ) w:=by
  have hl:=run_loadCells_list (P:=P) w ⟨b,0,none⟩ cs (fun j v hv=>by rw [Addr.add_mid];exact H.cells i hp j v hv)
  have hl' :=run_loadCells_list (P:=P) w ⟨c,0,none⟩ ds (fun k v hv=>by rw [Addr.add_mid];exact H.cells j hq k v hv)
  have e:=congrFun (Xm n ρ) (.tmp t)
  have e' :=congrFun (Xm n ρ) (.tmp u)
  simp only [Act.eval,Array.getD_eq_getD_getElem?] at e e'
  rw [hv] at e
  rw [hx] at e'
  exact bodyPost_ret (v:=.tuple #[.agg cs.toArray,.agg ds.toArray]) (by simp [results,hr,e,e',asAddr,loadVar,ha,hs,hl,ha',hs',hl']) rfl h
end
end
section

def vJ (kk M:Int) (l:yLI):Prop:=l.length=kk.toNat∧∀ j,j < l.length→0≤l[j]! ∧l[j]! ≤M
theorem vJ.len {kk M:Int} {l:yLI} (h:vJ kk M l) (h0:0≤kk):(l.length:Int)=kk:=by have:=h.1;omega
theorem vJ.zero {kk M:Int} (h0:0≤kk) (hM:0≤M):vJ kk M (List.replicate kk.toNat 0):=⟨by simp,fun j hj=>by
  have hj' :j < kk.toNat:=by simpa using hj
  rw [getElem!_pos (List.replicate kk.toNat (0:Int)) j hj,List.getElem_replicate]
  omega⟩
theorem vJ.mono {kk M M' :Int} {l:yLI} (h:vJ kk M l) (hM:M≤M'):vJ kk M' l:=⟨h.1,fun j hj=>by have:=h.2 j hj;omega⟩
theorem vJ.put {kk M:Int} {l:yLI} {v:Int} {i:Nat} (h:vJ kk M l) (h0:0≤v∧v≤M):vJ kk M (l.set i v):=⟨by rw [List.length_set];exact h.1,fun j hj=>by
  rw [List.length_set] at hj
  rw [getElem!_pos (l.set i v) j (by rw [List.length_set];exact hj),List.getElem_set]
  split
  · exact h0
  · have:=h.2 j hj
    rwa [getElem!_pos l j hj] at this⟩
theorem vJ.up {kk M M' :Int} {l:yLI} {i:Nat} (h:vJ kk M l) (hi:i < l.length) (hM:M+1≤M'):vJ kk M' (l.set i (l[i]! +1)):=
  (h.mono (by omega:M≤M')).put (by have:=h.2 i hi;omega)
theorem vJ.ok {kk M:Int} {l:yLI} (h:vJ kk M l) (hk:1≤kk∧kk≤8) (hM:M≤1000):zZ kk l:=
  ⟨⟨fun j hj=>by have:=h.2 j hj;omega,by have:=h.len qf;omega,by have:=h.len qf;omega⟩,h.len qf⟩
theorem vJ.small {kk M:Int} {l:yLI} (h:vJ kk M l) (hk:1≤kk∧kk≤8) (hM:M≤1000):Small l:=vG (h.ok hk hM)
theorem sumTo_up {l:yLI} (h:∀ j,j < l.length→0≤l[j]!):∀ k,k≤l.length→0≤sumTo l k∧∀ i,i < k→l[i]! ≤sumTo l k
  | 0,_=>⟨Int.le_refl _,fun i hi=>by omega⟩
  | k+1,hk=>by
    obtain ⟨h1,h2⟩:=sumTo_up h k qf
    have h3:=h k qf
    refine ⟨by simp only [sumTo];omega,fun i hi=>?_⟩
    simp only [sumTo]
    rcases Nat.lt_or_eq_of_le (Nat.le_of_lt_succ hi) with h4 | h4
    · have:=h2 i h4;omega
    · subst h4;omega
theorem vJ.one {kk M:Int} {l:yLI} {i:Nat} (h:vJ kk M l) (hk:1≤kk∧kk≤8) (hM:1≤M) (hs:QJ l=0) (hi:i < l.length):QJ (l.set i 1)≠0:=by
  have h1:=h.put (i:=i) (v:=1) qf
  have h2:=(sumTo_up (l:=l.set i 1) (fun j hj=>(h1.2 j hj).1) _ (Nat.le_refl _)).2 i (by rw [List.length_set];exact hi)
  rw [getElem!_pos (l.set i 1) i (by rw [List.length_set];exact hi),List.getElem_set_self] at h2
  show sumTo _ _≠0
  omega

def IntoDr (kk:Int) (par:yLI) (cell:Int) (l:List IntoD) (c:Int):Prop:=
  ∀ j,j < l.length→(0≤(l[j]!).qE∧(l[j]!).qE < c)∧Lies par cell (l[j]!).qE∧vJ kk 1 (l[j]!).Qm∧QJ (l[j]!).Qm≠0∧(0 < j→(l[j - 1]!).qE < (l[j]!).qE)
theorem IntoDr.nil (kk:Int) (par:yLI) (cell c:Int):IntoDr kk par cell [] c:=fun j hj=>by simp at hj
theorem IntoDr.mono {kk:Int} {par:yLI} {cell c c' :Int} {l:List IntoD} (h:IntoDr kk par cell l c) (hc:c≤c'):IntoDr kk par cell l c' :=fun j hj=>by
  obtain ⟨h1,h2⟩:=h j hj
  exact ⟨by omega,h2⟩
theorem XD {α:Type} [Inhabited α] {l:List α} {x:α} {j:Nat}:(l++[x])[j]! =if j < l.length then l[j]! else if j=l.length then x else default:=by
  by_cases h:j < l.length
  · rw [if_pos h,getElem!_pos (l++[x]) j (by simp;omega),getElem!_pos l j h,List.getElem_append_left h]
  · rw [if_neg h]
    by_cases h2:j=l.length
    · subst h2
      rw [if_pos rfl,getElem!_pos (l++[x]) l.length qm]
      simp
    · rw [if_neg h2,getElem!_neg (l++[x]) j (by simp;omega)]
theorem IntoDr.snoc {kk:Int} {par:yLI} {cell c:Int} {l:List IntoD} {b:yLI} (h:IntoDr kk par cell l c) (hc:0≤c) (hl:Lies par cell c) (hb:vJ kk 1 b) (hs:QJ b≠0):IntoDr kk par cell (l++[⟨c,b⟩]) (c+1):=fun j hj=>by
  have hj' :j < l.length∨j=l.length:=by simp at hj;omega
  rcases hj' with hj' | hj'
  · obtain ⟨h1,h2,h3,h4,h5⟩:=h j hj'
    rw [XD,if_pos hj',XD,if_pos qf]
    exact ⟨by omega,h2,h3,h4,h5⟩
  · subst hj'
    rw [XD,if_neg qf,if_pos rfl]
    refine ⟨⟨hc,by show c < c+1;omega⟩,hl,hb,hs,fun h0=>?_⟩
    rw [XD,if_pos qf]
    exact (h (l.length - 1) qf).1.2
structure RuleDr (kk:Int) (par:yLI) (r:jy):Prop where
  cell:0≤r.qE∧r.qE < par.length
  rank:0≤r.vI∧r.vI≤2
  melts:¬ (r.zV=true∧r.qE=0)
  need:vJ kk 2 r.xM∧QJ r.xM≠0
  hav:vJ kk 1 r.zF
  lack:vJ kk 1 r.zD
  here:vJ kk 2 r.zC
  out:vJ kk 2 r.jI
  many:r.qO.length≤3
  into:IntoDr kk par r.qE r.qO par.length
theorem RuleDr.ok {s:qy} {r:jy} (h:RuleDr s.xf s.qw r) (hk:1≤s.xf∧s.xf≤8):RuleOk s r:=
  ⟨⟨h.cell.1,by have:=h.cell.2;omega⟩,by have:=h.rank;omega,h.melts,h.many,h.need.1.ok hk qf,h.hav.ok hk qf,h.lack.ok hk qf,h.here.ok hk qf,h.out.ok hk qf,h.need.2,
    fun j hj=>by
      obtain ⟨h1,h2,h3,h4,h5⟩:=h.into j hj
      exact ⟨⟨h1.1,by omega⟩,h2,h3.ok hk qf,h4,h5⟩⟩
theorem ruleDr_of {kk:Int} {par:yLI} {cell rank:Int} {need hav lack here out:yLI} {into:List IntoD} {melts:Bool} (h1:0≤cell∧cell < (par.length:Int)) (h2:0≤rank∧rank≤2) (h3:melts=true→cell≠0)
    (h4:vJ kk 2 need∧QJ need≠0) (h5:vJ kk 1 hav) (h6:vJ kk 1 lack) (h7:vJ kk 2 here) (h8:vJ kk 1 out) (h9:into.length≤3∧IntoDr kk par cell into par.length):RuleDr kk par ⟨cell,rank,need,hav,lack,here,out,into,melts⟩:=
  ⟨h1,h2,fun h=>h3 h.1 h.2,h4,h5,h6,h7,h8.mono qf,h9.1,h9.2⟩
def Qh (kk:Int) (par:yLI) (l:List jy):Prop:=∀ j,j < l.length→RuleDr kk par (l[j]!)
theorem Qh.nil (kk:Int) (par:yLI):Qh kk par []:=fun j hj=>by simp at hj
theorem Qh.snoc {kk:Int} {par:yLI} {l:List jy} {r:jy} (h:Qh kk par l) (hr:RuleDr kk par r):Qh kk par (l++[r]):=fun j hj=>by
  rw [XD]
  by_cases h1:j < l.length
  · rw [if_pos h1];exact h j h1
  · rw [if_neg h1,if_pos (by simp at hj;omega)];exact hr
theorem Qh.set {kk:Int} {par:yLI} {l:List jy} {r:jy} {i:Nat} (h:Qh kk par l) (hr:RuleDr kk par r):Qh kk par (l.set i r):=fun j hj=>by
  rw [List.length_set] at hj
  rw [getElem!_pos (l.set i r) j (by rw [List.length_set];exact hj),List.getElem_set]
  split
  · exact hr
  · have:=h j hj;rwa [getElem!_pos l j hj] at this
def ParDr (par:yLI):Prop:=1≤par.length∧par[0]! = -1∧∀ c,1≤c→c < par.length→0≤par[c]! ∧par[c]! ≤(c:Int) - 1
theorem ParDr.one:ParDr [-1]:=⟨by simp,rfl,fun c h1 h2=>by simp at h2;omega⟩
theorem ParDr.snoc {par:yLI} {v:Int} (h:ParDr par) (hv:0≤v∧v < par.length):ParDr (par++[v]):=by
  obtain ⟨h1,h2,h3⟩:=h
  refine ⟨by simp,by rw [XD,if_pos qf];exact h2,fun c hc hl=>?_⟩
  rw [XD]
  by_cases h4:c < par.length
  · rw [if_pos h4];exact h3 c hc h4
  · have h5:c=par.length:=by simp at hl;omega
    rw [if_neg h4,if_pos h5];omega
theorem frame_of {kk:Int} {par:yLI} {rules:List jy} (h:ParDr par) (hk:1≤kk∧kk≤3) (hl:par.length≤3):jO ⟨kk,par,rules⟩:=
  ⟨⟨hk.1,by show kk≤8;omega⟩,⟨h.1,by show par.length≤6;omega⟩,h.2.1,h.2.2⟩
structure SysDr (kk:Int) (par:yLI) (rules:List jy):Prop where
  kinds:1≤kk∧kk≤3
  cells:1≤par.length∧par.length≤3
  skin:par[0]! = -1
  up:∀ c,1≤c→c < par.length→0≤par[c]! ∧par[c]! ≤(c:Int) - 1
  few:rules.length≤5
  rules:Qh kk par rules
theorem sysDr_of {kk:Int} {par:yLI} {rules:List jy} (h:ParDr par) (hk:1≤kk∧kk≤3) (hl:par.length≤3) (hr:rules.length≤5) (hd:Qh kk par rules):SysDr kk par rules:=⟨hk,⟨h.1,hl⟩,h.2.1,h.2.2,hr,hd⟩
theorem SysDr.frame {kk:Int} {par:yLI} {rules:List jy} (h:SysDr kk par rules):jO ⟨kk,par,rules⟩:=by
  have h1:=h.kinds
  have h2:=h.cells
  exact ⟨⟨h1.1,by show kk≤8;omega⟩,⟨h2.1,by show par.length≤6;omega⟩,h.skin,h.up⟩
theorem SysDr.ok {kk:Int} {par:yLI} {rules:List jy} (h:SysDr kk par rules):vw ⟨kk,par,rules⟩:=by
  have h1:=h.kinds
  have h3:=h.few
  refine ⟨h.frame,by show rules.length≤16;omega,fun j hj=>⟨(h.rules j hj).ok (s:=⟨kk,par,rules⟩) ⟨h1.1,by show kk≤8;omega⟩,?_⟩⟩
  have h4:=(ofCell_bd rules (rules[j]!).qE (j+1)).2
  have h5:j < rules.length:=hj
  show XK rules (rules[j]!).qE (j+1)≤8
  omega
structure StDr (kk:Int) (n:Nat) (M:Int) (alive:List Bool) (bags:yLL) (around:yLI):Prop where
  la:alive.length=n
  lb:bags.length=n
  skin:alive[0]! =true
  around:vJ kk 2 around
  bags:∀ c,c < bags.length→vJ kk M (bags[c]!)∧(alive[c]! =false→QJ (bags[c]!)≤0)
theorem StDr.ok {kk M:Int} {par:yLI} {rules:List jy} {alive:List Bool} {bags:yLL} {around:yLI} (h:StDr kk par.length M alive bags around) (hs:SysDr kk par rules) (hM:M≤1000):xJ ⟨kk,par,rules⟩ ⟨alive,bags,around⟩:=by
  have h1:=hs.kinds
  exact ⟨h.la,h.lb,h.skin,h.around.ok ⟨h1.1,by omega⟩ qf,fun c hc=>⟨(h.bags c hc).1.ok ⟨h1.1,by show kk≤8;omega⟩ hM,(h.bags c hc).2⟩⟩
theorem sum_zeros (n:Nat):QJ (List.replicate n (0:Int))≤0:=by
  have:∀ k,k≤n→sumTo (List.replicate n (0:Int)) k=0:=fun k=>by
    induction k with
    | zero=>intro _;rfl
    | succ k ih=>
      intro hk
      rw [sumTo,ih qf,getElem!_pos (List.replicate n (0:Int)) k (by simp;omega),List.getElem_replicate]
      rfl
  have h:=this (List.replicate n (0:Int)).length qm
  show sumTo _ _≤0
  omega
structure StTo (kk M:Int) (c:Nat) (alive:List Bool) (bags:yLL):Prop where
  la:alive.length=c
  lb:bags.length=c
  skin:0 < c→alive[0]! =true
  bags:∀ j,j < bags.length→vJ kk M (bags[j]!)∧(alive[j]! =false→QJ (bags[j]!)≤0)
theorem StTo.nil (kk M:Int):StTo kk M 0 [] []:=⟨rfl,rfl,fun h=>by omega,fun j hj=>by simp at hj⟩
theorem StTo.snoc {kk M:Int} {c:Nat} {alive:List Bool} {bags:yLL} {a:Bool} {b:yLI} (h:StTo kk M c alive bags) (ha:c=0→a=true) (hb:vJ kk M b) (hz:a=false→QJ b≤0):StTo kk M (c+1) (alive++[a]) (bags++[b]):=by
  have la:=h.la
  have lb:=h.lb
  refine ⟨by simp [la],by simp [lb],fun _=>?_,fun j hj=>?_⟩
  · rw [XD]
    by_cases h0:0 < c
    · rw [if_pos qf];exact h.skin h0
    · rw [if_neg qf,if_pos qf];exact ha qf
  · rw [XD,XD]
    by_cases h1:j < c
    · rw [if_pos qf,if_pos qf];exact h.bags j qf
    · rw [if_neg qf,if_pos (by simp at hj;omega),if_neg qf,if_pos (by simp at hj;omega)];exact ⟨hb,hz⟩
end
section
open Go.RowKit
set_option linter.unusedVariables false
set_option linter.unusedSimpArgs false
section
variable {P : Program} {ops : Array Oper} {Q : Exit → Act → World → Prop} {n : Nat} {ρ : Env} {W0 w : World} {rest : List Oper} {ps : List Prv} {Γ : List Fact}
  {d:Nat} {ty:TypeId} {pos:String} {af:Array Edge} {K:Env→World→Prop}
end

theorem reps_part {α:Type} [qU α] [Inhabited α] {w:World} {F G:yLN} {X:List Value} {l:List α} {v:Value} {f:α} (i q:Nat) (hi:i < l.length) (hq:q < qU.size α)
    (hr:∀ Fk ck,qU.rep w Fk ck (l[i]!)→∃ F',qU.rep w F' (ck.set q v) f∧∀ b∈F',b∈Fk∨b∈G) (h:reps w F X l):
    ∃ F',reps w F' (X.set (i * qU.size α+q) v) (l.set i f)∧∀ b∈F',b∈F∨b∈G:=by
  obtain ⟨F1,Fk,F2,v1,cs,v2,hF,hv,hl1,hlc,h1,h2,h3⟩:=reps_get h i hi
  obtain ⟨F',hr',hs⟩:=hr Fk cs (by rw [getElem!_pos l i hi];exact h1)
  refine ⟨F1++F' ++F2,?_,fun b hb=>?_⟩
  · rw [hv,← hl1,List.append_assoc v1,List.set_append_right _ _ qf,Nat.add_sub_cancel_left,List.set_append_left _ _ qf,List.set_eq_take_append_cons_drop (l:=l),if_pos hi,← List.append_assoc]
    have:=y8 (y8 h2 (reps_one hr')) h3
    simpa using this
  · simp only [List.mem_append] at hb
    rw [hF]
    rcases hb with (hb | hb) | hb
    · exact .inl (by simp [hb])
    · rcases hs b hb with h | h
      · exact .inl (by simp [h])
      · exact .inr h
    · exact .inl (by simp [hb])
section
variable {W0 w : World} {ps : List Prv} {Γ : List Fact}
theorem St.part {β:Type} [qU β] (H:St W0 w ps Γ) (j:Nat) {fr:Bool} {F:yLN} {X:List Value} {l:List jy} (hf:Γ[j]? =some (qX fr F X l)) (m:Nat) {fr' :Bool} {G:yLN} {v:Value} {z:β} (hg:Γ[m]? =some (isF fr' G v z))
    {iv:Int} (i:Nat) (hi:iv.toNat=i) (h1:i < l.length) (q:Nat) (hq:q < 9) (f:jy) (hr:∀ Fk ck,qU.rep w Fk ck (l[i]!)→∃ F',qU.rep w F' (ck.set q v) f∧∀ b∈F',b∈Fk∨b∈G):
    ∃ F',St W0 w ps (qX false F' (X.set (0+iv.toNat * 9+q) v) (l.set i f) :: Γ):=by
  subst hi
  obtain ⟨F',h2,h3⟩:=reps_part (α:=jy) iv.toNat q h1 hq hr (H.get j hf).1
  refine ⟨F',H.add _ ⟨by rw [Nat.zero_add];exact h2,by simp⟩ fun b hb=>?_⟩
  rcases h3 b hb with h | h
  · exact (H.facts _ (List.mem_of_getElem? hf)).2 b h
  · exact (H.facts _ (List.mem_of_getElem? hg)).2 b h
end

theorem Qh.here {kk:Int} {par:yLI} {l:List jy} {i:Nat} {b:yLI} (h:Qh kk par l) (hi:i < l.length) (hb:vJ kk 2 b):Qh kk par (l.set i { l[i]! with zC:=b }):=
  h.set (let r:=h i hi;⟨r.cell,r.rank,r.melts,r.need,r.hav,r.lack,hb,r.out,r.many,r.into⟩)
theorem Qh.out {kk:Int} {par:yLI} {l:List jy} {i:Nat} {b:yLI} (h:Qh kk par l) (hi:i < l.length) (hb:vJ kk 2 b):Qh kk par (l.set i { l[i]! with jI:=b }):=
  h.set (let r:=h i hi;⟨r.cell,r.rank,r.melts,r.need,r.hav,r.lack,r.here,hb,r.many,r.into⟩)
theorem Qh.into {kk:Int} {par:yLI} {l:List jy} {i:Nat} (h:Qh kk par l) (hi:i < l.length):Qh kk par (l.set i { l[i]! with qO:=[]}):=
  h.set (let r:=h i hi;⟨r.cell,r.rank,r.melts,r.need,r.hav,r.lack,r.here,r.out,by simp,IntoDr.nil _ _ _ _⟩)
theorem Qh.still {kk:Int} {par:yLI} {l:List jy} {i:Nat} (h:Qh kk par l) (hi:i < l.length):Qh kk par (l.set i { l[i]! with zV:=false }):=
  h.set (let r:=h i hi;⟨r.cell,r.rank,(fun e=>Bool.noConfusion e.1),r.need,r.hav,r.lack,r.here,r.out,r.many,r.into⟩)
theorem SysDr.with {kk:Int} {par:yLI} {rules rules' :List jy} (h:SysDr kk par rules) (h1:rules'.length≤5) (h2:Qh kk par rules'):SysDr kk par rules' :=⟨h.kinds,h.cells,h.skin,h.up,h1,h2⟩
def HereTo (kk:Int) (k:Nat) (l:yLI):Prop:=vJ kk 2 l∧∀ j,j < l.length→k≤j+1→l[j]! =0
theorem HereTo.zero {kk:Int} (h0:0≤kk):HereTo kk 1 (List.replicate kk.toNat 0):=⟨vJ.zero h0 qf,fun j hj _=>by rw [getElem!_pos (List.replicate kk.toNat (0:Int)) j hj,List.getElem_replicate]⟩
theorem HereTo.go {kk:Int} {k:Nat} {l:yLI} (h:HereTo kk k l):HereTo kk (k+1) l:=⟨h.1,fun j hj hk=>h.2 j hj qf⟩
theorem HereTo.put {kk:Int} {k i:Nat} {l:yLI} {v:Int} (h:HereTo kk k l) (hi:i < l.length) (hk:i+1=k) (hv:0≤v∧v≤2):HereTo kk (k+1) (l.set i (l[i]! +v)):=by
  have h0:=h.2 i hi qf
  refine ⟨h.1.put qf,fun j hj hk' =>?_⟩
  rw [List.length_set] at hj
  rw [getElem!_pos (l.set i _) j (by rw [List.length_set];exact hj),List.getElem_set,if_neg qf]
  have:=h.2 j hj qf
  rwa [getElem!_pos l j hj] at this
end
section

def atV (code:List UInt8) (i n:Int):Int:=if i≥code.length∨n < 1 then 0 else (((code[i.toNat]!).toNat:Nat):Int) % n
theorem atV_no {code:List UInt8} {i n:Int} (h:i≥code.length∨n < 1):atV code i n=0:=by rw [atV,if_pos h]
theorem atV_yes {code:List UInt8} {i n:Int} (h:¬ i≥code.length) (h1:¬ n < 1):atV code i n=(((code[i.toNat]!).toNat:Nat):Int) % n:=by rw [atV,if_neg qf]
theorem atV_bd (code:List UInt8) (i:Int) {n:Int} (h:1≤n):0≤atV code i n∧atV code i n≤n - 1:=by
  rw [atV]
  split
  · omega
  · have h1:=Int.emod_nonneg (((code[i.toNat]!).toNat:Nat):Int) (show n≠0 by omega)
    have h2:=Int.emod_lt_of_pos (((code[i.toNat]!).toNat:Nat):Int) (show 0 < n by omega)
    omega
theorem get_set {α:Type} [Inhabited α] (l:List α) (i j:Nat) (v:α) (hi:i < l.length):(l.set i v)[j]! =if i=j then v else l[j]! :=by
  by_cases hj:j < l.length
  · rw [getElem!_pos _ _ (by rw [List.length_set];exact hj),List.getElem_set,getElem!_pos l j hj]
  · rw [getElem!_neg _ _ (by rw [List.length_set];exact hj),getElem!_neg l j hj,if_neg qf]
theorem plusL_get {l m:yLI} {j:Nat} (h:j < l.length):(vZ l m 1)[j]! =l[j]! +m[j]! :=by
  rw [getElem!_pos _ _ (by rw [y7];exact h)]
  simp [vZ,plusTo]
theorem rep_get (n j:Nat):(List.replicate n (0:Int))[j]! =0:=by
  by_cases h:j < n
  · rw [getElem!_pos _ _ (by simpa using h)];simp
  · rw [getElem!_neg _ _ (by simpa using h)];rfl

def kidIn (s:qy) (t:qA) (k:Int) (j:Nat):Bool:=t.qF[j]! && (xh s t j == k)
def kidsTo (s:qy) (t:qA) (k:Int) (n:Nat):yLI:=((List.range n).filter (kidIn s t k)).map fun j:Nat=>(j:Int)
section
variable {s : qy} {t : qA} {c : Int}
structure QO (s:qy) (t:qA) (c:Int):Prop where
  frame:jO s
  state:xJ s t
  cell:CellIn s c
  skin:c≠0
  alive:t.qF[c.toNat]! =true
theorem QO.pos (h:QO s t c):0 < c:=by have:=h.cell.1;have:=h.skin;omega
theorem QO.par (h:QO s t c):0≤xh s t c∧xh s t c < c∧t.qF[(xh s t c).toNat]! =true:=X9 h.frame h.state.2.2.1 h.pos h.cell.2
theorem QO.alive' (h:QO s t c) (j:Nat):(melted s t c).qF[j]! =if c.toNat=j then false else t.qF[j]! :=by
  have:=h.cell;have:=h.state.1
  exact get_set _ _ _ _ qf
theorem QO.bags' (h:QO s t c) (j:Nat):(melted s t c).qG[j]! =if c.toNat=j then List.replicate s.xf.toNat 0 else if (xh s t c).toNat=j then vZ (t.qG[(xh s t c).toNat]!) (t.qG[c.toNat]!) 1 else t.qG[j]! :=by
  have:=h.cell;have:=h.state.2.1;have hp:=h.par
  show ((t.qG.set _ _).set _ _)[j]! =_
  rw [get_set _ _ _ _ (by rw [List.length_set];omega),get_set _ _ _ _ qf]
def Few5 (t:qA):Prop:=(∀ k,k < t.qG.length→∀ j,j < (t.qG[k]!).length→(t.qG[k]!)[j]! ≤5)∧∀ j,j < t.qH.length→t.qH[j]! ≤5
def QD (t:qA):Nat→yLI
  | 0=>t.qH
  | k+1=>vZ (QD t k) (t.qG[k]!) 1
theorem XT (t:qA):∀ k,(QD t k).length=t.qH.length
  | 0=>rfl
  | k+1=>by rw [QD,y7,XT t k]
def colTo (t:qA) (j:Nat):Nat→Int
  | 0=>0
  | k+1=>colTo t j k+(t.qG[k]!)[j]!
theorem allTo_get (t:qA) {j:Nat} (hj:j < t.qH.length):∀ k,(QD t k)[j]! =t.qH[j]! +colTo t j k
  | 0=>by simp [QD,colTo]
  | k+1=>by
    rw [QD,plusL_get (by rw [XT];exact hj),allTo_get t hj k,colTo]
    omega
theorem QO.lens (h:QO s t c) {k:Nat} (hk:k < s.qw.length):(t.qG[k]!).length=s.xf.toNat:=by
  have:=(h.state.bagLen (k:=k) (by rw [h.state.2.1];exact hk)).2
  omega
theorem QO.col (h:QO s t c) {j:Nat} (hj:j < s.xf.toNat):∀ k,colTo (melted s t c) j k=colTo t j k+(if (xh s t c).toNat < k then (t.qG[c.toNat]!)[j]! else 0) - (if c.toNat < k then (t.qG[c.toNat]!)[j]! else 0)
  | 0=>by simp [colTo]
  | k+1=>by
    have hp:=h.par
    have hc:=h.cell
    rw [colTo,colTo,QO.col h hj k,h.bags']
    by_cases e1:c.toNat=k
    · subst e1
      rw [if_pos rfl,rep_get,if_neg (show ¬ c.toNat < c.toNat by omega),if_pos (show c.toNat < c.toNat+1 by omega),if_pos (show (xh s t c).toNat < c.toNat by omega),if_pos (show (xh s t c).toNat < c.toNat+1 by omega)]
      omega
    · rw [if_neg e1]
      by_cases e2:(xh s t c).toNat=k
      · subst e2
        rw [if_pos rfl,plusL_get (by rw [h.lens qf];exact hj),if_neg (show ¬ (xh s t c).toNat < (xh s t c).toNat by omega),if_pos (show (xh s t c).toNat < (xh s t c).toNat+1 by omega),
          if_neg (show ¬ c.toNat < (xh s t c).toNat by omega),if_neg (show ¬ c.toNat < (xh s t c).toNat+1 by omega)]
        omega
      · rw [if_neg e2]
        have a1:((xh s t c).toNat < k+1)=((xh s t c).toNat < k):=by apply propext;omega
        have a2:(c.toNat < k+1)=(c.toNat < k):=by apply propext;omega
        simp only [a1,a2]
        omega
theorem QO.total (h:QO s t c):QD (melted s t c) s.qw.length=QD t s.qw.length:=by
  have hp:=h.par
  have hc:=h.cell
  have hl:(melted s t c).qH=t.qH:=rfl
  have hk:t.qH.length=s.xf.toNat:=by have:=h.state.2.2.2.1.2;omega
  apply List.ext_getElem
  · rw [XT,XT,hl]
  · intro j h1 h2
    rw [XT] at h2
    rw [← getElem!_pos,← getElem!_pos,allTo_get _ (by rw [hl];exact h2),allTo_get _ h2,h.col qf,if_pos qf,if_pos qf,hl]
    omega
theorem QO.ok (h:QO s t c) (hf:Few5 t):xJ s (melted s t c):=by
  have hp:=h.par
  have hc:=h.cell
  have ht:=h.state
  have e1:(melted s t c).qF.length=t.qF.length:=by simp [melted]
  have e2:(melted s t c).qG.length=t.qG.length:=by simp [melted]
  refine ⟨by rw [e1];exact ht.1,by rw [e2];exact ht.2.1,by rw [h.alive',if_neg (by have:=h.pos;omega)];exact ht.2.2.1,ht.2.2.2.1,fun k hk=>?_⟩
  rw [e2] at hk
  rw [h.bags',h.alive']
  have hkk:=ht.2.1
  by_cases g1:c.toNat=k
  · rw [if_pos g1,if_pos g1]
    have hK:=h.frame.1
    refine ⟨⟨⟨fun j hj=>by rw [rep_get];omega,by simp;omega,by simp;omega⟩,by simp;omega⟩,fun _=>?_⟩
    have hz:∀ n,sumTo (List.replicate s.xf.toNat 0) n=0:=by
      intro n
      induction n with
      | zero=>simp [sumTo]
      | succ n ih=>simp only [sumTo,ih,rep_get];omega
    unfold QJ
    rw [hz]
    omega
  · rw [if_neg g1,if_neg g1]
    by_cases g2:(xh s t c).toNat=k
    · rw [if_pos g2]
      subst g2
      have bp:=ht.bagLen hk
      have bc:=ht.bagLen (k:=c.toNat) qf
      refine ⟨⟨⟨fun j hj=>?_,by rw [y7];exact bp.1.2.1,by rw [y7];exact bp.1.2.2⟩,by rw [y7];exact bp.2⟩,fun hd=>?_⟩
      · rw [y7] at hj
        rw [plusL_get hj]
        have hj2:j < (t.qG[c.toNat]!).length:=by have:=bp.2;have:=bc.2;omega
        have a1:=bp.1.1 j hj
        have a2:=bc.1.1 j hj2
        have a3:=hf.1 _ hk j hj
        have a4:=hf.1 c.toNat qf j hj2
        omega
      · rw [hp.2.2] at hd;cases hd
    · rw [if_neg g2]
      exact ht.2.2.2.2 k hk
end
open Classical in
noncomputable def pnV (s:qy) (t:qA) (c:Int):Int:=if cellCodeOf s t c=0 then xh s t c else 0
open Classical in
noncomputable def kidsV (s:qy) (t:qA) (c:Int):yLI:=if cellCodeOf s t c=0 then kidsTo s t c s.qw.length else []
theorem colTo_any {s:qy} {t:qA} (h:xJ s t) {j:Nat} (hj:j < t.qH.length):∀ k,k≤t.qG.length→0≤colTo t j k∧colTo t j k≤1000 * (k:Int)
  | 0,_=>by simp [colTo]
  | k+1,hk=>by
    have h1:=colTo_any h hj k qf
    have h2:=h.bagLen (k:=k) qf
    have h3:=h2.1.1 j (by have:=h2.2;have:=h.2.2.2.1.2;omega)
    rw [colTo]
    omega
theorem all_mid {s:qy} {t:qA} (hs:jO s) (h:xJ s t) {k:Nat} (hk:k < t.qG.length):(QD t k).length≤(t.qG[k]!).length∧Mid (QD t k)∧Ve (t.qG[k]!) 1:=by
  have h0:=h.bagLen hk
  have hA:=h.2.2.2.1
  have hl:=hs.2.1
  have hb:=h.2.1
  refine ⟨by rw [XT];have:=h0.2;have:=hA.2;omega,⟨by rw [XT];have:=hA.1.2.2;omega,fun j hj=>?_⟩,bagOk_smallT h0 qf⟩
  rw [XT] at hj
  rw [allTo_get t hj]
  have h1:=colTo_any h hj k qf
  have h2:=hA.1.1 j hj
  omega
structure CanAdd (a b:yLI):Prop where
  one:Ql a
  two:Ql b
  len:a.length=b.length
  sum:Ql (vZ a b 1)
structure TreeAt (s:qy) (t:qA) (c:Int):Prop where
  code:(meltRes s t c).2=0
  cc:cellCodeOf s t c=0
  ok:vw s∧xJ s (meltRes s t c).1
  dead:(meltRes s t c).1.qF[c.toNat]! =false
  par:0≤pnV s t c∧pnV s t c < s.qw.length
  kids:∀ i,i < (kidsV s t c).length→cellCodeOf s (meltRes s t c).1 ((kidsV s t c)[i]!)=0∧pnV s (meltRes s t c).1 ((kidsV s t c)[i]!)=pnV s t c
  few:(kidsV s t c).length≤6
  total:QD (meltRes s t c).1 s.qw.length=QD t s.qw.length
  bag:Ql (QD t s.qw.length)
  add:CanAdd (t.qG[(pnV s t c).toNat]!) (t.qG[c.toNat]!)
  sum:vZ (t.qG[(pnV s t c).toNat]!) (t.qG[c.toNat]!) 1=(meltRes s t c).1.qG[(pnV s t c).toNat]!
def MildTo (l:List jy) (n:Nat):Prop:=∀ j,j < n→(l[j]!).zV=false
theorem MildTo.go {l:List jy} {i:Nat} (h:MildTo l i) (hi:i < l.length):MildTo (l.set i { l[i]! with zV:=false }) (i+1):=fun j hj=>by
  rw [getElem!_pos (l.set i _) j (by rw [List.length_set];omega),List.getElem_set]
  split
  · rfl
  · have:=h j qf
    rwa [getElem!_pos l j qf] at this
theorem MildTo.here {l:List jy} {i n:Nat} {b:yLI} (h:MildTo l n) (hi:i < l.length) (hn:n≤l.length):MildTo (l.set i { l[i]! with zC:=b }) n:=fun j hj=>by
  rw [getElem!_pos (l.set i _) j (by rw [List.length_set];omega),List.getElem_set]
  have h1:=h j hj
  split
  · rename_i e;subst e;exact h1
  · rwa [getElem!_pos l j qf] at h1
def OwnDr (n:Nat) (own:yLI):Prop:=
  own.length=n∧∃ m:Nat,1≤m∧m≤3∧m≤n∧(∀ j,j < own.length→0≤own[j]! ∧own[j]! < m)∧∀ q:Nat,q < m→∃ j,j < own.length∧own[j]! =q
def OwnTo (m:Int) (c:Nat) (own:yLI):Prop:=own.length=c∧∀ j,j < c→(0≤own[j]! ∧own[j]! < m)∧((j:Int) < m→own[j]! =j)
theorem OwnTo.nil (m:Int):OwnTo m 0 []:=⟨rfl,fun j hj=>by omega⟩
theorem OwnTo.snoc {m v:Int} {c:Nat} {own:yLI} (h:OwnTo m c own) (hv:0≤v∧v < m) (hc:(c:Int) < m→v=c):OwnTo m (c+1) (own++[v]):=by
  have hl:=h.1
  refine ⟨by simp [hl],fun j hj=>?_⟩
  rw [XD]
  by_cases h1:j < c
  · rw [if_pos qf];exact h.2 j h1
  · have e:j=c:=by omega
    subst e
    rw [if_neg qf,if_pos qf]
    exact ⟨hv,hc⟩
theorem OwnTo.ok {m:Int} {n:Nat} {own:yLI} (h:OwnTo m n own) (hm:1≤m∧m≤3) (hn:m≤n):OwnDr n own:=by
  have hl:=h.1
  refine ⟨hl,m.toNat,by omega,by omega,by omega,fun j hj=>?_,fun q hq=>⟨q,by omega,?_⟩⟩
  · have:=(h.2 j qf).1;omega
  · exact (h.2 q qf).2 qf
def TurnTo (m:Int) (c:Nat) (own own' :yLI):Prop:=own'.length=own.length∧∀ j,j < own.length→own'[j]! =if j < c then m - 1 - own[j]! else own[j]!
theorem TurnTo.zero (m:Int) (own:yLI):TurnTo m 0 own own:=⟨rfl,fun j _=>by rw [if_neg qf]⟩
theorem TurnTo.at' {m:Int} {c:Nat} {own own' :yLI} (h:TurnTo m c own own') (hc:c < own.length):own'[c]! =own[c]! :=by rw [h.2 c hc,if_neg qf]
theorem TurnTo.go {m:Int} {c:Nat} {own own' :yLI} (h:TurnTo m c own own') (hc:c < own.length):TurnTo m (c+1) own (own'.set c (m - 1 - own'[c]!)):=by
  have hl:=h.1
  refine ⟨by rw [List.length_set];exact hl,fun j hj=>?_⟩
  rw [getElem!_pos (own'.set c _) j (by rw [List.length_set];omega),List.getElem_set]
  by_cases e:c=j
  · subst e;rw [if_pos rfl,if_pos qf,h.at' hc]
  · have h1:=h.2 j hj
    rw [getElem!_pos own' j qf] at h1
    rw [if_neg e,h1]
    by_cases h2:j < c
    · rw [if_pos h2,if_pos qf]
    · rw [if_neg h2,if_neg qf]
theorem TurnTo.ok {m:Int} {n:Nat} {own own' :yLI} (t:TurnTo m n own own') (h:OwnTo m n own) (hm:1≤m∧m≤3) (hn:m≤n):OwnDr n own' :=by
  have hl:=h.1
  have tl:=t.1
  refine ⟨by omega,m.toNat,by omega,by omega,by omega,fun j hj=>?_,fun q hq=>⟨(m - 1 - q).toNat,by omega,?_⟩⟩
  · have h1:=(h.2 j qf).1
    rw [t.2 j qf,if_pos qf]
    omega
  · rw [t.2 _ qf,if_pos qf,(h.2 _ qf).2 qf]
    omega
theorem OwnTo.ok' {m:Int} {c n:Nat} {own:yLI} (h:OwnTo m c own) (e:c=n) (hm:1≤m∧m≤3) (hn:m≤n):OwnDr n own:=by subst e;exact h.ok hm hn
theorem TurnTo.ok' {m:Int} {d c n:Nat} {own own' :yLI} (t:TurnTo m d own own') (h:OwnTo m c own) (e:c=n) (e' :d=n) (hm:1≤m∧m≤3) (hn:m≤n):OwnDr n own' :=by subst e;subst e';exact t.ok h hm hn
def AllTo (alive:List Bool):Prop:=∀ j,j < alive.length→alive[j]! =true
theorem AllTo.nil:AllTo []:=fun j hj=>by simp at hj
theorem AllTo.snoc {alive:List Bool} (h:AllTo alive):AllTo (alive++[true]):=fun j hj=>by
  rw [XD]
  by_cases h1:j < alive.length
  · rw [if_pos h1];exact h j h1
  · rw [if_neg h1,if_pos (by simp at hj;omega)]
end
section
open Go.RowKit
set_option linter.unusedVariables false
section
variable {W0 w : World} {ps : List Prv} {Γ : List Fact}
theorem own_at (H:St W0 w ps Γ) (i:Nat) {v:Value} {e:TypeId} {m:Nat} {z:yLI} (hq:ps[i]? =some (.row v e 1 m (z.map (Value.int .i64)))):
    ∃ G,OwnAt e w G v z∧(∀ x∈G,jF ps i=some x)∧jT w G∧G.Nodup:=by
  have ho:=(H.has _ (List.mem_of_getElem? hq):w.ownsRow W0.heap.size e 1 v m (z.map (Value.int .i64)))
  have hm:m=z.length:=by have:=ho.1;simp at this;omega
  subst hm
  rcases ho.2 with ⟨rfl,h0⟩ | ⟨g,cap,cur,rfl,hb,hg,hnc,hcm,hcs,htake⟩
  · exact ⟨[],Or.inl ⟨rfl,List.eq_nil_of_length_eq_zero h0,rfl⟩,by simp,jT.nil _,by simp⟩
  · refine ⟨[g],Or.inr ⟨g,cap,cur,rfl,rfl,hg,hnc,hcm,by omega,by rw [Nat.mul_one] at htake;exact htake⟩,fun x hx=>?_,fun x hx=>?_,by simp⟩
    · obtain rfl:=List.mem_singleton.1 hx
      simp [jF,hq,Prv.blk,Value.ownBlock]
    · obtain rfl:=List.mem_singleton.1 hx
      exact ⟨_,_,hg⟩
theorem dead_at {i:Nat} {p:Prv} (hq:ps[i]? =some p):∀ (b' i' :Nat),jF (ps.set i (.row (Sv none 0 0) 0 1 0 [])) i' =some b' →i' ≠i∧jF ps i' =some b' :=by
  intro b' i' h
  unfold jF at h ⊢
  by_cases hi:i' =i
  · subst hi
    rw [set_at hq] at h
    simp [Prv.blk,Value.ownBlock] at h
  · rw [List.getElem?_set_ne (Ne.symm hi)] at h
    exact ⟨hi,h⟩
theorem St.snocI {e:TypeId} (H:St W0 w ps Γ) (i:Nat) {v:Value} {m:Nat} {z:yLI} (hq:ps[i]? =some (.row v e 1 m (z.map (Value.int .i64)))) (j:Nat) {F:yLN} {xs:List Value} {l:List (OwnI e)} (hf:Γ[j]? =some (qX true F xs l))
    {L:List yLN} (N:Fresh W0.heap.size (F :: L)) (ha:∀ K∈L,∀ b∈K,∀ i,jF ps i≠some b):
    ∃ F',Fresh W0.heap.size (F' :: L)∧St W0 w (ps.set i (.row (Sv none 0 0) 0 1 0 [])) (qX true F' (xs++[v]) (l++[⟨z⟩]) :: Γ):=by
  have hF:=(H.facts _ (List.mem_of_getElem? hf)).2
  obtain ⟨G,hG,hGb,hGf,hgn⟩:=own_at H i hq
  have hGF:∀ x∈G,x∉F:=fun x hx h=>(hF x h).2 i (hGb x hx)
  have hGL:∀ K∈L,∀ x∈K,x∉G:=fun K hK x hx h=>ha K hK x hx i (hGb x h)
  have hge:∀ x∈G,W0.heap.size≤x:=fun x hx=>(QI H (hGb x hx)).1
  have hset:=dead_at hq
  refine ⟨F++G,⟨fun K hK=>?_,fun K hK x hx=>?_,?_⟩,?_⟩
  · rcases List.mem_cons.1 hK with rfl | h
    · exact List.nodup_append.2 ⟨N.nd F qm,hgn,fun x hx y hy e=>hGF y hy (e▸hx)⟩
    · exact N.nd K (List.mem_cons_of_mem _ h)
  · rcases List.mem_cons.1 hK with rfl | h
    · rcases List.mem_append.1 hx with h | h
      · exact N.ge F qm x h
      · exact hge x h
    · exact N.ge K (List.mem_cons_of_mem _ h) x hx
  · have hd:=List.pairwise_cons.1 N.dj
    refine List.pairwise_cons.2 ⟨fun K hK x hx=>?_,hd.2⟩
    rcases List.mem_append.1 hx with h | h
    · exact hd.1 K hK x h
    · exact fun hxK=>hGL K hK x hxK h
  · refine (H.dead i hq).add _ ⟨y8 (H.get j hf).1 (reps_one (show qU.rep w G [v] (⟨z⟩:OwnI e) from ⟨v,rfl,hG⟩)),fun _ x hx=>?_⟩ fun x hx=>?_
    · rcases List.mem_append.1 hx with h | h
      · exact (H.get j hf).2 rfl x h
      · exact hGf x h
    · rcases List.mem_append.1 hx with h | h
      · exact ⟨(hF x h).1,fun i' hi' =>(hF x h).2 i' (hset x i' hi').2⟩
      · exact ⟨(QI H (hGb x h)).2,fun i' hi' =>(hset x i' hi').1 (H.dist i' i x (hset x i' hi').2 (hGb x h))⟩
theorem St.closeI {e:TypeId} (H:St W0 w ps Γ) (i:Nat) {v:Value} {m:Nat} {z:yLI} (hq:ps[i]? =some (.row v e 1 m (z.map (Value.int .i64)))) (j:Nat) {F:yLN} {xs:List Value} {l:List (OwnI e)} {c:Nat} (hf:Γ[j]? =some (qX true F (xs.set c (Sv none 0 0)) l))
    {L:List yLN} (N:Fresh W0.heap.size (F :: L)) (ha:∀ K∈L,∀ b∈K,∀ i,jF ps i≠some b) (h2:c < xs.length):
    ∃ F',Fresh W0.heap.size (F' :: L)∧St W0 w (ps.set i (.row (Sv none 0 0) 0 1 0 [])) (qX true F' (xs.set c v) (l.set c ⟨z⟩) :: Γ):=by
  have hF:=(H.facts _ (List.mem_of_getElem? hf)).2
  obtain ⟨G,hG,hGb,hGf,hgn⟩:=own_at H i hq
  have hset:=dead_at hq
  have hll:(xs.set c (Sv none 0 0)).length=l.length * 1:=XV (H.get j hf).1
  rw [List.length_set] at hll
  obtain ⟨F',hr,hs1,hs2⟩:=reps_set (H.get j hf).1 (show qU.rep w G [v] (⟨z⟩:OwnI e) from ⟨v,rfl,hG⟩) c qf
  have e1:(xs.set c (Sv none 0 0)).take (c * qU.size (OwnI e))++[v]++(xs.set c (Sv none 0 0)).drop (c * qU.size (OwnI e)+[v].length)=xs.set c v:=by
    show (xs.set c (Sv none 0 0)).take (c * 1)++[v]++(xs.set c (Sv none 0 0)).drop (c * 1+1)=xs.set c v
    rw [Nat.mul_one,List.take_set_of_le (Nat.le_refl _),List.drop_set_of_lt qf,List.set_eq_take_append_cons_drop,if_pos qf]
    simp
  rw [e1] at hr
  have hGF:∀ x∈G,x∉F:=fun x hx h=>(hF x h).2 i (hGb x hx)
  have hGL:∀ K∈L,∀ x∈K,x∉G:=fun K hK x hx h=>ha K hK x hx i (hGb x h)
  have hge:∀ x∈G,W0.heap.size≤x:=fun x hx=>(QI H (hGb x hx)).1
  refine ⟨F',⟨fun K hK=>?_,fun K hK x hx=>?_,?_⟩,?_⟩
  · rcases List.mem_cons.1 hK with rfl | h
    · exact hs2 (N.nd F qm) hgn fun x hx h=>hGF x h hx
    · exact N.nd K (List.mem_cons_of_mem _ h)
  · rcases List.mem_cons.1 hK with rfl | h
    · rcases hs1 x hx with h | h
      · exact N.ge F qm x h
      · exact hge x h
    · exact N.ge K (List.mem_cons_of_mem _ h) x hx
  · have hd:=List.pairwise_cons.1 N.dj
    refine List.pairwise_cons.2 ⟨fun K hK x hx=>?_,hd.2⟩
    rcases hs1 x hx with h | h
    · exact hd.1 K hK x h
    · exact fun hxK=>hGL K hK x hxK h
  · refine (H.dead i hq).add _ ⟨hr,fun _ x hx=>?_⟩ fun x hx=>?_
    · rcases hs1 x hx with h | h
      · exact (H.get j hf).2 rfl x h
      · exact hGf x h
    · rcases hs1 x hx with h | h
      · exact ⟨(hF x h).1,fun i' hi' =>(hF x h).2 i' (hset x i' hi').2⟩
      · exact ⟨(QI H (hGb x h)).2,fun i' hi' =>(hset x i' hi').1 (H.dist i' i x (hset x i' hi').2 (hGb x h))⟩
theorem inner_get {e:TypeId} (H:St W0 w ps Γ) (j:Nat) {F:yLN} {xs:List Value} {l:List (OwnI e)} (hf:Γ[j]? =some (qX true F xs l)) (c:Nat) (hc:c < l.length):
    ∃ G v,xs[c]? =some v∧OwnAt e w G v (l[c]!).l∧∀ x∈G,x∈F:=by
  obtain ⟨F1,Fk,F2,v1,cs,v2,hFe,hxe,hl1,hl2,⟨u,rfl,hu⟩,_,_⟩:=reps_get (H.get j hf).1 c hc
  have hl1' :v1.length=c:=by rw [hl1];exact Nat.mul_one _
  refine ⟨Fk,u,?_,by rw [getElem!_pos l c hc];exact hu,fun x hx=>by rw [hFe];simp [hx]⟩
  refine (congrArg (fun z:List Value=>z[c]?) hxe).trans ?_
  show (v1++[u]++v2)[c]? =_
  rw [List.append_assoc,List.getElem?_append_right qf]
  simp [hl1']
theorem St.innerHead {e:TypeId} (H:St W0 w ps Γ) (j:Nat) {F:yLN} {xs:List Value} {l:List (OwnI e)} (hf:Γ[j]? =some (qX true F xs l)) (c:Nat) (hc:c < l.length):∃ a m,xs[c]? =some (Sv a (l[c]!).l.length m):=by
  obtain ⟨G,v,h1,h2,_⟩:=inner_get H j hf c hc
  obtain ⟨a,m,rfl⟩:=h2.slice
  exact ⟨a,m,h1⟩
theorem St.innerAddr {e:TypeId} (H:St W0 w ps Γ) (j:Nat) {F:yLN} {xs:List Value} {l:List (OwnI e)} (hf:Γ[j]? =some (qX true F xs l)) (c:Nat) (hc:c < l.length) {a:yOA} {n m:Nat} (hx:xs[c]? =some (Sv a n m)) (h0:0 < (l[c]!).l.length):
    ∃ g,a=some ⟨g,0,none⟩:=by
  obtain ⟨G,v,h1,h2,_⟩:=inner_get H j hf c hc
  rw [hx] at h1
  obtain rfl:=Option.some.inj h1
  rcases h2 with ⟨_,h,_⟩ | ⟨g,cap,cur,h,_⟩
  · rw [h] at h0;simp at h0
  · simp only [Value.slice.injEq] at h
    exact ⟨g,h.1⟩
theorem St.innerInt {e:TypeId} (H:St W0 w ps Γ) (j:Nat) {F:yLN} {xs:List Value} {l:List (OwnI e)} (hf:Γ[j]? =some (qX true F xs l)) (c:Nat) (hc:c < l.length) {g n m:Nat} (hx:xs[c]? =some (Sv (some ⟨g,0,none⟩) n m)) {iv:Int} {k:Nat} (hk:iv.toNat=k) (h1:k < (l[c]!).l.length):
    w.cell? ⟨g,0+iv.toNat * 1,none⟩=some (.int .i64 ((l[c]!).l[k]!)):=by
  subst hk
  obtain ⟨G,v,h1',h2,_⟩:=inner_get H j hf c hc
  rw [hx] at h1'
  obtain rfl:=Option.some.inj h1'
  rcases h2 with ⟨h,_,_⟩ | ⟨g',cap,cur,h,_,hh,_,_,_,ht⟩
  · simp at h
  · simp only [Value.slice.injEq,Option.some.injEq,Addr.mk.injEq,and_true] at h
    obtain ⟨rfl,_,_⟩:=h
    rw [Nat.zero_add,Nat.mul_one,World.cell?,hh]
    have h3:((l[c]!).l.map (Value.int .i64))[iv.toNat]? =some (.int .i64 ((l[c]!).l[iv.toNat]!)):=by
      rw [List.getElem?_map,List.getElem?_eq_getElem h1,getElem!_pos (l[c]!).l iv.toNat h1];rfl
    rw [← ht,List.getElem?_take,if_pos h1] at h3
    simpa using h3
theorem St.innerRep {e:TypeId} (H:St W0 w ps Γ) (j:Nat) {F:yLN} {xs:List Value} {l:List (OwnI e)} (hf:Γ[j]? =some (qX true F xs l)) (c:Nat) (hc:c < l.length) {a:yOA} {n m:Nat} (hx:xs[c]? =some (Sv a n m)):
    ∃ G,n=(l[c]!).l.length∧qU.rep w G [Sv a (l[c]!).l.length m] (l[c]!).l:=by
  obtain ⟨G,v,h1,h2,_⟩:=inner_get H j hf c hc
  rw [hx] at h1
  obtain rfl:=Option.some.inj h1
  have h3:=h2.rep
  obtain ⟨a',m',h4⟩:=h2.slice
  simp only [Value.slice.injEq] at h4
  obtain ⟨rfl,rfl,rfl⟩:=h4
  exact ⟨G,rfl,h3⟩
end
section
variable {P : Program} {Q : Exit → Act → World → Prop} {n : Nat} {ρ : Env} {W0 w : World} {ps : List Prv} {Γ : List Fact}
  {d:Nat} {ty:TypeId} {pos:String} {af:Array Edge} {K:Env→World→Prop}
theorem o_storeII {t e e2:TypeId} {x y:Operand} {b c' :Nat} {nn:Nat} {xs:List Value} (H:St W0 w ps Γ) (k:Nat) (hp:ps[k]? =some (.row (Sv (some ⟨b,0,none⟩) nn c') e2 1 nn xs)) (j:Nat) {F:yLN} {l:List (OwnI e)} (hf:Γ[j]? =some (qX true F xs l))
    {L:List yLN} (N:Fresh W0.heap.size (F :: L)) (ha:∀ K∈L,∀ b∈K,∀ i,jF ps i≠some b) (Γ' :List Fact) (hΓ:∀ f∈Γ',f∈Γ∧∀ x∈f.F,x∉F)
    (c:Nat) (hc:c < nn) {g m m' :Nat} (hx:xs[c]? =some (Sv (some ⟨g,0,none⟩) m m')) {iv:Int} {q:Nat} (u:Int) (hs:∀ w,(Go.sizeOf t).run P w=.ok 1 w)
    (hxp:ev n ρ x=.pointer (some ⟨g,0+iv.toNat * 1,none⟩)) (hy:ev n ρ y=.int .i64 u) (hq:iv.toNat=q) (h2:q < (l[c]!).l.length)
    (kk:∀ w' F',Fresh W0.heap.size (F' :: L)→St W0 w' ps (qX true F' xs (l.set c ⟨(l[c]!).l.set q u⟩) :: Γ')→K ρ w'):
    OW P Q ⟨none,.store t x y,ty,pos,af,none⟩ n ρ w K:=by
  have hxl:=H.rowLen k hp
  have hnl:nn=l.length:=H.rowCountO k hp j hf
  have hF:=(H.facts _ (List.mem_of_getElem? hf)).2
  obtain ⟨a,mm,F1,hcell,N1,H1⟩:=H.openI k hp j hf N (iv:=(c:Int)) c rfl hc Γ' hΓ
  have hcell' :w.cell? ⟨b,c,none⟩=some (Sv (some ⟨g,0,none⟩) m m'):=H.rowGet k hp hx
  have ec:(0:Nat)+((c:Int)).toNat * 1=c:=by omega
  rw [ec,hcell'] at hcell
  simp only [Option.some.injEq,Value.slice.injEq] at hcell
  obtain ⟨rfl,rfl,rfl⟩:=hcell
  refine Va H1 0 rfl u hs hxp hy hq h2 fun w1 H2=>?_
  -- the blocks of the others are others
  obtain ⟨G,hG,hGb,_,_⟩:=own_at H2 0 rfl
  have hgG:G=[g]:=by
    rcases hG with ⟨h,_,_⟩ | ⟨g',cap,cur,h,h',_⟩
    · simp at h
    · simp only [Value.slice.injEq,Option.some.injEq,Addr.mk.injEq,and_true] at h
      rw [h',h.1]
  have hgF:g∈F:=by
    obtain ⟨G',v,h1,h3,h4⟩:=inner_get H j hf c qf
    rw [hx] at h1
    obtain rfl:=Option.some.inj h1
    rcases h3 with ⟨h,_,_⟩ | ⟨g',cap,cur,h,h',_⟩
    · simp at h
    · simp only [Value.slice.injEq,Option.some.injEq,Addr.mk.injEq,and_true] at h
      rw [h.1];exact h4 g' (by rw [h'];simp)
  have ha1:∀ K∈L,∀ x∈K,∀ i,jF ((.row (Sv (some ⟨g,0,none⟩) (l[c]!).l.length m') e 1 (l[c]!).l.length (((l[c]!).l.set q u).map (Value.int .i64))) :: ps) i≠some x:=by
    intro K hK x hx' i
    cases i with
    | zero=>
      intro h
      have h' :g=x:=by simpa [jF,Prv.blk,Value.ownBlock] using h
      subst h'
      exact (List.pairwise_cons.1 N.dj).1 K hK g hgF hx'
    | succ i=>exact ha K hK x hx' i
  obtain ⟨F2,N2,H3⟩:=H2.closeI 0 rfl 0 rfl N1 ha1 qf
  have e1:xs.set c (Sv (some ⟨g,0,none⟩) (l[c]!).l.length m')=xs:=by
    refine List.ext_getElem? fun i=>?_
    by_cases hi:c=i
    · subst hi;rw [List.getElem?_set_self qf,hx]
    · rw [List.getElem?_set_ne hi]
  have e2' :(l.set c ⟨[]⟩).set c (⟨(l[c]!).l.set q u⟩:OwnI e)=l.set c ⟨(l[c]!).l.set q u⟩:=by rw [List.set_set]
  rw [e1,e2'] at H3
  have H4:St W0 w1 ps (qX true F2 xs (l.set c ⟨(l[c]!).l.set q u⟩) :: Γ'):=by
    refine (H3.erases [0]).sub _ fun f hf' =>?_
    rcases List.mem_cons.1 hf' with rfl | h
    · exact List.mem_cons_self ..
    · exact List.mem_cons_of_mem _ (List.mem_cons_of_mem _ h)
  exact kk w1 F2 N2 H4
end
section
variable {B : Nat} {F : yLN} {L : List yLN}
theorem away_new (N:Fresh B (F :: L)) (i:Nat) {G:yLN} (h:L[i]? =some G):∀ x∈G,x∉F:=fun x hx hF=>(List.pairwise_cons.1 N.dj).1 G (List.mem_of_getElem? h) x hF hx
theorem kept {Γ:List Fact} (j:Nat) {f:Fact} (hf:Γ[j]? =some f) (h:∀ x∈f.F,x∉F):f∈Γ∧∀ x∈f.F,x∉F:=⟨List.mem_of_getElem? hf,h⟩
theorem keeps_nil {Γ:List Fact}:∀ f∈([]:List Fact),f∈Γ∧∀ x∈f.F,x∉F:=fun f hf=>by cases hf
theorem xA {Γ Δ:List Fact} {f:Fact} (h:f∈Γ∧∀ x∈f.F,x∉F) (k:∀ f∈Δ,f∈Γ∧∀ x∈f.F,x∉F):∀ g∈f :: Δ,g∈Γ∧∀ x∈g.F,x∉F:=fun g hg=>by
  rcases List.mem_cons.1 hg with rfl | hg
  · exact h
  · exact k g hg
end
theorem St.rebase {W0 w:World} {ps:List Prv} {Γ:List Fact} (H:St W0 w ps Γ) (Δ:List Fact) (h:∀ f∈Δ,f.φ w∧∀ b∈f.F,b < w.heap.size):St w w [] Δ:=
  ⟨Below.refl _ _,by simp,by intro i j b hi;simp [jF] at hi,fun f hf=>⟨(h f hf).1,fun b hb=>⟨(h f hf).2 b hb,fun i=>by simp [jF]⟩⟩⟩
theorem XB {W0 w:World} {ps:List Prv} {Γ:List Fact} (H:St W0 w ps Γ) (j:Nat) {f:Fact} (hf:Γ[j]? =some f):f.φ w∧∀ b∈f.F,b < w.heap.size:=⟨H.get j hf,fun b hb=>((H.facts f (List.mem_of_getElem? hf)).2 b hb).1⟩
theorem old_box {W0 w:World} {ps:List Prv} {Γ:List Fact} (H:St W0 w ps Γ) (k:Nat) {b:Nat} {cs:List Value} {t:TypeId} (hp:ps[k]? =some (.box b cs t)):(atF b 0 cs).φ w∧∀ x∈(atF b 0 cs).F,x < w.heap.size:=
  ⟨H.cells k hp,fun x hx=>by
    have hx' :x=b:=by simpa [atF] using hx
    subst hx'
    exact ((H.has _ (List.mem_of_getElem? hp)).lt rfl).2⟩
theorem olds_nil {w:World}:∀ f∈([]:List Fact),f.φ w∧∀ b∈f.F,b < w.heap.size:=fun f hf=>by cases hf
theorem Qi {w:World} {Δ:List Fact} {f:Fact} (h:f.φ w∧∀ b∈f.F,b < w.heap.size) (k:∀ f∈Δ,f.φ w∧∀ b∈f.F,b < w.heap.size):∀ g∈f :: Δ,g.φ w∧∀ b∈g.F,b < w.heap.size:=fun g hg=>by
  rcases List.mem_cons.1 hg with rfl | hg
  · exact h
  · exact k g hg
theorem zK {B:Nat} {F G:yLN} {L:List yLN} (h:∀ b∈G,b < B) (N:Fresh B (F :: L)):∀ x∈G,x∉F:=fun x hx hF=>by
  have h1:=h x hx
  have h2:=N.ge F qm x hF
  omega
theorem St.ltF {W0 w:World} {ps:List Prv} {Γ:List Fact} (H:St W0 w ps Γ) (i:Nat) {f:Fact} (hf:Γ[i]? =some f):∀ b∈f.F,b < w.heap.size:=fun b hb=>((H.facts f (List.mem_of_getElem? hf)).2 b hb).1
theorem St.oldies {W0 w:World} {ps:List Prv} {Γ Δ:List Fact} (H:St W0 w ps Γ) (HB:St W0 W0 [] Δ) (n:Nat):St W0 w ps (Δ.take n++Γ):=
  ⟨H.base,H.has,H.dist,fun f hf=>by
    rcases List.mem_append.1 hf with h | h
    · have h1:=HB.facts f (List.mem_of_mem_take h)
      exact ⟨f.stay W0 w h1.1 fun b hb=>H.base.block b (h1.2 b hb).1,fun b hb=>⟨Nat.lt_of_lt_of_le (h1.2 b hb).1 H.base.size,fun i hi=>by
        have h2:=(QI H hi).1
        have h3:=(h1.2 b hb).1
        omega⟩⟩
    · exact H.facts f h⟩
end
section

def sumN (f:Nat→Int):Nat→Int
  | 0=>0
  | n+1=>sumN f n+f n
theorem sumN_zero (n:Nat):sumN (fun _=>0) n=0:=by
  induction n with
  | zero=>rfl
  | succ n ih=>rw [sumN,ih];rfl
theorem sumN_add (f g:Nat→Int) (n:Nat):sumN (fun c=>f c+g c) n=sumN f n+sumN g n:=by
  induction n with
  | zero=>rfl
  | succ n ih=>rw [sumN,sumN,sumN,ih];omega
theorem sumN_one (x v:Int) (n:Nat):sumN (fun c=>if x=(c:Int) then v else 0) n=if 0≤x∧x < n then v else 0:=by
  induction n with
  | zero=>rw [sumN,if_neg qf]
  | succ n ih=>
    rw [sumN,ih]
    by_cases e:x=(n:Int)
    · rw [if_neg qf,if_pos e,if_pos qf];omega
    · rw [if_neg e]
      by_cases h:0≤x∧x < n
      · rw [if_pos h,if_pos qf];omega
      · rw [if_neg h,if_neg qf];rfl
theorem puts_sum {s:qy} {t:qA} {counts:yLI} {n:Nat} (p q:Nat):∀ k,(∀ i,i < k→0≤(s.qx[i]!).qE∧(s.qx[i]!).qE < (n:Int))→
    sumN (fun c=>putsOf s t counts (c:Int) k p q) n=putS s t counts k p q
  | 0,_=>by simp only [putsOf,putS,sumN_zero]
  | k+1,h=>by
    have ih:=puts_sum (t:=t) (counts:=counts) p q k fun i hi=>h i qf
    simp only [putsOf,putS]
    rw [sumN_add,ih,sumN_one,if_pos (h k qf)]
theorem due_step {s:qy} {t:qA} {counts:yLI} (hs:vw s) (p q:Nat):
    base0 s t p q+needS s counts s.qx.length p q+sumN (fun c=>putsOf s t counts (c:Int) s.qx.length p q) (xB s)=stepF s t counts p q:=by
  rw [puts_sum p q _ fun i hi=>?_]
  · rw [stepF,allS_eq];omega
  · have:=(hs.2.2 i hi).1.1
    have hn:xB s=s.qw.length:=rfl
    unfold CellIn at this
    omega
theorem still_down {s:qy} {counts:yLI} {u:qA} (h:∀ i,i < s.qx.length→(s.qx[i]!).zV=false):∀ j,xG s counts u j=u
  | 0=>rfl
  | j+1=>by
    rw [X3 (fun hm=>?_) rfl]
    · exact still_down h j
    · obtain ⟨i,h1,_,h3,_⟩:=hm
      rw [h i h1] at h3;cases h3

theorem Vb {s:qy} {counts:yLI} (hs:vw s) (hc:Xx s counts) (p q:Nat) (hq:q < xY s):∀ k,k≤s.qx.length→needS s counts k p q≤0
  | 0,_=>by simp [needS]
  | k+1,h=>by
    have ih:=Vb hs hc p q hq k qf
    have hb:=hc.bd (i:=k) qf
    have hn:=(hs.rule (i:=k) qf).2.2.2.2.1
    have hg:=hn.get (k:=q) (by rw [hn.len];exact hq)
    rw [needS]
    have:needF s counts k p q≤0:=by
      unfold needF at'
      split
      · have:=Int.mul_nonneg hb.1 hg.1
        rw [Int.neg_mul];omega
      · exact Int.le_refl _
    omega
theorem needS_one {s:qy} {counts:yLI} (hs:vw s) (hc:Xx s counts) (p q:Nat) (hq:q < xY s):∀ k,k≤s.qx.length→∀ i,i < k→needS s counts k p q≤needF s counts i p q
  | 0,_,i,hi=>by omega
  | k+1,h,i,hi=>by
    have hz:=Vb hs hc p q hq k qf
    have hz' :=Vb hs hc p q hq (k+1) h
    rw [needS] at hz' ⊢
    by_cases e:i=k
    · subst e;omega
    · have ih:=needS_one hs hc p q hq k qf i qf
      have hb:=hc.bd (i:=k) qf
      have hn:=(hs.rule (i:=k) qf).2.2.2.2.1
      have hg:=hn.get (k:=q) (by rw [hn.len];exact hq)
      have:needF s counts k p q≤0:=by
        unfold needF at'
        split
        · have:=Int.mul_nonneg hb.1 hg.1
          rw [Int.neg_mul];omega
        · exact Int.le_refl _
      omega
theorem needS_around {s:qy} {counts:yLI} (hs:vw s) (q:Nat):∀ k,k≤s.qx.length→needS s counts k (xB s) q=0
  | 0,_=>rfl
  | k+1,h=>by
    have hr:=(hs.rule (i:=k) qf).cell
    rw [needS,needS_around hs q k qf]
    unfold needF at'
    rw [if_neg qf];rfl
theorem sum_some {l:yLI} (h0:∀ k,k < l.length→0≤l[k]!) (h:QJ l≠0):∃ k,k < l.length∧1≤l[k]! :=by
  apply Classical.byContradiction
  intro hn
  have hz:∀ k,k < l.length→l[k]! =0:=fun k hk=>by
    have h1:=h0 k hk
    have h2:¬ 1≤l[k]! :=fun x=>hn ⟨k,hk,x⟩
    omega
  have:∀ n,n≤l.length→sumTo l n=0:=by
    intro n
    induction n with
    | zero=>intro _;simp [sumTo]
    | succ n ih=>intro hk;simp only [sumTo,ih qf,hz n qf];rfl
  exact h (this _ (Nat.le_refl _))
def FewM (M:Int) (s:qy) (t:qA):Prop:=∀ p q,p≤xB s→q < xY s→base0 s t p q≤M
def PutsD (D:Int) (s:qy):Prop:=∀ i,i < s.qx.length→∀ q,q < xY s→((s.qx[i]!).zC)[q]! ≤D∧((s.qx[i]!).jI)[q]! ≤D∧∀ j,j < (s.qx[i]!).qO.length→(((s.qx[i]!).qO[j]!).Qm)[q]! ≤D
theorem rest_get {s:qy} {t:qA} {counts:yLI} (hs:vw s) (ht:xJ s t) (hc:Xx s counts) (h:IsCh s t counts) {p q:Nat} (hp:p < xB s) (hq:q < xY s):0≤base0 s t p q+needS s counts s.qx.length p q:=by
  have e:=(restR_ent hs ht hc s.qx.length (Nat.le_refl _)).eq p q hp hq
  have hl:=((restR_ent hs ht hc s.qx.length (Nat.le_refl _)).sh.2 p hp).1
  have hn:=h.2
  rw [hc.1] at hn
  have:=hn p (by rw [ht.2.1];exact hp) q (by rw [hl];exact hq)
  rw [e] at this
  unfold base0
  rw [if_pos hp]
  exact this
theorem cnt_few {s:qy} {t:qA} {counts:yLI} {M:Int} (hs:vw s) (ht:xJ s t) (hc:Xx s counts) (h:IsCh s t counts) (hM:FewM M s t) {i:Nat} (hi:i < s.qx.length):counts[i]! ≤M:=by
  have hr:=hs.rule hi
  have hn:=hr.2.2.2.2.1
  obtain ⟨k,hk,h1⟩:=sum_some (fun k hk=>(hn.get hk).1) hr.2.2.2.2.2.2.2.2.2.1
  have hq:k < xY s:=by rw [hn.len] at hk;exact hk
  have hp:=hr.cell
  have e1:=rest_get hs ht hc h hp hq
  have e2:=needS_one hs hc (s.qx[i]!).qE.toNat k hq s.qx.length (Nat.le_refl _) i hi
  have e3:=hM (s.qx[i]!).qE.toNat k qf hq
  have e4:needF s counts i (s.qx[i]!).qE.toNat k= -(counts[i]! * ((s.qx[i]!).xM)[k]!):=by
    unfold needF at'
    rw [if_pos rfl,Int.neg_mul]
  have hb:=hc.bd hi
  have e5:=Int.mul_le_mul_of_nonneg_left h1 hb.1
  omega
theorem at_bd {p c:Nat} {x B:Int} (h:0≤x∧x≤B):0≤at' p c x∧at' p c x≤B:=by
  unfold at'
  split <;> omega
theorem mul_bd {c m M D:Int} (hc:0≤c∧c≤M) (hm:0≤m∧m≤D):0≤c * m∧c * m≤M * D:=by
  refine ⟨Int.mul_nonneg hc.1 hm.1,?_⟩
  have h1:=Int.mul_le_mul_of_nonneg_left hm.2 hc.1
  have h2:=Int.mul_le_mul_of_nonneg_right hc.2 (show 0≤D by omega)
  omega
theorem putF_bd {s:qy} {t:qA} {M D c:Int} (hs:vw s) (hD:PutsD D s) {i:Nat} (hi:i < s.qx.length) (hc:0≤c∧c≤M) (p q:Nat) (hq:q < xY s):0≤putF s t (s.qx[i]!) c p q∧putF s t (s.qx[i]!) c p q≤5 * (M * D):=by
  have hr:=hs.rule hi
  obtain ⟨d1,d2,d3⟩:=hD i hi q hq
  have b1:=hr.2.2.2.2.2.2.2.1
  have b2:=hr.2.2.2.2.2.2.2.2.1
  have h1:=at_bd (p:=p) (c:=(s.qx[i]!).qE.toNat) (mul_bd hc ⟨(b1.get (k:=q) (by rw [b1.len];exact hq)).1,d1⟩)
  have h2:=at_bd (p:=p) (c:=outPl s t (s.qx[i]!)) (mul_bd hc ⟨(b2.get (k:=q) (by rw [b2.len];exact hq)).1,d2⟩)
  have hI:∀ j,j≤(s.qx[i]!).qO.length→0≤Vf (s.qx[i]!) c j p q∧Vf (s.qx[i]!) c j p q≤(j:Int) * (M * D):=by
    intro j
    induction j with
    | zero=>intro _;simp [Vf]
    | succ j ih=>
      intro hj
      have hio:=hr.2.2.2.2.2.2.2.2.2.2 j qf
      have b3:=hio.2.2.1
      have h3:=at_bd (p:=p) (c:=((s.qx[i]!).qO[j]!).qE.toNat) (mul_bd hc ⟨(b3.get (k:=q) (by rw [b3.len];exact hq)).1,d3 j qf⟩)
      have:=ih qf
      rw [Vf]
      have e:((j+1:Nat):Int) * (M * D)=(j:Int) * (M * D)+M * D:=by push_cast;rw [Int.add_mul,Int.one_mul]
      rw [e]
      omega
  have h4:=hI _ (Nat.le_refl _)
  have hl:=hr.2.2.2.1
  have hMD:0≤M * D:=by omega
  have h5:((s.qx[i]!).qO.length:Int) * (M * D)≤3 * (M * D):=Int.mul_le_mul_of_nonneg_right qf hMD
  unfold putF
  omega
theorem putS_bd {s:qy} {t:qA} {M D:Int} {counts:yLI} (hs:vw s) (hD:PutsD D s) (hc:∀ i,i < s.qx.length→0≤counts[i]! ∧counts[i]! ≤M) (p q:Nat) (hq:q < xY s):∀ k,k≤s.qx.length→0≤putS s t counts k p q∧putS s t counts k p q≤(k:Int) * (5 * (M * D))
  | 0,_=>by simp [putS]
  | k+1,h=>by
    have ih:=putS_bd (t:=t) hs hD hc p q hq k qf
    have:=putF_bd (t:=t) hs hD (i:=k) qf (hc k qf) p q hq
    rw [putS]
    have e:((k+1:Nat):Int) * (5 * (M * D))=(k:Int) * (5 * (M * D))+5 * (M * D):=by push_cast;rw [Int.add_mul,Int.one_mul]
    rw [e]
    omega
theorem step_few {s:qy} {t:qA} {counts:yLI} (hs:vw s) (ht:xJ s t) (hc:Xx s counts) (h:IsCh s t counts) (hM:FewM 6 s t) (hD:PutsD 2 s) {p q:Nat} (hp:p≤xB s) (hq:q < xY s):0≤stepF s t counts p q∧stepF s t counts p q≤966:=by
  have hb:∀ i,i < s.qx.length→0≤counts[i]! ∧counts[i]! ≤6:=fun i hi=>⟨(hc.bd hi).1,cnt_few hs ht hc h hM hi⟩
  have h1:=putS_bd (t:=t) hs hD hb p q hq s.qx.length (Nat.le_refl _)
  have h2:=hM p q hp hq
  have h3:=Vb hs hc p q hq s.qx.length (Nat.le_refl _)
  have hl:=hs.2.1
  have h4:0≤base0 s t p q+needS s counts s.qx.length p q:=by
    by_cases e:p < xB s
    · exact rest_get hs ht hc h e hq
    · obtain rfl:p=xB s:=by omega
      rw [needS_around hs q _ (Nat.le_refl _)]
      unfold base0
      rw [if_neg qf]
      have:=ht.around.2 q hq
      omega
  rw [stepF,allS_eq]
  omega
theorem tab2_line {n K:Nat} {f:Nat→Nat→Int} {p:Nat} (h:p < n):(tab2 n K f)[p]! =(List.range K).map (f p):=by
  rw [getElem!_pos _ _ (by rw [tab2_len];exact h)];simp [tab2]
theorem tab2_at {n K:Nat} {f:Nat→Nat→Int} {p q:Nat} (h:p < n) (hq:q < K):((tab2 n K f)[p]!)[q]! =f p q:=by
  rw [tab2_line h,getElem!_pos _ _ (by simpa using hq)];simp
theorem stepped_row {s:qy} {t:qA} {counts:yLI} {p:Nat} (h:p < xB s):(xE s t counts).qG[p]! =(List.range (xY s)).map (stepF s t counts p):=by
  have hl:=tab2_len (xB s+1) (xY s) (stepF s t counts)
  show ((tab2 (xB s+1) (xY s) (stepF s t counts)).take (xB s))[p]! =_
  rw [getElem!_pos _ _ (by rw [List.length_take,hl];omega),List.getElem_take,← getElem!_pos,tab2_line qf]
theorem Qb {K:Nat} {g:Nat→Int} {q:Nat} (h:q < K):((List.range K).map g)[q]! =g q:=by
  rw [getElem!_pos _ _ (by simpa using h)];simp
theorem stepped_around {s:qy} {t:qA} {counts:yLI}:(xE s t counts).qH=(List.range (xY s)).map (stepF s t counts (xB s)):=by
  show (tab2 (xB s+1) (xY s) (stepF s t counts))[xB s]! =_
  rw [tab2_line qf]

theorem appl_of {s:qy} {t:qA} {counts:yLI} (hc:Xx s counts) (h:IsCh s t counts) {i:Nat} (hi:i < s.qx.length) (h0:counts[i]! ≠0):EnOk s t (s.qx[i]!):=by
  have hb:=hc.bd hi
  have:=h.1 i (by rw [hc.1];exact hi)
  unfold BadAt at this
  apply Classical.byContradiction
  intro hn
  exact this ⟨by omega,fun ha=>hn ha.1⟩
theorem dead_none {s:qy} {t:qA} {counts:yLI} (hs:vw s) (ht:xJ s t) (hc:Xx s counts) (h:IsCh s t counts) {p:Nat} (hp:p < xB s) (hd:t.qF[p]! =false) (q:Nat):
    ∀ k,k≤s.qx.length→needS s counts k p q=0∧putS s t counts k p q=0
  | 0,_=>⟨rfl,rfl⟩
  | k+1,hk=>by
    obtain ⟨i1,i2⟩:=dead_none hs ht hc h hp hd q k qf
    rw [needS,putS,i1,i2]
    by_cases h0:counts[k]! =0
    · rw [putF_zero s t _ h0]
      unfold needF
      rw [h0]
      refine ⟨?_,rfl⟩
      unfold at'
      split <;> simp
    · have he:=appl_of hc h (i:=k) qf h0
      have hr:=hs.rule (i:=k) qf
      have hcell:p≠(s.qx[k]!).qE.toNat:=fun e=>by
        subst e
        have h1:=he.1
        rw [hd] at h1;cases h1
      have hout:p≠outPl s t (s.qx[k]!):=by
        intro e
        unfold outPl at e
        split at e
        · omega
        · rename_i hne
          have hcc:=hr.1
          have:=X9 (t:=t) hs.1 ht.2.2.1 (show 0 < (s.qx[k]!).qE by have:=hcc.1;omega) hcc.2
          rw [← e,hd] at this
          exact absurd this.2.2 qj
      have hinto:∀ j,j≤(s.qx[k]!).qO.length→Vf (s.qx[k]!) (counts[k]!) j p q=0:=by
        intro j
        induction j with
        | zero=>intro _;rfl
        | succ j ih=>
          intro hj
          rw [Vf,ih qf]
          have ha:=(he.2.2.2.2 j qf).1
          unfold at'
          rw [if_neg (fun e=>by rw [e] at hd;rw [hd] at ha;cases ha)]
          rfl
      unfold needF putF at'
      rw [if_neg hcell,if_neg hcell,if_neg hout,hinto _ (Nat.le_refl _)]
      exact ⟨rfl,rfl⟩
theorem dead_zero {s:qy} {t:qA} (ht:xJ s t) {p q:Nat} (hp:p < xB s) (hd:t.qF[p]! =false) (hq:q < xY s):base0 s t p q=0:=by
  have hb:=ht.2.2.2.2 p (by rw [ht.2.1];exact hp)
  have hl:=hb.1.len
  unfold base0
  rw [if_pos hp]
  have h0:=hb.1.get (k:=q) (by rw [hl];exact hq)
  apply Classical.byContradiction
  intro hn
  have hs0:QJ (t.qG[p]!)≤0:=hb.2 hd
  have hmono:∀ n,n≤(t.qG[p]!).length→0≤sumTo (t.qG[p]!) n∧(q < n→(t.qG[p]!)[q]! ≤sumTo (t.qG[p]!) n):=by
    intro n
    induction n with
    | zero=>intro _;exact ⟨by simp [sumTo],fun x=>by omega⟩
    | succ n ih=>
      intro hn
      have i:=ih qf
      have g:=(hb.1.get (k:=n) qf).1
      refine ⟨by simp only [sumTo];omega,fun x=>?_⟩
      simp only [sumTo]
      by_cases e:q=n
      · subst e;omega
      · have:=i.2 qf;omega
  have:=(hmono _ (Nat.le_refl _)).2 (by rw [hl];exact hq)
  unfold QJ at hs0
  omega

theorem sumN_le {f g:Nat→Int} {n:Nat} (h:∀ p,p < n→f p≤g p):sumN f n≤sumN g n:=by
  induction n with
  | zero=>exact Int.le_refl _
  | succ n ih=>rw [sumN,sumN];have:=ih fun p hp=>h p qf;have:=h n qf;omega
theorem sumN_const (v:Int) (n:Nat):sumN (fun _=>v) n=n * v:=by
  induction n with
  | zero=>simp [sumN]
  | succ n ih=>rw [sumN,ih];push_cast;rw [Int.add_mul,Int.one_mul]
theorem sumN_at {c n:Nat} {x B:Int} (h:0≤x∧x≤B):sumN (fun p=>at' p c x) n≤B:=by
  have e:∀ n,sumN (fun p=>at' p c x) n=if c < n then x else 0:=by
    intro n
    induction n with
    | zero=>rw [if_neg qf];rfl
    | succ n ih=>
      rw [sumN,ih]
      unfold at'
      by_cases e:n=c
      · subst e;rw [if_neg qf,if_pos rfl,if_pos qf];omega
      · rw [if_neg e]
        by_cases h1:c < n
        · rw [if_pos h1,if_pos qf];omega
        · rw [if_neg h1,if_neg qf];rfl
  rw [e]
  split <;> omega
theorem sumN_into {s:qy} {M D c:Int} (hs:vw s) (hD:PutsD D s) {i:Nat} (hi:i < s.qx.length) (hc:0≤c∧c≤M) (q:Nat) (hq:q < xY s) (n:Nat):∀ j,j≤(s.qx[i]!).qO.length→
    sumN (fun p=>Vf (s.qx[i]!) c j p q) n≤(j:Int) * (M * D)
  | 0,_=>by simp only [Vf,sumN_zero];simp
  | j+1,hj=>by
    have hio:=(hs.rule hi).2.2.2.2.2.2.2.2.2.2 j qf
    have b3:=hio.2.2.1
    have h3:=sumN_at (c:=((s.qx[i]!).qO[j]!).qE.toNat) (n:=n) (mul_bd hc ⟨(b3.get (k:=q) (by rw [b3.len];exact hq)).1,(hD i hi q hq).2.2 j qf⟩)
    have ih:=sumN_into hs hD hi hc q hq n j qf
    simp only [Vf]
    rw [sumN_add]
    have e:((j+1:Nat):Int) * (M * D)=(j:Int) * (M * D)+M * D:=by push_cast;rw [Int.add_mul,Int.one_mul]
    rw [e]
    omega
theorem sumN_putF {s:qy} {t:qA} {M D c:Int} (hs:vw s) (hD:PutsD D s) {i:Nat} (hi:i < s.qx.length) (hc:0≤c∧c≤M) (q:Nat) (hq:q < xY s) (n:Nat):sumN (fun p=>putF s t (s.qx[i]!) c p q) n≤5 * (M * D):=by
  have hr:=hs.rule hi
  obtain ⟨d1,d2,d3⟩:=hD i hi q hq
  have b1:=hr.2.2.2.2.2.2.2.1
  have b2:=hr.2.2.2.2.2.2.2.2.1
  have m1:=mul_bd hc ⟨(b1.get (k:=q) (by rw [b1.len];exact hq)).1,d1⟩
  have h1:=sumN_at (c:=(s.qx[i]!).qE.toNat) (n:=n) m1
  have h2:=sumN_at (c:=outPl s t (s.qx[i]!)) (n:=n) (mul_bd hc ⟨(b2.get (k:=q) (by rw [b2.len];exact hq)).1,d2⟩)
  have h3:=sumN_into hs hD hi hc q hq n _ (Nat.le_refl _)
  have hl:=hr.2.2.2.1
  have h5:((s.qx[i]!).qO.length:Int) * (M * D)≤3 * (M * D):=Int.mul_le_mul_of_nonneg_right qf qf
  simp only [putF]
  rw [sumN_add,sumN_add]
  omega
theorem sumN_putS {s:qy} {t:qA} {M D:Int} {counts:yLI} (hs:vw s) (hD:PutsD D s) (hc:∀ i,i < s.qx.length→0≤counts[i]! ∧counts[i]! ≤M) (q:Nat) (hq:q < xY s) (n:Nat):∀ k,k≤s.qx.length→
    sumN (fun p=>putS s t counts k p q) n≤(k:Int) * (5 * (M * D))
  | 0,_=>by simp only [putS,sumN_zero];simp
  | k+1,h=>by
    have ih:=sumN_putS (t:=t) hs hD hc q hq n k qf
    have:=sumN_putF (t:=t) hs hD (i:=k) qf (hc k qf) q hq n
    simp only [putS]
    rw [sumN_add]
    have e:((k+1:Nat):Int) * (5 * (M * D))=(k:Int) * (5 * (M * D))+5 * (M * D):=by push_cast;rw [Int.add_mul,Int.one_mul]
    rw [e]
    omega
theorem colTo_sum (t:qA) (q:Nat):∀ n,colTo t q n=sumN (fun p=>(t.qG[p]!)[q]!) n
  | 0=>rfl
  | n+1=>by rw [colTo,sumN,colTo_sum t q n]
theorem stepped_col {s:qy} {t:qA} {counts:yLI} (hs:vw s) (ht:xJ s t) (hc:Xx s counts) (h:IsCh s t counts) (hM:FewM 6 s t) (hD:PutsD 2 s) {q:Nat} (hq:q < xY s):colTo (xE s t counts) q (xB s)≤996:=by
  have hb:∀ i,i < s.qx.length→0≤counts[i]! ∧counts[i]! ≤6:=fun i hi=>⟨(hc.bd hi).1,cnt_few hs ht hc h hM hi⟩
  rw [colTo_sum]
  have h1:sumN (fun p=>((xE s t counts).qG[p]!)[q]!) (xB s)≤sumN (fun p=>6+putS s t counts s.qx.length p q) (xB s):=sumN_le fun p hp=>by
    rw [stepped_row hp,Qb hq]
    have a1:=hM p q qf hq
    have a2:=Vb hs hc p q hq s.qx.length (Nat.le_refl _)
    rw [stepF,allS_eq]
    omega
  rw [sumN_add,sumN_const] at h1
  have h2:=sumN_putS (t:=t) hs hD hb q hq (xB s) s.qx.length (Nat.le_refl _)
  have hl:=hs.2.1
  have hn:=hs.1.2.1
  have hcn:xB s=s.qw.length:=rfl
  omega
theorem stepped_ok {s:qy} {t:qA} {counts:yLI} (hs:vw s) (ht:xJ s t) (hc:Xx s counts) (h:IsCh s t counts) (hM:FewM 6 s t) (hD:PutsD 2 s):xJ s (xE s t counts):=by
  have hK:=hs.1.1
  have hkn:xY s=s.xf.toNat:=rfl
  have hbag:∀ p,p≤xB s→zZ s.xf ((List.range (xY s)).map (stepF s t counts p)):=fun p hp=>by
    refine ⟨⟨fun j hj=>?_,by simp;omega,by simp;omega⟩,by simp;omega⟩
    have hj' :j < xY s:=by simpa using hj
    rw [Qb hj']
    have:=step_few hs ht hc h hM hD hp hj'
    omega
  have hl:(xE s t counts).qG.length=xB s:=by
    show ((tab2 _ _ _).take _).length=_
    rw [List.length_take,tab2_len];omega
  refine ⟨ht.1,hl,ht.2.2.1,by rw [stepped_around];exact hbag _ (Nat.le_refl _),fun p hp=>?_⟩
  rw [hl] at hp
  rw [stepped_row hp]
  refine ⟨hbag p qf,fun hd=>?_⟩
  have hd' :t.qF[p]! =false:=hd
  have hz:∀ n,sumTo ((List.range (xY s)).map (stepF s t counts p)) n≤0:=by
    intro n
    induction n with
    | zero=>simp [sumTo]
    | succ n ih=>
      simp only [sumTo]
      by_cases e:n < xY s
      · rw [Qb e]
        obtain ⟨z1,z2⟩:=dead_none hs ht hc h hp hd' n s.qx.length (Nat.le_refl _)
        rw [stepF,allS_eq,z1,z2,dead_zero ht hp hd' e]
        omega
      · rw [getElem!_neg _ _ (by simpa using e)]
        show _+(0:Int)≤0
        omega
  exact hz _

theorem col_two {t:qA} {q:Nat} (h0:∀ p,p < t.qG.length→0≤(t.qG[p]!)[q]!):∀ n,n≤t.qG.length→0≤colTo t q n∧(∀ a,a < n→(t.qG[a]!)[q]! ≤colTo t q n)∧∀ a b,a < b→b < n→(t.qG[a]!)[q]! +(t.qG[b]!)[q]! ≤colTo t q n
  | 0,_=>⟨by simp [colTo],fun a ha=>by omega,fun a b _ hb=>by omega⟩
  | n+1,hn=>by
    obtain ⟨i0,i1,i2⟩:=col_two h0 n qf
    have g:=h0 n qf
    rw [colTo]
    refine ⟨by omega,fun a ha=>?_,fun a b hab hb=>?_⟩
    · by_cases e:a=n
      · subst e;omega
      · have:=i1 a qf;omega
    · by_cases e:b=n
      · subst e
        have:=i1 a qf;omega
      · have:=i2 a b hab qf;omega
theorem QO.ok1000 {s:qy} {t:qA} {c:Int} (h:QO s t c) (hf:∀ q,q < xY s→colTo t q (xB s)≤1000):xJ s (melted s t c):=by
  have hcn:xB s=s.qw.length:=rfl
  have hp:=h.par
  have hc:=h.cell
  have ht:=h.state
  have e1:(melted s t c).qF.length=t.qF.length:=by simp [melted]
  have e2:(melted s t c).qG.length=t.qG.length:=by simp [melted]
  refine ⟨by rw [e1];exact ht.1,by rw [e2];exact ht.2.1,by rw [h.alive',if_neg (by have:=h.pos;omega)];exact ht.2.2.1,ht.2.2.2.1,fun k hk=>?_⟩
  rw [e2] at hk
  rw [h.bags',h.alive']
  have hkk:=ht.2.1
  by_cases g1:c.toNat=k
  · rw [if_pos g1,if_pos g1]
    have hK:=h.frame.1
    refine ⟨⟨⟨fun j hj=>by rw [rep_get];omega,by simp;omega,by simp;omega⟩,by simp;omega⟩,fun _=>?_⟩
    have hz:∀ n,sumTo (List.replicate s.xf.toNat 0) n=0:=by
      intro n
      induction n with
      | zero=>simp [sumTo]
      | succ n ih=>simp only [sumTo,ih,rep_get];omega
    unfold QJ
    rw [hz]
    omega
  · rw [if_neg g1,if_neg g1]
    by_cases g2:(xh s t c).toNat=k
    · rw [if_pos g2]
      subst g2
      have bp:=ht.bagLen hk
      have bc:=ht.bagLen (k:=c.toNat) qf
      refine ⟨⟨⟨fun j hj=>?_,by rw [y7];exact bp.1.2.1,by rw [y7];exact bp.1.2.2⟩,by rw [y7];exact bp.2⟩,fun hd=>?_⟩
      · rw [y7] at hj
        rw [plusL_get hj]
        have hj2:j < (t.qG[c.toNat]!).length:=by have:=bp.2;have:=bc.2;omega
        have hjk:j < xY s:=by rw [bp.len] at hj;exact hj
        have a1:=bp.1.1 j hj
        have a2:=bc.1.1 j hj2
        have a3:=hf j hjk
        have a4:=(col_two (t:=t) (q:=j) (fun p hp=>by
          have b:=ht.bagLen hp
          exact (b.get (k:=j) (by rw [b.len];exact hjk)).1) (xB s) (by rw [hkk];exact Nat.le_refl _)).2.2 (xh s t c).toNat c.toNat qf qf
        omega
      · rw [hp.2.2] at hd;cases hd
    · rw [if_neg g2]
      exact ht.2.2.2.2 k hk
theorem down_ok {s:qy} {t:qA} {counts:yLI} (hs:vw s) (ht:xJ s t) (hc:Xx s counts) (h:IsCh s t counts) (hM:FewM 6 s t) (hD:PutsD 2 s):∀ j,j+1≤xB s→
    xJ s (xG s counts (xE s t counts) j)∧(∀ q,q < xY s→colTo (xG s counts (xE s t counts) j) q (xB s)≤1000)∧∀ c,c+j < xB s→(xG s counts (xE s t counts) j).qF[c]! =t.qF[c]!
  | 0,_=>⟨stepped_ok hs ht hc h hM hD,fun q hq=>by have:=stepped_col hs ht hc h hM hD hq;rw [xG];omega,fun c _=>rfl⟩
  | j+1,hj=>by
    obtain ⟨i1,i2,i3⟩:=down_ok hs ht hc h hM hD j qf
    by_cases hm:Melts s counts ((xB s:Int) - 1 - j)
    · rw [meltDown_yes hm rfl]
      obtain ⟨i,hi,h0,h2,h3⟩:=hm
      have he:=appl_of hc h hi qf
      have hcn:xB s=s.qw.length:=rfl
      have ha:t.qF[((xB s:Int) - 1 - j).toNat]! =true:=by rw [← h3];exact he.1
      have cm:QO s (xG s counts (xE s t counts) j) ((xB s:Int) - 1 - j):=⟨hs.1,i1,⟨by omega,by omega⟩,by omega,by rw [i3 _ qf];exact ha⟩
      refine ⟨cm.ok1000 i2,fun q hq=>?_,fun c hcc=>?_⟩
      · have hpar:=cm.par
        rw [cm.col hq,if_pos qf,if_pos qf]
        have:=i2 q hq
        omega
      · rw [cm.alive',if_neg qf]
        exact i3 c qf
    · rw [X3 hm rfl]
      exact ⟨i1,i2,fun c hcc=>i3 c qf⟩
theorem step_fine {s:qy} {t:qA} {counts:yLI} (hs:vw s) (ht:xJ s t) (hc:Xx s counts) (h:IsCh s t counts) (hM:FewM 6 s t) (hD:PutsD 2 s):(yP s t counts).2=0:=by
  rw [X8 h]
  unfold stepRes
  have hn:=hs.1.2.1
  have hcn:xB s=s.qw.length:=rfl
  rw [told_yes (down_ok hs ht hc h hM hD (xB s - 1) qf).1]
theorem putsOf_bd {s:qy} {t:qA} {M D:Int} {counts:yLI} (hs:vw s) (hD:PutsD D s) (hc:∀ i,i < s.qx.length→0≤counts[i]! ∧counts[i]! ≤M) (cell:Int) (p q:Nat) (hq:q < xY s):∀ k,k≤s.qx.length→
    0≤putsOf s t counts cell k p q∧putsOf s t counts cell k p q≤putS s t counts k p q
  | 0,_=>by simp [putsOf,putS]
  | k+1,h=>by
    have ih:=putsOf_bd (t:=t) hs hD hc cell p q hq k qf
    have:=putF_bd (t:=t) hs hD (i:=k) qf (hc k qf) p q hq
    rw [putsOf,putS]
    split <;> omega
theorem putsL_at {s:qy} {t:qA} {counts:yLI} {cell:Int} {p q:Nat} (hp:p≤xB s) (hq:q < xY s):((putsL s t counts cell)[p]!)[q]! =putsOf s t counts cell s.qx.length p q:=tab2_at qf hq
theorem puts_law {s:qy} {t:qA} (hs:vw s) (hst:Still s) (ht:xJ s t) (hw:Whole t) (hM:FewM 6 s t) (hD:PutsD 2 s):
    (yP s t (yg s t)).2=0∧(yP s t (yg s t)).1=xE s t (yg s t)∧xJ s (xE s t (yg s t))∧(∀ cell,CellIn s cell→putsRes s t cell=(putsL s t (yg s t) cell,0))∧
    ∀ p q,p≤xB s→q < xY s→base0 s t p q+needS s (yg s t) s.qx.length p q+sumN (fun c=>((putsL s t (yg s t) (c:Int))[p]!)[q]!) (xB s)=stepF s t (yg s t) p q:=by
  have hch:=first_isCh hs ht
  have hc:Xx s (yg s t):=first_cnt hs ht
  have hf:=step_fine hs ht hc hch hM hD
  have hb:∀ i,i < s.qx.length→0≤(yg s t)[i]! ∧(yg s t)[i]! ≤6:=fun i hi=>⟨(hc.bd hi).1,cnt_few hs ht hc hch hM hi⟩
  have hok:=stepped_ok hs ht hc hch hM hD
  have hkn:xY s=s.xf.toNat:=rfl
  have hK:=hs.1.1
  have hl:=hs.2.1
  refine ⟨hf,?_,hok,fun cell hcell=>?_,fun p q hp hq=>?_⟩
  · rw [X8 hch]
    unfold stepRes
    rw [still_down hst,told_yes hok]
  · refine puts_0 ⟨hs,hst,ht,hw⟩ hcell rfl fun p hp=>?_
    have hp' :p≤xB s:=by
      have:(putsL s t (yg s t) cell).length=xB s+1:=tab2_len _ _ _
      omega
    have hrow:(putsL s t (yg s t) cell)[p]! =(List.range (xY s)).map (putsOf s t (yg s t) cell s.qx.length p):=tab2_line qf
    rw [hrow]
    refine ⟨fun j hj=>?_,by simp;omega,by simp;omega⟩
    have hj' :j < xY s:=by simpa using hj
    rw [Qb hj']
    have h1:=putsOf_bd (t:=t) hs hD hb cell p j hj' s.qx.length (Nat.le_refl _)
    have h2:=putS_bd (t:=t) hs hD hb p j hj' s.qx.length (Nat.le_refl _)
    omega
  · have e:sumN (fun c=>((putsL s t (yg s t) (c:Int))[p]!)[q]!) (xB s)=sumN (fun c=>putsOf s t (yg s t) (c:Int) s.qx.length p q) (xB s):=by
      have:(fun c:Nat=>((putsL s t (yg s t) (c:Int))[p]!)[q]!)=fun c:Nat=>putsOf s t (yg s t) (c:Int) s.qx.length p q:=by
        funext c
        exact putsL_at hp hq
      rw [this]
    rw [e]
    exact due_step hs p q
def DueIs {e:TypeId} (K:Nat) (l:List (OwnI e)) (n:Nat) (f:Nat→Nat→Int):Prop:=l.length=n∧∀ p,p < n→(l[p]!).l.length=K∧∀ q,q < K→(l[p]!).l[q]! =f p q
section
variable {e : TypeId} {K n : Nat} {l : List (OwnI e)} {f g : Nat → Nat → Int}
theorem DueIs.nil:DueIs K ([]:List (OwnI e)) 0 f:=⟨rfl,fun p hp=>by omega⟩
theorem DueIs.snoc (h:DueIs K l n f) {b:yLI} (hb:b.length=K) (hv:∀ q,q < K→b[q]! =f n q):DueIs K (l++[⟨b⟩]) (n+1) f:=by
  have hl:=h.1
  refine ⟨by simp [hl],fun p hp=>?_⟩
  rw [XD]
  by_cases h1:p < n
  · rw [if_pos qf];exact h.2 p h1
  · have e' :p=n:=by omega
    subst e'
    rw [if_neg qf,if_pos qf]
    exact ⟨hb,hv⟩
theorem DueIs.to (h:DueIs K l n f) (hg:∀ p q,p < n→q < K→f p q=g p q):DueIs K l n g:=⟨h.1,fun p hp=>⟨(h.2 p hp).1,fun q hq=>((h.2 p hp).2 q hq).trans (hg p q hp hq)⟩⟩
theorem DueIs.put (h:DueIs K l n f) {p q:Nat} {v:Int} (hp:p < n) (hq:q < K) (hg:∀ p' q',p' < n→q' < K→g p' q' =if p' =p∧q' =q then v else f p' q'):DueIs K (l.set p ⟨(l[p]!).l.set q v⟩) n g:=by
  have hl:=h.1
  refine ⟨by rw [List.length_set];exact hl,fun p' hp' =>?_⟩
  rw [getElem!_pos (l.set p _) p' (by rw [List.length_set];omega),List.getElem_set]
  obtain ⟨h1,h2⟩:=h.2 p' hp'
  by_cases e' :p=p'
  · subst e'
    rw [if_pos rfl]
    refine ⟨by rw [List.length_set];exact h1,fun q' hq' =>?_⟩
    show ((l[p]!).l.set q v)[q']! =_
    rw [getElem!_pos ((l[p]!).l.set q v) q' (by rw [List.length_set];omega),List.getElem_set,hg p q' hp hq']
    by_cases e2:q=q'
    · subst e2;rw [if_pos rfl,if_pos ⟨rfl,rfl⟩]
    · rw [if_neg e2,if_neg (fun x=>e2 x.2.symm)]
      have:=h2 q' hq'
      rwa [getElem!_pos (l[p]!).l q' qf] at this
  · rw [if_neg e',← getElem!_pos l p' qf]
    refine ⟨h1,fun q' hq' =>?_⟩
    rw [h2 q' hq',hg p' q' hp' hq',if_neg (fun x=>e' x.1.symm)]
theorem DueIs.cast (h:DueIs K l n f) {m:Nat} (e' :n=m):DueIs K l m f:=by subst e';exact h
theorem DueIs.at' (h:DueIs K l n f) {p q:Nat} (hp:p < n) (hq:q < K):(l[p]!).l[q]! =f p q:=(h.2 p hp).2 q hq
theorem DueIs.len (h:DueIs K l n f) {p:Nat} (hp:p < n):(l[p]!).l.length=K:=(h.2 p hp).1
end

section
variable {s : qy} {t : qA}
noncomputable def dueN (s:qy) (t:qA) (m p q:Nat):Int:=base0 s t p q+needS s (yg s t) m p q
noncomputable def putP (s:qy) (t:qA) (c p q:Nat):Int:=((putsL s t (yg s t) (c:Int))[p]!)[q]!
noncomputable def dueP (s:qy) (t:qA) (c p q:Nat):Int:=dueN s t s.qx.length p q+sumN (fun c=>putP s t c p q) c
structure PutsAt (s:qy) (t:qA):Prop where
  sys:vw s
  st:xJ s t
  still:Still s
  whole:Whole t
  few:FewM 6 s t
  puts:PutsD 2 s
theorem PutsAt.cnt (h:PutsAt s t) {i:Nat} (hi:i < s.qx.length):0≤(yg s t)[i]! ∧(yg s t)[i]! ≤6:=
  ⟨((first_cnt h.sys h.st).bd hi).1,cnt_few h.sys h.st (first_cnt h.sys h.st) (first_isCh h.sys h.st) h.few hi⟩
theorem PutsAt.need (h:PutsAt s t) {i q:Nat} (hi:i < s.qx.length) (hq:q < xY s):0≤(yg s t)[i]! * ((s.qx[i]!).xM)[q]! ∧(yg s t)[i]! * ((s.qx[i]!).xM)[q]! ≤6000:=by
  have hn:=(h.sys.rule hi).2.2.2.2.1
  exact mul_bd (M:=6) (D:=1000) (h.cnt hi) (hn.get (by rw [hn.len];exact hq))
theorem PutsAt.bagOf (h:PutsAt s t) {c:Nat} (hc:c < xB s):(t.qG[c]!).length=xY s∧∀ q,q < xY s→(t.qG[c]!)[q]! =base0 s t c q:=by
  have hb:=h.st.bagLen (k:=c) (by rw [h.st.2.1];exact hc)
  exact ⟨hb.len,fun q hq=>by rw [base0,if_pos hc]⟩
theorem PutsAt.rimOf (h:PutsAt s t):t.qH.length=xY s∧∀ q,q < xY s→t.qH[q]! =base0 s t (xB s) q:=⟨h.st.around.1,fun q hq=>by rw [base0,if_neg qf]⟩
theorem PutsAt.rule (h:PutsAt s t) {i:Nat} (hi:i < s.qx.length):(0≤(s.qx[i]!).qE∧(s.qx[i]!).qE.toNat < xB s)∧((s.qx[i]!).xM).length=xY s:=by
  have hr:=h.sys.rule hi
  exact ⟨⟨hr.1.1,hr.cell⟩,hr.2.2.2.2.1.len⟩
theorem PutsAt.base (h:PutsAt s t) {p q:Nat} (hp:p≤xB s) (hq:q < xY s):0≤base0 s t p q∧base0 s t p q≤1000:=by
  unfold base0
  have ht:=h.st
  by_cases h1:p < xB s
  · rw [if_pos h1]
    have hb:=ht.bagLen (k:=p) (by rw [ht.2.1];exact h1)
    exact hb.get (by rw [hb.len];exact hq)
  · rw [if_neg h1]
    exact (ht.around).2 q hq
theorem PutsAt.by (h:PutsAt s t):(xO s t (yg s t)).2=0∧(xO s t (yg s t)).1=xE s t (yg s t)∧xJ s (xO s t (yg s t)).1∧(∀ c:Nat,c < xB s→putsRes s t c=(putsL s t (yg s t) c,0))∧
    ∀ p q,p≤xB s→q < xY s→dueP s t (xB s) p q=stepF s t (yg s t) p q:=by
  obtain ⟨h1,h2,h3,h4,h5⟩:=puts_law h.sys h.still h.st h.whole h.few h.puts
  rw [by_ok (ask_0 ⟨h.sys,h.st⟩ (first_cnt h.sys h.st))]
  refine ⟨h1,h2,by rw [h2];exact h3,fun c hc=>h4 c ⟨by omega,by have:xB s=s.qw.length:=rfl;omega⟩,fun p q hp hq=>?_⟩
  rw [← h5 p q hp hq]
  rfl
theorem list_ext {a b:yLI} {K:Nat} (h1:a.length=K) (h2:b.length=K) (h:∀ q,q < K→a[q]! =b[q]!):a=b:=List.ext_getElem qf fun i h3 h4=>by
  have:=h i qf
  rwa [getElem!_pos a i h3,getElem!_pos b i h4] at this
theorem PutsAt.bag {e:TypeId} {l:List (OwnI e)} (h:PutsAt s t) (hd:DueIs (xY s) l (xB s+1) (dueP s t (xB s))) {c:Nat} (hc:c < xB s):(xO s t (yg s t)).1.qG[c]! =(l[c]!).l:=by
  obtain ⟨_,h2,_,_,h5⟩:=h.by
  rw [h2,stepped_row hc]
  refine list_ext (K:=xY s) qm (hd.len qf) fun q hq=>?_
  rw [Qb hq,hd.at' qf hq,h5 c q qf hq]
theorem PutsAt.rim {e:TypeId} {l:List (OwnI e)} (h:PutsAt s t) (hd:DueIs (xY s) l (xB s+1) (dueP s t (xB s))):(xO s t (yg s t)).1.qH=(l[xB s]!).l:=by
  obtain ⟨_,h2,_,_,h5⟩:=h.by
  rw [h2,stepped_around]
  refine list_ext (K:=xY s) qm (hd.len qf) fun q hq=>?_
  rw [Qb hq,hd.at' qf hq,h5 _ q qf hq]
end
def ahead (a b:yLI):Prop:=∃ i,i < a.length∧(∀ j,j < i→a[j]! =b[j]!)∧a[i]! < b[i]!
def SameTo (a b:yLI) (k:Nat):Prop:=∀ j,j < k→a[j]! =b[j]!
theorem SameTo.succ {a b:yLI} {k:Nat} (h:SameTo a b k) (h1:a[k]! =b[k]!):SameTo a b (k+1):=fun j hj=>by
  by_cases e:j=k
  · subst e;exact h1
  · exact h j qf
theorem ahead_yes {a b:yLI} {k:Nat} (h:SameTo a b k) (hk:k < a.length) (h1:a[k]! < b[k]!):ahead a b:=⟨k,hk,h,h1⟩
theorem ahead_no {a b:yLI} {k:Nat} (h:SameTo a b k) (h1:¬ a[k]! < b[k]!) (h2:a[k]! ≠b[k]!):¬ ahead a b:=by
  rintro ⟨i,hi,hs,hl⟩
  rcases Nat.lt_or_ge i k with hik | hik
  · rw [h i hik] at hl;omega
  · rcases Nat.lt_or_eq_of_le hik with hki | hki
    · exact h2 (hs k hki)
    · subst hki;exact h1 hl
theorem ahead_same {a b:yLI} (h:SameTo a b a.length):¬ ahead a b:=by
  rintro ⟨i,hi,_,hl⟩
  rw [h i hi] at hl;omega
theorem ahead_irr (a:yLI):¬ ahead a a:=ahead_same fun _ _=>rfl
theorem ahead_trans {a b c:yLI} (hab:a.length=b.length) (h1:ahead a b) (h2:ahead b c):ahead a c:=by
  obtain ⟨i,hi,hs,hl⟩:=h1
  obtain ⟨k,hk,ht,hm⟩:=h2
  rcases Nat.lt_or_ge i k with h | h
  · exact ⟨i,hi,fun j hj=>(hs j hj).trans (ht j qf),by rw [← ht i h];exact hl⟩
  · rcases Nat.lt_or_eq_of_le h with h' | h'
    · exact ⟨k,by omega,fun j hj=>(hs j qf).trans (ht j hj),by rw [hs k h'];exact hm⟩
    · subst h'
      exact ⟨k,hi,fun j hj=>(hs j hj).trans (ht j hj),by omega⟩
theorem ahead_tri {a b:yLI} (hl:a.length=b.length) (h1:¬ ahead a b) (h2:¬ ahead b a):a=b:=by
  have key:∀ k,k≤a.length→SameTo a b k:=by
    intro k
    induction k with
    | zero=>intro _ j hj;omega
    | succ k ih=>
      intro hk
      have hs:=ih qf
      refine hs.succ ?_
      apply Classical.byContradiction
      intro hne
      rcases Int.lt_or_gt_of_ne hne with h | h
      · exact h1 ⟨k,by omega,hs,h⟩
      · exact h2 ⟨k,by omega,fun j hj=>(hs j hj).symm,h⟩
  exact ext_get hl fun k hk=>key _ (Nat.le_refl _) k hk
def InOrder (l:yLL):Prop:=l.Pairwise fun a b=>¬ ahead b a
theorem order_one {n:Nat}:∀ {l m:yLL},(∀ x∈l,x.length=n)→l.Perm m→InOrder l→InOrder m→l=m
  | [],m,_,hp,_,_=>(List.Perm.nil_eq hp)
  | x :: l,m,hn,hp,hl,hm=>by
    cases m with
    | nil=>exact absurd hp.length_eq qm
    | cons y m=>
      have hl' :=List.pairwise_cons.1 hl
      have hm' :=List.pairwise_cons.1 hm
      have hy:y∈x :: l:=hp.symm.subset (List.mem_cons_self ..)
      have hx:x∈y :: m:=hp.subset (List.mem_cons_self ..)
      have e:x=y:=by
        rcases List.mem_cons.1 hx with h | h
        · exact h
        · rcases List.mem_cons.1 hy with h' | h'
          · exact h'.symm
          · exact ahead_tri ((hn x (List.mem_cons_self ..)).trans (hn y (List.mem_cons_of_mem _ h')).symm) (hm'.1 x h) (hl'.1 y h')
      subst e
      rw [order_one (fun z hz=>hn z (List.mem_cons_of_mem _ hz)) (List.Perm.cons_inv hp) hl'.2 hm'.2]
def swapAt (l:yLL) (k:Nat):yLL:=(l.set k (l[k - 1]!)).set (k - 1) (l[k]!)
def OrderTo (l:yLL) (k:Nat):Prop:=InOrder (l.take k)
theorem orderTo_iff {l:yLL} {k:Nat} (hk:k≤l.length):OrderTo l k↔∀ i j,i < j→j < k→¬ ahead (l[j]!) (l[i]!):=by
  unfold OrderTo InOrder
  rw [List.pairwise_iff_getElem]
  constructor
  · intro h i j hij hj
    have:=h i j (by rw [List.length_take];omega) (by rw [List.length_take];omega) hij
    rw [List.getElem_take,List.getElem_take] at this
    rwa [getElem!_pos l i qf,getElem!_pos l j qf]
  · intro h i j hi hj hij
    rw [List.length_take] at hi hj
    rw [List.getElem_take,List.getElem_take,← getElem!_pos l i qf,← getElem!_pos l j qf]
    exact h i j hij qf
theorem swap_len (l:yLL) (k:Nat):(swapAt l k).length=l.length:=by simp [swapAt]
theorem swap_get {l:yLL} {k p:Nat} (hk:0 < k) (hl:k < l.length):(swapAt l k)[p]! =if p=k - 1 then l[k]! else if p=k then l[k - 1]! else l[p]! :=by
  unfold swapAt
  rw [getset (by rw [List.length_set];omega),getset hl]
theorem swap_perm {l:yLL} {k:Nat} (hk:0 < k) (hl:k < l.length):(swapAt l k).Perm l:=by
  obtain ⟨j,rfl⟩:∃ j,k=j+1:=⟨k - 1,by omega⟩
  have e1:l=l.take j++(l[j]! :: l[j+1]! :: l.drop (j+2)):=by
    rw [getElem!_pos l j qf,getElem!_pos l (j+1) hl]
    conv=>lhs;rw [← List.take_append_drop j l]
    rw [List.drop_eq_getElem_cons (show j < l.length by omega),List.drop_eq_getElem_cons hl]
  have e2:swapAt l (j+1)=l.take j++(l[j+1]! :: l[j]! :: l.drop (j+2)):=by
    have hlen:(l.take j).length=j:=List.length_take_of_le qf
    refine ext_get (by rw [swap_len];simp;omega) fun p hp=>?_
    rw [swap_len] at hp
    rw [swap_get hk hl]
    have hp' :p < (l.take j++(l[j+1]! :: l[j]! :: l.drop (j+2))).length:=by simp;omega
    rw [getElem!_pos (l.take j++(l[j+1]! :: l[j]! :: l.drop (j+2))) p hp']
    by_cases h1:p < j
    · rw [if_neg qf,if_neg qf,List.getElem_append_left qf,List.getElem_take,getElem!_pos l p hp]
    · rw [List.getElem_append_right qf]
      simp only [hlen]
      by_cases h2:p=j
      · subst h2;simp
      · by_cases h3:p=j+1
        · subst h3;simp
        · rw [if_neg qf,if_neg qf]
          obtain ⟨q,rfl⟩:∃ q,p=j+2+q:=⟨p - (j+2),by omega⟩
          rw [getElem!_pos l _ hp]
          have:j+2+q - j=q+1+1:=by omega
          simp only [this,List.getElem_cons_succ,List.getElem_drop]
  rw [e2]
  conv=>rhs;rw [e1]
  exact List.Perm.append_left _ (List.Perm.swap ..)
def InsTo (l:yLL) (i k:Nat):Prop:=∀ a b,a < b→b≤i→b≠k→¬ ahead (l[b]!) (l[a]!)
theorem InsTo.start {l:yLL} {i:Nat} (h:∀ a b,a < b→b < i→¬ ahead (l[b]!) (l[a]!)):InsTo l i i:=fun a b hab hb hne=>h a b hab qf
theorem InsTo.down {l:yLL} {i k n:Nat} (h:InsTo l i k) (hn:∀ j,j < l.length→(l[j]!).length=n) (hk:0 < k) (hki:k≤i) (hi:i < l.length) (h1:ahead (l[k]!) (l[k - 1]!)):InsTo (swapAt l k) i (k - 1):=by
  intro a b hab hb hne
  have hlk:=hn k qf
  have hlk1:=hn (k - 1) qf
  rw [swap_get hk qf,swap_get hk qf,if_neg hne]
  by_cases hbk:b=k
  · subst hbk
    rw [if_pos rfl]
    by_cases ha:a=b - 1
    · rw [if_pos ha]
      intro h2
      exact ahead_irr _ (ahead_trans qf h1 h2)
    · rw [if_neg ha,if_neg qf]
      exact h a (b - 1) qf qf qf
  · rw [if_neg hbk]
    by_cases ha:a=k - 1
    · rw [if_pos ha];exact h k b qf hb hbk
    · rw [if_neg ha]
      by_cases hak:a=k
      · rw [if_pos hak];exact h (k - 1) b qf hb hbk
      · rw [if_neg hak];exact h a b hab hb hbk
theorem InsTo.stop {l:yLL} {i k n:Nat} (h:InsTo l i k) (hn:∀ j,j < l.length→(l[j]!).length=n) (hki:k≤i) (hi:i < l.length) (h1:k=0∨¬ ahead (l[k]!) (l[k - 1]!)):∀ a b,a < b→b < i+1→¬ ahead (l[b]!) (l[a]!):=by
  intro a b hab hb
  by_cases hbk:b=k
  · subst hbk
    have h1:¬ ahead (l[b]!) (l[b - 1]!):=h1.resolve_left qf
    by_cases ha:a=b - 1
    · subst ha;exact h1
    · intro h2
      have h3:=h a (b - 1) qf qf qf
      have hla:=hn a qf
      have hlb:=hn b qf
      have hlb1:=hn (b - 1) qf
      by_cases h4:ahead (l[a]!) (l[b - 1]!)
      · exact h1 (ahead_trans qf h2 h4)
      · have e:=ahead_tri qf h4 h3
        rw [e] at h2;exact h1 h2
  · exact h a b hab qf hbk
end
section
open Go.RowKit
section
variable {α : Type} [qU α]
theorem reps_perm {w:World} (h1:qU.size α=1):∀ {z z' :List (Value×α)},z.Perm z' →∀ {F:yLN},reps w F (z.map Prod.fst) (z.map Prod.snd)→∃ F',F'.Perm F∧reps w F' (z'.map Prod.fst) (z'.map Prod.snd):=by
  intro z z' hp
  have one:∀ {c:List Value} {G:yLN} {x:α},qU.rep w G c x→∃ v,c=[v]:=fun h=>List.length_eq_one_iff.1 ((qU.len h).trans h1)
  induction hp with
  | nil=>intro F h;exact ⟨F,.refl _,h⟩
  | cons x _ ih=>
    rintro F ⟨F1,F2,c1,c2,rfl,hv,hx,hr⟩
    obtain ⟨v,rfl⟩:=one hx
    obtain ⟨rfl,rfl⟩:=List.cons.inj hv
    obtain ⟨F',hF,hr'⟩:=ih hr
    exact ⟨F1++F',hF.append_left F1,F1,F',[x.1],_,rfl,rfl,hx,hr'⟩
  | swap x y l=>
    rintro F ⟨F1,F2,c1,c2,rfl,hv,hx,F3,F4,c3,c4,rfl,hv2,hy,hr⟩
    obtain ⟨v,rfl⟩:=one hx
    obtain ⟨u,rfl⟩:=one hy
    subst hv2
    obtain ⟨e1,e2⟩:=List.cons.inj hv
    obtain ⟨e3,e4⟩:=List.cons.inj e2
    subst e1 e3 e4
    refine ⟨F3++(F1++F4),?_,F3,F1++F4,[x.1],y.1 :: _,rfl,rfl,hy,F1,F4,[y.1],_,rfl,rfl,hx,hr⟩
    rw [← List.append_assoc,← List.append_assoc]
    exact List.perm_append_comm.append_right F4
  | trans _ _ ih1 ih2=>
    intro F h
    obtain ⟨F1,h1,h2⟩:=ih1 h
    obtain ⟨F2,h3,h4⟩:=ih2 h2
    exact ⟨F2,h3.trans h1,h4⟩
end
theorem swapZ {α:Type}:∀ {l:List α} {i:Nat} {a b:α},l[i]? =some a→l[i+1]? =some b→l.Perm ((l.set (i+1) a).set i b)
  | [],_,_,_,h,_=>by simp at h
  | x :: l,0,a,b,h,h1=>by
    cases l with
    | nil=>simp at h1
    | cons y l=>
      simp only [List.getElem?_cons_zero,Option.some.injEq] at h
      simp only [List.getElem?_cons_succ,List.getElem?_cons_zero,Option.some.injEq,Nat.zero_add] at h1
      subst h h1
      exact List.Perm.swap ..
  | x :: l,i+1,a,b,h,h1=>by
    simp only [List.getElem?_cons_succ] at h h1
    exact (swapZ h h1).cons x
theorem zip_at {α β:Type}:∀ {xs:List α} {l:List β} {i:Nat} {a:α} {b:β},xs[i]? =some a→l[i]? =some b→(xs.zip l)[i]? =some (a,b):=by
  intro xs l i a b h h1
  rw [List.getElem?_zip_eq_some]
  exact ⟨h,h1⟩
theorem zip_fst {α β:Type}:∀ {xs:List α} {l:List β},xs.length=l.length→(xs.zip l).map Prod.fst=xs:=by
  intro xs l h;exact List.map_fst_zip qf
theorem zip_snd {α β:Type}:∀ {xs:List α} {l:List β},xs.length=l.length→(xs.zip l).map Prod.snd=l:=by
  intro xs l h;exact List.map_snd_zip qf
section
variable {W0 w : World} {ps : List Prv} {Γ : List Fact}
theorem St.rowElemX {α:Type} [qU α] (H:St W0 w ps Γ) (k:Nat) {b c:Nat} {e:TypeId} {nn:Nat} {xs:List Value} (hp:ps[k]? =some (.row (Sv (some ⟨b,0,none⟩) nn c) e 1 nn xs)) (j:Nat) {fr:Bool} {F:yLN} {l:List (List α)}
    (hf:Γ[j]? =some (qX fr F xs l)) {iv:Int} (i:Nat) (h:iv.toNat=i) (h1:i < nn):
    ∃ (a:yOA) (c' :Nat) (G:yLN),(∀ x∈G,x∈F)∧w.cell? ⟨b,0+iv.toNat * 1,none⟩=some (Sv a (l[i]!).length c')∧xs[0+iv.toNat * 1]? =some (Sv a (l[i]!).length c')∧xs[iv.toNat]? =some (Sv a (l[i]!).length c')∧St W0 w ps (isF fr G (Sv a (l[i]!).length c') (l[i]!) :: Γ):=by
  obtain ⟨cs,G,hc,hr,hsub,hfr,v1,v2,hx,hv⟩:=H.rowElem k hp j hf Nat.one_pos h h1
  obtain ⟨a,c',rfl,hx'⟩:=id hr
  have hxi:xs[i]? =some (Sv a (l[i]!).length c'):=by
    have hl1:v1.length=i:=by rw [hv];exact Nat.mul_one _
    rw [hx,List.append_assoc,List.getElem?_append_right qf]
    simp [hl1]
  exact ⟨a,c',G,hsub,by simpa [qU.size] using hc 0 _ rfl,by rw [show 0+iv.toNat * 1=i by omega];exact hxi,by rw [h];exact hxi,H.Qu j hf _ ⟨hr,hfr⟩ hsub⟩
theorem St.swapR (H:St W0 w ps Γ) (j:Nat) {fr:Bool} {F:yLN} {xs:List Value} {l:yLL} (hf:Γ[j]? =some (qX fr F xs l)) {k i:Nat} (hk:0 < k) (hkl:k < l.length) (hi:i=k - 1) {v0 v1:Value} (h0:xs[i]? =some v0) (h1:xs[k]? =some v1):
    ∃ F',F'.Perm F∧St W0 w ps (qX fr F' ((xs.set k v0).set i v1) (swapAt l k) :: Γ):=by
  obtain ⟨hr,hfr⟩:=H.get j hf
  obtain ⟨i,rfl⟩:∃ i,k=i+1:=⟨k - 1,by omega⟩
  rw [show i+1 - 1=i from rfl] at hi
  subst hi
  have hl:xs.length=l.length:=by have:=XV hr;simpa [qU.size] using this
  have e0:l[i]? =some (l[i]!):=by rw [getElem!_pos l i qf];exact List.getElem?_eq_getElem qf
  have e1:l[i+1]? =some (l[i+1]!):=by rw [getElem!_pos l (i+1) hkl];exact List.getElem?_eq_getElem hkl
  have hp:=swapZ (zip_at h0 e0) (zip_at h1 e1)
  have hr' :reps w F ((xs.zip l).map Prod.fst) ((xs.zip l).map Prod.snd):=by
    rw [zip_fst hl,zip_snd hl]
    exact hr
  obtain ⟨F',hF,h2⟩:=reps_perm rfl hp hr'
  refine ⟨F',hF,H.Qu j hf _ ⟨?_,fun e x hx=>hfr e x (hF.subset hx)⟩ fun x hx=>hF.subset hx⟩
  rw [List.map_set,List.map_set,List.map_set,List.map_set,zip_fst hl,zip_snd hl] at h2
  exact h2
theorem Fresh.perm {B:Nat} {L:List yLN} {F F' :yLN} (N:Fresh B (F :: L)) (h:F'.Perm F):Fresh B (F' :: L):=N.less (fun b hb=>h.subset hb) fun hn=>h.nodup_iff.2 hn
end
section
variable {P : Program} {n : Nat} {ρ : Env} {w : World}
theorem ret3 {fn:Func} {R:Ending→World→Prop} {t u z:Nat} (v x y:Value) (hr:fn.results=#[.tmp t,.tmp u,.tmp z]) (hv:ev n ρ (.tmp t)=v) (hx:ev n ρ (.tmp u)=x) (hy:ev n ρ (.tmp z)=y) (h:R (.returned (.tuple #[v,x,y])) w):bodyPost P fn R .ret (mk n ρ) w:=by
  refine bodyPost_ret (results_tmp3 hr _ _ _) rfl ?_
  have e:=congrFun (Xm n ρ) (.tmp t)
  have e' :=congrFun (Xm n ρ) (.tmp u)
  have e'' :=congrFun (Xm n ρ) (.tmp z)
  simp only [Act.eval] at e e' e''
  rw [e,hv,e',hx,e'',hy]
  exact h
end
end
section

def FullOk (parts:yLL) (rest:yLI):Prop:=∀ i,i < parts.length→within (parts[i]!) rest=false
def FullTo (parts:yLL) (rest:yLI) (k:Nat):Prop:=∀ i,i < k→within (parts[i]!) rest=false
theorem FullTo.succ {parts:yLL} {rest:yLI} {k:Nat} (h:FullTo parts rest k) (h1:within (parts[k]!) rest=false):FullTo parts rest (k+1):=fun j hj=>by
  by_cases e:j=k
  · subst e;exact h1
  · exact h j qf
open Classical in
noncomputable def packs (parts:yLL):Nat→Nat→yLI→yLL
  | 0,_,rest=>if FullOk parts rest then [[]] else []
  | f+1,k,rest=>(List.range ((vY (parts[k]!) rest).toNat+1)).flatMap fun (n:Nat)=>(packs parts f (k+1) (vZ rest (parts[k]!) (-(n:Int)))).map ((n:Int) :: ·)
noncomputable def jL (parts:yLL) (f k:Nat) (rest:yLI) (m:Nat):yLL:=
  (List.range m).flatMap fun (n:Nat)=>(packs parts f (k+1) (vZ rest (parts[k]!) (-(n:Int)))).map ((n:Int) :: ·)
theorem packs_succ (parts:yLL) (f k:Nat) (rest:yLI):packs parts (f+1) k rest=jL parts f k rest ((vY (parts[k]!) rest).toNat+1):=rfl
theorem packsTo_zero (parts:yLL) (f k:Nat) (rest:yLI):jL parts f k rest 0=[]:=rfl
theorem packsTo_succ (parts:yLL) (f k:Nat) (rest:yLI) (m:Nat):
    jL parts f k rest (m+1)=jL parts f k rest m++(packs parts f (k+1) (vZ rest (parts[k]!) (-(m:Int)))).map ((m:Int) :: ·):=by
  simp [jL,List.range_succ]
theorem packs_full {parts:yLL} {k:Nat} {rest:yLI} (h:FullOk parts rest):packs parts 0 k rest=[[]]:=by rw [packs,if_pos h]
theorem packs_none {parts:yLL} {k:Nat} {rest:yLI} (h:¬ FullOk parts rest):packs parts 0 k rest=[]:=by rw [packs,if_neg h]
def gath (out more:yLL):yLL:=(out++more).take 2001
theorem gath_nil {out:yLL} (h:out.length≤2001):gath out []=out:=by unfold gath;rw [List.append_nil];exact List.take_of_length_le h
theorem gath_one {out:yLL} {x:yLI} (h:out.length≤2000):gath out [x]=out++[x]:=by
  unfold gath;rw [List.take_of_length_le];simp;omega
theorem gath_len (out more:yLL):(gath out more).length≤2001:=by simp [gath];omega
theorem gath_room {out more:yLL} (h:(gath out more).length≤2000):gath out more=out++more:=by
  unfold gath at *
  rw [List.length_take] at h
  exact List.take_of_length_le qf
theorem gath_cat {out a b:yLL} (h:(gath out a).length≤2000):gath (gath out a) b=gath out (a++b):=by
  rw [gath_room h];simp [gath]
theorem gath_stop {out a b:yLL} (h:¬ (gath out a).length≤2000):gath out a=gath out (a++b):=by
  unfold gath at *
  rw [List.length_take] at h
  rw [← List.append_assoc]
  exact (List.take_append_of_le_length (l₁:=out++a) (l₂:=b) qf).symm
def begins (b:yLI) (l:yLL):yLL:=l.map (b++·)
theorem begins_cat (b:yLI) (l m:yLL):begins b (l++m)=begins b l++begins b m:=by simp [begins]
theorem begins_cons (b:yLI) (n:Int) (l:yLL):begins b (l.map (n :: ·))=begins (b++[n]) l:=by simp [begins]
theorem begins_nil (l:yLL):begins [] l=l:=by simp [begins]
theorem begins_one (b:yLI):begins b [[]]=[b]:=by simp [begins]
theorem gath_step {parts:yLL} {f k m:Nat} {rest b:yLI} {out:yLL} (h:(gath out (begins b (jL parts f k rest m))).length≤2000):
    gath (gath out (begins b (jL parts f k rest m))) (begins (b++[(m:Int)]) (packs parts f (k+1) (vZ rest (parts[k]!) (-(m:Int)))))=gath out (begins b (jL parts f k rest (m+1))):=by
  rw [gath_cat h,packsTo_succ,begins_cat,begins_cons]
theorem packsTo_more {parts:yLL} {f k:Nat} {rest:yLI}:∀ {m M:Nat},m≤M→∃ more,jL parts f k rest M=jL parts f k rest m++more
  | m, 0, h => ⟨[], by obtain rfl : m = 0 := by omega
                       simp⟩
  | m,M+1,h=>by
    by_cases e:m=M+1
    · subst e;exact ⟨[],by simp⟩
    · obtain ⟨more,hm⟩:=packsTo_more (parts:=parts) (f:=f) (k:=k) (rest:=rest) (show m≤M by omega)
      exact ⟨_,by rw [packsTo_succ,hm,List.append_assoc]⟩
theorem gath_end {parts:yLL} {f k m:Nat} {rest b:yLI} {out:yLL} (hm:m≤(vY (parts[k]!) rest).toNat+1) (h:m=(vY (parts[k]!) rest).toNat+1∨¬ (gath out (begins b (jL parts f k rest m))).length≤2000):
    gath out (begins b (jL parts f k rest m))=gath out (begins b (packs parts (f+1) k rest)):=by
  rw [packs_succ]
  rcases h with h | h
  · rw [h]
  · obtain ⟨more,e⟩:=packsTo_more (parts:=parts) (f:=f) (k:=k) (rest:=rest) hm
    rw [e,begins_cat]
    exact gath_stop h
open Classical in
noncomputable def vk (b:yLI) (parts:yLL):yLL×Int:=
  if QJ b > 16 then ([],3) else if (packs parts parts.length 0 b).length > 2000 then ([],3) else (packs parts parts.length 0 b,0)
theorem gath_all {l:yLL}:(gath [] l).length > 2000↔l.length > 2000:=by unfold gath;rw [List.nil_append,List.length_take];omega
theorem gath_few {l:yLL} (h:¬ l.length > 2000):gath [] l=l:=by unfold gath;rw [List.nil_append];exact List.take_of_length_le qf
theorem packs_len {parts:yLL}:∀ {f k:Nat} {rest x:yLI},x∈packs parts f k rest→x.length=f
  | 0,k,rest,x,h=>by
    rw [packs] at h
    split at h
    · obtain rfl:=List.mem_singleton.1 h;rfl
    · simp at h
  | f+1,k,rest,x,h=>by
    rw [packs,List.mem_flatMap] at h
    obtain ⟨n,_,h⟩:=h
    obtain ⟨y,hy,rfl⟩:=List.mem_map.1 h
    rw [List.length_cons,packs_len hy]
def PartsOk (K:Nat) (parts:yLL):Prop:=∀ i,i < parts.length→(parts[i]!).length=K∧(∀ q,q < K→0≤(parts[i]!)[q]! ∧(parts[i]!)[q]! ≤1000)∧∃ j,j < K∧0 < (parts[i]!)[j]!
def RestOk (K:Nat) (rest:yLI):Prop:=rest.length=K∧∀ q,q < K→0≤rest[q]! ∧rest[q]! ≤1000
def XU (parts:yLL) (rest:yLI):Prop:=∃ K,K≤8∧PartsOk K parts∧RestOk K rest∧parts.length≤8

theorem times_bd {K:Nat} {parts:yLL} {rest:yLI} (hP:PartsOk K parts) (hR:RestOk K rest) {k:Nat} (hk:k < parts.length):0≤vY (parts[k]!) rest∧vY (parts[k]!) rest≤1000:=
  Xz (fun q hq=>(hR.2 q (by have:=(hP k hk).1;omega)).1) _ (Nat.le_refl _)
theorem take_get {K:Nat} {parts:yLL} {rest:yLI} (hP:PartsOk K parts) (hR:RestOk K rest) {k:Nat} (hk:k < parts.length) {n:Int} (h0:0≤n) (h1:n≤vY (parts[k]!) rest) {q:Nat} (hq:q < K):
    0≤rest[q]! + -n * (parts[k]!)[q]! ∧rest[q]! + -n * (parts[k]!)[q]! ≤rest[q]! :=by
  obtain ⟨hl,hb,_⟩:=hP k hk
  have a:=timesL_left (l:=parts[k]!) (m:=rest) (fun j hj=>(hb j qf).1) (fun j hj=>(hR.2 j qf).1) (k:=q) qf
  have b:=Int.mul_le_mul_of_nonneg_right h1 (hb q hq).1
  have c:=Int.mul_nonneg h0 (hb q hq).1
  have d: -n * (parts[k]!)[q]! = -(n * (parts[k]!)[q]!):=Int.neg_mul ..
  have e: -(vY (parts[k]!) rest) * (parts[k]!)[q]! = -(vY (parts[k]!) rest * (parts[k]!)[q]!):=Int.neg_mul ..
  omega
theorem RestOk.take {K:Nat} {parts:yLL} {rest:yLI} (hP:PartsOk K parts) (hR:RestOk K rest) {k:Nat} (hk:k < parts.length) {n:Int} (h0:0≤n) (h1:n≤vY (parts[k]!) rest):RestOk K (vZ rest (parts[k]!) (-n)):=by
  refine ⟨by rw [y7];exact hR.1,fun q hq=>?_⟩
  rw [plus_get (by have:=hR.1;omega)]
  have:=take_get hP hR hk h0 h1 hq
  have:=hR.2 q hq
  omega
theorem XU.times {parts:yLL} {rest:yLI} (h:XU parts rest) {k:Nat} (hk:k < parts.length):
    (parts[k]!).length≤rest.length∧(∀ q,q < (parts[k]!).length→0≤rest[q]! ∧rest[q]! ≤1000)∧(∃ j,j < (parts[k]!).length∧0 < (parts[k]!)[j]!)∧rest.length≤8∧0≤vY (parts[k]!) rest∧vY (parts[k]!) rest≤1000:=by
  obtain ⟨K,hK,hP,hR,hn⟩:=h
  obtain ⟨hl,hb,hj⟩:=hP k hk
  have ht:=times_bd hP hR hk
  refine ⟨by have:=hR.1;omega,fun q hq=>hR.2 q qf,by rw [hl];exact hj,by have:=hR.1;omega,ht⟩
theorem XU.plus {parts:yLL} {rest:yLI} (h:XU parts rest) {k:Nat} (hk:k < parts.length) {n:Int} (h0:0≤n) (h1:n≤vY (parts[k]!) rest):
    rest.length≤(parts[k]!).length∧Mid rest∧Ve (parts[k]!) (-n)∧XU parts (vZ rest (parts[k]!) (-n)):=by
  obtain ⟨K,hK,hP,hR,hn⟩:=h
  obtain ⟨hl,hb,hj⟩:=hP k hk
  have ht:=times_bd hP hR hk
  refine ⟨by have:=hR.1;omega,⟨by have:=hR.1;omega,fun q hq=>by have:=hR.2 q (by have:=hR.1;omega);omega⟩,fun q hq=>?_,K,hK,hP,hR.take hP hk h0 h1,hn⟩
  have a:=hb q qf
  have b:=Int.mul_nonneg h0 a.1
  have c:=Int.mul_le_mul (show n≤1000 by omega) a.2 a.1 qf
  have d: -n * (parts[k]!)[q]! = -(n * (parts[k]!)[q]!):=Int.neg_mul ..
  omega
theorem XU.small {parts:yLL} {rest:yLI} (h:XU parts rest):rest.length≤8∧parts.length≤8:=by
  obtain ⟨K,hK,_,hR,hn⟩:=h
  exact ⟨by have:=hR.1;omega,hn⟩
theorem XU.smallB {parts:yLL} {rest:yLI} (h:XU parts rest):Small rest:=by
  obtain ⟨K,hK,_,hR,hn⟩:=h
  exact ⟨by have:=hR.1;omega,fun q hq=>by have:=hR.2 q (by have:=hR.1;omega);omega⟩

theorem pack_step {parts:yLL} {rest begin' :yLI} {out:yLL} {f n:Nat} (hf:begin'.length+f=parts.length) (hp:begin'.length < parts.length)
    (h:(gath out (begins begin' (jL parts (f - 1) begin'.length rest n))).length≤2000):
    gath (gath out (begins begin' (jL parts (f - 1) begin'.length rest n))) (begins (begin' ++[(n:Int)]) (packs parts (parts.length - (begin' ++[(n:Int)]).length) (begin' ++[(n:Int)]).length (vZ rest (parts[begin'.length]!) (-(n:Int)))))=
      gath out (begins begin' (jL parts (f - 1) begin'.length rest (n+1))):=by
  rw [← gath_step h,List.length_append,List.length_cons,List.length_nil,show parts.length - (begin'.length+(0+1))=f - 1 by omega]
theorem pack_start {parts:yLL} {rest begin' :yLI} {out:yLL} {f:Nat} (h:out.length≤2000):out=gath out (begins begin' (jL parts f begin'.length rest 0)):=by
  rw [packsTo_zero];exact (gath_nil qf).symm
theorem pack_full {parts:yLL} {rest begin' :yLI} {out:yLL} (hl:begin'.length=parts.length) (h:FullOk parts rest) (ho:out.length≤2000):
    gath out (begins begin' (packs parts (parts.length - begin'.length) begin'.length rest))=out++[begin']:=by
  rw [show parts.length - begin'.length=0 by omega,packs_full h,begins_one,gath_one ho]
theorem pack_none {parts:yLL} {rest begin' :yLI} {out:yLL} (hl:begin'.length=parts.length) (h:¬ FullOk parts rest) (ho:out.length≤2000):
    gath out (begins begin' (packs parts (parts.length - begin'.length) begin'.length rest))=out:=by
  rw [show parts.length - begin'.length=0 by omega,packs_none h];exact gath_nil qf
theorem pack_end {parts:yLL} {rest begin' :yLI} {out:yLL} {f n:Nat} (hf:begin'.length+f=parts.length) (hp:begin'.length < parts.length) (hn:(n:Int)≤vY (parts[begin'.length]!) rest+1)
    (h0:0≤vY (parts[begin'.length]!) rest) (h:¬ (n:Int)≤vY (parts[begin'.length]!) rest∨¬ ((gath out (begins begin' (jL parts (f - 1) begin'.length rest n))).length:Int)≤2000):
    gath out (begins begin' (packs parts (parts.length - begin'.length) begin'.length rest))=gath out (begins begin' (jL parts (f - 1) begin'.length rest n)):=by
  obtain ⟨f,rfl⟩:∃ g,f=g+1:=⟨f - 1,by omega⟩
  rw [show parts.length - begin'.length=f+1 by omega]
  rw [show f+1 - 1=f from rfl] at h ⊢
  exact (gath_end qf (by rcases h with h | h;(left;omega);(right;omega))).symm
theorem all_a {b:yLI} {parts:yLL} (h:QJ b > 16):vk b parts=([],3):=by rw [vk,if_pos h]
theorem all_b {b:yLI} {parts:yLL} (h:¬ QJ b > 16) (h1:((gath ([]:yLL) (begins ([]:yLI) (packs parts (parts.length - ([]:yLI).length) ([]:yLI).length b))).length:Int) > 2000):vk b parts=([],3):=by
  replace h1:(gath [] (begins [] (packs parts (parts.length - 0) 0 b))).length > 2000:=by have:((gath [] (begins [] (packs parts (parts.length - 0) 0 b))).length:Int) > 2000:=h1;omega
  rw [begins_nil] at h1
  have h2:(packs parts parts.length 0 b).length > 2000:=gath_all.1 h1
  rw [vk,if_neg h,if_pos h2]
theorem all_0 {b:yLI} {parts:yLL} (h:¬ QJ b > 16) (h1:¬ ((gath ([]:yLL) (begins ([]:yLI) (packs parts (parts.length - ([]:yLI).length) ([]:yLI).length b))).length:Int) > 2000):
    vk b parts=(gath ([]:yLL) (begins ([]:yLI) (packs parts (parts.length - ([]:yLI).length) ([]:yLI).length b)),0):=by
  show vk b parts=(gath [] (begins [] (packs parts (parts.length - 0) 0 b)),0)
  replace h1:¬ (gath [] (begins [] (packs parts (parts.length - 0) 0 b))).length > 2000:=fun h=>h1 (by have:((gath [] (begins [] (packs parts (parts.length - 0) 0 b))).length:Int) > 2000:=qf;exact this)
  rw [begins_nil] at h1 ⊢
  have h2:¬ (packs parts parts.length 0 b).length > 2000:=fun h=>h1 (gath_all.2 h)
  rw [vk,if_neg h,if_neg h2,show parts.length - 0=parts.length from rfl,gath_few h2]

theorem fmap_le {α β:Type} {c:Nat} (g:α→List β):∀ (l:List α),(∀ x∈l,(g x).length≤c)→(l.flatMap g).length≤l.length * c
  | [],_=>by simp
  | x :: l,h=>by
    have h1:=h x (List.mem_cons_self ..)
    have h2:=fmap_le g l fun y hy=>h y (List.mem_cons_of_mem _ hy)
    rw [List.flatMap_cons,List.length_append,List.length_cons,Nat.add_mul,Nat.one_mul]
    omega
theorem within_more {K:Nat} {parts:yLL} {rest:yLI} (hP:PartsOk K parts) (hR:RestOk K rest) {k:Nat} (hk:k < parts.length) {n:Int} (h0:0≤n) (h1:n < vY (parts[k]!) rest):
    within (parts[k]!) (vZ rest (parts[k]!) (-n))=true:=by
  rw [within_iff]
  intro q hq
  obtain ⟨hl,hb,_⟩:=hP k hk
  rw [plus_get (by have:=hR.1;omega)]
  have a:=(take_get hP hR hk (show 0≤n+1 by omega) qf (q:=q) qf).1
  have d: -n * (parts[k]!)[q]! = -(n * (parts[k]!)[q]!):=Int.neg_mul ..
  have e: -(n+1) * (parts[k]!)[q]! = -((n+1) * (parts[k]!)[q]!):=Int.neg_mul ..
  have g:(n+1) * (parts[k]!)[q]! =n * (parts[k]!)[q]! +(parts[k]!)[q]! :=by rw [Int.add_mul,Int.one_mul]
  omega
theorem within_none {K:Nat} {parts:yLL} {rest:yLI} (hP:PartsOk K parts) (hR:RestOk K rest) {k:Nat} (hk:k < parts.length) (hb:vY (parts[k]!) rest < 1000):
    within (parts[k]!) (vZ rest (parts[k]!) (-(vY (parts[k]!) rest)))=false:=by
  rw [Bool.eq_false_iff]
  intro hw
  rw [within_iff] at hw
  obtain ⟨hl,hbb,_⟩:=hP k hk
  have key:∀ j,j≤(parts[k]!).length→vY (parts[k]!) rest+1≤yA (parts[k]!) rest j:=by
    intro j
    induction j with
    | zero=>intro _;rw [yA];omega
    | succ j ih=>
      intro hj
      have hi:=ih qf
      rw [yA]
      split
      · next hpos=>
        have h1:=hw j qf
        rw [plus_get (by have:=hR.1;omega)] at h1
        have e: -(vY (parts[k]!) rest) * (parts[k]!)[j]! = -(vY (parts[k]!) rest * (parts[k]!)[j]!):=Int.neg_mul ..
        have g:(vY (parts[k]!) rest+1) * (parts[k]!)[j]! =vY (parts[k]!) rest * (parts[k]!)[j]! +(parts[k]!)[j]! :=by rw [Int.add_mul,Int.one_mul]
        have:=(Int.le_ediv_iff_mul_le hpos).2 (show (vY (parts[k]!) rest+1) * (parts[k]!)[j]! ≤rest[j]! by omega)
        omega
      · exact hi
  have:=key _ (Nat.le_refl _)
  unfold vY at this
  omega
theorem within_less {K:Nat} {l m m' :yLI} (hl:l.length=K) (h:within l m=false) (hle:∀ q,q < K→m'[q]! ≤m[q]!):within l m' =false:=by
  rw [Bool.eq_false_iff] at h ⊢
  intro hw
  rw [within_iff] at hw
  exact h (within_iff.2 fun q hq=>Int.le_trans (hw q hq) (hle q qf))
def Few (K:Nat) (rest:yLI):Prop:=∀ q,q < K→rest[q]! ≤16
theorem Few.take {K:Nat} {parts:yLL} {rest:yLI} (hF:Few K rest) (hP:PartsOk K parts) (hR:RestOk K rest) {k:Nat} (hk:k < parts.length) {n:Int} (h0:0≤n) (h1:n≤vY (parts[k]!) rest):Few K (vZ rest (parts[k]!) (-n)):=fun q hq=>by
  rw [plus_get (by have:=hR.1;omega)]
  have:=take_get hP hR hk h0 h1 hq
  have:=hF q hq
  omega
theorem times_few {K:Nat} {parts:yLL} {rest:yLI} (hF:Few K rest) (hP:PartsOk K parts) (hR:RestOk K rest) {k:Nat} (hk:k < parts.length):vY (parts[k]!) rest≤16:=by
  obtain ⟨hl,hb,j,hj,hpos⟩:=hP k hk
  have h1:=timesTo_le (l:=parts[k]!) (m:=rest) (k:=(parts[k]!).length) (j:=j) qf hpos
  have h2:rest[j]! / (parts[k]!)[j]! ≤16:=by
    exact Int.le_trans (Int.ediv_le_self _ (hR.2 j hj).1) (hF j hj)
  unfold vY
  omega
theorem packs_ne {K:Nat} {parts:yLL} (hP:PartsOk K parts):∀ (f k:Nat) (rest:yLI),k+f=parts.length→RestOk K rest→Few K rest→FullTo parts rest k→packs parts f k rest≠[]
  | 0,k,rest,hk,hR,hF,hT=>by
    rw [packs_full (fun i hi=>hT i qf)];simp
  | f+1,k,rest,hk,hR,hF,hT=>by
    have hb:=times_bd hP hR (k:=k) qf
    have h16:=times_few hF hP hR (k:=k) qf
    have h1:=packs_ne hP f (k+1) (vZ rest (parts[k]!) (-(vY (parts[k]!) rest))) qf (hR.take hP qf hb.1 (Int.le_refl _)) (hF.take hP hR qf hb.1 (Int.le_refl _)) (by
      refine FullTo.succ (fun i hi=>?_) (within_none hP hR qf qf)
      refine within_less (K:=K) (hP i qf).1 (hT i hi) fun q hq=>?_
      rw [plus_get (by have:=hR.1;omega)]
      exact (take_get hP hR qf hb.1 (Int.le_refl _) hq).2)
    obtain ⟨x,hx⟩:=List.exists_mem_of_ne_nil _ h1
    refine List.ne_nil_of_mem (a:=vY (parts[k]!) rest :: x) ?_
    rw [packs,List.mem_flatMap]
    have e:(((vY (parts[k]!) rest).toNat:Nat):Int)=vY (parts[k]!) rest:=by omega
    refine ⟨(vY (parts[k]!) rest).toNat,List.mem_range.2 qf,List.mem_map.2 ⟨x,?_,by rw [e]⟩⟩
    rw [e];exact hx
theorem packs_few {K:Nat} {parts:yLL} (hP:PartsOk K parts):∀ (f k:Nat) (rest:yLI),k+(f+1)=parts.length→RestOk K rest→Few K rest→(packs parts (f+1) k rest).length≤17 ^ f
  | 0,k,rest,hk,hR,hF=>by
    have hb:=times_bd hP hR (k:=k) qf
    rw [packs_succ,packsTo_succ,List.length_append,List.length_map]
    have h1:jL parts 0 k rest (vY (parts[k]!) rest).toNat=[]:=by
      rw [jL,List.flatMap_eq_nil_iff]
      intro n hn
      rw [List.mem_range] at hn
      rw [packs_none (fun h=>?_),List.map_nil]
      have h2:=within_more hP hR (k:=k) qf (n:=(n:Int)) qf qf
      rw [h k qf] at h2
      cases h2
    rw [h1,List.length_nil,Nat.zero_add,packs]
    split <;> simp
  | f+1,k,rest,hk,hR,hF=>by
    have hb:=times_bd hP hR (k:=k) qf
    have h16:=times_few hF hP hR (k:=k) qf
    rw [packs]
    refine Nat.le_trans (fmap_le (c:=17 ^ f) _ _ fun n hn=>?_) ?_
    · rw [List.mem_range] at hn
      rw [List.length_map]
      exact packs_few hP f (k+1) _ qf (hR.take hP qf qf qf) (hF.take hP hR qf qf qf)
    · rw [List.length_range,Nat.pow_succ,Nat.mul_comm]
      exact Nat.mul_le_mul_left _ qf
theorem sum_few {K:Nat} {rest:yLI} (hR:RestOk K rest) (h:QJ rest≤16):Few K rest:=by
  have key:∀ n,n≤rest.length→0≤sumTo rest n∧∀ q,q < n→rest[q]! ≤sumTo rest n:=by
    intro n
    induction n with
    | zero=>intro _;exact ⟨by simp [sumTo],fun q hq=>by omega⟩
    | succ n ih=>
      intro hn
      have hi:=ih qf
      have hr:=hR.2 n (by have:=hR.1;omega)
      rw [sumTo]
      refine ⟨by omega,fun q hq=>?_⟩
      by_cases e:q=n
      · subst e;omega
      · have:=hi.2 q qf;omega
  intro q hq
  have:=(key rest.length (Nat.le_refl _)).2 q (by have:=hR.1;omega)
  unfold QJ at h
  omega
noncomputable def cellT (s:qy) (t:qA) (k c:Nat):yLI:=(applL s t k).filter fun x=>decide ((s.qx[x.toNat]!).qE=(c:Int))
theorem cellT_yes {s:qy} {t:qA} {k c:Nat} (h:Appl s t k) (hc:(s.qx[k]!).qE=(c:Int)):cellT s t k c++[(k:Int)]=cellT s t (k+1) c:=by
  unfold cellT;rw [← applL_yes h,List.filter_append,List.filter_cons_of_pos (by rw [Int.toNat_natCast];exact decide_eq_true hc),List.filter_nil]
theorem Xe {s:qy} {t:qA} {k c:Nat} (h:¬ Appl s t k):cellT s t k c=cellT s t (k+1) c:=by
  unfold cellT;rw [← applL_no h]
theorem QH {s:qy} {t:qA} {k c:Nat} (h:¬ (s.qx[k]!).qE=(c:Int)):cellT s t k c=cellT s t (k+1) c:=by
  by_cases ha:Appl s t k
  · unfold cellT;rw [← applL_yes ha,List.filter_append,List.filter_cons_of_neg (by rw [Int.toNat_natCast];simpa only [decide_eq_true_eq] using h),List.filter_nil,List.append_nil]
  · exact Xe ha
def x8 (s:qy) (l:yLI):yLL:=l.map fun x=>(s.qx[x.toNat]!).xM
theorem Xt (s:qy) (l:yLI):(x8 s l).length=l.length:=by simp [x8]
theorem needs_snoc (s:qy) (l:yLI) (x:Int):x8 s l++[(s.qx[x.toNat]!).xM]=x8 s (l++[x]):=by simp [x8]
theorem needs_yes {s:qy} {t:qA} {k c:Nat} (h:Appl s t k) (hc:(s.qx[k]!).qE=(c:Int)):x8 s (cellT s t k c)++[(s.qx[k]!).xM]=x8 s (cellT s t (k+1) c):=by
  rw [← cellT_yes h hc];exact needs_snoc s _ (k:Int)
theorem needs_take {s:qy} {l:yLI} {k:Nat} (h:k < l.length):x8 s (l.take k)++[(s.qx[(l[k]!).toNat]!).xM]=x8 s (l.take (k+1)):=by rw [needs_snoc,take_snoc h]
theorem needs_get {s:qy} {l:yLI} {k:Nat} (h:k < l.length):(x8 s l)[k]! =(s.qx[(l[k]!).toNat]!).xM:=by
  rw [getElem!_pos (x8 s l) k (by rw [Xt];exact h)];simp [x8,getElem!_pos l k h]
noncomputable def zG (s:qy) (t:qA) (c:Nat):yLI:=cellT s t s.qx.length c
noncomputable def cellP (s:qy) (t:qA) (c:Nat):yLL×Int:=vk (t.qG[c]!) (x8 s (zG s t c))
theorem mem_cellT {s:qy} {t:qA} {k c:Nat} {x:Int} (h:x∈cellT s t k c):0≤x∧x.toNat < k∧Appl s t x.toNat∧(s.qx[x.toNat]!).qE=(c:Int):=by
  unfold cellT at h
  obtain ⟨h1,h2⟩:=List.mem_filter.1 h
  obtain ⟨a,b,d⟩:=mem_applL.1 h1
  exact ⟨a,b,d,by simpa using h2⟩
theorem cellT_at {s:qy} {t:qA} {k c j:Nat} (h:j < (cellT s t k c).length):0≤(cellT s t k c)[j]! ∧((cellT s t k c)[j]!).toNat < k∧Appl s t ((cellT s t k c)[j]!).toNat∧(s.qx[((cellT s t k c)[j]!).toNat]!).qE=(c:Int):=
  mem_cellT (by rw [getElem!_pos _ j h];exact List.getElem_mem h)
theorem cellR_at {s:qy} {t:qA} {c j:Nat} (h:j < (zG s t c).length):0≤(zG s t c)[j]! ∧((zG s t c)[j]!).toNat < s.qx.length∧Appl s t ((zG s t c)[j]!).toNat∧(s.qx[((zG s t c)[j]!).toNat]!).qE=(c:Int):=cellT_at h
theorem ofCell_all {s:qy} (hs:vw s) (c:Int):∀ k,k≤s.qx.length→XK s.qx c k≤8
  | 0,_=>by simp [XK]
  | k+1,hk=>by
    have h:=ofCell_all hs c k qf
    by_cases e:(s.qx[k]!).qE=c
    · have:=(hs.2.2 k qf).2;rw [e] at this;exact this
    · rw [XK,if_neg e];omega
theorem cellT_len {s:qy} {t:qA} {c:Nat}:∀ k,((cellT s t k c).length:Int)≤XK s.qx (c:Int) k
  | 0=>by simp [cellT,applL,XK]
  | k+1=>by
    have h:=cellT_len (s:=s) (t:=t) (c:=c) k
    rw [XK]
    by_cases e:(s.qx[k]!).qE=(c:Int)
    · rw [if_pos e]
      by_cases ha:Appl s t k
      · rw [← cellT_yes ha e,List.length_append,List.length_singleton];omega
      · rw [← Xe ha];omega
    · rw [if_neg e,← QH e];omega
theorem cellT_le (s:qy) (t:qA) (k c:Nat):(cellT s t k c).length≤k:=Nat.le_trans (List.length_filter_le _ _) (applL_le s t k)
theorem cellR_len {s:qy} {t:qA} (hs:vw s) (c:Nat):(zG s t c).length≤8:=by
  have:=cellT_len (s:=s) (t:=t) (c:=c) s.qx.length
  have:=ofCell_all hs (c:Int) s.qx.length (Nat.le_refl _)
  unfold zG;omega
theorem cell_parts {s:qy} {t:qA} (hs:vw s) (c:Nat):PartsOk (xY s) (x8 s (zG s t c)):=by
  intro i hi
  rw [Xt] at hi
  obtain ⟨a1,a2,a3,a4⟩:=cellR_at hi
  rw [needs_get hi]
  have q:=hs.rule a2
  have b:=q.2.2.2.2.1
  have hl:=b.len
  have hsum:=q.2.2.2.2.2.2.2.2.2.1
  obtain ⟨j,hj,hp⟩:=sum_pos b.1 hsum
  exact ⟨hl,fun q' hq' =>b.get qf,j,by omega,hp⟩
theorem cell_rest {s:qy} {t:qA} (ht:xJ s t) {c:Nat} (hc:c < t.qG.length):RestOk (xY s) (t.qG[c]!):=by
  have b:=(ht.2.2.2.2 c hc).1
  exact ⟨b.len,fun q hq=>b.get (by have:=b.len;omega)⟩
theorem cell_pack {s:qy} {t:qA} (hs:vw s) (ht:xJ s t) {c:Nat} (hc:c < t.qG.length):XU (x8 s (zG s t c)) (t.qG[c]!):=
  ⟨xY s,kinds_le hs,cell_parts hs c,cell_rest ht hc,by rw [Xt];exact cellR_len hs c⟩
theorem all_cases {b:yLI} {parts:yLL}:(vk b parts=([],3))∨(QJ b≤16∧vk b parts=(packs parts parts.length 0 b,0)∧(packs parts parts.length 0 b).length≤2000):=by
  unfold vk
  split
  · exact .inl rfl
  · split
    · exact .inl rfl
    · exact .inr ⟨by omega,rfl,by omega⟩
theorem all_len (b:yLI) (parts:yLL):(vk b parts).1.length≤2000:=by
  rcases all_cases (b:=b) (parts:=parts) with h | ⟨_,h,h1⟩ <;> rw [h]
  · simp
  · exact h1
theorem all_at {b:yLI} {parts:yLL} {x:Nat} (h:x < (vk b parts).1.length):((vk b parts).1[x]!).length=parts.length:=by
  rcases all_cases (b:=b) (parts:=parts) with h1 | ⟨_,h1,_⟩
  · rw [h1] at h;simp at h
  · rw [h1] at h ⊢
    exact packs_len (by rw [getElem!_pos _ x h];exact List.getElem_mem h)
theorem all_code {b:yLI} {parts:yLL} (h:(vk b parts).2≠0):(vk b parts).2=3:=by
  rcases all_cases (b:=b) (parts:=parts) with h1 | ⟨_,h1,_⟩
  · rw [h1]
  · rw [h1] at h;exact absurd rfl h

def FewTo (s:qy) (t:qA) (k:Nat):Prop:=∀ c,c < k→(zG s t c).length=0∨¬ QJ (t.qG[c]!) > 16
theorem FewTo.succ {s:qy} {t:qA} {k:Nat} (h:FewTo s t k) (h1:(zG s t k).length=0∨¬ QJ (t.qG[k]!) > 16):FewTo s t (k+1):=fun j hj=>by
  by_cases e:j=k
  · subst e;exact h1
  · exact h j qf
def GoodP (s:qy) (t:qA) (k:Nat):Prop:=∀ c,c < k→(zG s t c).length=0∨(cellP s t c).2=0
theorem GoodP.succ {s:qy} {t:qA} {k:Nat} (h:GoodP s t k) (h1:(zG s t k).length=0∨(cellP s t k).2=0):GoodP s t (k+1):=fun j hj=>by
  by_cases e:j=k
  · subst e;exact h1
  · exact h j qf
theorem bad_sum {s:qy} {t:qA} {c n:Nat} (hc:c < n) (h:¬ (zG s t c).length=0) (h1:QJ (t.qG[c]!) > 16):¬ GoodP s t n:=fun hg=>by
  rcases hg c hc with h2 | h2
  · exact h h2
  · unfold cellP at h2;rw [all_a h1] at h2;simp at h2
theorem bad_code {s:qy} {t:qA} {c n:Nat} (hc:c < n) (h:¬ (zG s t c).length=0) (h1:¬ (cellP s t c).2=0):¬ GoodP s t n:=fun hg=>(hg c hc).elim h h1
noncomputable def XL (s:qy) (t:qA) (k:Nat):yLN:=(List.range k).filter fun c=>decide ((zG s t c).length≠0)
noncomputable def qV (s:qy) (t:qA) (k:Nat):yLL:=(XL s t k).map (zG s t)
noncomputable def xy (s:qy) (t:qA) (k:Nat):List yLL:=(XL s t k).map fun c=>(cellP s t c).1
theorem live_yes {s:qy} {t:qA} {k:Nat} (h:¬ (zG s t k).length=0):XL s t (k+1)=XL s t k++[k]:=by unfold XL;rw [List.range_succ,List.filter_append,List.filter_cons_of_pos (a:=k) (by simpa only [decide_eq_true_eq] using h),List.filter_nil]
theorem live_no {s:qy} {t:qA} {k:Nat} (h:(zG s t k).length=0):XL s t (k+1)=XL s t k:=by unfold XL;rw [List.range_succ,List.filter_append,List.filter_cons_of_neg (by simp only [decide_eq_true_eq];exact fun x=>x h),List.filter_nil,List.append_nil]
theorem rules_yes {s:qy} {t:qA} {k:Nat} (h:¬ (zG s t k).length=0):qV s t k++[zG s t k]=qV s t (k+1):=by simp [qV,live_yes h]
theorem rules_no {s:qy} {t:qA} {k:Nat} (h:(zG s t k).length=0):qV s t k=qV s t (k+1):=by simp [qV,live_no h]
theorem packsL_yes {s:qy} {t:qA} {k:Nat} (h:¬ (zG s t k).length=0):xy s t k++[(cellP s t k).1]=xy s t (k+1):=by simp [xy,live_yes h]
theorem packsL_no {s:qy} {t:qA} {k:Nat} (h:(zG s t k).length=0):xy s t k=xy s t (k+1):=by simp [xy,live_no h]
theorem live_le (s:qy) (t:qA) (k:Nat):(XL s t k).length≤k:=by
  have:=List.length_filter_le (fun c=>decide ((zG s t c).length≠0)) (List.range k)
  simpa [XL] using this
theorem rules_le (s:qy) (t:qA) (k:Nat):(qV s t k).length≤k:=by simpa [qV] using live_le s t k
theorem packsL_le (s:qy) (t:qA) (k:Nat):(xy s t k).length=(qV s t k).length:=by simp [xy,qV]
theorem live_at {s:qy} {t:qA} {k i:Nat} (h:i < (qV s t k).length):∃ c,c < k∧¬ (zG s t c).length=0∧(qV s t k)[i]! =zG s t c∧(xy s t k)[i]! =(cellP s t c).1:=by
  have hl:i < (XL s t k).length:=by simpa [qV] using h
  have hm:=List.mem_filter.1 (show (XL s t k)[i]∈XL s t k from List.getElem_mem hl)
  refine ⟨(XL s t k)[i],by simpa using hm.1,by simpa using hm.2,?_,?_⟩
  · rw [getElem!_pos _ i h];simp [qV]
  · rw [getElem!_pos _ i (by rw [packsL_le];exact h)];simp [xy]

def QB (all:List yLL):Nat→Nat
  | 0=>1
  | k+1=>QB all k * (all[k]!).length
theorem prod_mul (all:List yLL) (k:Nat):((QB all k:Nat):Int) * ((all[k]!).length:Int)=((QB all (k+1):Nat):Int):=by rw [QB,Int.natCast_mul]
theorem prod_mono {all:List yLL} {n:Nat} (h:∀ j,j < n→all[j]! ≠[]):∀ {j i:Nat},i≤j→j≤n→QB all i≤QB all j
  | 0, i, hi, _ => by obtain rfl : i = 0 := by omega
                      exact Nat.le_refl _
  | j+1,i,hi,hj=>by
    by_cases e:i=j+1
    · subst e;exact Nat.le_refl _
    · have h1:=prod_mono h (show i≤j by omega) qf
      have h2:0 < (all[j]!).length:=List.length_pos_iff.2 (h j qf)
      rw [QB]
      exact Nat.le_trans h1 (Nat.le_mul_of_pos_right _ h2)
theorem prod_pre {l:List yLL} {x:yLL}:∀ {k:Nat},k≤l.length→QB (l++[x]) k=QB l k
  | 0,_=>rfl
  | k+1,h=>by
    rw [QB,QB,prod_pre qf]
    congr 1
    rw [getElem!_pos (l++[x]) k (by simp;omega),getElem!_pos l k qf,List.getElem_append_left]
theorem prod_snoc (l:List yLL) (x:yLL):QB (l++[x]) (l++[x]).length=QB l l.length * x.length:=by
  rw [List.length_append,List.length_singleton,QB,prod_pre (Nat.le_refl _)]
  congr 1
  rw [getElem!_pos (l++[x]) l.length qm];simp
theorem cellP_ne {s:qy} {t:qA} (hs:vw s) (ht:xJ s t) {c:Nat} (hc:c < t.qG.length) (h:(cellP s t c).2=0):(cellP s t c).1≠[]:=by
  unfold cellP at h ⊢
  rcases all_cases (b:=t.qG[c]!) (parts:=x8 s (zG s t c)) with h1 | ⟨h0,h1,_⟩
  · rw [h1] at h;simp at h
  · rw [h1]
    exact packs_ne (cell_parts hs c) _ 0 _ (Nat.zero_add _) (cell_rest ht hc) (sum_few (cell_rest ht hc) h0) fun i hi=>by omega
theorem cellP_few {s:qy} {t:qA} (hs:vw s) (ht:xJ s t) {c:Nat} (hc:c < t.qG.length) (hr:¬ (zG s t c).length=0):(cellP s t c).1.length≤17 ^ ((zG s t c).length - 1):=by
  unfold cellP
  rcases all_cases (b:=t.qG[c]!) (parts:=x8 s (zG s t c)) with h1 | ⟨h0,h1,_⟩
  · rw [h1];simp
  · rw [h1]
    have:=packs_few (cell_parts (t:=t) hs c) ((zG s t c).length - 1) 0 _ (by rw [Xt];omega) (cell_rest ht hc) (sum_few (cell_rest ht hc) h0)
    rw [Xt,show (zG s t c).length=(zG s t c).length - 1+1 by omega]
    exact this
noncomputable def sumR (s:qy) (t:qA):Nat→Nat
  | 0=>0
  | k+1=>sumR s t k+(zG s t k).length
theorem filter_two (f:Int→Int) (k:Int):∀ (l:yLI),(l.filter fun x=>decide (f x < k+1)).length=(l.filter fun x=>decide (f x < k)).length+(l.filter fun x=>decide (f x=k)).length
  | []=>rfl
  | x :: l=>by
    have h:=filter_two f k l
    simp only [List.filter_cons]
    by_cases h1:f x < k
    · rw [if_pos (by simp;omega),if_pos (by simpa using h1),if_neg (by simp;omega)];simp only [List.length_cons];omega
    · by_cases h2:f x=k
      · rw [if_pos (by simp;omega),if_neg (by simpa using h1),if_pos (by simpa using h2)];simp only [List.length_cons];omega
      · rw [if_neg (by simp;omega),if_neg (by simpa using h1),if_neg (by simpa using h2)];exact h
theorem sumR_eq (s:qy) (t:qA):∀ k,sumR s t k≤((appls s t).filter fun x=>decide ((s.qx[x.toNat]!).qE < (k:Int))).length
  | 0=>Nat.zero_le _
  | k+1=>by
    have h:=sumR_eq s t k
    have h2:=filter_two (fun x=>(s.qx[x.toNat]!).qE) (k:Int) (appls s t)
    rw [sumR,show ((k+1:Nat):Int)=(k:Int)+1 by omega,h2]
    exact Nat.add_le_add h (Nat.le_refl _)
theorem sumR_le {s:qy} {t:qA} (hs:vw s) (k:Nat):sumR s t k≤16:=
  Nat.le_trans (sumR_eq s t k) (Nat.le_trans (List.length_filter_le _ _) (Nat.le_trans (applL_le s t _) hs.2.1))
theorem prod_few {s:qy} {t:qA} (hs:vw s) (ht:xJ s t):∀ k,k≤t.qG.length→QB (xy s t k) (xy s t k).length≤17 ^ (sumR s t k - 1)
  | 0,_=>by show QB [] 0≤_;rw [QB];exact Nat.one_le_pow _ _ qj
  | k+1,hk=>by
    have h:=prod_few hs ht k qf
    rw [sumR]
    by_cases e:(zG s t k).length=0
    · rw [← packsL_no e,e];exact h
    · rw [← packsL_yes e,prod_snoc]
      refine Nat.le_trans (Nat.mul_le_mul h (cellP_few hs ht qf e)) ?_
      rw [← Nat.pow_add]
      exact Nat.pow_le_pow_right qj qf
theorem packsL_ne {s:qy} {t:qA} (hs:vw s) (ht:xJ s t) {k:Nat} (hk:k≤t.qG.length) (hg:GoodP s t k):∀ j,j < (xy s t k).length→(xy s t k)[j]! ≠[]:=fun j hj=>by
  obtain ⟨c,hc,hr,_,h2⟩:=live_at (s:=s) (t:=t) (k:=k) (i:=j) (by rw [← packsL_le];exact hj)
  rw [h2]
  exact cellP_ne hs ht qf ((hg c hc).resolve_left hr)
theorem prod_bd {s:qy} {t:qA} (hs:vw s) (ht:xJ s t) {k:Nat} (hk:k≤t.qG.length) (hg:GoodP s t k):∀ j,j≤(xy s t k).length→((QB (xy s t k) j:Nat):Int)≤2862423051509815793:=fun j hj=>by
  have h1:=prod_mono (packsL_ne hs ht hk hg) hj (Nat.le_refl _)
  have h2:=prod_few hs ht k hk
  have h3:17 ^ (sumR s t k - 1)≤17 ^ 15:=Nat.pow_le_pow_right qj (by have:=sumR_le (t:=t) hs k;omega)
  have h4:17 ^ 15=2862423051509815793:=by decide
  omega

def setTo (o r x:yLI):Nat→yLI
  | 0=>o
  | k+1=>(setTo o r x k).set (r[k]!).toNat (x[k]!)
theorem setTo_len (o r x:yLI):∀ k,(setTo o r x k).length=o.length
  | 0=>rfl
  | k+1=>by rw [setTo,List.length_set,setTo_len o r x k]
def setAll (o r x:yLI):yLI:=setTo o r x r.length
theorem setAll_len (o r x:yLI):(setAll o r x).length=o.length:=setTo_len o r x _
def nextK (G:yLL) (r:yLI) (P:yLL) (k:Nat):yLL:=(G.take k).flatMap fun o=>P.map (setAll o r)
def nextX (G:yLL) (r:yLI) (P:yLL) (k x:Nat):yLL:=nextK G r P k++(P.take x).map (setAll (G[k]!) r)
theorem nextX_zero (G:yLL) (r:yLI) (P:yLL) (k:Nat):nextK G r P k=nextX G r P k 0:=by simp [nextX]
theorem nextX_succ {G:yLL} {r:yLI} {P:yLL} {k x:Nat} (h:x < P.length) {v:yLI} (hv:v=setAll (G[k]!) r (P[x]!)):nextX G r P k x++[v]=nextX G r P k (x+1):=by
  subst hv;unfold nextX;rw [List.append_assoc,← take_snoc h,List.map_append];rfl
theorem nextX_end {G:yLL} {r:yLI} {P:yLL} {k x:Nat} (hk:k < G.length) (h:x=P.length):nextX G r P k x=nextK G r P (k+1):=by
  subst h;unfold nextX nextK;rw [List.take_length,← take_snoc hk,List.flatMap_append];simp
theorem nextK_len {G:yLL} {r:yLI} {P:yLL}:∀ {k:Nat},k≤G.length→(nextK G r P k).length=k * P.length
  | 0,_=>by simp [nextK]
  | k+1,h=>by
    rw [← nextX_end (show k < G.length by omega) rfl,nextX,List.length_append,nextK_len qf,List.take_length,List.length_map,Nat.add_mul,Nat.one_mul]
theorem nextX_len {G:yLL} {r:yLI} {P:yLL} {k x:Nat} (hk:k < G.length) (hx:x≤P.length):(nextX G r P k x).length=k * P.length+x:=by
  rw [nextX,List.length_append,nextK_len qf,List.length_map,List.length_take];omega
theorem nextX_le {G:yLL} {r:yLI} {P:yLL} {k x:Nat} (hk:k < G.length) (hx:x≤P.length):(nextX G r P k x).length≤G.length * P.length:=by
  rw [nextX_len hk hx]
  have:=Nat.mul_le_mul_right P.length (show k+1≤G.length from hk)
  rw [Nat.add_mul,Nat.one_mul] at this
  omega
def jw (n:Nat) (rs:yLL) (all:List yLL):Nat→yLL
  | 0=>[List.replicate n 0]
  | i+1=>nextK (jw n rs all i) (rs[i]!) (all[i]!) (jw n rs all i).length
theorem XP {n:Nat} {rs:yLL} {all:List yLL}:∀ i,(jw n rs all i).length=QB all i
  | 0=>rfl
  | i+1=>by rw [jw,nextK_len (Nat.le_refl _),XP i,QB]
theorem mem_at_L {l:yLL} {k:Nat} (h:k < l.length):l[k]! ∈l:=by rw [getElem!_pos l k h];exact List.getElem_mem h
theorem prodG_row {n:Nat} {rs:yLL} {all:List yLL}:∀ i,∀ x∈jw n rs all i,x.length=n
  | 0,x,h=>by obtain rfl:=List.mem_singleton.1 h;simp
  | i+1,x,h=>by
    rw [jw,nextK,List.mem_flatMap] at h
    obtain ⟨o,ho,h⟩:=h
    obtain ⟨y,_,rfl⟩:=List.mem_map.1 h
    rw [setAll_len]
    exact prodG_row i o (List.mem_of_mem_take ho)
theorem prodG_at {n:Nat} {rs:yLL} {all:List yLL} {i k:Nat} (h:k < (jw n rs all i).length):((jw n rs all i)[k]!).length=n:=prodG_row i _ (mem_at_L h)
open Classical in
noncomputable def inOrder (l:yLL):yLL:=if h:∃ m,l.Perm m∧InOrder m then Classical.choose h else l
theorem inOrder_eq {n:Nat} {l m:yLL} (hn:∀ x∈l,x.length=n) (hp:l.Perm m) (ho:InOrder m):inOrder l=m:=by
  have h:∃ m,l.Perm m∧InOrder m:=⟨m,hp,ho⟩
  unfold inOrder
  rw [dif_pos h]
  have hc:=Classical.choose_spec h
  exact order_one (n:=n) (fun x hx=>hn x (hc.1.symm.subset hx)) (hc.1.symm.trans hp) hc.2 ho
open Classical in
noncomputable def Qd (s:qy) (t:qA):yLL×Int:=
  if ¬ GoodP s t s.qw.length then ([],3) else if QB (xy s t s.qw.length) (xy s t s.qw.length).length > 300 then ([],3)
  else (inOrder (jw s.qx.length (qV s t s.qw.length) (xy s t s.qw.length) (xy s t s.qw.length).length),0)
theorem cho_3 {s:qy} {t:qA} (h:¬ GoodP s t s.qw.length∨QB (xy s t s.qw.length) (xy s t s.qw.length).length > 300):Qd s t=([],3):=by
  unfold Qd
  by_cases h1:GoodP s t s.qw.length
  · rw [if_neg (by simpa using h1),if_pos (h.resolve_left (by simpa using h1))]
  · rw [if_pos h1]
theorem cho_0 {s:qy} {t:qA} {m:yLL} (h:GoodP s t s.qw.length) (h1:¬ QB (xy s t s.qw.length) (xy s t s.qw.length).length > 300)
    (hp:(jw s.qx.length (qV s t s.qw.length) (xy s t s.qw.length) (xy s t s.qw.length).length).Perm m) (ho:InOrder m):Qd s t=(m,0):=by
  unfold Qd
  rw [if_neg (by simpa using h),if_neg h1,inOrder_eq (prodG_row _) hp ho]
theorem in_order {l:yLL} {i:Nat} (hi:l.length≤i) (h:∀ a b,a < b→b < i→¬ ahead (l[b]!) (l[a]!)):InOrder l:=by
  have:=(orderTo_iff (l:=l) (k:=l.length) (Nat.le_refl _)).2 fun a b hab hb=>h a b hab qf
  unfold OrderTo at this
  rwa [List.take_length] at this
theorem cho_code {s:qy} {t:qA} {b:yLI} {p:yLL} (h:¬ GoodP s t s.qw.length) (h1:¬ (vk b p).2=0):Qd s t=([],(vk b p).2):=by rw [cho_3 (.inl h),all_code h1]
theorem next_le {n i k x:Nat} {rs:yLL} {all:List yLL} (h:∀ j,j < all.length→all[j]! ≠[]) (h1:¬ QB all all.length > 300) (hi:i < all.length) (hk:k < (jw n rs all i).length) (hx:x≤(all[i]!).length):(nextX (jw n rs all i) (rs[i]!) (all[i]!) k x).length≤300:=by
  have h2:=nextX_le (r:=rs[i]!) hk hx
  have h3:=prod_mono h (show i+1≤all.length from hi) (Nat.le_refl _)
  rw [QB,← XP (n:=n) (rs:=rs) i] at h3
  omega
theorem G_le {n i:Nat} {rs:yLL} {all:List yLL} (h:∀ j,j < all.length→all[j]! ≠[]) (h1:¬ QB all all.length > 300) (hi:i≤all.length):(jw n rs all i).length≤300:=by
  have h3:=prod_mono h hi (Nat.le_refl _)
  rw [XP];omega
theorem cell_few {s:qy} {t:qA} {n i:Nat} (hs:vw s) (hi:i < (qV s t n).length):((qV s t n)[i]!).length≤8∧((xy s t n)[i]!).length≤2000:=by
  obtain ⟨c,_,_,e,e1⟩:=live_at hi
  rw [e,e1]
  exact ⟨cellR_len hs c,all_len _ _⟩
theorem choice_at {s:qy} {t:qA} {n i r:Nat} (hi:i < (qV s t n).length) (hr:r < ((qV s t n)[i]!).length):0≤((qV s t n)[i]!)[r]! ∧(((qV s t n)[i]!)[r]!).toNat < s.qx.length:=by
  obtain ⟨c,_,_,e,_⟩:=live_at hi
  rw [e] at hr ⊢
  have:=cellR_at hr
  exact ⟨this.1,this.2.1⟩
theorem pack_at {s:qy} {t:qA} {n i x:Nat} (hi:i < (qV s t n).length) (hx:x < ((xy s t n)[i]!).length):(((xy s t n)[i]!)[x]!).length=((qV s t n)[i]!).length:=by
  obtain ⟨c,_,_,e,e1⟩:=live_at hi
  rw [e1] at hx ⊢
  rw [e]
  exact (all_at hx).trans (Xt _ _)
theorem perm_rows {n m:Nat} {rs:yLL} {all:List yLL} {l:yLL} (h:(jw n rs all m).Perm l):∀ j,j < l.length→(l[j]!).length=n:=fun j hj=>prodG_row m _ (h.symm.subset (mem_at_L hj))
theorem perm_swap {l m:yLL} {k:Nat} (h:l.Perm m) (hk:0 < k) (hl:k < m.length):l.Perm (swapAt m k):=h.trans (swap_perm hk hl).symm
noncomputable def QC (s:qy) (t:qA):yLL×Int:=open Classical in if ¬ (vw s∧xJ s t) then ([],1) else Qd s t
theorem mc_1 {s:qy} {t:qA} (h:¬ (vw s∧xJ s t)):QC s t=([],1):=by unfold QC;rw [if_pos h]
theorem mc_0 {s:qy} {t:qA} (h:vw s∧xJ s t):QC s t=Qd s t:=by unfold QC;rw [if_neg (by simpa using h)]
noncomputable def ownL (e:TypeId) (s:qy) (t:qA) (n q:Nat):List (OwnI e):=(List.range n).map fun (c:Nat)=>⟨((appls s t).take q).filter fun x=>decide ((s.qx[x.toNat]!).qE=(c:Int))⟩
theorem ownL_len (e:TypeId) (s:qy) (t:qA) (n q:Nat):(ownL e s t n q).length=n:=by simp [ownL]
theorem ownL_get {e:TypeId} {s:qy} {t:qA} {n q c:Nat} (h:c < n):(ownL e s t n q)[c]! =⟨((appls s t).take q).filter fun x=>decide ((s.qx[x.toNat]!).qE=(c:Int))⟩:=by
  rw [getElem!_pos (ownL e s t n q) c (by rw [ownL_len];exact h)];simp [ownL]
theorem ownL_zero (e:TypeId) (s:qy) (t:qA) (n:Nat):List.replicate n (⟨[]⟩:OwnI e)=ownL e s t n 0:=by
  refine List.ext_getElem (by simp [ownL]) fun i h1 h2=>by simp [ownL]
theorem ownL_set {e:TypeId} {s:qy} {t:qA} {n q c:Nat} (hq:q < (appls s t).length) (hc:(s.qx[((appls s t)[q]!).toNat]!).qE.toNat=c) (h0:0≤(s.qx[((appls s t)[q]!).toNat]!).qE) (hn:c < n)
    {l:List (OwnI e)} (hl:l=(ownL e s t n q).set c ⟨((ownL e s t n q)[c]!).l++[(appls s t)[q]!]⟩):l=ownL e s t n (q+1):=by
  subst hl
  refine List.ext_getElem (by simp [ownL]) fun i h1 h2=>?_
  have hi:i < n:=by simpa [ownL] using h1
  rw [← getElem!_pos _ i h1,← getElem!_pos _ i h2,getset (by rw [ownL_len];exact hn),ownL_get (q:=q+1) hi]
  rw [← take_snoc hq,List.filter_append]
  by_cases e' :i=c
  · subst e'
    rw [if_pos rfl,ownL_get hi,List.filter_cons_of_pos (a:=(appls s t)[q]!) (decide_eq_true qf),List.filter_nil]
  · rw [if_neg e',ownL_get hi]
    rw [List.filter_cons_of_neg (a:=(appls s t)[q]!) (fun h=>by have:=of_decide_eq_true h;omega),List.filter_nil,List.append_nil]
theorem ownL_le {e:TypeId} {s:qy} {t:qA} {n q c:Nat} (h:c < n):((ownL e s t n q)[c]!).l.length≤(appls s t).length:=by
  rw [ownL_get h]
  exact Nat.le_trans (List.length_filter_le _ _) (by rw [List.length_take];omega)
noncomputable def cellsR (s:qy) (t:qA) (n:Nat):yLL:=(List.range n).map (zG s t)
theorem cellsR_len (s:qy) (t:qA) (n:Nat):(cellsR s t n).length=n:=by simp [cellsR]
theorem cellsR_get {s:qy} {t:qA} {n c:Nat} (h:c < n):(cellsR s t n)[c]! =zG s t c:=by
  rw [getElem!_pos (cellsR s t n) c (by rw [cellsR_len];exact h)];simp [cellsR]
theorem ownL_end {e:TypeId} {s:qy} {t:qA} {n q:Nat} (h:(appls s t).length≤q):(ownL e s t n q).map OwnI.l=cellsR s t n:=by
  unfold ownL cellsR
  rw [List.take_of_length_le h,List.map_map]
  rfl
theorem own_bad {s:qy} {t:qA} (hs:vw s) {q:Nat} (hq:q < (appls s t).length) (h1:QJ (t.qG[(s.qx[((appls s t)[q]!).toNat]!).qE.toNat]!) > 16):¬ GoodP s t s.qw.length:=by
  have hm:(appls s t)[q]! ∈appls s t:=by rw [getElem!_pos _ q hq];exact List.getElem_mem hq
  obtain ⟨a,b,d⟩:=mem_applL.1 hm
  have hc:=(hs.rule b).1
  have hcl:=(hs.rule b).cell
  refine bad_sum (c:=(s.qx[((appls s t)[q]!).toNat]!).qE.toNat) hcl (fun h0=>?_) h1
  have:(appls s t)[q]! ∈zG s t (s.qx[((appls s t)[q]!).toNat]!).qE.toNat:=by
    unfold zG cellT
    exact List.mem_filter.2 ⟨hm,decide_eq_true (Int.toNat_of_nonneg hc.1).symm⟩
  rw [List.eq_nil_of_length_eq_zero h0] at this
  simp at this
noncomputable def Qo (s:qy) (t:qA) (k:Nat):List inCellD:=(XL s t k).map fun c=>⟨zG s t c,(cellP s t c).1⟩
theorem cells_len (s:qy) (t:qA) (k:Nat):(Qo s t k).length=(qV s t k).length:=by simp [Qo,qV]
theorem cells_yes {s:qy} {t:qA} {k:Nat} (h:¬ (zG s t k).length=0):Qo s t k++[⟨zG s t k,(cellP s t k).1⟩]=Qo s t (k+1):=by simp [Qo,live_yes h]
theorem cells_no {s:qy} {t:qA} {k:Nat} (h:(zG s t k).length=0):Qo s t k=Qo s t (k+1):=by simp [Qo,live_no h]
theorem cells_at {s:qy} {t:qA} {k i:Nat} (h:i < (Qo s t k).length):((Qo s t k)[i]!).frules=(qV s t k)[i]! ∧((Qo s t k)[i]!).fpackings=(xy s t k)[i]! :=by
  have h1:i < (qV s t k).length:=by rw [← cells_len];exact h
  have h2:i < (xy s t k).length:=by rw [packsL_le];exact h1
  rw [getElem!_pos _ i h,getElem!_pos _ i h1,getElem!_pos _ i h2]
  simp [Qo,qV,xy]
theorem prod_stop {all:List yLL} {n i k:Nat} (h:∀ j,j < n→all[j]! ≠[]) (hi:i < n) {G:yLL} {r:yLI} (hG:G.length=QB all i) (hk:k≤G.length) (h1:(nextK G r (all[i]!) k).length > 300):QB all n > 300:=by
  rw [nextK_len hk] at h1
  have h2:=prod_mono h (show i+1≤n from hi) (Nat.le_refl _)
  rw [QB,← hG] at h2
  have h3:=Nat.mul_le_mul_right (all[i]!).length hk
  omega
theorem appls_inH {s:qy} {t:qA} {q:Nat} (hq:q < (appls s t).length):0≤(appls s t)[q]! ∧((appls s t)[q]!).toNat < s.qx.length∧Appl s t ((appls s t)[q]!).toNat:=by
  have hm:(appls s t)[q]! ∈appls s t:=by rw [getElem!_pos _ q hq];exact List.getElem_mem hq
  exact mem_applL.1 hm
theorem bagAny_okH {l:yLI}:zZ (l.length:Int) l↔Ql l:=⟨fun h=>h.1,fun h=>⟨h,rfl⟩⟩
theorem sumTo_ge {l:yLI} (h:∀ k,k < l.length→0≤l[k]!):∀ n,n≤l.length→0≤sumTo l n∧∀ j,j < n→l[j]! ≤sumTo l n
  | 0,_=>⟨by simp [sumTo],fun j hj=>by omega⟩
  | n+1,hn=>by
    obtain ⟨h1,h2⟩:=sumTo_ge h n qf
    have h3:=h n qf
    rw [sumTo]
    refine ⟨by omega,fun j hj=>?_⟩
    by_cases e:j=n
    · subst e;omega
    · have:=h2 j qf;omega
theorem XU.bags {parts:yLL} {rest:yLI} (h:XU parts rest) (h1:1≤parts.length):
    Ql rest∧parts.length≤8∧∀ i,i < parts.length→Ql (parts[i]!)∧(parts[i]!).length=rest.length∧QJ (parts[i]!)≠0:=by
  obtain ⟨K,hK,hP,hR,hn⟩:=h
  have bag:∀ i,i < parts.length→Ql (parts[i]!)∧(parts[i]!).length=rest.length∧QJ (parts[i]!)≠0:=fun i hi=>by
    obtain ⟨hl,hb,j,hj,hp⟩:=hP i hi
    refine ⟨⟨fun k hk=>hb k qf,by omega,by omega⟩,by have:=hR.1;omega,?_⟩
    have:=(sumTo_ge (l:=parts[i]!) (fun k hk=>(hb k qf).1) _ (Nat.le_refl _)).2 j qf
    unfold QJ;omega
  obtain ⟨hl,_,j,hj,_⟩:=hP 0 qf
  exact ⟨⟨fun k hk=>hR.2 k (by have:=hR.1;omega),by have:=hR.1;omega,by have:=hR.1;omega⟩,hn,bag⟩
theorem pack_begin {cs cn:yLI} {i:Nat} {n:Int} (hc:i < cn.length) (h2:cn.take i=cs.take i):(cn.set i n).take (i+1)=cs.take i++[n]:=by
  rw [List.take_add_one,List.take_set_of_le (Nat.le_refl _),h2,List.getElem?_set_self hc];rfl
theorem pack_keep {cs cn c2:yLI} {i:Nat} {n:Int} (h:c2.take (i+1)=(cn.set i n).take (i+1)) (h2:cn.take i=cs.take i):c2.take i=cs.take i:=by
  have:=congrArg (List.take i) h
  rwa [List.take_take,List.take_take,Nat.min_eq_left qf,List.take_set_of_le (Nat.le_refl _),h2] at this
theorem pack_stepI {parts:yLL} {rest cs cn:yLI} {out:yLL} {f i n:Nat} (hf:i+f=parts.length) (hp:i < parts.length) (hc:cn.length=parts.length) (h2:cn.take i=cs.take i)
    (h:(gath out (begins (cs.take i) (jL parts (f - 1) i rest n))).length≤2000):
    gath (gath out (begins (cs.take i) (jL parts (f - 1) i rest n))) (begins ((cn.set i (n:Int)).take (i+1)) (packs parts (parts.length - (i+1)) (i+1) (vZ rest (parts[i]!) (-(n:Int)))))=gath out (begins (cs.take i) (jL parts (f - 1) i rest (n+1))):=by
  rw [pack_begin qf h2,← gath_step h,show parts.length - (i+1)=f - 1 by omega]
theorem pack_startI {parts:yLL} {rest cs:yLI} {out:yLL} {f i:Nat} (h:out.length≤2000):out=gath out (begins (cs.take i) (jL parts f i rest 0)):=by
  rw [packsTo_zero];exact (gath_nil qf).symm
theorem pack_fullI {parts:yLL} {rest cs:yLI} {out:yLL} {i:Nat} (hl:i=parts.length) (hc:cs.length=parts.length) (h:FullOk parts rest) (ho:out.length≤2000):
    gath out (begins (cs.take i) (packs parts (parts.length - i) i rest))=out++[cs]:=by
  rw [show parts.length - i=0 by omega,packs_full h,begins_one,gath_one ho,List.take_of_length_le qf]
theorem pack_noneI {parts:yLL} {rest cs:yLI} {out:yLL} {i:Nat} (hl:i=parts.length) (h:¬ FullOk parts rest) (ho:out.length≤2000):
    gath out (begins (cs.take i) (packs parts (parts.length - i) i rest))=out:=by
  rw [show parts.length - i=0 by omega,packs_none h];exact gath_nil qf
theorem pack_endI {parts:yLL} {rest cs:yLI} {out:yLL} {f i n:Nat} (hf:i+f=parts.length) (hp:i < parts.length) (hn:(n:Int)≤vY (parts[i]!) rest+1)
    (h0:0≤vY (parts[i]!) rest) (h:¬ (n:Int)≤vY (parts[i]!) rest∨¬ (gath out (begins (cs.take i) (jL parts (f - 1) i rest n))).length≤2000):
    gath out (begins (cs.take i) (packs parts (parts.length - i) i rest))=gath out (begins (cs.take i) (jL parts (f - 1) i rest n)):=by
  obtain ⟨f,rfl⟩:∃ g,f=g+1:=⟨f - 1,by omega⟩
  rw [show parts.length - i=f+1 by omega]
  rw [show f+1 - 1=f from rfl] at h ⊢
  exact (gath_end qf (by rcases h with h | h;(left;omega);(right;omega))).symm
theorem all_bI {b cs:yLI} {parts:yLL} (h:¬ QJ b > 16) (h1:(gath ([]:yLL) (begins (cs.take 0) (packs parts (parts.length - 0) 0 b))).length > 2000):vk b parts=([],3):=by
  rw [show cs.take 0=[] from rfl,begins_nil] at h1
  have h2:(packs parts parts.length 0 b).length > 2000:=gath_all.1 h1
  rw [vk,if_neg h,if_pos h2]
theorem all_0I {b cs:yLI} {parts:yLL} (h:¬ QJ b > 16) (h1:¬ (gath ([]:yLL) (begins (cs.take 0) (packs parts (parts.length - 0) 0 b))).length > 2000):vk b parts=(gath ([]:yLL) (begins (cs.take 0) (packs parts (parts.length - 0) 0 b)),0):=by
  rw [show cs.take 0=[] from rfl,begins_nil] at h1 ⊢
  have h2:¬ (packs parts parts.length 0 b).length > 2000:=fun h=>h1 (gath_all.2 h)
  rw [vk,if_neg h,if_neg h2,show parts.length - 0=parts.length from rfl,gath_few h2]
def dotP:yLI→yLL→Nat→Int
  | n :: y,p :: ps,q=>n * p[q]! +dotP y ps q
  | _,_,_=>0
theorem packs_mem {K:Nat} {parts:yLL} (hP:PartsOk K parts):∀ (f k:Nat) (rest y:yLI),k+f=parts.length→RestOk K rest→y∈packs parts f k rest→
    (∀ v∈y,0≤v∧v≤1000)∧∀ q,q < K→0≤rest[q]! - dotP y (parts.drop k) q
  | 0,k,rest,y,hk,hR,h=>by
    rw [packs] at h
    split at h
    · obtain rfl:=List.mem_singleton.1 h
      refine ⟨fun v hv=>by simp at hv,fun q hq=>?_⟩
      have:=(hR.2 q hq).1
      simp only [dotP];omega
    · simp at h
  | f+1,k,rest,y,hk,hR,h=>by
    rw [packs,List.mem_flatMap] at h
    obtain ⟨n,hn,h⟩:=h
    obtain ⟨y',hy,rfl⟩:=List.mem_map.1 h
    have hb:=times_bd hP hR (k:=k) qf
    rw [List.mem_range] at hn
    obtain ⟨h1,h2⟩:=packs_mem hP f (k+1) _ y' qf (hR.take hP qf (n:=(n:Int)) qf qf) hy
    refine ⟨fun v hv=>?_,fun q hq=>?_⟩
    · rcases List.mem_cons.1 hv with rfl | hv
      · omega
      · exact h1 v hv
    · have h3:=h2 q hq
      rw [plus_get (by have:=hR.1;omega),Int.neg_mul] at h3
      rw [drop_cons' (show k < parts.length by omega),dotP]
      omega
where
  drop_cons' {l:yLL} {i:Nat} (h:i < l.length):l.drop i=l[i]! :: l.drop (i+1):=by
    rw [getElem!_pos l i h];exact (List.drop_eq_getElem_cons h)
def XZ (s:qy) (x:yLI) (q:Nat):yLI→Int
  | []=>0
  | r :: l=>x[r.toNat]! * ((s.qx[r.toNat]!).xM)[q]! +XZ s x q l
theorem sumOver_cat (s:qy) (x:yLI) (q:Nat):∀ (l m:yLI),XZ s x q (l++m)=XZ s x q l+XZ s x q m
  | [],m=>by simp [XZ]
  | r :: l,m=>by rw [List.cons_append,XZ,XZ,sumOver_cat s x q l m];omega
theorem sumOver_dot {s:qy} {x:yLI} {q:Nat}:∀ {l y:yLI},y.length=l.length→(∀ j,j < l.length→x[(l[j]!).toNat]! =y[j]!)→XZ s x q l=dotP y (x8 s l) q
  | [],[],_,_=>rfl
  | [],_ :: _,h,_=>by simp at h
  | _ :: _,[],h,_=>by simp at h
  | r :: l,v :: y,h,h1=>by
    have h0:=h1 0 qm
    simp only [List.getElem!_cons_zero] at h0
    show _=dotP (v :: y) ((s.qx[r.toNat]!).xM :: x8 s l) q
    rw [XZ,dotP,h0,sumOver_dot (by simpa using h) fun j hj=>by simpa using h1 (j+1) (by simp;omega)]
theorem needS_cell {s:qy} {t:qA} {x:yLI} {c q:Nat} (hs:vw s):∀ k,k≤s.qx.length→(∀ i,i < k→(s.qx[i]!).qE=(c:Int)→¬ Appl s t i→x[i]! =0)→needS s x k c q= -(XZ s x q (cellT s t k c))
  | 0,_,_=>by simp [needS,cellT,applL,XZ]
  | k+1,hk,h=>by
    have ih:=needS_cell (t:=t) (c:=c) (q:=q) hs k qf fun i hi=>h i qf
    rw [needS,ih,needF,at']
    by_cases e:(s.qx[k]!).qE=(c:Int)
    · rw [if_pos qf]
      by_cases ha:Appl s t k
      · rw [← cellT_yes ha e,sumOver_cat]
        simp only [XZ,Int.toNat_natCast]
        rw [Int.neg_mul];omega
      · rw [← Xe ha,h k qf e ha]
        simp
    · rw [if_neg (fun h' =>e (by have:=(hs.rule (i:=k) qf).1.1;omega)),← QH e];omega

theorem setTo_ne {o r x:yLI} {p:Nat}:∀ {k:Nat},(∀ j,j < k→(r[j]!).toNat≠p)→(∀ j,j < k→(r[j]!).toNat < o.length)→(setTo o r x k)[p]! =o[p]!
  | 0,_,_=>rfl
  | k+1,h,h1=>by
    rw [setTo,getset (by rw [setTo_len];exact h1 k qf),if_neg (fun e=>h k qf e.symm)]
    exact setTo_ne (fun j hj=>h j qf) fun j hj=>h1 j qf
theorem setTo_eq {o r x:yLI} {j:Nat}:∀ {k:Nat},(∀ a b,a < k→b < k→(r[a]!).toNat=(r[b]!).toNat→a=b)→(∀ j,j < k→(r[j]!).toNat < o.length)→j < k→(setTo o r x k)[(r[j]!).toNat]! =x[j]!
  | 0,_,_,h=>by omega
  | k+1,hi,h1,hj=>by
    rw [setTo,getset (by rw [setTo_len];exact h1 k qf)]
    by_cases e:j=k
    · subst e;rw [if_pos rfl]
    · rw [if_neg (fun e' =>e (hi j k qf qf e'))]
      exact setTo_eq (fun a b ha hb=>hi a b qf qf) (fun j hj=>h1 j qf) qf
theorem inj_lt {α:Type} [LT α] {l:List α} (irr:∀ x:α,¬ x < x) (h:l.Pairwise (· < ·)) {a b:Nat} (ha:a < l.length) (hb:b < l.length) (e:l[a]=l[b]):a=b:=by
  rw [List.pairwise_iff_getElem] at h
  rcases Nat.lt_trichotomy a b with h1 | h1 | h1
  · have:=h a b ha hb h1;rw [e] at this;exact absurd this (irr _)
  · exact h1
  · have:=h b a hb ha h1;rw [e] at this;exact absurd this (irr _)
theorem applL_lt (s:qy) (t:qA) (k:Nat):(applL s t k).Pairwise (· < ·):=by
  unfold applL
  rw [List.pairwise_map]
  exact (List.pairwise_lt_range.filter _).imp fun h=>by simpa using h
theorem cellR_inj {s:qy} {t:qA} {c a b:Nat} (ha:a < (zG s t c).length) (hb:b < (zG s t c).length) (h:((zG s t c)[a]!).toNat=((zG s t c)[b]!).toNat):a=b:=by
  have h1:=(cellR_at ha).1
  have h2:=(cellR_at hb).1
  have hn:(zG s t c).Pairwise (· < ·):=by unfold zG cellT;exact (applL_lt s t _).filter _
  have e:(zG s t c)[a]! =(zG s t c)[b]! :=by omega
  rw [getElem!_pos _ a ha,getElem!_pos _ b hb] at e
  exact inj_lt (fun x=>by omega) hn ha hb e
theorem live_cell {s:qy} {t:qA} {k i i' :Nat} (h:i < (qV s t k).length) (h' :i' < (qV s t k).length):∃ c c',(qV s t k)[i]! =zG s t c∧(qV s t k)[i']! =zG s t c' ∧(c=c' →i=i'):=by
  have hl:i < (XL s t k).length:=by simpa [qV] using h
  have hl' :i' < (XL s t k).length:=by simpa [qV] using h'
  have hn:(XL s t k).Pairwise (· < ·):=by unfold XL;exact List.pairwise_lt_range.filter _
  refine ⟨(XL s t k)[i],(XL s t k)[i'],?_,?_,fun e=>inj_lt (fun x=>by omega) hn hl hl' e⟩
  · rw [getElem!_pos _ i h];simp [qV]
  · rw [getElem!_pos _ i' h'];simp [qV]
theorem rules_inj {s:qy} {t:qA} {k i i' j j' :Nat} (h:i < (qV s t k).length) (h' :i' < (qV s t k).length) (hj:j < ((qV s t k)[i]!).length) (hj' :j' < ((qV s t k)[i']!).length)
    (e:(((qV s t k)[i]!)[j]!).toNat=(((qV s t k)[i']!)[j']!).toNat):i=i' ∧j=j' :=by
  obtain ⟨c,c',e1,e2,e3⟩:=live_cell h h'
  rw [e1] at hj e
  rw [e2] at hj' e
  have h1:=cellR_at hj
  have h2:=cellR_at hj'
  have hc:c=c' :=by
    have a:=h1.2.2.2
    have b:=h2.2.2.2
    rw [e] at a
    omega
  subst hc
  exact ⟨e3 rfl,cellR_inj hj hj' e⟩
def Says (s:qy) (t:qA) (k m:Nat) (x:yLI):Prop:=
  x.length=s.qx.length∧(∀ i,i < m→∃ y,y∈(xy s t k)[i]! ∧∀ j,j < ((qV s t k)[i]!).length→x[(((qV s t k)[i]!)[j]!).toNat]! =y[j]!)∧
  ∀ r,r < s.qx.length→(∀ i,i < m→∀ j,j < ((qV s t k)[i]!).length→(((qV s t k)[i]!)[j]!).toNat≠r)→x[r]! =0
theorem prodG_says {s:qy} {t:qA} {k:Nat}:∀ m,m≤(qV s t k).length→∀ x∈jw s.qx.length (qV s t k) (xy s t k) m,Says s t k m x
  | 0,_,x,h=>by
    obtain rfl:=List.mem_singleton.1 h
    refine ⟨by simp,fun i hi=>by omega,fun r hr _=>?_⟩
    rw [getElem!_pos _ r (by simpa using hr)];simp
  | m+1,hm,x,h=>by
    rw [jw,nextK,List.mem_flatMap] at h
    obtain ⟨o,ho,h⟩:=h
    obtain ⟨y,hy,rfl⟩:=List.mem_map.1 h
    obtain ⟨h1,h2,h3⟩:=prodG_says m qf o (List.mem_of_mem_take ho)
    have hb:∀ j,j < ((qV s t k)[m]!).length→(((qV s t k)[m]!)[j]!).toNat < o.length:=fun j hj=>by rw [h1];exact (choice_at qf hj).2
    have hn:∀ a b,a < ((qV s t k)[m]!).length→b < ((qV s t k)[m]!).length→(((qV s t k)[m]!)[a]!).toNat=(((qV s t k)[m]!)[b]!).toNat→a=b:=fun a b ha hb' e=>(rules_inj (show m < _ by omega) (show m < _ by omega) ha hb' e).2
    refine ⟨by rw [setAll_len];exact h1,fun i hi=>?_,fun r hr hne=>?_⟩
    · by_cases e:i=m
      · subst e
        exact ⟨y,hy,fun j hj=>setTo_eq hn hb hj⟩
      · obtain ⟨y',hy',h4⟩:=h2 i qf
        refine ⟨y',hy',fun j hj=>?_⟩
        rw [← h4 j hj]
        exact setTo_ne (fun a ha e' =>e (rules_inj (show m < _ by omega) (show i < _ by omega) ha hj e').1.symm) hb
    · rw [← h3 r hr fun i hi j hj=>hne i qf j hj]
      exact setTo_ne (fun a ha=>hne m qf a ha) hb
theorem cell_live {s:qy} {t:qA} {k c:Nat} (hk:c < k) (h:¬ (zG s t c).length=0):∃ i,i < (qV s t k).length∧(qV s t k)[i]! =zG s t c∧(xy s t k)[i]! =(cellP s t c).1:=by
  have hm:c∈XL s t k:=List.mem_filter.2 ⟨List.mem_range.2 hk,decide_eq_true h⟩
  obtain ⟨i,hi,e⟩:=List.mem_iff_getElem.1 hm
  refine ⟨i,by simpa [qV] using hi,?_,?_⟩
  · rw [getElem!_pos _ i (by simpa [qV] using hi)];simp [qV,e]
  · rw [getElem!_pos _ i (by simpa [xy] using hi)];simp [xy,e]
theorem says_choice {s:qy} {t:qA} (hs:vw s) (ht:xJ s t) {x:yLI} (h:Says s t s.qw.length (qV s t s.qw.length).length x):Xx s x∧IsCh s t x:=by
  obtain ⟨h1,h2,h3⟩:=h
  have hB:=ht.2.1
  -- a packing of a cell
  have cell:∀ c,c < s.qw.length→¬ (zG s t c).length=0→∃ y,y.length=(zG s t c).length∧(∀ v∈y,0≤v∧v≤1000)∧(∀ j,j < (zG s t c).length→x[((zG s t c)[j]!).toNat]! =y[j]!)∧∀ q,q < xY s→0≤(t.qG[c]!)[q]! - dotP y (x8 s (zG s t c)) q:=fun c hc hr=>by
    obtain ⟨i,hi,e1,e2⟩:=cell_live (s:=s) (t:=t) hc hr
    obtain ⟨y,hy,h4⟩:=h2 i hi
    rw [e1] at h4
    rw [e2] at hy
    unfold cellP at hy
    rcases all_cases (b:=t.qG[c]!) (parts:=x8 s (zG s t c)) with h5 | ⟨_,h5,_⟩
    · rw [h5] at hy;simp at hy
    · rw [h5] at hy
      have h6:=packs_mem (cell_parts (t:=t) hs c) _ 0 _ y (Nat.zero_add _) (cell_rest ht qf) hy
      exact ⟨y,(packs_len hy).trans (Xt _ _),h6.1,h4,h6.2⟩
  have at' :∀ i,i < s.qx.length→(x[i]! =0∨Appl s t i)∧0≤x[i]! ∧x[i]! ≤1000:=fun i hi=>by
    by_cases hex:∃ a b,a < (qV s t s.qw.length).length∧b < ((qV s t s.qw.length)[a]!).length∧(((qV s t s.qw.length)[a]!)[b]!).toNat=i
    · obtain ⟨a,b,ha,hb,e⟩:=hex
      obtain ⟨c,hc,hr,e1,_⟩:=live_at ha
      rw [e1] at hb e
      obtain ⟨y,hl,hv,hx,_⟩:=cell c hc hr
      have h5:=cellR_at hb
      have h6:=hx b hb
      rw [e] at h5 h6
      have h7:=hv (y[b]!) (by rw [getElem!_pos y b qf];exact List.getElem_mem _)
      rw [h6]
      exact ⟨.inr h5.2.2.1,h7⟩
    · have h5:=h3 i hi fun a ha b hb e=>hex ⟨a,b,ha,hb,e⟩
      rw [h5]
      exact ⟨.inl rfl,by omega,by omega⟩
  have hc:Xx s x:=⟨h1,fun i hi=>(at' i qf).2⟩
  refine ⟨hc,fun i hi hb=>?_,fun p hp q hq=>?_⟩
  · rcases (at' i qf).1 with h5 | h5
    · have:=hb.1;omega
    · exact hb.2 h5
  · rw [h1] at hq ⊢
    have he:=restR_ent hs ht hc s.qx.length (Nat.le_refl _)
    have hl:((Q7 s t x s.qx.length)[p]!).length=xY s:=(he.sh.2 p (by unfold xB;omega)).1
    have heq:=he.eq p q (by unfold xB;omega) qf
    rw [heq]
    have hn:=needS_cell (t:=t) (x:=x) (c:=p) (q:=q) hs s.qx.length (Nat.le_refl _) fun i hi _ ha=>((at' i hi).1).resolve_right ha
    rw [hn]
    have hbag:=(cell_rest (s:=s) ht hp).2 q qf
    by_cases hr:(zG s t p).length=0
    · show 0≤(t.qG[p]!)[q]! + -(XZ s x q (zG s t p))
      rw [List.eq_nil_of_length_eq_zero hr]
      simp only [XZ];omega
    · obtain ⟨y,hy,_,hx,hd⟩:=cell p qf hr
      have h6:=hd q qf
      rw [← sumOver_dot hy hx] at h6
      show 0≤(t.qG[p]!)[q]! + -(XZ s x q (zG s t p))
      omega
theorem cho_ok {s:qy} {t:qA} (hs:vw s) (ht:xJ s t) {k:Nat} (hk:k < (Qd s t).1.length):Xx s ((Qd s t).1[k]!)∧IsCh s t ((Qd s t).1[k]!):=by
  have hm:(Qd s t).1[k]! ∈(Qd s t).1:=mem_at_L hk
  generalize (Qd s t).1[k]! =x at hm
  unfold Qd at hm
  split at hm
  · simp at hm
  · split at hm
    · simp at hm
    · have hx:x∈inOrder (jw s.qx.length (qV s t s.qw.length) (xy s t s.qw.length) (xy s t s.qw.length).length):=hm
      unfold inOrder at hx
      have hle:=packsL_le s t s.qw.length
      split at hx
      · next h=>exact says_choice hs ht (by rw [← hle];exact prodG_says _ qf x ((Classical.choose_spec h).1.symm.subset hx))
      · exact says_choice hs ht (by rw [← hle];exact prodG_says _ qf x hx)
theorem inOrder_len (l:yLL):(inOrder l).length=l.length:=by
  unfold inOrder
  by_cases h:∃ m,l.Perm m∧InOrder m
  · rw [dif_pos h];exact (Classical.choose_spec h).1.symm.length_eq
  · rw [dif_neg h]
theorem cho_some {s:qy} {t:qA} (hs:vw s) (ht:xJ s t) (h:(Qd s t).2=0):0 < (Qd s t).1.length:=by
  unfold Qd at h ⊢
  by_cases h1:GoodP s t s.qw.length
  · by_cases h2:QB (xy s t s.qw.length) (xy s t s.qw.length).length > 300
    · rw [if_neg (by simpa using h1),if_pos h2] at h;cases h
    · rw [if_neg (by simpa using h1),if_neg h2]
      show 0 < (inOrder _).length
      rw [inOrder_len,XP]
      have hne:=packsL_ne hs ht (k:=s.qw.length) (by rw [ht.2.1];exact Nat.le_refl _) h1
      have:=prod_mono hne (Nat.zero_le _) (Nat.le_refl _)
      rw [QB] at this
      omega
  · rw [if_pos h1] at h;cases h
def chgF (s:qy) (t:qA) (i p q:Nat):Int:=at' p (s.qx[i]!).qE.toNat (-(((s.qx[i]!).xM)[q]!))+putF s t (s.qx[i]!) 1 p q
def chgS (s:qy) (t:qA) (counts:yLI):Nat→Nat→Nat→Int
  | 0,_,_=>0
  | i+1,p,q=>chgS s t counts i p q+counts[i]! * chgF s t i p q
theorem at_lin (p c:Nat) (m x:Int):at' p c (m * x)=m * at' p c (1 * x):=by
  unfold at'
  split
  · rw [Int.one_mul]
  · rw [Int.mul_zero]
theorem into_lin (r:jy) (m:Int) (p q:Nat):∀ j,Vf r m j p q=m * Vf r 1 j p q
  | 0=>by simp [Vf]
  | j+1=>by rw [Vf,Vf,into_lin r m p q j,at_lin p _ m,Int.mul_add]
theorem putF_lin (s:qy) (t:qA) (r:jy) (m:Int) (p q:Nat):putF s t r m p q=m * putF s t r 1 p q:=by
  unfold putF
  rw [into_lin r m,at_lin p _ m (r.zC[q]!),at_lin p _ m (r.jI[q]!),Int.mul_add,Int.mul_add]
theorem all_chg (s:qy) (t:qA) (counts:yLI) (p q:Nat):∀ k,allS s t counts k p q=chgS s t counts k p q
  | 0=>rfl
  | k+1=>by
    rw [allS,chgS,all_chg s t counts p q k,putF_lin s t _ (counts[k]!)]
    unfold chgF needF
    have e:at' p (s.qx[k]!).qE.toNat (-(counts[k]!) * ((s.qx[k]!).xM)[q]!)=counts[k]! * at' p (s.qx[k]!).qE.toNat (-(((s.qx[k]!).xM)[q]!)):=by
      unfold at'
      split
      · rw [Int.neg_mul,Int.mul_neg]
      · rw [Int.mul_zero]
    rw [e,Int.mul_add]
    omega
theorem step_due (s:qy) (t:qA) (counts:yLI) (p q:Nat):stepF s t counts p q=base0 s t p q+chgS s t counts s.qx.length p q:=by
  rw [stepF,all_chg]

theorem down_col {s:qy} {t:qA} {counts:yLI} (hs:vw s) (ht:xJ s t) (hc:Xx s counts) (h:IsCh s t counts) (hM:FewM 6 s t) (hD:PutsD 2 s) {q:Nat} (hq:q < xY s):∀ j,j+1≤xB s→
    colTo (xG s counts (xE s t counts) j) q (xB s)=colTo (xE s t counts) q (xB s)
  | 0,_=>rfl
  | j+1,hj=>by
    have ih:=down_col hs ht hc h hM hD hq j qf
    obtain ⟨i1,i2,i3⟩:=down_ok hs ht hc h hM hD j qf
    by_cases hm:Melts s counts ((xB s:Int) - 1 - j)
    · rw [meltDown_yes hm rfl]
      obtain ⟨i,hi,h0,h2,h3⟩:=hm
      have he:=appl_of hc h hi qf
      have hr:=(hs.rule hi).2.2.1
      have hcn:xB s=s.qw.length:=rfl
      have ha:t.qF[((xB s:Int) - 1 - j).toNat]! =true:=by rw [← h3];exact he.1
      have cm:QO s (xG s counts (xE s t counts) j) ((xB s:Int) - 1 - j):=⟨hs.1,i1,⟨by omega,by omega⟩,by omega,by rw [i3 _ qf];exact ha⟩
      have hpar:=cm.par
      rw [cm.col hq,if_pos qf,if_pos qf,ih]
      omega
    · rw [X3 hm rfl];exact ih
theorem step_total {s:qy} {t:qA} {counts:yLI} (hs:vw s) (ht:xJ s t) (hc:Xx s counts) (h:IsCh s t counts) (hM:FewM 6 s t) (hD:PutsD 2 s) {q:Nat} (hq:q < xY s):
    (QD (yP s t counts).1 (xB s))[q]! =sumN (fun p=>base0 s t p q+chgS s t counts s.qx.length p q) (xB s+1):=by
  have hn:=hs.1.2.1
  have hcn:xB s=s.qw.length:=rfl
  have e:(yP s t counts).1=xG s counts (xE s t counts) (xB s - 1):=by
    rw [X8 h]
    unfold stepRes
    rw [told_yes (down_ok hs ht hc h hM hD (xB s - 1) qf).1]
  have hA:(xG s counts (xE s t counts) (xB s - 1)).qH=(List.range (xY s)).map (stepF s t counts (xB s)):=by rw [Qr,stepped_around]
  rw [e,allTo_get _ (by rw [hA];simpa using hq),hA,Qb hq,down_col hs ht hc h hM hD hq _ qf,colTo_sum,sumN]
  have e2:sumN (fun p=>((xE s t counts).qG[p]!)[q]!) (xB s)=sumN (fun p=>base0 s t p q+chgS s t counts s.qx.length p q) (xB s):=by
    have:∀ n,n≤xB s→sumN (fun p=>((xE s t counts).qG[p]!)[q]!) n=sumN (fun p=>base0 s t p q+chgS s t counts s.qx.length p q) n:=by
      intro n
      induction n with
      | zero=>intro _;rfl
      | succ n ih=>
        intro hn'
        rw [sumN,sumN,ih qf,stepped_row qf,Qb hq,step_due]
    exact this _ (Nat.le_refl _)
  rw [e2,step_due]
  omega
theorem down_alive {s:qy} {counts:yLI} {u:qA} (hl:u.qF.length=s.qw.length):∀ j,j+1≤s.qw.length→(xG s counts u j).qF.length=s.qw.length∧
    ∀ c,c < s.qw.length→(xG s counts u j).qF[c]! =(u.qF[c]! && !dec (Melts s counts (c:Int)∧s.qw.length≤c+j))
  | 0,_=>⟨hl,fun c hc=>by
    rw [xk (fun h=>by omega)]
    show u.qF[c]! =_
    simp⟩
  | j+1,hj=>by
    obtain ⟨i1,i2⟩:=down_alive (s:=s) (counts:=counts) hl j qf
    have hcn:xB s=s.qw.length:=rfl
    by_cases hm:Melts s counts ((xB s:Int) - 1 - j)
    · rw [meltDown_yes hm rfl]
      refine ⟨by simp [melted,i1],fun c hc=>?_⟩
      have e:(melted s (xG s counts u j) ((xB s:Int) - 1 - j)).qF[c]! =if ((xB s:Int) - 1 - j).toNat=c then false else (xG s counts u j).qF[c]! :=get_set _ _ _ _ qf
      rw [e]
      by_cases hcc:((xB s:Int) - 1 - j).toNat=c
      · rw [if_pos hcc]
        have h1:(xB s:Int) - 1 - j=(c:Int):=by omega
        rw [h1] at hm
        rw [yl ⟨hm,by omega⟩]
        simp
      · rw [if_neg hcc,i2 c hc]
        rw [dec_congr (p:=Melts s counts (c:Int)∧s.qw.length≤c+j) (q:=Melts s counts (c:Int)∧s.qw.length≤c+(j+1)) ⟨fun h=>⟨h.1,by omega⟩,fun h=>⟨h.1,by omega⟩⟩]
    · rw [X3 hm rfl]
      refine ⟨i1,fun c hc=>?_⟩
      rw [i2 c hc]
      rw [dec_congr (p:=Melts s counts (c:Int)∧s.qw.length≤c+j) (q:=Melts s counts (c:Int)∧s.qw.length≤c+(j+1)) ⟨fun h=>⟨h.1,by omega⟩,fun h=>⟨h.1,by
        apply Classical.byContradiction
        intro hlt
        have h1:(xB s:Int) - 1 - j=(c:Int):=by omega
        rw [h1] at hm
        exact hm h.1⟩⟩]
theorem step_alive {s:qy} {t:qA} {counts:yLI} (hs:vw s) (ht:xJ s t) (hc:Xx s counts) (h:IsCh s t counts) (hM:FewM 6 s t) (hD:PutsD 2 s) {c:Nat} (hcc:c < xB s):
    (yP s t counts).1.qF[c]! =(t.qF[c]! && !dec (Melts s counts (c:Int))):=by
  have hn:=hs.1.2.1
  have hcn:xB s=s.qw.length:=rfl
  rw [X8 h]
  unfold stepRes
  rw [told_yes (down_ok hs ht hc h hM hD (xB s - 1) qf).1]
  have:=(down_alive (s:=s) (counts:=counts) (u:=xE s t counts) ht.1 (xB s - 1) qf).2 c hcc
  rw [this]
  by_cases h0:c=0
  · subst h0
    have hno:¬ Melts s counts ((0:Nat):Int):=by
      rintro ⟨i,hi,_,h2,h3⟩
      have:=(hs.rule hi).2.2.1
      exact this ⟨h2,by rw [h3];rfl⟩
    rw [xk (fun hx=>hno hx.1),xk hno]
    rfl
  · rw [dec_congr (p:=Melts s counts (c:Int)∧s.qw.length≤c+(xB s - 1)) (q:=Melts s counts (c:Int)) ⟨fun hx=>hx.1,fun hx=>⟨hx,by omega⟩⟩]
    rfl
theorem sumN_nonneg {f:Nat→Int} {n:Nat} (h:∀ p,p < n→0≤f p):0≤sumN f n:=by
  have:=sumN_le (f:=fun _=>0) (g:=f) (n:=n) fun p hp=>h p hp
  rw [sumN_zero] at this
  exact this
theorem step_total_ok {s:qy} {t:qA} {counts:yLI} (hs:vw s) (ht:xJ s t) (hc:Xx s counts) (h:IsCh s t counts) (hM:FewM 6 s t) (hD:PutsD 2 s) (h5:s.qx.length≤5):
    zZ s.xf (QD (yP s t counts).1 (xB s)):=by
  have hn:=hs.1.2.1
  have hK:=hs.1.1
  have hkn:xY s=s.xf.toNat:=rfl
  have hcn:xB s=s.qw.length:=rfl
  have hok:xJ s (yP s t counts).1:=stepBy_ok (step_fine hs ht hc h hM hD)
  have hA:=hok.2.2.2.1
  have hl:(QD (yP s t counts).1 (xB s)).length=xY s:=by rw [XT];exact hA.len
  refine ⟨⟨fun q hq=>?_,by rw [hl];omega,by rw [hl];omega⟩,by rw [hl];omega⟩
  rw [hl] at hq
  rw [step_total hs ht hc h hM hD hq]
  have hb:∀ i,i < s.qx.length→0≤counts[i]! ∧counts[i]! ≤6:=fun i hi=>⟨(hc.bd hi).1,cnt_few hs ht hc h hM hi⟩
  constructor
  · refine sumN_nonneg fun p hp=>?_
    rw [← step_due]
    exact (step_few hs ht hc h hM hD qf hq).1
  · have h1:sumN (fun p=>base0 s t p q+chgS s t counts s.qx.length p q) (xB s+1)≤sumN (fun p=>6+putS s t counts s.qx.length p q) (xB s+1):=sumN_le fun p hp=>by
      rw [← all_chg,allS_eq]
      have a1:=hM p q qf hq
      have a2:=Vb hs hc p q hq s.qx.length (Nat.le_refl _)
      omega
    have e:sumN (fun p=>6+putS s t counts s.qx.length p q) (xB s+1)=((xB s+1:Nat):Int) * 6+sumN (fun p=>putS s t counts s.qx.length p q) (xB s+1):=by rw [sumN_add,sumN_const]
    rw [e] at h1
    have h2:=sumN_putS (t:=t) hs hD hb q hq (xB s+1) s.qx.length (Nat.le_refl _)
    omega
def chgP (s:qy) (t:qA) (r:jy) (p q:Nat):Int:=at' p r.qE.toNat (-1 * (r.xM)[q]!)+putF s t r 1 p q
def QA (s:qy) (t:qA) (r:jy):yLL:=tab2 (s.qw.length+1) (xY s) (chgP s t r)
theorem chgL_len (s:qy) (t:qA) (r:jy):(QA s t r).length=xB s+1:=tab2_len _ _ _
theorem chgL_row {s:qy} {t:qA} {r:jy} {p:Nat} (hp:p≤xB s):((QA s t r)[p]!).length=xY s:=by
  unfold QA
  rw [tab2_line (by show p < xB s+1;omega)]
  simp
theorem chgL_at {s:qy} {t:qA} {i p q:Nat} (hp:p≤xB s) (hq:q < xY s):((QA s t (s.qx[i]!))[p]!)[q]! =chgF s t i p q:=by
  unfold QA
  rw [tab2_at (by show p < xB s+1;omega) hq,chgP,chgF,Int.neg_mul,Int.one_mul]
theorem ent_nil {K:Nat} {f:Nat→Nat→Int} {B:Int}:Ent 0 K f B []:=⟨⟨rfl,fun p hp=>by omega⟩,fun p k hp=>by omega⟩
theorem ent_zero {s:qy} {n:Nat} {b:yLL} (h:Ent n (xY s) (fun _ _=>0) 0 b):Ent (n+1) (xY s) (fun _ _=>0) 0 (b++[List.replicate s.xf.toNat 0]):=by
  have hz:∀ k,k < xY s→(List.replicate s.xf.toNat (0:Int))[k]! =0:=fun k hk=>by
    rw [getElem!_pos (List.replicate s.xf.toNat (0:Int)) k (by simpa [xY] using hk)];simp
  exact h.snoc (by simp [xY]) (fun k hk=>by rw [hz k hk];omega) fun k hk=>hz k hk

section
variable {s : qy} {t : qA} {x : yLI}
def dueC (s:qy) (t:qA) (x:yLI) (m p q:Nat):Int:=base0 s t p q+chgS s t x m p q
def dueY (s:qy) (t:qA) (x:yLI) (m c k p q:Nat):Int:=dueC s t x m p q+(if p < c∨(p=c∧q < k) then x[m]! * chgF s t m p q else 0)
theorem dueC_0 (p q:Nat):base0 s t p q=dueC s t x 0 p q:=by rw [dueC,chgS];omega
theorem dueC_skip {m:Nat} (h:x[m]! =0) (p q:Nat):dueC s t x m p q=dueC s t x (m+1) p q:=by rw [dueC,dueC,chgS,h,Int.zero_mul];omega
theorem dueY_0 (m p q:Nat):dueC s t x m p q=dueY s t x m 0 0 p q:=by rw [dueY,if_neg qf];omega
theorem dueY_row {m c K:Nat} (p:Nat) {q:Nat} (hq:q < K):dueY s t x m c K p q=dueY s t x m (c+1) 0 p q:=by
  rw [dueY,dueY]
  by_cases h:p < c+1
  · rw [if_pos qf,if_pos (.inl h)]
  · rw [if_neg qf,if_neg qf]
theorem dueY_end {m n:Nat} {p:Nat} (q:Nat) (hp:p < n):dueY s t x m n 0 p q=dueC s t x (m+1) p q:=by
  rw [dueY,if_pos (.inl hp),dueC,dueC,chgS]
  omega
theorem dueY_put {m c k:Nat} (p q:Nat):dueY s t x m c (k+1) p q=if p=c∧q=k then dueY s t x m c k c k+x[m]! * chgF s t m c k else dueY s t x m c k p q:=by
  by_cases h:p=c∧q=k
  · obtain ⟨rfl,rfl⟩:=h
    rw [if_pos ⟨rfl,rfl⟩,dueY,dueY,if_pos qf,if_neg qf]
    omega
  · rw [if_neg h,dueY,dueY]
    by_cases h1:p < c∨(p=c∧q < k)
    · rw [if_pos qf,if_pos h1]
    · rw [if_neg qf,if_neg h1]

structure yV (s:qy) (t:qA) (x:yLI):Prop where
  sys:vw s
  st:xJ s t
  cnt:Xx s x
  ch:IsCh s t x
  few:FewM 6 s t
  puts:PutsD 2 s
  five:s.qx.length≤5
theorem yV.len (h:yV s t x):x.length=s.qx.length:=h.cnt.1
theorem yV.bd (h:yV s t x) {i:Nat} (hi:i < s.qx.length):0≤x[i]! ∧x[i]! ≤6:=⟨(h.cnt.bd hi).1,cnt_few h.sys h.st h.cnt h.ch h.few hi⟩
theorem yV.en (h:yV s t x) {i:Nat} (hi:i < s.qx.length) (h0:x[i]! ≠0):EnOk s t (s.qx[i]!):=appl_of h.cnt h.ch hi h0
theorem yV.bagOf (h:yV s t x) {c:Nat} (hc:c < xB s):(t.qG[c]!).length=xY s∧∀ q,q < xY s→(t.qG[c]!)[q]! =base0 s t c q:=by
  have hb:=h.st.bagLen (k:=c) (by rw [h.st.2.1];exact hc)
  exact ⟨hb.len,fun q hq=>by rw [base0,if_pos hc]⟩
theorem yV.rimOf (h:yV s t x):t.qH.length=xY s∧∀ q,q < xY s→t.qH[q]! =base0 s t (xB s) q:=⟨h.st.around.1,fun q hq=>by rw [base0,if_neg qf]⟩
theorem yV.base (h:yV s t x) {p q:Nat} (hp:p≤xB s) (hq:q < xY s):0≤base0 s t p q∧base0 s t p q≤1000:=by
  unfold base0
  have ht:=h.st
  by_cases h1:p < xB s
  · rw [if_pos h1]
    have hb:=ht.bagLen (k:=p) (by rw [ht.2.1];exact h1)
    exact hb.get (by rw [hb.len];exact hq)
  · rw [if_neg h1]
    exact (ht.around).2 q hq
theorem yV.chg (h:yV s t x) {i q:Nat} (hi:i < s.qx.length) (p:Nat) (hq:q < xY s): -1000≤chgF s t i p q∧chgF s t i p q≤10:=by
  have hn:=(h.sys.rule hi).2.2.2.2.1
  have h1:=hn.get (k:=q) (by rw [hn.len];exact hq)
  have h2:=putF_bd (t:=t) (M:=1) (D:=2) (c:=1) h.sys h.puts hi qf p q hq
  unfold chgF at'
  split <;> omega
theorem six_mul {a b:Int} (ha:0≤a∧a≤6) (hb: -1000≤b∧b≤10): -6000≤a * b∧a * b≤60:=by
  have h:a=0∨a=1∨a=2∨a=3∨a=4∨a=5∨a=6:=by omega
  rcases h with rfl | rfl | rfl | rfl | rfl | rfl | rfl <;> omega
theorem yV.mul (h:yV s t x) {i q:Nat} (hi:i < s.qx.length) (p:Nat) (hq:q < xY s): -6000≤x[i]! * chgF s t i p q∧x[i]! * chgF s t i p q≤60:=six_mul (h.bd hi) (h.chg hi p hq)
theorem yV.chgS_bd (h:yV s t x) (p:Nat) {q:Nat} (hq:q < xY s):∀ m,m≤s.qx.length→ -(6000 * (m:Int))≤chgS s t x m p q∧chgS s t x m p q≤60 * (m:Int)
  | 0,_=>by simp [chgS]
  | m+1,hm=>by
    have h1:=h.chgS_bd p hq m qf
    have h2:=h.mul (i:=m) qf p hq
    rw [chgS]
    omega
theorem yV.dueC_bd (h:yV s t x) {m p q:Nat} (hm:m≤s.qx.length) (hp:p≤xB s) (hq:q < xY s): -30000≤dueC s t x m p q∧dueC s t x m p q≤2000:=by
  have h1:=h.base hp hq
  have h2:=h.chgS_bd p hq m hm
  have h3:=h.five
  unfold dueC
  omega
theorem yV.dueY_bd (h:yV s t x) {m c k p q:Nat} (hm:m < s.qx.length) (hp:p≤xB s) (hq:q < xY s): -36000≤dueY s t x m c k p q∧dueY s t x m c k p q≤3000:=by
  have h1:=h.dueC_bd (m:=m) qf hp hq
  have h2:=h.mul hm p hq
  unfold dueY
  split <;> omega

def TotIs (K:Nat) (l:yLI) (f:Nat→Int):Prop:=l.length=K∧∀ q,q < K→l[q]! =f q
def totC (s:qy) (t:qA) (x:yLI) (m n q:Nat):Int:=sumN (fun p=>dueC s t x m p q) n
def totK (s:qy) (t:qA) (x:yLI) (m n k q:Nat):Int:=totC s t x m n q+(if q < k then dueC s t x m n q else 0)
theorem TotIs.zero (n:Nat):TotIs n (List.replicate n (0:Int)) (totC s t x 0 0):=⟨by simp,fun q hq=>by rw [getElem!_pos (List.replicate n (0:Int)) q (by simpa using hq)];simp [totC,sumN]⟩
theorem TotIs.zeroM (n m:Nat):TotIs n (List.replicate n (0:Int)) (totC s t x m 0):=⟨by simp,fun q hq=>by rw [getElem!_pos (List.replicate n (0:Int)) q (by simpa using hq)];simp [totC,sumN]⟩
theorem TotIs.to {K:Nat} {l:yLI} {f g:Nat→Int} (h:TotIs K l f) (e:∀ q,q < K→f q=g q):TotIs K l g:=⟨h.1,fun q hq=>(h.2 q hq).trans (e q hq)⟩
theorem TotIs.put {K:Nat} {l:yLI} {f g:Nat→Int} (h:TotIs K l f) {k:Nat} {v:Int} (hk:k < K) (e:∀ q,q < K→g q=if q=k then v else f q):TotIs K (l.set k v) g:=by
  refine ⟨by rw [List.length_set];exact h.1,fun q hq=>?_⟩
  have hl:=h.1
  rw [getset qf,e q hq]
  split
  · rfl
  · exact h.2 q hq
theorem totK_0 (m n q:Nat):totC s t x m n q=totK s t x m n 0 q:=by rw [totK,if_neg qf];omega
theorem totK_end {m n K q:Nat} (hq:q < K):totK s t x m n K q=totC s t x m (n+1) q:=by rw [totK,if_pos hq,totC,totC,sumN]
theorem totK_put {m n k:Nat} (q:Nat):totK s t x m n (k+1) q=if q=k then totK s t x m n k k+dueC s t x m n k else totK s t x m n k q:=by
  by_cases h:q=k
  · subst h
    rw [if_pos rfl,totK,totK,if_pos qf,if_neg qf]
    omega
  · rw [if_neg h,totK,totK]
    by_cases h1:q < k
    · rw [if_pos qf,if_pos h1]
    · rw [if_neg qf,if_neg h1]
theorem yV.tot_bd (h:yV s t x) {m q:Nat} (hm:m≤s.qx.length) (hq:q < xY s):∀ n,n≤xB s+1→ -(30000 * (n:Int))≤totC s t x m n q∧totC s t x m n q≤2000 * (n:Int)
  | 0,_=>by simp [totC,sumN]
  | n+1,hn=>by
    have h1:=h.tot_bd hm hq n qf
    have h2:=h.dueC_bd (p:=n) hm qf hq
    unfold totC at h1 ⊢
    rw [sumN]
    omega
theorem yV.totK_bd (h:yV s t x) {m n k q:Nat} (hm:m≤s.qx.length) (hn:n≤xB s) (hq:q < xY s): -300000≤totK s t x m n k q∧totK s t x m n k q≤300000:=by
  have h1:=h.tot_bd hm hq n qf
  have h2:=h.dueC_bd (p:=n) hm hn hq
  have h3:=h.sys.1.2.1
  have h4:xB s=s.qw.length:=rfl
  unfold totK
  split <;> omega

theorem down_none {counts:yLI} {u:qA} (h:∀ c,¬ Melts s counts c):∀ j,xG s counts u j=u
  | 0=>rfl
  | j+1=>by rw [X3 (h _) rfl];exact down_none h j
theorem yV.by (h:yV s t x):(xO s t x).2=0∧xJ s (xO s t x).1∧(xO s t x).1=xG s x (xE s t x) (xB s - 1):=by
  have e:xO s t x=yP s t x:=by_ok (ask_0 ⟨h.sys,h.st⟩ h.cnt)
  have hn:=h.sys.1.2.1
  have hcn:xB s=s.qw.length:=rfl
  have hf:=step_fine h.sys h.st h.cnt h.ch h.few h.puts
  rw [e]
  refine ⟨hf,stepBy_ok hf,?_⟩
  rw [X8 h.ch]
  unfold stepRes
  rw [told_yes (down_ok h.sys h.st h.cnt h.ch h.few h.puts (xB s - 1) qf).1]
theorem yV.total (h:yV s t x) {l:yLI} (hl:TotIs (xY s) l (totC s t x s.qx.length (xB s+1))):QD (xO s t x).1 s.qw.length=l:=by
  have e:xO s t x=yP s t x:=by_ok (ask_0 ⟨h.sys,h.st⟩ h.cnt)
  have hb:=step_total_ok h.sys h.st h.cnt h.ch h.few h.puts h.five
  rw [e]
  refine list_ext (K:=xY s) ?_ hl.1 fun q hq=>?_
  · have:=hb.len;exact this
  · rw [hl.2 q hq]
    exact step_total h.sys h.st h.cnt h.ch h.few h.puts hq
theorem yV.totalOk (h:yV s t x):Ql (QD (xO s t x).1 s.qw.length):=by
  have e:xO s t x=yP s t x:=by_ok (ask_0 ⟨h.sys,h.st⟩ h.cnt)
  rw [e]
  exact (step_total_ok h.sys h.st h.cnt h.ch h.few h.puts h.five).1
theorem yV.alive (h:yV s t x) {c:Nat} (hc:c < xB s):(xO s t x).1.qF[c]! =(t.qF[c]! && !dec (yz s x (c:Int) s.qx.length)):=by
  have e:xO s t x=yP s t x:=by_ok (ask_0 ⟨h.sys,h.st⟩ h.cnt)
  rw [e]
  exact step_alive h.sys h.st h.cnt h.ch h.few h.puts hc
theorem yV.bag {e:TypeId} {l:List (OwnI e)} (h:yV s t x) (hd:DueIs (xY s) l (xB s+1) (dueC s t x s.qx.length)) (hm:∀ c,¬ Melts s x c) {c:Nat} (hc:c < xB s):(xO s t x).1.qG[c]! =(l[c]!).l:=by
  rw [h.by.2.2,down_none hm,stepped_row hc]
  refine list_ext (K:=xY s) qm (hd.len qf) fun q hq=>?_
  rw [Qb hq,hd.at' qf hq,step_due]
  rfl
theorem yV.rim {e:TypeId} {l:List (OwnI e)} (h:yV s t x) (hd:DueIs (xY s) l (xB s+1) (dueC s t x s.qx.length)):(xO s t x).1.qH=(l[xB s]!).l:=by
  rw [h.by.2.2,Qr,stepped_around]
  refine list_ext (K:=xY s) qm (hd.len qf) fun q hq=>?_
  rw [Qb hq,hd.at' qf hq,step_due]
  rfl
end

def AnyMelt (s:qy) (x:yLI) (k:Nat):Prop:=∃ i,i < k∧0 < x[i]! ∧(s.qx[i]!).zV=true
theorem anyMelt_no {s:qy} {x:yLI} (h:¬ AnyMelt s x s.qx.length) (c:Int):¬ Melts s x c:=fun ⟨i,hi,h0,h1,_⟩=>h ⟨i,hi,h0,h1⟩
theorem anyMelt_0 (s:qy) (x:yLI):¬ AnyMelt s x 0:=fun ⟨i,hi,_⟩=>by omega
theorem anyMelt_yes {s:qy} {x:yLI} {i n:Nat} (hi:i < n) (h0:x[i]! > 0) (h1:(s.qx[i]!).zV=true):AnyMelt s x n:=⟨i,hi,h0,h1⟩
theorem anyMelt_step {s:qy} {x:yLI} {i:Nat} (h:¬ AnyMelt s x i) (h1:¬ (x[i]! > 0)∨(s.qx[i]!).zV=false):¬ AnyMelt s x (i+1):=fun ⟨j,hj,h0,h2⟩=>by
  by_cases e:j=i
  · subst e
    rcases h1 with h1 | h1
    · exact h1 h0
    · rw [h2] at h1;cases h1
  · exact h ⟨j,by omega,h0,h2⟩
theorem meltsTo_0 (s:qy) (x:yLI) (c:Int):false=dec (yz s x c 0):=(xk fun ⟨i,hi,_⟩=>by omega).symm
theorem meltsTo_on {s:qy} {x:yLI} {c:Int} {i:Nat} (h:dec (yz s x c i)=true):true=dec (yz s x c (i+1)):=by
  obtain ⟨j,hj,h1⟩:=yB h
  exact (yl ⟨j,by omega,h1⟩).symm
theorem meltsTo_step {s:qy} {x:yLI} {c:Int} {i:Nat} (h:dec (yz s x c i)=false) {b:Bool} (hb:b=true↔0 < x[i]! ∧(s.qx[i]!).zV=true∧(s.qx[i]!).qE=c):b=dec (yz s x c (i+1)):=dec_eq (hb.trans ⟨fun h1=>⟨i,by omega,h1⟩,fun ⟨j,hj,h1⟩=>by
  by_cases e:j=i
  · subst e;exact h1
  · exact absurd ⟨j,by omega,h1⟩ (zO h)⟩)
theorem meltsTo_a {s:qy} {x:yLI} {c:Int} {i:Nat} (h:dec (yz s x c i)=false) (h1:¬ (x[i]! > 0)):false=dec (yz s x c (i+1)):=meltsTo_step h ⟨fun e=>by (cases e),fun e=>absurd e.1 h1⟩
theorem meltsTo_b {s:qy} {x:yLI} {c:Int} {i:Nat} (h:dec (yz s x c i)=false) (h1:(s.qx[i]!).zV=false):false=dec (yz s x c (i+1)):=meltsTo_step h ⟨fun e=>by (cases e),fun e=>by rw [h1] at e;exact absurd e.2.1 qj⟩
theorem meltsTo_c {s:qy} {x:yLI} {c:Int} {i:Nat} (h:dec (yz s x c i)=false) (h1:x[i]! > 0) (h2:(s.qx[i]!).zV=true):decide ((s.qx[i]!).qE=c)=dec (yz s x c (i+1)):=meltsTo_step h ⟨fun e=>⟨h1,h2,of_decide_eq_true e⟩,fun e=>decide_eq_true e.2.2⟩
theorem stepAt_of {kk M:Int} {par:yLI} {rules:List jy} {alive:List Bool} {bags:yLL} {around x:yLI} (hs:SysDr kk par rules) (ht:StDr kk par.length M alive bags around) (hM:M≤6) (h1:Xx ⟨kk,par,rules⟩ x) (h2:IsCh ⟨kk,par,rules⟩ ⟨alive,bags,around⟩ x):
    yV ⟨kk,par,rules⟩ ⟨alive,bags,around⟩ x where
  sys:=hs.ok
  st:=ht.ok hs qf
  cnt:=h1
  ch:=h2
  five:=hs.few
  few:=fun p q hp hq=>by
    have hq' :q < kk.toNat:=hq
    have hc:xB ⟨kk,par,rules⟩=par.length:=rfl
    unfold base0
    by_cases h1:p < xB ⟨kk,par,rules⟩
    · rw [if_pos h1]
      have hb:=(ht.bags p (by rw [ht.lb];omega)).1
      have:=(hb.2 q (by rw [hb.1];exact hq')).2
      show (bags[p]!)[q]! ≤6
      omega
    · rw [if_neg h1]
      have:=(ht.around.2 q (by rw [ht.around.1];exact hq')).2
      show around[q]! ≤6
      omega
  puts:=fun i hi q hq=>by
    have hq' :q < kk.toNat:=hq
    have r:=hs.rules i hi
    refine ⟨(r.here.2 q (by rw [r.here.1];exact hq')).2,(r.out.2 q (by rw [r.out.1];exact hq')).2,fun j hj=>?_⟩
    have hb:=(r.into j hj).2.2.1
    have:=(hb.2 q (by rw [hb.1];exact hq')).2
    show ((rules[i]!).qO[j]!).Qm[q]! ≤2
    omega
end
section
open Go.RowKit Go.Shelf Go.Lib Go.Sort
def cmpL:yLI→yLI→Int
  | [],[]=>0
  | [],_ :: _=> -1
  | _ :: _,[]=>1
  | x :: a,y :: b=>if x < y then -1 else if y < x then 1 else cmpL a b
theorem cmpL_refl:∀ a,cmpL a a=0
  | []=>rfl
  | x :: a=>by rw [cmpL,if_neg (Int.lt_irrefl x),if_neg (Int.lt_irrefl x),cmpL_refl a]
theorem cmpL_trans:∀ {a b c:yLI},cmpL a b < 0→cmpL b c < 0→cmpL a c < 0
  | [],[],_,h,_=>by simp [cmpL] at h
  | [],_ :: _,[],_,h=>by simp [cmpL] at h
  | [],_ :: _,_ :: _,_,_=>by simp [cmpL]
  | _ :: _,[],_,h,_=>by simp [cmpL] at h
  | _ :: _,_ :: _,[],_,h=>by simp [cmpL] at h
  | x :: a,y :: b,z :: c,h1,h2=>by
    rw [cmpL] at h1 h2 ⊢
    by_cases e1:x < y
    · by_cases e2:y < z
      · rw [if_pos qf];omega
      · rw [if_neg e2] at h2
        by_cases e3:z < y
        · rw [if_pos e3] at h2;omega
        · rw [if_pos qf];omega
    · rw [if_neg e1] at h1
      by_cases e2:y < x
      · rw [if_pos e2] at h1;omega
      · rw [if_neg e2] at h1
        by_cases e3:y < z
        · rw [if_pos qf];omega
        · rw [if_neg e3] at h2
          by_cases e4:z < y
          · rw [if_pos e4] at h2;omega
          · rw [if_neg e4] at h2
            rw [if_neg qf,if_neg qf]
            exact cmpL_trans h1 h2
theorem cmpL_ntrans:∀ {a b c:yLI},¬ cmpL a b < 0→¬ cmpL b c < 0→¬ cmpL a c < 0
  | [],[],[],_,_=>by simp [cmpL]
  | _ :: _,_,[],_,_=>by simp [cmpL]
  | [],_ :: _,_,h,_=>by simp [cmpL] at h
  | _,[],_ :: _,_,h=>by simp [cmpL] at h
  | x :: a,y :: b,z :: c,h1,h2=>by
    rw [cmpL] at h1 h2 ⊢
    by_cases e1:x < y
    · rw [if_pos e1] at h1;omega
    · rw [if_neg e1] at h1
      by_cases e2:y < z
      · rw [if_pos e2] at h2;omega
      · rw [if_neg e2] at h2
        rw [if_neg qf]
        by_cases e3:z < x
        · rw [if_pos e3];omega
        · rw [if_neg e3]
          have ey:¬ y < x:=by omega
          have ez:¬ z < y:=by omega
          rw [if_neg ey] at h1
          rw [if_neg ez] at h2
          exact cmpL_ntrans h1 h2
theorem drop_cons {l:yLI} {i:Nat} (h:i < l.length):l.drop i=l[i]! :: l.drop (i+1):=by
  rw [getElem!_pos l i h];exact (List.drop_eq_getElem_cons h)
theorem cmp_a {a b:yLI} {i:Nat} (h:i < a.length) (h1:b.length≤i):cmpL (a.drop i) (b.drop i)=1:=by rw [drop_cons h,List.drop_eq_nil_of_le h1,cmpL]
theorem cmp_b {a b:yLI} {i:Nat} (h:a.length≤i) (h1:i < b.length):cmpL (a.drop i) (b.drop i)= -1:=by rw [drop_cons h1,List.drop_eq_nil_of_le h,cmpL]
theorem cmp_c {a b:yLI} {i:Nat} (h:a.length≤i) (h1:b.length≤i):cmpL (a.drop i) (b.drop i)=0:=by rw [List.drop_eq_nil_of_le h,List.drop_eq_nil_of_le h1,cmpL]
theorem cmp_d {a b:yLI} {i:Nat} (h:i < a.length) (h1:i < b.length) (h2:a[i]! < b[i]!):cmpL (a.drop i) (b.drop i)= -1:=by rw [drop_cons h,drop_cons h1,cmpL,if_pos h2]
theorem cmp_e {a b:yLI} {i:Nat} (h:i < a.length) (h1:i < b.length) (h2:a[i]! > b[i]!):cmpL (a.drop i) (b.drop i)=1:=by rw [drop_cons h,drop_cons h1,cmpL,if_neg qf,if_pos h2]
theorem cmp_f {a b:yLI} {i:Nat} (h:i < a.length) (h1:i < b.length) (h2:¬ a[i]! < b[i]!) (h3:¬ a[i]! > b[i]!):cmpL (a.drop i) (b.drop i)=cmpL (a.drop (i+1)) (b.drop (i+1)):=by rw [drop_cons h,drop_cons h1,cmpL,if_neg h2,if_neg h3]
theorem cmpL_ahead:∀ {a b:yLI},a.length=b.length→(cmpL a b < 0↔ahead a b)
  | [],[],_=>⟨fun h=>by simp [cmpL] at h,fun ⟨i,h,_⟩=>by simp at h⟩
  | x :: a,[],h=>by simp at h
  | [],y :: b,h=>by simp at h
  | x :: a,y :: b,h=>by
    have ih:=cmpL_ahead (a:=a) (b:=b) (by simpa using h)
    rw [cmpL]
    constructor
    · intro h1
      by_cases e:x < y
      · exact ⟨0,by simp,fun j hj=>by omega,by simpa using e⟩
      · rw [if_neg e] at h1
        by_cases e2:y < x
        · rw [if_pos e2] at h1;omega
        · rw [if_neg e2] at h1
          obtain ⟨i,h2,h3,h4⟩:=ih.1 h1
          refine ⟨i+1,by simp;omega,fun j hj=>?_,by simpa using h4⟩
          cases j with
          | zero=>simp;omega
          | succ j=>simpa using h3 j qf
    · rintro ⟨i,h2,h3,h4⟩
      cases i with
      | zero=>rw [if_pos (by simpa using h4)];omega
      | succ i=>
        have h0:=h3 0 qf
        simp only [List.getElem!_cons_zero] at h0
        rw [if_neg qf,if_neg qf]
        exact ih.2 ⟨i,by simpa using h2,fun j hj=>by simpa using h3 (j+1) qf,by simpa using h4⟩

section
variable {W0 w : World} {ps : List Prv} {Γ : List Fact}
theorem sw_block {α:Type} [Inhabited α] {enc:α→Value} {blk m:Nat} {d:Array α} {os:Array Obj} {k:Nat} (hk:k < w.heap.size) (hne:k≠blk):(sortWorld enc w blk 0 m d os).heap[k]? =w.heap[k]? :=by
  unfold sortWorld putRow mapBlock grow
  show ((Sort.ahead w m).heap.modify blk _++os)[k]? =_
  have hs:((Sort.ahead w m).heap.modify blk (onCells (putCells enc 0 d))).size=w.heap.size:=by rw [Array.size_modify];rfl
  rw [Array.getElem?_append_left (by rw [hs];exact hk),Array.getElem?_modify,if_neg (Ne.symm hne)]
  rfl
theorem sw_row {α:Type} [Inhabited α] {enc:α→Value} {blk m:Nat} {d:Array α} {os:Array Obj} {cur:Array Value} {e:TypeId} (h:w.heap[blk]? =some (.cells cur e (0,0))):(sortWorld enc w blk 0 m d os).heap[blk]? =some (.cells (putCells enc 0 d cur) e (0,0)):=by
  have hk:blk < w.heap.size:=(Array.getElem?_eq_some_iff.1 h).1
  unfold sortWorld putRow mapBlock grow
  show ((Sort.ahead w m).heap.modify blk _++os)[blk]? =_
  have hs:((Sort.ahead w m).heap.modify blk (onCells (putCells enc 0 d))).size=w.heap.size:=by rw [Array.size_modify];rfl
  rw [Array.getElem?_append_left (by rw [hs];exact hk),Array.getElem?_modify,if_pos rfl]
  show (w.heap[blk]?).map _=_
  rw [h]
  rfl
theorem sortRow {P:Program} {ρ:Ren} (L:SlLaysF.n6 P ρ) {g:Nat} (eg:∀ args w,(callFunc g args).run P w=.ok (.enter g args) w)
    (cmp:∀ (W:World) (x y:yLI) (a:yOA) (c:Nat) (F:yLN) (a' :yOA) (c' :Nat) (F' :yLN),qU.rep W F [Sv a x.length c] x→qU.rep W F' [Sv a' y.length c'] y→
      Calls P g #[Sv a x.length c,Sv a' y.length c'] W fun e w' =>e=.returned (.int .i64 (cmpL x y))∧w' =W)
    (H:St W0 w ps Γ) (k:Nat) {b c:Nat} {e:TypeId} {nn:Nat} {xs:List Value} (hp:ps[k]? =some (.row (Sv (some ⟨b,0,none⟩) nn c) e 1 nn xs)) (j:Nat) {fr:Bool} {F:yLN} {l:yLL} (hf:Γ[j]? =some (qX fr F xs l)) (h0:0 < l.length) (hsz:l.length < 4611686018427387904):
    Calls P (ρ.f 6) #[Sv (some ⟨b,0,none⟩) nn c,.func (.func g) #[] #[]] w fun e' w' =>∃ v,e' =.returned v∧∃ xs' F' l',v=.tuple #[]∧F'.Perm F∧l.Perm l' ∧(∀ i j,i < j→j < l'.length→¬ cmpL (l'[j]!) (l'[i]!) < 0)∧
      St W0 w' (ps.set k (.row (Sv (some ⟨b,0,none⟩) nn c) e 1 nn xs')) (qX fr F' xs' l' :: Γ):=by
  have ho:=(H.has _ (List.mem_of_getElem? hp):w.ownsRow W0.heap.size e 1 _ nn xs)
  obtain ⟨hr,hfr⟩:=H.get j hf
  have hxl:xs.length=l.length:=by have:=XV hr;simpa [qU.size] using this
  have hnn:nn=l.length:=by have:=ho.1;omega
  subst hnn
  obtain ⟨hl,h | ⟨g',cap,cur,hv,hB,hg,hn,hm,hcs,ht⟩⟩:=ho
  · simp at h
  simp only [Value.slice.injEq,Option.some.injEq,Addr.mk.injEq,and_true] at hv
  obtain ⟨rfl,_,rfl⟩:=hv
  have hF:=(H.facts _ (List.mem_of_getElem? hf)).2
  have hbF:∀ x∈F,x≠b:=fun x hx e' =>(hF x hx).2 k (by simp [jF,hp,Prv.blk,Value.ownBlock,e'])
  let enc:Nat→Value:=fun i=>xs[i % l.length]!
  let cf:Nat→Nat→Int:=fun i j=>cmpL (l[i % l.length]!) (l[j % l.length]!)
  have hmod:∀ i,i % l.length < l.length:=fun i=>Nat.mod_lt _ h0
  have hrep:∀ i,∃ a c' G,(∀ x∈G,x∈F)∧enc i=Sv a (l[i % l.length]!).length c' ∧qU.rep w G [Sv a (l[i % l.length]!).length c'] (l[i % l.length]!):=fun i=>by
    obtain ⟨F1,Fk,F2,v1,cs,v2,hFe,hxe,hl1,hl2,hu,_,_⟩:=reps_get hr (i % l.length) (hmod i)
    obtain ⟨a,c',rfl,hx⟩:=id hu
    have hl1' :v1.length=i % l.length:=by rw [hl1];exact Nat.mul_one _
    refine ⟨a,c',Fk,fun x hx=>by rw [hFe];simp [hx],?_,?_⟩
    · show xs[i % l.length]! =_
      rw [getElem!_pos l _ (hmod i),getElem!_pos xs _ (by rw [hxl];exact hmod i)]
      have:xs[i % l.length]? =some (Sv a (l[i % l.length]'(hmod i)).length c'):=by
        refine (congrArg (fun z:List Value=>z[i % l.length]?) hxe).trans ?_
        show (v1++[_]++v2)[i % l.length]? =_
        rw [List.append_assoc,List.getElem?_append_right qf]
        simp [hl1']
      exact (List.getElem?_eq_some_iff.1 this).2
    · rw [getElem!_pos l _ (hmod i)];exact hu
  have hO:OneCell enc:=fun i=>by obtain ⟨a,c',G,_,he,_⟩:=hrep i;show Value.oneCell' (enc i)=true;rw [he];rfl
  have hS:SWO (ltOf cf):=by
    refine ⟨fun x=>?_,fun x y z h1 h2=>?_,fun x y z h1 h2=>?_⟩ <;> unfold ltOf at *
    · show decide (cmpL _ _ < 0)=false
      rw [cmpL_refl];rfl
    · exact decide_eq_true (cmpL_trans (of_decide_eq_true h1) (of_decide_eq_true h2))
    · exact decide_eq_false (cmpL_ntrans (of_decide_eq_false h1) (of_decide_eq_false h2))
  let d:Array Nat:=Array.range l.length
  have hds:d.size=l.length:=Array.size_range
  have hdi:∀ i,i < l.length→d[i]! =i:=fun i hi=>by rw [getElem!_pos d i (by rw [hds];exact hi)];exact Array.getElem_range _
  have hcx:∀ i,i < l.length→cur[i]? =some (enc i):=fun i hi=>by
    have h1:xs[i]? =some (enc i):=by
      show xs[i]? =some (xs[i % l.length]!)
      rw [Nat.mod_eq_of_lt hi,getElem!_pos xs i qf]
      exact List.getElem?_eq_getElem qf
    rw [← ht,List.getElem?_take,if_pos qf] at h1
    simpa using h1
  have hH:Holds enc w b 0 d:=fun i hi=>by
    have hi' :i < l.length:=by rw [hds] at hi;exact hi
    rw [hdi i hi',Nat.zero_add]
    constructor
    · rw [World.cell?,hg];exact hcx i hi'
    · rw [World.frozen?,hg];simp
  have hcmp:CmpLays1 P g #[] enc cf b 0 d.size w:=fun m os dk hs x y=>by
    obtain ⟨a,c1,G,hG,he,hx⟩:=hrep x
    obtain ⟨a2,c2,G2,hG2,he2,hy⟩:=hrep y
    have st:∀ z∈F,(sortWorld enc w b 0 m dk os).heap[z]? =w.heap[z]? :=fun z hz=>sw_block (hF z hz).1 (hbF z hz)
    rw [he,he2]
    refine (cmp _ _ _ a c1 G a2 c2 G2 (qU.stay hx fun z hz=>st z (hG z hz)) (qU.stay hy fun z hz=>st z (hG2 z hz))).mono fun e' w' h=>⟨h.1,0,#[],?_⟩
    rw [grow_empty];exact h.2
  have hblk:b < w.heap.size:=(Array.getElem?_eq_some_iff.1 hg).1
  have hc:=Any.slices_SortFunc L enc hO cf hS g #[] b 0 c d w eg hcmp hH hblk (by rw [hds];exact hsz)
  rw [hds] at hc
  refine hc.mono fun e' w' ⟨he,d',n,os,hpm,hso,hw⟩=>⟨_,he,?_⟩
  have hd' :d'.size=l.length:=hpm.1.trans hds
  have hperm:d'.toList.Perm (List.range l.length):=by
    have:=hpm.2.2
    rw [Array.extract_eq_self_of_le qf,Array.extract_eq_self_of_le qf] at this
    simpa [d] using this
  have hlt:∀ x∈d'.toList,x < l.length:=fun x hx=>List.mem_range.1 (hperm.subset hx)
  -- the pairs
  have hz:(xs.zip l).Perm (d'.toList.map fun i=>(xs[i]!,l[i]!)):=by
    have e1:xs.zip l=(List.range l.length).map fun i=>(xs[i]!,l[i]!):=by
      refine List.ext_getElem (by simp [hxl]) fun i h1 h2=>?_
      have hi:i < l.length:=by simpa using h2
      rw [List.getElem_zip,List.getElem_map,List.getElem_range,getElem!_pos xs i qf,getElem!_pos l i hi]
    rw [e1]
    exact (hperm.map _).symm
  have hr' :reps w F ((xs.zip l).map Prod.fst) ((xs.zip l).map Prod.snd):=by rw [zip_fst hxl,zip_snd hxl];exact hr
  obtain ⟨F',hF',hr2⟩:=reps_perm rfl hz hr'
  rw [List.map_map,List.map_map] at hr2
  refine ⟨d'.toList.map fun i=>xs[i]!,F',d'.toList.map fun i=>l[i]!,rfl,hF',?_,?_,?_⟩
  · have:=hz.map Prod.snd
    rw [zip_snd hxl,List.map_map] at this
    exact this
  · intro i j hij hj
    rw [List.length_map,Array.length_toList,hd'] at hj
    have hge:∀ q,q < l.length→(d'.toList.map fun i=>l[i]!)[q]! =l[d'[q]! % l.length]! :=fun q hq=>by
      rw [getElem!_pos _ q (by simp [hd',hq]),List.getElem_map,Array.getElem_toList]
      have:d'[q]! =d'[q]:=getElem!_pos d' q qf
      rw [this,Nat.mod_eq_of_lt (hlt _ qm)]
    rw [hge i qf,hge j hj]
    exact of_decide_eq_false (hso i j (Nat.zero_le _) hij hj)
  · subst hw
    have hcells:∀ q,q < l.length→(putCells enc 0 d' cur)[q]? =some (xs[d'[q]!]!):=fun q hq=>by
      unfold putCells
      rw [Array.getElem?_mapIdx]
      have hcq:=hcx q hq
      rw [hcq]
      simp only [Option.map_some,Nat.zero_le,true_and,Nat.zero_add,hd',if_pos hq,Nat.sub_zero]
      show some (xs[d'[q]! % l.length]!)=_
      have:d'[q]! =d'[q]:=getElem!_pos d' q qf
      rw [this,Nat.mod_eq_of_lt (hlt _ qm)]
    have hown:(sortWorld enc w b 0 n d' os).ownsRow W0.heap.size e 1 (Sv (some ⟨b,0,none⟩) l.length c) l.length (d'.toList.map fun i=>xs[i]!):=by
      refine ⟨by simp [hd'],Or.inr ⟨b,c,putCells enc 0 d' cur,rfl,hB,sw_row hg,hn,hm,by unfold putCells;rw [Array.size_mapIdx];exact hcs,?_⟩⟩
      rw [Nat.mul_one]
      refine List.ext_getElem? fun q=>?_
      rw [List.getElem?_take]
      split
      · next hq=>
        rw [Array.getElem?_toList,hcells q hq,List.getElem?_map,Array.getElem?_toList]
        have:d'[q]! =d'[q]:=getElem!_pos d' q qf
        rw [this,Array.getElem?_eq_getElem qf]
        rfl
      · next hq=>rw [List.getElem?_eq_none (by simp;omega)]
    have hsize:w.heap.size≤(sortWorld enc w b 0 n d' os).heap.size:=by
      unfold sortWorld putRow mapBlock grow
      show _≤((Sort.ahead w n).heap.modify b _++os).size
      rw [Array.size_append,Array.size_modify]
      exact Nat.le_add_right _ _
    have H1:=H.change k hp (w' :=sortWorld enc w b 0 n d' os) (p' :=.row (Sv (some ⟨b,0,none⟩) l.length c) e 1 l.length (d'.toList.map fun i=>xs[i]!)) rfl rfl rfl hsize (fun i hi hne=>sw_block hi (fun e2=>hne (by subst e2;rfl))) hown (Or.inl rfl)
    refine H1.add _ ⟨?_,fun e2 x hx=>?_⟩ fun x hx=>?_
    · exact reps_stay hr2 fun z hz=>sw_block (hF z (hF'.subset hz)).1 (hbF z (hF'.subset hz))
    · have h2:=hfr e2 x (hF'.subset hx)
      obtain ⟨o1,o2,ho⟩:=h2
      exact ⟨o1,o2,(sw_block (hF x (hF'.subset hx)).1 (hbF x (hF'.subset hx))).trans ho⟩
    · refine ⟨Nat.lt_of_lt_of_le (hF x (hF'.subset hx)).1 hsize,fun i hi=>?_⟩
      have h3:=(hF x (hF'.subset hx)).2
      by_cases e3:i=k
      · subst e3
        have:(ps.set i (Prv.row (Sv (some ⟨b,0,none⟩) l.length c) e 1 l.length (d'.toList.map fun i=>xs[i]!)))[i]? =some (Prv.row (Sv (some ⟨b,0,none⟩) l.length c) e 1 l.length (d'.toList.map fun i=>xs[i]!)):=set_at hp
        simp only [jF,this,Option.bind_some,Prv.blk,Value.ownBlock,Option.some.injEq] at hi
        exact hbF x (hF'.subset hx) hi.symm
      · have:jF (ps.set k (Prv.row (Sv (some ⟨b,0,none⟩) l.length c) e 1 l.length (d'.toList.map fun i=>xs[i]!))) i=jF ps i:=by unfold jF;rw [List.getElem?_set_ne (Ne.symm e3)]
        rw [this] at hi
        exact h3 i hi
end
end
end Go.Proofs.YtcpnclokildllaaGreat
