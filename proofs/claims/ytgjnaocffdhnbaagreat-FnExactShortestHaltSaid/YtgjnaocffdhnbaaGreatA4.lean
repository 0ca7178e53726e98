/- Walks and laws, printed by program and by hand: what each function comes to, for all arguments, part 4. -/
import Derived.Test.YtgjnaocffdhnbaaGreatA3
namespace Go.Proofs.YtgjnaocffdhnbaaGreat
set_option linter.unusedVariables false
set_option linter.unusedSimpArgs false
open Go.Proofs.YtgjnaocffdhnbaaGreat.Tot (tot)
open Go.Proofs.YtgjnaocffdhnbaaGreat.Mark (cnt mrk mkd mkd_mark cnt_mark)
section
open Go.Proofs.Tryz
open Go.RowKit
set_option linter.unusedVariables false
set_option linter.unusedSimpArgs false
set_option maxRecDepth 100000
set_option maxHeartbeats 4000000
variable {cl bt ot qR xk qM qy qI yF yJ yG yH Xu yf cm bs os ccounts : Nat}
theorem cloneB_ok (w:World) (l:List Bool) {al:yOA} {Fl:yLN} (hl:qO.rep w Fl [.slice al l.length cl] l) (p0:l.length≤1000000):Calls Tryz.prog 115 #[.slice al l.length cl] w (Ret (fun v w' =>∃ (ra:yOA) (rn:Nat) (rc:Nat),v=.slice ra rn rc∧Fresh w.heap.size []∧St w w' [rr ra rn rc 4 1 (l.map (Value.bool))] []) w):=by
 refine en func115 ntmps115 ?_
 have H:=(St.start w).arg hl
 have nhl:=qK hl
 clear hl
 have N:=Fresh.nil w.heap.size
 refine zcr (sp yN (zjcc (sp (.slice al l.length cl) (sw (o_eqnil underlying26 al l.length cl rfl (zjn (xK (al.isNone) rfl (fun h1=>?_) (fun h1=>?_))))))))
 ·skip
  refine zcr (sp yN (zjr (t_r ?_)))
  replace H:=H.nilRowB 4
  refine ret1 yN rfl rfl ⟨_,rfl,?_,H.base⟩
  obtain rfl:=H.nilOf 0 rfl ‹_›
  exact ⟨none,0,0,rfl,N,H.pick [0] []⟩
 refine qU (t_n (zcr (sw (vG H underlying26 ti4 fun b2 w3 H=>sp (.slice al l.length cl) ?_))))
 replace H:=H.boxRowB 0 [] 0
 refine sw (o_appendFR H 0 rfl 0 rfl underlying26 ti4 rfl qj rfl rfl qp qf fun a4 c5 w6 us7 G8 H hG9=>?_)
 obtain ⟨_,rfl⟩:=reps_bools (H.get 0 rfl).1
 replace H:=H.sub _ fun f hf=>List.mem_cons_of_mem _ hf
 rw [catB] at H
 refine sp (.slice a4 (0+l.length) c5) (zjr (ret1 (.slice a4 (0+l.length) c5) rfl rfl ⟨_,rfl,(⟨a4,0+l.length,c5,rfl,N,H.pick [0] []⟩),H.base⟩))

theorem l02Own_ok (w:World) (t:qJ) {qV:yOA} {xR:yLN} {xn:yOA} {zy:yLN} {qN:yOA} {xH:yLN} (ht:ve w bt ot (yT t qV qR xn xk qN qM)) (zl:qO.rep w xR [.slice qV t.qA.length qR] t.qA) (zK:qO.rep w zy [.slice xn t.qE.length xk] t.qE) (xP:qO.rep w xH [.slice qN t.qC.length qM] t.qC) (p0:t.qA.length≤1000000) (p1:t.qC.length≤1000000) (p2:t.qE.length≤1000000) (p3:∀ k,k < t.qE.length→(t.qE[k]!).length≤1000000):Calls Tryz.prog 76 #[pp bt ot] w (Ret (fun v w' =>∃ (raAlive:yOA) (rnAlive:Nat) (rcAlive:Nat) (raBags:yOA) (rnBags:Nat) (rcBags:Nat) (rxBags:List Value) (rFBags:yLN) (raAround:yOA) (rnAround:Nat) (rcAround:Nat),v=.agg #[.slice raAlive rnAlive rcAlive,.slice raBags rnBags rcBags,.slice raAround rnAround rcAround]∧Fresh w.heap.size [rFBags]∧St w w' [rr raAlive rnAlive rcAlive 4 1 (t.qA.map (Value.bool)),rr raBags rnBags rcBags 22 1 rxBags,rr raAround rnAround rcAround 2 1 (t.qC.map (Value.int .i64))] [zi true rFBags rxBags t.qE]) w):=by
 refine en func76 ntmps76 ?_
 have H:=((((St.start w).arg xP).arg zK).arg zl).XW ht
 have Qd:=qK zl
 have QQ:=qK zK
 have jP:=qK xP
 clear ht zl zK xP
 have N:=Fresh.nil w.heap.size
 refine zcr (sw (zf H ti38 [yN,yN,yN] fun b1 w2 H=>zjn (xQ ?_)))
 refine c_cut (fun ρ w8=>∃ (xU:Env) (b3:Nat) (a4:yOA) (c5:Nat) (a6:yOA) (c7:Nat),ρ=upd (upd (upd xU 0 (pp bt ot)) 2 (pp b1 0)) 3 (pp b3 0)∧Fresh w.heap.size []∧St w w8 [.box b3 [.slice a4 (0+t.qA.length) c5,yN,.slice a6 t.qC.length c7] 38,rr a6 t.qC.length c7 2 1 (t.qC.map (Value.int .i64)),rr a4 (0+t.qA.length) c5 4 1 ((([]:List Bool)++t.qA).map (Value.bool)),.box b1 [yN,yN,yN] 38] [atF bt ot (yT t qV qR xn xk qN qM),sF false xR qV qR t.qA,sF false zy xn xk t.qE,sF false xH qN qM t.qC]) ?_ ?_
 ·skip
  refine vT rfl H fun H=>rtp 1 (pp bt ot) H ?_
  refine rtp 2 (pp bt ot) H ?_
  refine tF 3 rfl rfl H ?_
  refine tL 4 rfl rfl (fun _ h=>h.xW 0 rfl 0 rfl) H ?_
  refine rtp 6 (pp bt ot) H ?_
  refine rtp 7 (pp bt ot) H ?_
  refine tF 8 rfl rfl H ?_
  refine tL 9 rfl rfl (fun _ h=>h.xW 0 rfl 2 rfl) H ?_
  refine ji [0,12] qh qm (Qg rfl ?_ (Qg rfl ?_ jk))
  ·skip
   refine vG H underlying26 ti4 fun b10 w11 H=>⟨H.pick [1] [0,1,2,3],(ji [5,12] qh qm (Qg rfl ?_ (Qg rfl ?_ jk)))⟩
   ·skip
    replace H:=H.boxRowB 0 [] 0
    refine o_appendFR H 0 rfl 1 rfl underlying26 ti4 rfl qj rfl rfl qp qf fun a12 c13 w14 us15 G16 H hG17=>?_
    obtain ⟨_,rfl⟩:=reps_bools (H.get 0 rfl).1
    replace H:=H.sub _ fun f hf=>List.mem_cons_of_mem _ hf
    rw [catB] at H
    refine ⟨H.pick [1] [0,1,2,3],(ji [10,12] qh qm (Qg rfl ?_ (Qg rfl ?_ jk)))⟩
    ·skip
     have sz18:=H.base.size
     refine oc (X3 _ t.qC (H.get 3 rfl).1 qg) ?_
     rintro v23 w21 r23 x22
     replace H:=H.zD x22 r23
     obtain ⟨a24,c25,rfl,hc26,hm27⟩:=H.jo 0 rfl
     refine ⟨H.pick [2] [0,1,2,3],(ji [11,12] qh qm (Qg rfl ?_ (Qg rfl ?_ jk)))⟩
     ·skip
      refine jB [.slice a12 (0+t.qA.length) c13,yN,.slice a24 t.qC.length c25] [(0,.slice a12 (0+t.qA.length) c13),(2,.slice a24 t.qC.length c25)] (⟨H.pick [2] [0,1,2,3],(ro 12 rfl (zf H ti38 [yN,yN,yN] fun b28 w29 H=>⟨H.pick [3] [0,1,2,3],(ro 13 rfl (zB H 0 [.slice a12 (0+t.qA.length) c13,yN,.slice a24 t.qC.length c25] sizeOf38 fun w30 H=>⟨H.pick [3] [0,1,2,3],(xO qh ((meet ⟨_,b28,a12,c13,a24,c25,uE3,N,H⟩)))⟩))⟩))⟩)
     refine zf H ti38 [yN,yN,yN] fun b31 w32 H=>⟨H.pick [3] [0,1,2,3],(ro 11 rfl (jB [.slice a12 (0+t.qA.length) c13,yN,.slice a24 t.qC.length c25] [(0,.slice a12 (0+t.qA.length) c13),(2,.slice a24 t.qC.length c25)] (⟨H.pick [3] [0,1,2,3],(ro 13 rfl (zB H 0 [.slice a12 (0+t.qA.length) c13,yN,.slice a24 t.qC.length c25] sizeOf38 fun w33 H=>⟨H.pick [3] [0,1,2,3],(xO qh ((meet ⟨_,b31,a12,c13,a24,c25,uE3,N,H⟩)))⟩))⟩)))⟩
    refine zf H ti38 [yN,yN,yN] fun b34 w35 H=>⟨H.pick [2] [0,1,2,3],(ro 10 rfl ?_)⟩
    have sz36:=H.base.size
    refine oc (X3 _ t.qC (H.get 3 rfl).1 qg) ?_
    rintro v41 w39 r41 x40
    replace H:=H.zD x40 r41
    obtain ⟨a42,c43,rfl,hc44,hm45⟩:=H.jo 0 rfl
    refine ⟨H.pick [3] [0,1,2,3],(ro 11 rfl (jB [.slice a12 (0+t.qA.length) c13,yN,.slice a42 t.qC.length c43] [(0,.slice a12 (0+t.qA.length) c13),(2,.slice a42 t.qC.length c43)] (⟨H.pick [3] [0,1,2,3],(ro 13 rfl (zB H 1 [.slice a12 (0+t.qA.length) c13,yN,.slice a42 t.qC.length c43] sizeOf38 fun w46 H=>⟨H.pick [3] [0,1,2,3],(xO qh ((meet ⟨_,b34,a12,c13,a42,c43,uE3,N,H.pick [1,0,2,3] [0,1,2,3]⟩)))⟩))⟩)))⟩
   refine zf H ti38 [yN,yN,yN] fun b47 w48 H=>⟨H.pick [2] [0,1,2,3],(ro 5 rfl ?_)⟩
   replace H:=H.boxRowB 1 [] 0
   refine o_appendFR H 1 rfl 1 rfl underlying26 ti4 rfl qj rfl rfl qp qf fun a49 c50 w51 us52 G53 H hG54=>?_
   obtain ⟨_,rfl⟩:=reps_bools (H.get 0 rfl).1
   replace H:=H.sub _ fun f hf=>List.mem_cons_of_mem _ hf
   rw [catB] at H
   refine ⟨H.pick [2] [0,1,2,3],(ro 10 rfl ?_)⟩
   have sz55:=H.base.size
   refine oc (X3 _ t.qC (H.get 3 rfl).1 qg) ?_
   rintro v60 w58 r60 x59
   replace H:=H.zD x59 r60
   obtain ⟨a61,c62,rfl,hc63,hm64⟩:=H.jo 0 rfl
   refine ⟨H.pick [3] [0,1,2,3],(ro 11 rfl (jB [.slice a49 (0+t.qA.length) c50,yN,.slice a61 t.qC.length c62] [(0,.slice a49 (0+t.qA.length) c50),(2,.slice a61 t.qC.length c62)] (⟨H.pick [3] [0,1,2,3],(ro 13 rfl (zB H 1 [.slice a49 (0+t.qA.length) c50,yN,.slice a61 t.qC.length c62] sizeOf38 fun w65 H=>⟨H.pick [3] [0,1,2,3],(xO qh ((meet ⟨_,b47,a49,c50,a61,c62,uE3,N,H.pick [1,0,2,3] [0,1,2,3]⟩)))⟩))⟩)))⟩
  refine zf H ti38 [yN,yN,yN] fun b66 w67 H=>⟨H.pick [1] [0,1,2,3],(ro 0 rfl (vG H underlying26 ti4 fun b68 w69 H=>⟨H.pick [2] [0,1,2,3],(ro 5 rfl ?_)⟩))⟩
  replace H:=H.boxRowB 0 [] 0
  refine o_appendFR H 0 rfl 1 rfl underlying26 ti4 rfl qj rfl rfl qp qf fun a70 c71 w72 us73 G74 H hG75=>?_
  obtain ⟨_,rfl⟩:=reps_bools (H.get 0 rfl).1
  replace H:=H.sub _ fun f hf=>List.mem_cons_of_mem _ hf
  rw [catB] at H
  refine ⟨H.pick [2] [0,1,2,3],(ro 10 rfl ?_)⟩
  have sz76:=H.base.size
  refine oc (X3 _ t.qC (H.get 3 rfl).1 qg) ?_
  rintro v81 w79 r81 x80
  replace H:=H.zD x80 r81
  obtain ⟨a82,c83,rfl,hc84,hm85⟩:=H.jo 0 rfl
  refine ⟨H.pick [3] [0,1,2,3],(ro 11 rfl (jB [.slice a70 (0+t.qA.length) c71,yN,.slice a82 t.qC.length c83] [(0,.slice a70 (0+t.qA.length) c71),(2,.slice a82 t.qC.length c83)] (⟨H.pick [3] [0,1,2,3],(ro 13 rfl (zB H 2 [.slice a70 (0+t.qA.length) c71,yN,.slice a82 t.qC.length c83] sizeOf38 fun w86 H=>⟨H.pick [3] [0,1,2,3],(xO qh ((meet ⟨_,b66,a70,c71,a82,c83,uE3,N,H.pick [2,0,1,3] [0,1,2,3]⟩)))⟩))⟩)))⟩
 clear H N
 rintro ρ w87 ⟨xU,b3,a4,c5,a6,c7,rfl,N,H⟩
 refine t_n (zcc (sp (yI 0) (zjn (qX ?_))))
 replace H:=H.nilRow 22 1
 replace H:=H.vI (α:=yLI)
 refine zu (fun m' ρ w88=>∃ (xU:Env) (c:Nat) (jU:yOA) (vz:Nat) (jT:Nat) (out_Bags:yLL) (zS:List Value) (zg:yLN),ρ=upd (upd (upd (upd xU 0 (pp bt ot)) 2 (pp b1 0)) 3 (pp b3 0)) 4 (yI c)∧out_Bags=t.qE.take c∧((c:Int)≤t.qE.length)∧m' =(t.qE.length - (c:Int)).toNat∧Fresh w.heap.size [zg]∧St w w88 [rr jU vz jT 22 1 zS,.box b3 [.slice a4 (0+t.qA.length) c5,.slice jU vz jT,.slice a6 t.qC.length c7] 38,rr a6 t.qC.length c7 2 1 (t.qC.map (Value.int .i64)),rr a4 (0+t.qA.length) c5 4 1 ((([]:List Bool)++t.qA).map (Value.bool)),.box b1 [yN,yN,yN] 38] [zi true zg zS out_Bags,atF bt ot (yT t qV qR xn xk qN qM),sF false xR qV qR t.qA,sF false zy xn xk t.qE,sF false xH qN qM t.qC]) ((t.qE.length - (0:Int)).toNat) ⟨_,0,none,0,0,([]:yLL),[],[],uE4,(by rfl),qf,rfl,N.emp,H⟩ ?_
 clear H N
 rintro m' ρ w89 ⟨xU,c,jU,vz,jT,out_Bags,zS,zg,rfl,rfl,i0,rfl,N,H⟩
 have YH:=H.zh (α:=yLI) 0 rfl 0 rfl qj
 have p4:=p3 c
 rw [List.length_take_of_le qf] at YH
 refine zcc (sps [yI c,pp bt ot,pp bt ot] (oF rfl (oL rfl (H.xW 1 rfl 1 rfl) (oN rfl (sp (.bool (decide ((c:Int) < t.qE.length))) (zjn (cD rfl (fun h90=>?_) (fun h90=>?_))))))))
 ·skip
  refine qU (t_n (xQ (qX ?_)))
  obtain ⟨b91,o92,rfl⟩:=H.addr 3 rfl qf
  refine c_cut (fun ρ w102=>∃ (xU:Env) (a94:yOA) (c95:Nat) (a96:yOA) (c97:Nat) (G98:yLN) (F99:yLN) (a100:yOA) (c101:Nat),ρ=upd (upd (upd (upd xU 0 (pp bt ot)) 2 (pp b1 0)) 3 (pp b3 0)) 4 (yI c)∧Fresh w.heap.size [(zg++G98)]∧St w w102 [rr a94 (vz+1) c95 22 1 (zS++[.slice a96 ((t.qE[c]!).length) c97]),.box b3 [.slice a4 (0+t.qA.length) c5,.slice a94 (vz+1) c95,.slice a6 t.qC.length c7] 38,rr a6 t.qC.length c7 2 1 (t.qC.map (Value.int .i64)),rr a4 (0+t.qA.length) c5 4 1 ((([]:List Bool)++t.qA).map (Value.bool)),.box b1 [yN,yN,yN] 38] [zi true (zg++G98) (zS++[.slice a96 ((t.qE[c]!).length) c97]) ((t.qE.take c)++[(t.qE[c]!)]),sF true G98 a96 c97 (t.qE[c]!),sF false F99 a100 c101 (t.qE[c]!),atF b91 (o92+(c:Int).toNat * 1) [.slice a100 ((t.qE[c]!).length) c101],atF bt ot [.slice qV t.qA.length qR,.slice (aa b91 o92) t.qE.length xk,.slice qN t.qC.length qM],sF false xR qV qR t.qA,sF false zy (aa b91 o92) xk t.qE,sF false xH qN qM t.qC]) ?_ ?_
  ·skip
   refine Qn rfl H [2,3,4] fun H=>?_
   have S:=H.yl [2,3,4] [0,1,2,3,4]
   refine tF 0 rfl rfl S ?_
   refine rtp 2 (pp bt ot) S ?_
   refine rtp 3 (pp bt ot) S ?_
   refine tF 4 rfl rfl S ?_
   refine tL 5 rfl rfl (fun _ h=>h.xW 1 rfl 1 rfl) S ?_
   refine rtp 6 (yI c) S ?_
   obtain ⟨ae104,ce104,Fe104,H⟩:=H.vM 3 rfl c c qf qf qf
   refine tI 7 rfl rfl rfl (H.pick [2,3,4] [2,3,4,5,6]) ?_
   refine ji [1,8] qh qm (Qg rfl ?_ (Qg rfl ?_ jk))
   ·skip
    refine zN (.slice jU vz jT) isAgg27 rfl (H.cell 1 rfl rfl) (⟨H.pick [2,3,4] [2,3,4,5,6],(ro 8 rfl (zN (.slice ae104 ((t.qE[c]!).length) ce104) isAgg22 rfl (H.xW 1 rfl 0 rfl) (⟨H.pick [2,3,4] [2,3,4,5,6],(ro 9 rfl ?_)⟩)))⟩)
    have sz105:=H.base.size
    have lt106:=H.ltN (L:=[zg]) [2]
    refine oc (X3 _ (t.qE[c]!) (H.get 0 rfl).1 qg) ?_
    rintro v110 w108 r110 x109
    replace H:=H.zD x109 r110
    obtain ⟨a111,c112,rfl,hc113,hm114⟩:=H.jo 0 rfl
    refine ⟨H.pick [3,4,5] [2,3,4,5,6],(ro 10 rfl (zG H underlying27 ti22 [.slice a111 ((t.qE[c]!).length) c112] fun b115 w116 H=>⟨H.pick [4,5,6] [2,3,4,5,6],(ro 11 rfl ?_)⟩))⟩
    obtain ⟨G120,N,hn121,H⟩:=H.vS 1 rfl N (H.jQ [2])
    refine zQ H 2 rfl 0 rfl underlying27 ti22 rfl qj rfl rfl rfl (by simp [Value.oneCell',Value.cells]) qp qf fun a117 c118 w119 H=>?_
    replace H:=H.jW 3 rfl 0 rfl
    replace N:Fresh w.heap.size [(zg++G120)]:=(N.pick [1,0]).join
    refine ⟨H.pick [4,5,6] [4,5,6,7,8],(tF 12 rfl rfl (H.pick [4,5,6] [4,5,6,7,8]) ?_)⟩
    refine ro 13 rfl (zJ H 3 [.slice a4 (0+t.qA.length) c5,.slice a117 (vz+1) c118,.slice a6 t.qC.length c7] sizeOf27 fun w122 H=>⟨H.pick [4,5,6] [4,5,6,7,8],(xO qh ((meet ⟨_,a117,c118,a111,c112,G120,Fe104,ae104,ce104,uE4,N,H.pick [2,3,4,5,6] [0,1,2,3,5,6,7,8]⟩)))⟩)
   refine zN (.slice ae104 ((t.qE[c]!).length) ce104) isAgg22 rfl (H.xW 1 rfl 0 rfl) (⟨H.pick [2,3,4] [2,3,4,5,6],(ji [1,9] qh qm (Qg rfl ?_ (Qg rfl ?_ jk)))⟩)
   ·skip
    refine zN (.slice jU vz jT) isAgg27 rfl (H.cell 1 rfl rfl) (⟨H.pick [2,3,4] [2,3,4,5,6],(ro 9 rfl ?_)⟩)
    have sz123:=H.base.size
    have lt124:=H.ltN (L:=[zg]) [2]
    refine oc (X3 _ (t.qE[c]!) (H.get 0 rfl).1 qg) ?_
    rintro v128 w126 r128 x127
    replace H:=H.zD x127 r128
    obtain ⟨a129,c130,rfl,hc131,hm132⟩:=H.jo 0 rfl
    refine ⟨H.pick [3,4,5] [2,3,4,5,6],(ro 10 rfl (zG H underlying27 ti22 [.slice a129 ((t.qE[c]!).length) c130] fun b133 w134 H=>⟨H.pick [4,5,6] [2,3,4,5,6],(ro 11 rfl ?_)⟩))⟩
    obtain ⟨G138,N,hn139,H⟩:=H.vS 1 rfl N (H.jQ [2])
    refine zQ H 2 rfl 0 rfl underlying27 ti22 rfl qj rfl rfl rfl (by simp [Value.oneCell',Value.cells]) qp qf fun a135 c136 w137 H=>?_
    replace H:=H.jW 3 rfl 0 rfl
    replace N:Fresh w.heap.size [(zg++G138)]:=(N.pick [1,0]).join
    refine ⟨H.pick [4,5,6] [4,5,6,7,8],(tF 12 rfl rfl (H.pick [4,5,6] [4,5,6,7,8]) ?_)⟩
    refine ro 13 rfl (zJ H 3 [.slice a4 (0+t.qA.length) c5,.slice a135 (vz+1) c136,.slice a6 t.qC.length c7] sizeOf27 fun w140 H=>⟨H.pick [4,5,6] [4,5,6,7,8],(xO qh ((meet ⟨_,a135,c136,a129,c130,G138,Fe104,ae104,ce104,uE4,N,H.pick [2,3,4,5,6] [0,1,2,3,5,6,7,8]⟩)))⟩)
   have sz141:=H.base.size
   have lt142:=H.ltN (L:=[zg]) [2]
   refine oc (X3 _ (t.qE[c]!) (H.get 0 rfl).1 qg) ?_
   rintro v146 w144 r146 x145
   replace H:=H.zD x145 r146
   obtain ⟨a147,c148,rfl,hc149,hm150⟩:=H.jo 0 rfl
   refine ⟨H.pick [3,4,5] [2,3,4,5,6],(ji [1,10] qh qm (Qg rfl ?_ (Qg rfl ?_ jk)))⟩
   ·skip
    refine zN (.slice jU vz jT) isAgg27 rfl (H.cell 2 rfl rfl) (⟨H.pick [3,4,5] [2,3,4,5,6],(ro 10 rfl (zG H underlying27 ti22 [.slice a147 ((t.qE[c]!).length) c148] fun b151 w152 H=>⟨H.pick [4,5,6] [2,3,4,5,6],(ro 11 rfl ?_)⟩))⟩)
    obtain ⟨G156,N,hn157,H⟩:=H.vS 1 rfl N (H.jQ [2])
    refine zQ H 2 rfl 0 rfl underlying27 ti22 rfl qj rfl rfl rfl (by simp [Value.oneCell',Value.cells]) qp qf fun a153 c154 w155 H=>?_
    replace H:=H.jW 3 rfl 0 rfl
    replace N:Fresh w.heap.size [(zg++G156)]:=(N.pick [1,0]).join
    refine ⟨H.pick [4,5,6] [4,5,6,7,8],(tF 12 rfl rfl (H.pick [4,5,6] [4,5,6,7,8]) ?_)⟩
    refine ro 13 rfl (zJ H 3 [.slice a4 (0+t.qA.length) c5,.slice a153 (vz+1) c154,.slice a6 t.qC.length c7] sizeOf27 fun w158 H=>⟨H.pick [4,5,6] [4,5,6,7,8],(xO qh ((meet ⟨_,a153,c154,a147,c148,G156,Fe104,ae104,ce104,uE4,N,H.pick [2,3,4,5,6] [0,1,2,3,5,6,7,8]⟩)))⟩)
   refine zG H underlying27 ti22 [.slice a147 ((t.qE[c]!).length) c148] fun b159 w160 H=>⟨H.pick [4,5,6] [2,3,4,5,6],(ro 1 rfl (zN (.slice jU vz jT) isAgg27 rfl (H.cell 3 rfl rfl) (⟨H.pick [4,5,6] [2,3,4,5,6],(ro 11 rfl ?_)⟩)))⟩
   obtain ⟨G164,N,hn165,H⟩:=H.vS 1 rfl N (H.jQ [2])
   refine zQ H 2 rfl 0 rfl underlying27 ti22 rfl qj rfl rfl rfl (by simp [Value.oneCell',Value.cells]) qp qf fun a161 c162 w163 H=>?_
   replace H:=H.jW 3 rfl 0 rfl
   replace N:Fresh w.heap.size [(zg++G164)]:=(N.pick [1,0]).join
   refine ⟨H.pick [4,5,6] [4,5,6,7,8],(tF 12 rfl rfl (H.pick [4,5,6] [4,5,6,7,8]) ?_)⟩
   refine ro 13 rfl (zJ H 3 [.slice a4 (0+t.qA.length) c5,.slice a161 (vz+1) c162,.slice a6 t.qC.length c7] sizeOf27 fun w166 H=>⟨H.pick [4,5,6] [4,5,6,7,8],(xO qh ((meet ⟨_,a161,c162,a147,c148,G164,Fe104,ae104,ce104,uE4,N,H.pick [2,3,4,5,6] [0,1,2,3,5,6,7,8]⟩)))⟩)
  clear H N
  rintro ρ w167 ⟨xU,a94,c95,a96,c97,G98,F99,a100,c101,rfl,N,H⟩
  refine b_n (t_n (xY (sp (yI c) (sw (zC c 1 rfl rfl qf (sp (yI (c+1)) (xZ (xf (m' :=(t.qE.length - ((c+1):Int)).toNat) qf ⟨_,c+1,a94,vz+1,c95,((t.qE.take c)++[(t.qE[c]!)]),zS++[.slice a96 ((t.qE[c]!).length) c97],(zg++G98),uE4,?_,?_,rfl,N,H.pick [0,1,2,3,4] [0,4,5,6,7]⟩))))))))
  · exact take_snoc qf
  · omega
 refine zx4 (zcr (sw (zn [.slice a4 (0+t.qA.length) c5,.slice jU vz jT,.slice a6 t.qC.length c7] isAgg38 sizeOf38 rfl (qF (H.cells 1 rfl) 0 3) (sw (zB H 4 [.slice a4 (0+t.qA.length) c5,.slice jU vz jT,.slice a6 t.qC.length c7] sizeOf38 fun w168 H=>zjr (retC H 4 rfl rfl isAgg38 sizeOf38 rfl ⟨_,rfl,?_,H.base⟩))))))
 obtain rfl:c=t.qE.length:=by omega
 rw [List.take_length] at H
 exact ⟨a4,0+t.qA.length,c5,jU,vz,jT,zS,zg,a6,t.qC.length,c7,rfl,N,H.pick [3,0,2] [0]⟩
theorem isShell_ok (w:World) (s:qG) {qB:yOA} {qZ:yLN} {qL:yOA} {xE:yLN} (xe:qO.rep w qZ [.slice qB s.qw.length qy] s.qw) (xJ:qO.rep w xE [.slice qL s.qx.length qI] s.qx):Calls Tryz.prog 138 #[.agg #[yI s.xC,.slice qB s.qw.length qy,.slice qL s.qx.length qI]] w (Ret (fun v w' =>v=.bool (dec (yX s))) w):=by
 refine en func138 ntmps138 ?_
 have H:=((St.start w).arg xJ).arg xe
 have zY:=qK xe
 have jb:=qK xJ
 clear xe xJ
 have N:=Fresh.nil w.heap.size
 refine zcr (sw (vH H (yS s qB qy qL qI) fun b1 w2 H=>sp (.bool false) (zjcc (oF rfl (oL rfl (H.cell 0 rfl rfl) (sw (oq (YR w2 s.xC 1 8) H fun w3 H=>sps [.bool (!(inR s.xC 1 8)),.bool (!(inR s.xC 1 8))] ?_)))))))
 cases h5:(!(inR s.xC 1 8))
 ·skip
  replace h5:=xh h5
  replace h5:=XL.1 h5
  refine qP 9 rfl rfl (oF rfl (qP 9 rfl rfl (oL rfl (H.cell 0 rfl rfl) (qP 9 rfl rfl (sw (oq (sizeI_ok _ s.qw (H.get 0 rfl).1) H fun w6 H=>qP 9 rfl rfl (sw (oq (YR w6 (s.qw.length:Int) 1 6) H fun w8 H=>qP 9 rfl rfl (sps [.bool (!(inR (s.qw.length:Int) 1 6)),.bool (!(inR (s.qw.length:Int) 1 6)),.bool (!(inR (s.qw.length:Int) 1 6))] ?_)))))))))
  cases h10:(!(inR (s.qw.length:Int) 1 6))
  ·skip
   replace h10:=xh h10
   replace h10:=XL.1 h10
   refine qP 16 rfl rfl (oF rfl (qP 16 rfl rfl (oL rfl (H.cell 0 rfl rfl) (qP 16 rfl rfl ?_))))
   obtain ⟨b11,o12,rfl⟩:=H.addr 0 rfl qf
   refine oI rfl rfl (qP 16 rfl rfl (oL rfl (H.jC 0 rfl 0 qf qf) (qP 16 rfl rfl (sps [.bool ((s.qw[0]! :Int) != (-1)),.bool ((s.qw[0]! :Int) != (-1))] (zjn (xK ((s.qw[0]! :Int) != (-1)) rfl (fun h14=>?_) (fun h14=>?_)))))))
   ·skip
    replace h14:=bne_iff_ne.1 h14
    refine zcr (sp (.bool false) (zjr (t_r (ret1 (.bool false) rfl rfl ⟨_,rfl,?_,H.base⟩))))
    rw [xx (fun h=>by obtain ⟨h1,h2,h3,h4⟩:=h;first | omega | (have:=h4 (c+1) qf qf;rw [← dg qf] at this;omega))]
   replace h14:=xq h14
   refine qU (t_n (zcc (oF rfl (oL rfl (H.cell 0 rfl rfl) (sw (o_tail H 0 rfl 1 underlying22 ti2 rfl qf fun a15 G16 hG17 H=>?_))))))
   have hl18:(s.qw.drop 1).length=s.qw.length - 1:=List.length_drop
   refine oN rfl (sp (yI 0) (zjn (qX ?_)))
   refine zu (fun m' ρ w19=>∃ (xU:Env) (c:Nat),ρ=upd (upd (upd xU 25 (.slice a15 ((s.qw.drop 1).length) (qy - 1))) 26 (yI ((s.qw.drop 1).length))) 27 (yI c)∧((c:Int)≤((s.qw.drop 1).length))∧(FrameTo s (c+1))∧m' =(((s.qw.drop 1).length) - (c:Int)).toNat∧Fresh w.heap.size []∧St w w19 [.box b1 [yI s.xC,.slice (aa b11 o12) s.qw.length qy,.slice qL s.qx.length qI] 36] [sF false G16 a15 (qy - 1) (s.qw.drop 1),sF false qZ (aa b11 o12) qy s.qw,sF false xE qL qI s.qx]) ((((s.qw.drop 1).length) - (0:Int)).toNat) ⟨_,0,uE3,qf,(by exact FrameTo.one s),rfl,N,H⟩ ?_
   clear H N
   rintro m' ρ w20 ⟨xU,c,rfl,i0,i1,rfl,N,H⟩
   have dg:=drop_get (l:=s.qw) (k:=c)
   refine zcr (sp (.bool (decide ((c:Int) < ((s.qw.drop 1).length)))) (zjn (xQ (cD rfl (fun h21=>?_) (fun h21=>?_)))))
   ·skip
    refine qU (t_n (xQ (qX (zcr (sp (yI c) ?_)))))
    obtain ⟨b22,o23,rfl⟩:=H.addr 0 rfl qf
    refine oI rfl rfl (oL rfl (H.jC 0 rfl c qf qf) (sps [yI c,yI ((s.qw.drop 1)[c]!)] (zjc (sps [yI ((s.qw.drop 1)[c]!),yI c] (sw (oq (YR w20 ((s.qw.drop 1)[c]!) 0 c) H fun w25 H=>sp (.bool (!(inR ((s.qw.drop 1)[c]!) 0 c))) (zjn (xK (!(inR ((s.qw.drop 1)[c]!) 0 c)) rfl (fun h27=>?_) (fun h27=>?_)))))))))
    ·skip
     replace h27:=xw h27
     replace h27:=Vs h27
     refine zcr (sp (.bool false) (zjr (zr5 (ret1 (.bool false) rfl rfl ⟨_,rfl,?_,H.base⟩))))
     rw [xx (fun h=>by obtain ⟨h1,h2,h3,h4⟩:=h;first | omega | (have:=h4 (c+1) qf qf;rw [← dg qf] at this;omega))]
    replace h27:=xh h27
    replace h27:=XL.1 h27
    refine qU (b_n (t_n (xY (sw (zC c 1 rfl rfl qf (sp (yI (c+1)) (xZ (xf (m' :=(((s.qw.drop 1).length) - ((c+1):Int)).toNat) qf ⟨_,c+1,uE3,?_,?_,rfl,N,H⟩))))))))
    · omega
    · exact i1.succ (by rw [← dg qf];omega)
   refine zx4 (zcr (sp (.bool true) (zjr (ret1 (.bool true) rfl rfl ⟨_,rfl,?_,H.base⟩))))
   rw [yD ⟨by omega,by omega,by omega,(show s.qw.length=c+1 by omega)▸i1⟩]
  replace h10:=xw h10
  replace h10:=Vs h10
  refine zo [17,18,19,20,21] (sp (.bool true) (zjn (xK true rfl (fun _=>zcr (sp (.bool false) (zjr (t_r (ret1 (.bool false) rfl rfl ⟨_,rfl,?_,H.base⟩))))) (fun h=>absurd h qj))))
  rw [xx (fun h=>by obtain ⟨h1,h2,h3,h4⟩:=h;first | omega | (have:=h4 (c+1) qf qf;rw [← dg qf] at this;omega))]
 replace h5:=xw h5
 replace h5:=Vs h5
 refine zo [10,11,12,13,14] (sps [.bool true,.bool true] (zo [17,18,19,20,21] (sp (.bool true) (zjn (xK true rfl (fun _=>zcr (sp (.bool false) (zjr (t_r (ret1 (.bool false) rfl rfl ⟨_,rfl,?_,H.base⟩))))) (fun h=>absurd h qj))))))
 rw [xx (fun h=>by obtain ⟨h1,h2,h3,h4⟩:=h;first | omega | (have:=h4 (c+1) qf qf;rw [← dg qf] at this;omega))]

theorem isCell_ok (w:World) (s:qG) (c:Int) {qB:yOA} {qZ:yLN} {qL:yOA} {xE:yLN} (xe:qO.rep w qZ [.slice qB s.qw.length qy] s.qw) (xJ:qO.rep w xE [.slice qL s.qx.length qI] s.qx):Calls Tryz.prog 173 #[.agg #[yI s.xC,.slice qB s.qw.length qy,.slice qL s.qx.length qI],yI c] w (Ret (fun v w' =>v=.bool (inR c 0 ((s.qw.length:Int) - 1))) w):=by
 refine en func173 ntmps173 ?_
 have H:=((St.start w).arg xJ).arg xe
 have zY:=qK xe
 have jb:=qK xJ
 clear xe xJ
 have N:=Fresh.nil w.heap.size
 refine zcr (sw (vH H (yS s qB qy qL qI) fun b1 w2 H=>sp (.bool false) (zjc (sp (yI c) (oF rfl (oL rfl (H.cell 0 rfl rfl) (sw (oq (sizeI_ok _ s.qw (H.get 0 rfl).1) H fun w3 H=>sw (o_sub (s.qw.length:Int) 1 rfl rfl qf (sw (oq (YR w3 c 0 ((s.qw.length:Int) - 1)) H fun w5 H=>sp (.bool (inR c 0 ((s.qw.length:Int) - 1))) (zjr (ret1 (.bool (inR c 0 ((s.qw.length:Int) - 1))) rfl rfl ⟨_,rfl,?_,H.base⟩)))))))))))))
 rfl

theorem lies_ok (w:World) (s:qG) (c:Int) (within:Int) {qB:yOA} {qZ:yLN} {qL:yOA} {xE:yLN} (xe:qO.rep w qZ [.slice qB s.qw.length qy] s.qw) (xJ:qO.rep w xE [.slice qL s.qx.length qI] s.qx) (p0:yX s) (p1:CellIn s c):Calls Tryz.prog 174 #[.agg #[yI s.xC,.slice qB s.qw.length qy,.slice qL s.qx.length qI],yI c,yI within] w (Ret (fun v w' =>v=.bool (dec (Lies s.qw within c))) w):=by
 refine en func174 ntmps174 ?_
 have H:=((St.start w).arg xJ).arg xe
 have zY:=qK xe
 have jb:=qK xJ
 clear xe xJ
 have N:=Fresh.nil w.heap.size
 have p2:=p0.step p1.1 p1.2
 refine zcr (sw (vH H (yS s qB qy qL qI) fun b1 w2 H=>sp (.bool false) (zjcc (oF rfl (oL rfl (H.cell 0 rfl rfl) (sp (yI c) ?_))))))
 obtain ⟨b3,o4,rfl⟩:=H.addr 0 rfl qf
 refine oI rfl rfl (oL rfl (H.jC 0 rfl c qf qf) (sp (yI (s.qw[c.toNat]!)) (zjn (qX ?_))))
 refine zu (fun m' ρ w6=>∃ (xU:Env) (c_1:Int),ρ=upd (upd (upd xU 1 (yI c_1)) 2 (yI within)) 3 (pp b1 0)∧(-1≤c_1∧c_1≤(s.qw.length:Int) - 1)∧(Lies s.qw within c↔0≤c_1∧(c_1=within∨Lies s.qw within c_1))∧m' =(c_1+1).toNat∧Fresh w.heap.size []∧St w w6 [.box b1 [yI s.xC,.slice (aa b3 o4) s.qw.length qy,.slice qL s.qx.length qI] 36] [sF false qZ (aa b3 o4) qy s.qw,sF false xE qL qI s.qx]) (((s.qw[c.toNat]!)+1).toNat) ⟨_,s.qw[c.toNat]!,uE3,qf,(by exact lies_up p0 p1),rfl,N,H⟩ ?_
 clear H N
 rintro m' ρ w7 ⟨xU,c_1,rfl,i0,i1,rfl,N,H⟩
 have up:=fun h=>p0.step (c:=c_1) h i0.2
 refine zcc (sps [yI c_1,.bool (decide ((c_1:Int)≥0))] (zjn (cD rfl (fun h8=>?_) (fun h8=>?_))))
 ·skip
  refine qU (t_n (xQ (qX (zcr (sps [yI c_1,yI within,.bool ((c_1:Int) == within)] (zjn (cE rfl (fun h9=>?_) (fun h9=>?_))))))))
  ·skip
   refine zcr (sp (.bool true) (zjr (zr5 (ret1 (.bool true) rfl rfl ⟨_,rfl,?_,H.base⟩))))
   rw [yD (i1.2 ⟨by omega,.inl ‹_›⟩)]
  refine qU (b_n (t_n (xY (oF rfl (oL rfl (H.cell 0 rfl rfl) (sp (yI c_1) (oI rfl rfl (oL rfl (H.jC 0 rfl c_1 qf qf) (sp (yI (s.qw[c_1.toNat]!)) (xZ ?_))))))))))
  have up1:=up qf
  refine xf (m' :=((s.qw[c_1.toNat]!)+1).toNat) qf ⟨_,s.qw[c_1.toNat]!,uE3,?_,?_,rfl,N,H⟩
  · omega
  · exact i1.trans ⟨fun h=>(lies_up p0 ⟨by omega,by omega⟩).1 (h.2.resolve_left ‹_›),fun h=>⟨by omega,.inr ((lies_up p0 ⟨by omega,by omega⟩).2 h)⟩⟩
 refine zx4 (zcr (sp (.bool false) (zjr (ret1 (.bool false) rfl rfl ⟨_,rfl,?_,H.base⟩))))
 rw [xx (fun h=>by have:=(i1.1 h).1;omega)]

theorem isRule_ok (w:World) (s:qG) (r:QU) {qB:yOA} {qZ:yLN} {qL:yOA} {xE:yLN} {yL:yOA} {Yr:yLN} {yP:yOA} {Yv:yLN} {yM:yOA} {Yt:yLN} {yO:yOA} {Yu:yLN} {Xv:yOA} {FrOut:yLN} {yh:yOA} {FrInto:yLN} (xe:qO.rep w qZ [.slice qB s.qw.length qy] s.qw) (xJ:qO.rep w xE [.slice qL s.qx.length qI] s.qx) (hrNeed:qO.rep w Yr [.slice yL r.xm.length yF] r.xm) (hrHave:qO.rep w Yv [.slice yP r.xF.length yJ] r.xF) (hrLack:qO.rep w Yt [.slice yM r.xI.length yG] r.xI) (hrHere:qO.rep w Yu [.slice yO r.xM.length yH] r.xM) (hrOut:qO.rep w FrOut [.slice Xv r.zV.length Xu] r.zV) (hrInto:qO.rep w FrInto [.slice yh r.qQ.length yf] r.qQ) (p0:yX s):Calls Tryz.prog 139 #[.agg #[yI s.xC,.slice qB s.qw.length qy,.slice qL s.qx.length qI],.agg #[yI r.qH,yI r.zM,.slice yL r.xm.length yF,.slice yP r.xF.length yJ,.slice yM r.xI.length yG,.slice yO r.xM.length yH,.slice Xv r.zV.length Xu,.slice yh r.qQ.length yf,.bool r.zA]] w (Ret (fun v w' =>v=.bool (dec (RuleOk s r))) w):=by
 refine en func139 ntmps139 ?_
 have H:=((((((((St.start w).arg hrInto).arg hrOut).arg hrHere).arg hrLack).arg hrHave).arg hrNeed).arg xJ).arg xe
 have zY:=qK xe
 have jb:=qK xJ
 have nhrNeed:=qK hrNeed
 have nhrHave:=qK hrHave
 have nhrLack:=qK hrLack
 have nhrHere:=qK hrHere
 have nhrOut:=qK hrOut
 have nhrInto:=qK hrInto
 clear xe xJ hrNeed hrHave hrLack hrHere hrOut hrInto
 have N:=Fresh.nil w.heap.size
 refine zcr (sw (vH H (yS s qB qy qL qI) fun b1 w2 H=>sw (vH H [yI r.qH,yI r.zM,.slice yL r.xm.length yF,.slice yP r.xF.length yJ,.slice yM r.xI.length yG,.slice yO r.xM.length yH,.slice Xv r.zV.length Xu,.slice yh r.qQ.length yf,.bool r.zA] fun b3 w4 H=>sp (.bool false) (zjcc ?_))))
 refine sw (zn (yS s qB qy qL qI) isAgg36 sizeOf36 rfl (qF (H.cells 1 rfl) 0 3) (oF rfl (oL rfl (H.cell 0 rfl rfl) (sw (oq (isCell_ok _ s r.qH (H.get 0 rfl).1 (H.get 1 rfl).1) H fun w6 H=>sps [.bool (!(inR r.qH 0 ((s.qw.length:Int) - 1))),.bool (!(inR r.qH 0 ((s.qw.length:Int) - 1)))] ?_)))))
 cases h8:(!(inR r.qH 0 ((s.qw.length:Int) - 1)))
 ·skip
  replace h8:=xh h8
  replace h8:=XL.1 h8
  refine qP 14 rfl rfl (oF rfl (qP 14 rfl rfl (oL rfl (H.cell 0 rfl rfl) (qP 14 rfl rfl (sw (oq (YR w6 r.zM 0 9) H fun w9 H=>qP 14 rfl rfl (sps [.bool (!(inR r.zM 0 9)),.bool (!(inR r.zM 0 9)),.bool (!(inR r.zM 0 9))] ?_)))))))
  cases h11:(!(inR r.zM 0 9))
  ·skip
   replace h11:=xh h11
   replace h11:=XL.1 h11
   refine qP 20 rfl rfl (oF rfl (qP 20 rfl rfl (oL rfl (H.cell 0 rfl rfl) (qP 20 rfl rfl (sp (.bool r.zA) ?_)))))
   cases h12:(r.zA)
   ·skip
    rw [h12] at H
    refine zo [24,25,26] (qP 20 rfl rfl (sps [.bool false,.bool false,.bool false] (qP 29 rfl rfl (oF rfl (qP 29 rfl rfl (oL rfl (H.cell 0 rfl rfl) (qP 29 rfl rfl (oN rfl (qP 29 rfl rfl (sps [.bool (decide ((r.qQ.length:Int) > 3)),.bool (decide ((r.qQ.length:Int) > 3))] (zjn (cD rfl (fun h13=>?_) (fun h13=>?_)))))))))))))
    ·skip
     refine zcr (sp (.bool false) (zjr (t_r (ret1 (.bool false) rfl rfl ⟨_,rfl,?_,H.base⟩))))
     rw [xx (fun h=>by obtain ⟨h1,h2,h3,h4,h5,h6,h7,h8,h9,h10,h11⟩:=h;first | contradiction | omega | exact h3 ⟨‹_›,‹_›⟩ | (obtain ⟨q1,q2,q3,q4,q5⟩:=h11 i qf;first | contradiction | omega | (have:=q5 qf;omega)) | (refine absurd ?_ ‹¬ vw _ _›;rcases (show k=0∨k=1∨k=2∨k=3∨k=4 by omega) with e | e | e | e | e <;> subst e <;> assumption))]
    refine qU (t_n (zcc (oF rfl (oL rfl (H.cell 0 rfl rfl) (oF rfl (oL rfl (H.cell 0 rfl rfl) (oF rfl (oL rfl (H.cell 0 rfl rfl) (oF rfl (oL rfl (H.cell 0 rfl rfl) (oF rfl (oL rfl (H.cell 0 rfl rfl) (sw (o_buildF H underlying27 ti22 [.slice yL r.xm.length yF,.slice yP r.xF.length yJ,.slice yM r.xI.length yG,.slice yO r.xM.length yH,.slice Xv r.zV.length Xu] rfl (by simp [Value.cells]) rfl qj qj fun b14 w15 H=>oN rfl (sp (yI 0) (zjn (qX ?_)))))))))))))))))
    replace H:=H.boxRow 0 rfl 1 5 rfl qj
    replace H:=H.vI (α:=yLI)
    replace H:=H.Yx false 7 rfl 0 rfl qm
    replace H:=H.Yx false 7 rfl 0 rfl qm
    replace H:=H.Yx false 7 rfl 0 rfl qm
    replace H:=H.Yx false 7 rfl 0 rfl qm
    replace H:=H.Yx false 7 rfl 0 rfl qm
    refine zu (fun m' ρ w16=>∃ (xU:Env) (k:Nat),ρ=upd (upd (upd (upd (upd xU 2 (pp b1 0)) 3 (pp b3 0)) 45 (.slice (aa b14 0) 5 5)) 46 (yI 5)) 47 (yI k)∧((k:Int)≤5)∧(∀ j,j < k→vw s.xC ([r.xm,r.xF,r.xI,r.xM,r.zV][j]!))∧m' =(5 - (k:Int)).toNat∧Fresh w.heap.size []∧St w w16 [rr (aa b14 0) 5 5 22 1 [.slice yL r.xm.length yF,.slice yP r.xF.length yJ,.slice yM r.xI.length yG,.slice yO r.xM.length yH,.slice Xv r.zV.length Xu],.box b3 [yI r.qH,yI r.zM,.slice yL r.xm.length yF,.slice yP r.xF.length yJ,.slice yM r.xI.length yG,.slice yO r.xM.length yH,.slice Xv r.zV.length Xu,.slice yh r.qQ.length yf,.bool false] 121,.box b1 (yS s qB qy qL qI) 36] [zi false (Yr++(Yv++(Yt++(Yu++(FrOut++[]))))) [.slice yL r.xm.length yF,.slice yP r.xF.length yJ,.slice yM r.xI.length yG,.slice yO r.xM.length yH,.slice Xv r.zV.length Xu] [r.xm,r.xF,r.xI,r.xM,r.zV],sF false qZ qB qy s.qw,sF false xE qL qI s.qx,sF false Yr yL yF r.xm,sF false Yv yP yJ r.xF,sF false Yt yM yG r.xI,sF false Yu yO yH r.xM,sF false FrOut Xv Xu r.zV,sF false FrInto yh yf r.qQ]) ((5 - (0:Int)).toNat) ⟨_,0,uE5,qf,(by intro j hj;omega),rfl,N,H.pick [0,1,2] [0,6,7,8,9,10,11,12,13]⟩ ?_
    clear H N
    rintro m' ρ w17 ⟨xU,k,rfl,i0,i1,rfl,N,H⟩
    refine zcr (sp (.bool (decide ((k:Int) < 5))) (zjn (xQ (cD rfl (fun h18=>?_) (fun h18=>?_)))))
    ·skip
     refine qU (t_n (xQ (qX (zcr (oI rfl rfl ?_)))))
     obtain ⟨a19,c20,G21,s22,h23,H⟩:=H.jV 0 rfl 0 rfl (iv:=k) k qf qf
     refine oL rfl (h23) (sp (.slice a19 (([r.xm,r.xF,r.xI,r.xM,r.zV][k]!).length) c20) (zjc (oF rfl (oL rfl (H.cell 2 rfl rfl) (sp (.slice a19 (([r.xm,r.xF,r.xI,r.xM,r.zV][k]!).length) c20) (sw (oq (YB _ s.xC ([r.xm,r.xF,r.xI,r.xM,r.zV][k]!) (H.get 0 rfl).1) H fun w24 H=>sp (.bool (!(dec (vw s.xC ([r.xm,r.xF,r.xI,r.xM,r.zV][k]!))))) (zjn (cQ rfl (fun h26=>?_) (fun h26=>?_))))))))))
     ·skip
      refine zcr (sp (.bool false) (zjr (zr5 (ret1 (.bool false) rfl rfl ⟨_,rfl,?_,H.base⟩))))
      rw [xx (fun h=>by obtain ⟨h1,h2,h3,h4,h5,h6,h7,h8,h9,h10,h11⟩:=h;first | contradiction | omega | exact h3 ⟨‹_›,‹_›⟩ | (obtain ⟨q1,q2,q3,q4,q5⟩:=h11 i qf;first | contradiction | omega | (have:=q5 qf;omega)) | (refine absurd ?_ ‹¬ vw _ _›;rcases (show k=0∨k=1∨k=2∨k=3∨k=4 by omega) with e | e | e | e | e <;> subst e <;> assumption))]
     refine qU (b_n (t_n (xY (sw (zC k 1 rfl rfl qf (sp (yI (k+1)) (xZ (xf (m' :=(5 - ((k+1):Int)).toNat) qf ⟨_,k+1,uE5,?_,?_,rfl,N,H.pick [0,1,2] [1,2,3,4,5,6,7,8,9]⟩))))))))
     · omega
     · intro j hj;by_cases e:j=k;(subst e;assumption);exact i1 j qf
    refine zx4 (zcc (oF rfl (oL rfl (H.cell 1 rfl rfl) (oN rfl (sp (yI 0) (zjn (qX ?_)))))))
    have n1:vw s.xC r.xm:=i1 0 qf
    have n2:vw s.xC r.xF:=i1 1 qf
    have n3:vw s.xC r.xI:=i1 2 qf
    have n4:vw s.xC r.xM:=i1 3 qf
    have n5:vw s.xC r.zV:=i1 4 qf
    refine zu (fun m' ρ w27=>∃ (xU:Env) (i:Nat),ρ=upd (upd (upd (upd (upd xU 2 (pp b1 0)) 3 (pp b3 0)) 58 (.slice yh r.qQ.length yf)) 59 (yI r.qQ.length)) 60 (yI i)∧((i:Int)≤r.qQ.length)∧(IntosTo s r i)∧m' =(r.qQ.length - (i:Int)).toNat∧Fresh w.heap.size []∧St w w27 [rr (aa b14 0) 5 5 22 1 [.slice yL r.xm.length yF,.slice yP r.xF.length yJ,.slice yM r.xI.length yG,.slice yO r.xM.length yH,.slice Xv r.zV.length Xu],.box b3 [yI r.qH,yI r.zM,.slice yL r.xm.length yF,.slice yP r.xF.length yJ,.slice yM r.xI.length yG,.slice yO r.xM.length yH,.slice Xv r.zV.length Xu,.slice yh r.qQ.length yf,.bool false] 121,.box b1 (yS s qB qy qL qI) 36] [zi false (Yr++(Yv++(Yt++(Yu++(FrOut++[]))))) [.slice yL r.xm.length yF,.slice yP r.xF.length yJ,.slice yM r.xI.length yG,.slice yO r.xM.length yH,.slice Xv r.zV.length Xu] [r.xm,r.xF,r.xI,r.xM,r.zV],sF false qZ qB qy s.qw,sF false xE qL qI s.qx,sF false Yr yL yF r.xm,sF false Yv yP yJ r.xF,sF false Yt yM yG r.xI,sF false Yu yO yH r.xM,sF false FrOut Xv Xu r.zV,sF false FrInto yh yf r.qQ]) ((r.qQ.length - (0:Int)).toNat) ⟨_,0,uE5,qf,(by exact fun j hj=>by omega),rfl,N,H⟩ ?_
    clear H N
    rintro m' ρ w28 ⟨xU,i,rfl,i0,i2,rfl,N,H⟩
    refine zcr (sp (.bool (decide ((i:Int) < r.qQ.length))) (zjn (xQ (cD rfl (fun h29=>?_) (fun h29=>?_)))))
    ·skip
     refine qU (t_n (xQ (qX (zcr (sp (yI i) ?_)))))
     obtain ⟨b30,o31,rfl⟩:=H.addr 8 rfl qf
     obtain ⟨ae33Bag,ce33Bag,Fe33Bag,H⟩:=H.jS 8 rfl i i qf qf qf
     refine oI rfl rfl (sw (zn [yI ((r.qQ[i]!).qH),.slice ae33Bag (((r.qQ[i]!).jy).length) ce33Bag] isAgg164 sizeOf164 rfl (qF (H.get 1 rfl) 0 2) (sw (zf H ti164 [yI 0,yN] fun b34 w35 H=>sp (yI i) (sw (zB H 0 [yI ((r.qQ[i]!).qH),.slice ae33Bag (((r.qQ[i]!).jy).length) ce33Bag] sizeOf164 fun w36 H=>zjn (xQ ?_)))))))
     refine vT rfl H fun H=>rt 0 (.agg #[yI s.xC,.slice qB s.qw.length qy,.slice qL s.qx.length qI]) (Qe (cs:=(yS s qB qy qL qI)) isAgg36 sizeOf36 rfl (fun _ h=>qF (h.cells 3 rfl) 0 3)) H ?_
     refine tF 1 rfl rfl H ?_
     refine tL 2 rfl rfl (fun _ h=>h.cell 0 rfl rfl) H ?_
     refine ro 3 rfl (oq (isCell_ok _ s ((r.qQ[i]!).qH) (H.get 3 rfl).1 (H.get 4 rfl).1) H fun w39 H=>⟨H,(rtp 4 (.bool (!(inR ((r.qQ[i]!).qH) 0 ((s.qw.length:Int) - 1)))) H ?_)⟩)
     refine rtp 5 (.bool (!(inR ((r.qQ[i]!).qH) 0 ((s.qw.length:Int) - 1)))) H ?_
     cases h41:(!(inR ((r.qQ[i]!).qH) 0 ((s.qw.length:Int) - 1)))
     ·skip
      replace h41:=xh h41
      replace h41:=XL.1 h41
      refine rg 6 (.agg #[yI s.xC,.slice qB s.qw.length qy,.slice qL s.qx.length qI]) 70 (Qe (cs:=(yS s qB qy qL qI)) isAgg36 sizeOf36 rfl (fun _ h=>qF (h.cells 3 rfl) 0 3)) H ?_
      refine gF 7 rfl rfl H ?_
      refine gL 8 rfl rfl (fun _ h=>h.cell 0 rfl rfl) H ?_
      refine gF 9 rfl rfl H ?_
      refine gL 10 rfl rfl (fun _ h=>h.cell 2 rfl rfl) H ?_
      refine ji [11] qh qm (YE rfl (e:=70) rfl rfl (oq (lies_ok _ s ((r.qQ[i]!).qH) r.qH (H.get 3 rfl).1 (H.get 4 rfl).1 qg qg) H fun w43 H=>⟨H,(rgp 12 (.bool (!(dec (Lies s.qw r.qH ((r.qQ[i]!).qH))))) 70 H ?_)⟩) jk)
      refine rtp 13 (.bool (!(dec (Lies s.qw r.qH ((r.qQ[i]!).qH))))) H ?_
      refine rtp 14 (.bool (!(dec (Lies s.qw r.qH ((r.qQ[i]!).qH))))) H ?_
      cases h45:(!(dec (Lies s.qw r.qH ((r.qQ[i]!).qH))))
      ·skip
       replace h45:=xh h45
       replace h45:=QD h45
       refine gF 15 rfl rfl H ?_
       refine gL 16 rfl rfl (fun _ h=>h.cell 3 rfl rfl) H ?_
       refine gF 17 rfl rfl H ?_
       refine gL 18 rfl rfl (fun _ h=>h.cell 0 rfl rfl) H ?_
       refine ji [19] qh qm (YE rfl (e:=79) rfl rfl (oq (YB _ s.xC ((r.qQ[i]!).jy) (H.get 0 rfl).1) H fun w46 H=>⟨H,(rgp 20 (.bool (!(dec (vw s.xC ((r.qQ[i]!).jy))))) 79 H ?_)⟩) jk)
       refine rtp 21 (.bool (!(dec (vw s.xC ((r.qQ[i]!).jy))))) H ?_
       refine rtp 22 (.bool (!(dec (vw s.xC ((r.qQ[i]!).jy))))) H ?_
       cases h48:(!(dec (vw s.xC ((r.qQ[i]!).jy))))
       ·skip
        replace h48:=xh h48
        replace h48:=QD h48
        refine gF 23 rfl rfl H ?_
        refine gL 24 rfl rfl (fun _ h=>h.cell 0 rfl rfl) H ?_
        refine ji [25] qh qm (YE rfl (e:=87) rfl rfl ?_ jk)
        have sm:Small ((r.qQ[i]!).jy):=vJ (by first | assumption | exact i1 0 qf)
        refine oq (VH _ ((r.qQ[i]!).jy) (H.get 0 rfl).1 (by first | assumption | exact vJ ql | exact Qo ql)) H fun w49 H=>⟨H,(rgp 26 (.bool ((VN ((r.qQ[i]!).jy):Int) == 0)) 87 H ?_)⟩
        refine rtp 27 (.bool ((VN ((r.qQ[i]!).jy):Int) == 0)) H ?_
        refine rtp 28 (.bool ((VN ((r.qQ[i]!).jy):Int) == 0)) H ?_
        cases h51:((VN ((r.qQ[i]!).jy):Int) == 0)
        ·skip
         replace h51:=ne_of_beq_false h51
         refine rgp 29 (yI i) 93 H ?_
         refine rgp 30 (.bool (decide ((i:Int) > 0))) 93 H ?_
         refine rgp 31 (.bool (decide ((i:Int) > 0))) 93 H ?_
         cases h52:(decide ((i:Int) > 0))
         ·skip
          replace h52:=of_decide_eq_false h52
          refine zT [32,33,34,35,36,37,38,39,40,41] 10 (H) (rgp 42 (.bool false) 93 H ?_)
          refine rtp 43 (.bool false) H ?_
          refine xO qh (t_n (xK false rfl (fun h=>absurd h qj) (fun _=>qU (b_n (t_n (xY (sw (zC i 1 rfl rfl qf (sp (yI (i+1)) (xZ (xf (m' :=(r.qQ.length - ((i+1):Int)).toNat) qf ⟨_,i+1,uE5,?_,?_,rfl,N,H.pick [1,2,3] [2,3,4,5,6,7,8,9,10]⟩)))))))))))
          · omega
          · exact i2.succ ⟨‹_›,‹_›,‹_›,‹_›,fun hk=>by omega⟩
         replace h52:=of_decide_eq_true h52
         refine gF 32 rfl rfl H ?_
         refine gL 33 rfl rfl (fun _ h=>h.cell 0 rfl rfl) H ?_
         refine gF 34 rfl rfl H ?_
         refine gL 35 rfl rfl (fun _ h=>h.cell 2 rfl rfl) H ?_
         refine rgp 36 (yI i) 96 H ?_
         refine rg 37 (yI (i - 1)) 96 (y_sub i 1 rfl rfl qf) H ?_
         obtain ⟨ae53Bag,ce53Bag,Fe53Bag,H⟩:=H.jS 10 rfl (i - 1) (i - 1) qf qf qf
         have S:=H.yl [0,1,2,3] [2,3,4,5,6,7,8,9,10,11,12]
         refine gI 38 rfl rfl rfl S ?_
         refine gF 39 rfl rfl S ?_
         refine ji [40] qh qm (YE rfl (e:=96) rfl rfl (zN (yI ((r.qQ[i - 1]!).qH)) isAgg2 rfl (H.xW 1 rfl 0 rfl) (⟨H.pick [0,1,2,3] [2,3,4,5,6,7,8,9,10,11,12],?_⟩)) jk)
         have S:=H.yl [0,1,2,3] [2,3,4,5,6,7,8,9,10,11,12]
         refine rgp 41 (.bool (decide (((r.qQ[i]!).qH:Int)≤((r.qQ[i - 1]!).qH)))) 96 S ?_
         refine rgp 42 (.bool (decide (((r.qQ[i]!).qH:Int)≤((r.qQ[i - 1]!).qH)))) 93 S ?_
         refine rtp 43 (.bool (decide (((r.qQ[i]!).qH:Int)≤((r.qQ[i - 1]!).qH)))) S ?_
         refine xO qh (t_n (cD rfl (fun h54=>?_) (fun h54=>?_)))
         ·skip
          refine zcr (sp (.bool false) (zjr (zr5 (ret1 (.bool false) rfl rfl ⟨_,rfl,?_,H.base⟩))))
          rw [xx (fun h=>by obtain ⟨h1,h2,h3,h4,h5,h6,h7,h8,h9,h10,h11⟩:=h;first | contradiction | omega | exact h3 ⟨‹_›,‹_›⟩ | (obtain ⟨q1,q2,q3,q4,q5⟩:=h11 i qf;first | contradiction | omega | (have:=q5 qf;omega)) | (refine absurd ?_ ‹¬ vw _ _›;rcases (show k=0∨k=1∨k=2∨k=3∨k=4 by omega) with e | e | e | e | e <;> subst e <;> assumption))]
         refine qU (b_n (t_n (xY (sw (zC i 1 rfl rfl qf (sp (yI (i+1)) (xZ (xf (m' :=(r.qQ.length - ((i+1):Int)).toNat) qf ⟨_,i+1,uE5,?_,?_,rfl,N,H.pick [1,2,3] [4,5,6,7,8,9,10,11,12]⟩))))))))
         · omega
         · exact i2.succ ⟨‹_›,‹_›,‹_›,‹_›,fun hk=>by omega⟩
        replace h51:=eq_of_beq h51
        refine zT [29,30,31,32,33,34,35,36,37,38,39,40,41,42] 14 (H) (rtp 43 (.bool true) H ?_)
        refine xO qh (t_n (xK true rfl (fun _=>zcr (sp (.bool false) (zjr (zr5 (ret1 (.bool false) rfl rfl ⟨_,rfl,?_,H.base⟩))))) (fun h=>absurd h qj)))
        rw [xx (fun h=>by obtain ⟨h1,h2,h3,h4,h5,h6,h7,h8,h9,h10,h11⟩:=h;first | contradiction | omega | exact h3 ⟨‹_›,‹_›⟩ | (obtain ⟨q1,q2,q3,q4,q5⟩:=h11 i qf;first | contradiction | omega | (have:=q5 qf;omega)) | (refine absurd ?_ ‹¬ vw _ _›;rcases (show k=0∨k=1∨k=2∨k=3∨k=4 by omega) with e | e | e | e | e <;> subst e <;> assumption))]
       replace h48:=xw h48
       replace h48:=vk h48
       refine zT [23,24,25,26] 4 (H) (rtp 27 (.bool true) H ?_)
       refine rtp 28 (.bool true) H ?_
       refine zT [29,30,31,32,33,34,35,36,37,38,39,40,41,42] 14 (H) (rtp 43 (.bool true) H ?_)
       refine xO qh (t_n (xK true rfl (fun _=>zcr (sp (.bool false) (zjr (zr5 (ret1 (.bool false) rfl rfl ⟨_,rfl,?_,H.base⟩))))) (fun h=>absurd h qj)))
       rw [xx (fun h=>by obtain ⟨h1,h2,h3,h4,h5,h6,h7,h8,h9,h10,h11⟩:=h;first | contradiction | omega | exact h3 ⟨‹_›,‹_›⟩ | (obtain ⟨q1,q2,q3,q4,q5⟩:=h11 i qf;first | contradiction | omega | (have:=q5 qf;omega)) | (refine absurd ?_ ‹¬ vw _ _›;rcases (show k=0∨k=1∨k=2∨k=3∨k=4 by omega) with e | e | e | e | e <;> subst e <;> assumption))]
      replace h45:=xw h45
      replace h45:=vk h45
      refine zT [15,16,17,18,19,20] 6 (H) (rtp 21 (.bool true) H ?_)
      refine rtp 22 (.bool true) H ?_
      refine zT [23,24,25,26] 4 (H) (rtp 27 (.bool true) H ?_)
      refine rtp 28 (.bool true) H ?_
      refine zT [29,30,31,32,33,34,35,36,37,38,39,40,41,42] 14 (H) (rtp 43 (.bool true) H ?_)
      refine xO qh (t_n (xK true rfl (fun _=>zcr (sp (.bool false) (zjr (zr5 (ret1 (.bool false) rfl rfl ⟨_,rfl,?_,H.base⟩))))) (fun h=>absurd h qj)))
      rw [xx (fun h=>by obtain ⟨h1,h2,h3,h4,h5,h6,h7,h8,h9,h10,h11⟩:=h;first | contradiction | omega | exact h3 ⟨‹_›,‹_›⟩ | (obtain ⟨q1,q2,q3,q4,q5⟩:=h11 i qf;first | contradiction | omega | (have:=q5 qf;omega)) | (refine absurd ?_ ‹¬ vw _ _›;rcases (show k=0∨k=1∨k=2∨k=3∨k=4 by omega) with e | e | e | e | e <;> subst e <;> assumption))]
     replace h41:=xw h41
     replace h41:=Vs h41
     refine zT [6,7,8,9,10,11,12] 7 (H) (rtp 13 (.bool true) H ?_)
     refine rtp 14 (.bool true) H ?_
     refine zT [15,16,17,18,19,20] 6 (H) (rtp 21 (.bool true) H ?_)
     refine rtp 22 (.bool true) H ?_
     refine zT [23,24,25,26] 4 (H) (rtp 27 (.bool true) H ?_)
     refine rtp 28 (.bool true) H ?_
     refine zT [29,30,31,32,33,34,35,36,37,38,39,40,41,42] 14 (H) (rtp 43 (.bool true) H ?_)
     refine xO qh (t_n (xK true rfl (fun _=>zcr (sp (.bool false) (zjr (zr5 (ret1 (.bool false) rfl rfl ⟨_,rfl,?_,H.base⟩))))) (fun h=>absurd h qj)))
     rw [xx (fun h=>by obtain ⟨h1,h2,h3,h4,h5,h6,h7,h8,h9,h10,h11⟩:=h;first | contradiction | omega | exact h3 ⟨‹_›,‹_›⟩ | (obtain ⟨q1,q2,q3,q4,q5⟩:=h11 i qf;first | contradiction | omega | (have:=q5 qf;omega)) | (refine absurd ?_ ‹¬ vw _ _›;rcases (show k=0∨k=1∨k=2∨k=3∨k=4 by omega) with e | e | e | e | e <;> subst e <;> assumption))]
    refine zx4 (zcr (oF rfl (oL rfl (H.cell 1 rfl rfl) ?_)))
    have sm:Small r.xm:=vJ (by first | assumption | exact i1 0 qf)
    refine sw (oq (VH _ r.xm (H.get 3 rfl).1 (by first | assumption | exact vJ ql | exact Qo ql)) H fun w55 H=>sps [.bool (decide ((VN r.xm:Int) > 0)),.bool (decide ((VN r.xm:Int) > 0))] (zjr (ret1 (.bool (decide ((VN r.xm:Int) > 0))) rfl rfl ⟨_,rfl,(congrArg Value.bool (dec_eq ?_)),H.base⟩)))
    rw [decide_eq_true_iff]
    exact ⟨fun h=>⟨by omega,by omega,by simp_all,by omega,n1,n2,n3,n4,n5,by omega,(show i=r.qQ.length by omega)▸i2⟩,fun h=>by have:=h.2.2.2.2.2.2.2.2.2.1;have:=sum_nonneg n1.1;omega⟩
   rw [h12] at H
   refine qP 23 rfl rfl (oF rfl (qP 23 rfl rfl (oL rfl (H.cell 0 rfl rfl) (qP 23 rfl rfl (sp (.bool ((r.qH:Int) == 0)) (qP 20 rfl rfl (sps [.bool ((r.qH:Int) == 0),.bool ((r.qH:Int) == 0),.bool ((r.qH:Int) == 0)] ?_)))))))
   cases h57:((r.qH:Int) == 0)
   ·skip
    replace h57:=ne_of_beq_false h57
    refine qP 29 rfl rfl (oF rfl (qP 29 rfl rfl (oL rfl (H.cell 0 rfl rfl) (qP 29 rfl rfl (oN rfl (qP 29 rfl rfl (sps [.bool (decide ((r.qQ.length:Int) > 3)),.bool (decide ((r.qQ.length:Int) > 3))] (zjn (cD rfl (fun h58=>?_) (fun h58=>?_))))))))))
    ·skip
     refine zcr (sp (.bool false) (zjr (t_r (ret1 (.bool false) rfl rfl ⟨_,rfl,?_,H.base⟩))))
     rw [xx (fun h=>by obtain ⟨h1,h2,h3,h4,h5,h6,h7,h8,h9,h10,h11⟩:=h;first | contradiction | omega | exact h3 ⟨‹_›,‹_›⟩ | (obtain ⟨q1,q2,q3,q4,q5⟩:=h11 i qf;first | contradiction | omega | (have:=q5 qf;omega)) | (refine absurd ?_ ‹¬ vw _ _›;rcases (show k=0∨k=1∨k=2∨k=3∨k=4 by omega) with e | e | e | e | e <;> subst e <;> assumption))]
    refine qU (t_n (zcc (oF rfl (oL rfl (H.cell 0 rfl rfl) (oF rfl (oL rfl (H.cell 0 rfl rfl) (oF rfl (oL rfl (H.cell 0 rfl rfl) (oF rfl (oL rfl (H.cell 0 rfl rfl) (oF rfl (oL rfl (H.cell 0 rfl rfl) (sw (o_buildF H underlying27 ti22 [.slice yL r.xm.length yF,.slice yP r.xF.length yJ,.slice yM r.xI.length yG,.slice yO r.xM.length yH,.slice Xv r.zV.length Xu] rfl (by simp [Value.cells]) rfl qj qj fun b59 w60 H=>oN rfl (sp (yI 0) (zjn (qX ?_)))))))))))))))))
    replace H:=H.boxRow 0 rfl 1 5 rfl qj
    replace H:=H.vI (α:=yLI)
    replace H:=H.Yx false 7 rfl 0 rfl qm
    replace H:=H.Yx false 7 rfl 0 rfl qm
    replace H:=H.Yx false 7 rfl 0 rfl qm
    replace H:=H.Yx false 7 rfl 0 rfl qm
    replace H:=H.Yx false 7 rfl 0 rfl qm
    refine zu (fun m' ρ w61=>∃ (xU:Env) (k:Nat),ρ=upd (upd (upd (upd (upd xU 2 (pp b1 0)) 3 (pp b3 0)) 45 (.slice (aa b59 0) 5 5)) 46 (yI 5)) 47 (yI k)∧((k:Int)≤5)∧(∀ j,j < k→vw s.xC ([r.xm,r.xF,r.xI,r.xM,r.zV][j]!))∧m' =(5 - (k:Int)).toNat∧Fresh w.heap.size []∧St w w61 [rr (aa b59 0) 5 5 22 1 [.slice yL r.xm.length yF,.slice yP r.xF.length yJ,.slice yM r.xI.length yG,.slice yO r.xM.length yH,.slice Xv r.zV.length Xu],.box b3 [yI r.qH,yI r.zM,.slice yL r.xm.length yF,.slice yP r.xF.length yJ,.slice yM r.xI.length yG,.slice yO r.xM.length yH,.slice Xv r.zV.length Xu,.slice yh r.qQ.length yf,.bool true] 121,.box b1 (yS s qB qy qL qI) 36] [zi false (Yr++(Yv++(Yt++(Yu++(FrOut++[]))))) [.slice yL r.xm.length yF,.slice yP r.xF.length yJ,.slice yM r.xI.length yG,.slice yO r.xM.length yH,.slice Xv r.zV.length Xu] [r.xm,r.xF,r.xI,r.xM,r.zV],sF false qZ qB qy s.qw,sF false xE qL qI s.qx,sF false Yr yL yF r.xm,sF false Yv yP yJ r.xF,sF false Yt yM yG r.xI,sF false Yu yO yH r.xM,sF false FrOut Xv Xu r.zV,sF false FrInto yh yf r.qQ]) ((5 - (0:Int)).toNat) ⟨_,0,uE5,qf,(by intro j hj;omega),rfl,N,H.pick [0,1,2] [0,6,7,8,9,10,11,12,13]⟩ ?_
    clear H N
    rintro m' ρ w62 ⟨xU,k,rfl,i0,i1,rfl,N,H⟩
    refine zcr (sp (.bool (decide ((k:Int) < 5))) (zjn (xQ (cD rfl (fun h63=>?_) (fun h63=>?_)))))
    ·skip
     refine qU (t_n (xQ (qX (zcr (oI rfl rfl ?_)))))
     obtain ⟨a64,c65,G66,s67,h68,H⟩:=H.jV 0 rfl 0 rfl (iv:=k) k qf qf
     refine oL rfl (h68) (sp (.slice a64 (([r.xm,r.xF,r.xI,r.xM,r.zV][k]!).length) c65) (zjc (oF rfl (oL rfl (H.cell 2 rfl rfl) (sp (.slice a64 (([r.xm,r.xF,r.xI,r.xM,r.zV][k]!).length) c65) (sw (oq (YB _ s.xC ([r.xm,r.xF,r.xI,r.xM,r.zV][k]!) (H.get 0 rfl).1) H fun w69 H=>sp (.bool (!(dec (vw s.xC ([r.xm,r.xF,r.xI,r.xM,r.zV][k]!))))) (zjn (cQ rfl (fun h71=>?_) (fun h71=>?_))))))))))
     ·skip
      refine zcr (sp (.bool false) (zjr (zr5 (ret1 (.bool false) rfl rfl ⟨_,rfl,?_,H.base⟩))))
      rw [xx (fun h=>by obtain ⟨h1,h2,h3,h4,h5,h6,h7,h8,h9,h10,h11⟩:=h;first | contradiction | omega | exact h3 ⟨‹_›,‹_›⟩ | (obtain ⟨q1,q2,q3,q4,q5⟩:=h11 i qf;first | contradiction | omega | (have:=q5 qf;omega)) | (refine absurd ?_ ‹¬ vw _ _›;rcases (show k=0∨k=1∨k=2∨k=3∨k=4 by omega) with e | e | e | e | e <;> subst e <;> assumption))]
     refine qU (b_n (t_n (xY (sw (zC k 1 rfl rfl qf (sp (yI (k+1)) (xZ (xf (m' :=(5 - ((k+1):Int)).toNat) qf ⟨_,k+1,uE5,?_,?_,rfl,N,H.pick [0,1,2] [1,2,3,4,5,6,7,8,9]⟩))))))))
     · omega
     · intro j hj;by_cases e:j=k;(subst e;assumption);exact i1 j qf
    refine zx4 (zcc (oF rfl (oL rfl (H.cell 1 rfl rfl) (oN rfl (sp (yI 0) (zjn (qX ?_)))))))
    have n1:vw s.xC r.xm:=i1 0 qf
    have n2:vw s.xC r.xF:=i1 1 qf
    have n3:vw s.xC r.xI:=i1 2 qf
    have n4:vw s.xC r.xM:=i1 3 qf
    have n5:vw s.xC r.zV:=i1 4 qf
    refine zu (fun m' ρ w72=>∃ (xU:Env) (i:Nat),ρ=upd (upd (upd (upd (upd xU 2 (pp b1 0)) 3 (pp b3 0)) 58 (.slice yh r.qQ.length yf)) 59 (yI r.qQ.length)) 60 (yI i)∧((i:Int)≤r.qQ.length)∧(IntosTo s r i)∧m' =(r.qQ.length - (i:Int)).toNat∧Fresh w.heap.size []∧St w w72 [rr (aa b59 0) 5 5 22 1 [.slice yL r.xm.length yF,.slice yP r.xF.length yJ,.slice yM r.xI.length yG,.slice yO r.xM.length yH,.slice Xv r.zV.length Xu],.box b3 [yI r.qH,yI r.zM,.slice yL r.xm.length yF,.slice yP r.xF.length yJ,.slice yM r.xI.length yG,.slice yO r.xM.length yH,.slice Xv r.zV.length Xu,.slice yh r.qQ.length yf,.bool true] 121,.box b1 (yS s qB qy qL qI) 36] [zi false (Yr++(Yv++(Yt++(Yu++(FrOut++[]))))) [.slice yL r.xm.length yF,.slice yP r.xF.length yJ,.slice yM r.xI.length yG,.slice yO r.xM.length yH,.slice Xv r.zV.length Xu] [r.xm,r.xF,r.xI,r.xM,r.zV],sF false qZ qB qy s.qw,sF false xE qL qI s.qx,sF false Yr yL yF r.xm,sF false Yv yP yJ r.xF,sF false Yt yM yG r.xI,sF false Yu yO yH r.xM,sF false FrOut Xv Xu r.zV,sF false FrInto yh yf r.qQ]) ((r.qQ.length - (0:Int)).toNat) ⟨_,0,uE5,qf,(by exact fun j hj=>by omega),rfl,N,H⟩ ?_
    clear H N
    rintro m' ρ w73 ⟨xU,i,rfl,i0,i2,rfl,N,H⟩
    refine zcr (sp (.bool (decide ((i:Int) < r.qQ.length))) (zjn (xQ (cD rfl (fun h74=>?_) (fun h74=>?_)))))
    ·skip
     refine qU (t_n (xQ (qX (zcr (sp (yI i) ?_)))))
     obtain ⟨b75,o76,rfl⟩:=H.addr 8 rfl qf
     obtain ⟨ae78Bag,ce78Bag,Fe78Bag,H⟩:=H.jS 8 rfl i i qf qf qf
     refine oI rfl rfl (sw (zn [yI ((r.qQ[i]!).qH),.slice ae78Bag (((r.qQ[i]!).jy).length) ce78Bag] isAgg164 sizeOf164 rfl (qF (H.get 1 rfl) 0 2) (sw (zf H ti164 [yI 0,yN] fun b79 w80 H=>sp (yI i) (sw (zB H 0 [yI ((r.qQ[i]!).qH),.slice ae78Bag (((r.qQ[i]!).jy).length) ce78Bag] sizeOf164 fun w81 H=>zjn (xQ ?_)))))))
     refine vT rfl H fun H=>rt 0 (.agg #[yI s.xC,.slice qB s.qw.length qy,.slice qL s.qx.length qI]) (Qe (cs:=(yS s qB qy qL qI)) isAgg36 sizeOf36 rfl (fun _ h=>qF (h.cells 3 rfl) 0 3)) H ?_
     refine tF 1 rfl rfl H ?_
     refine tL 2 rfl rfl (fun _ h=>h.cell 0 rfl rfl) H ?_
     refine ro 3 rfl (oq (isCell_ok _ s ((r.qQ[i]!).qH) (H.get 3 rfl).1 (H.get 4 rfl).1) H fun w84 H=>⟨H,(rtp 4 (.bool (!(inR ((r.qQ[i]!).qH) 0 ((s.qw.length:Int) - 1)))) H ?_)⟩)
     refine rtp 5 (.bool (!(inR ((r.qQ[i]!).qH) 0 ((s.qw.length:Int) - 1)))) H ?_
     cases h86:(!(inR ((r.qQ[i]!).qH) 0 ((s.qw.length:Int) - 1)))
     ·skip
      replace h86:=xh h86
      replace h86:=XL.1 h86
      refine rg 6 (.agg #[yI s.xC,.slice qB s.qw.length qy,.slice qL s.qx.length qI]) 70 (Qe (cs:=(yS s qB qy qL qI)) isAgg36 sizeOf36 rfl (fun _ h=>qF (h.cells 3 rfl) 0 3)) H ?_
      refine gF 7 rfl rfl H ?_
      refine gL 8 rfl rfl (fun _ h=>h.cell 0 rfl rfl) H ?_
      refine gF 9 rfl rfl H ?_
      refine gL 10 rfl rfl (fun _ h=>h.cell 2 rfl rfl) H ?_
      refine ji [11] qh qm (YE rfl (e:=70) rfl rfl (oq (lies_ok _ s ((r.qQ[i]!).qH) r.qH (H.get 3 rfl).1 (H.get 4 rfl).1 qg qg) H fun w88 H=>⟨H,(rgp 12 (.bool (!(dec (Lies s.qw r.qH ((r.qQ[i]!).qH))))) 70 H ?_)⟩) jk)
      refine rtp 13 (.bool (!(dec (Lies s.qw r.qH ((r.qQ[i]!).qH))))) H ?_
      refine rtp 14 (.bool (!(dec (Lies s.qw r.qH ((r.qQ[i]!).qH))))) H ?_
      cases h90:(!(dec (Lies s.qw r.qH ((r.qQ[i]!).qH))))
      ·skip
       replace h90:=xh h90
       replace h90:=QD h90
       refine gF 15 rfl rfl H ?_
       refine gL 16 rfl rfl (fun _ h=>h.cell 3 rfl rfl) H ?_
       refine gF 17 rfl rfl H ?_
       refine gL 18 rfl rfl (fun _ h=>h.cell 0 rfl rfl) H ?_
       refine ji [19] qh qm (YE rfl (e:=79) rfl rfl (oq (YB _ s.xC ((r.qQ[i]!).jy) (H.get 0 rfl).1) H fun w91 H=>⟨H,(rgp 20 (.bool (!(dec (vw s.xC ((r.qQ[i]!).jy))))) 79 H ?_)⟩) jk)
       refine rtp 21 (.bool (!(dec (vw s.xC ((r.qQ[i]!).jy))))) H ?_
       refine rtp 22 (.bool (!(dec (vw s.xC ((r.qQ[i]!).jy))))) H ?_
       cases h93:(!(dec (vw s.xC ((r.qQ[i]!).jy))))
       ·skip
        replace h93:=xh h93
        replace h93:=QD h93
        refine gF 23 rfl rfl H ?_
        refine gL 24 rfl rfl (fun _ h=>h.cell 0 rfl rfl) H ?_
        refine ji [25] qh qm (YE rfl (e:=87) rfl rfl ?_ jk)
        have sm:Small ((r.qQ[i]!).jy):=vJ (by first | assumption | exact i1 0 qf)
        refine oq (VH _ ((r.qQ[i]!).jy) (H.get 0 rfl).1 (by first | assumption | exact vJ ql | exact Qo ql)) H fun w94 H=>⟨H,(rgp 26 (.bool ((VN ((r.qQ[i]!).jy):Int) == 0)) 87 H ?_)⟩
        refine rtp 27 (.bool ((VN ((r.qQ[i]!).jy):Int) == 0)) H ?_
        refine rtp 28 (.bool ((VN ((r.qQ[i]!).jy):Int) == 0)) H ?_
        cases h96:((VN ((r.qQ[i]!).jy):Int) == 0)
        ·skip
         replace h96:=ne_of_beq_false h96
         refine rgp 29 (yI i) 93 H ?_
         refine rgp 30 (.bool (decide ((i:Int) > 0))) 93 H ?_
         refine rgp 31 (.bool (decide ((i:Int) > 0))) 93 H ?_
         cases h97:(decide ((i:Int) > 0))
         ·skip
          replace h97:=of_decide_eq_false h97
          refine zT [32,33,34,35,36,37,38,39,40,41] 10 (H) (rgp 42 (.bool false) 93 H ?_)
          refine rtp 43 (.bool false) H ?_
          refine xO qh (t_n (xK false rfl (fun h=>absurd h qj) (fun _=>qU (b_n (t_n (xY (sw (zC i 1 rfl rfl qf (sp (yI (i+1)) (xZ (xf (m' :=(r.qQ.length - ((i+1):Int)).toNat) qf ⟨_,i+1,uE5,?_,?_,rfl,N,H.pick [1,2,3] [2,3,4,5,6,7,8,9,10]⟩)))))))))))
          · omega
          · exact i2.succ ⟨‹_›,‹_›,‹_›,‹_›,fun hk=>by omega⟩
         replace h97:=of_decide_eq_true h97
         refine gF 32 rfl rfl H ?_
         refine gL 33 rfl rfl (fun _ h=>h.cell 0 rfl rfl) H ?_
         refine gF 34 rfl rfl H ?_
         refine gL 35 rfl rfl (fun _ h=>h.cell 2 rfl rfl) H ?_
         refine rgp 36 (yI i) 96 H ?_
         refine rg 37 (yI (i - 1)) 96 (y_sub i 1 rfl rfl qf) H ?_
         obtain ⟨ae98Bag,ce98Bag,Fe98Bag,H⟩:=H.jS 10 rfl (i - 1) (i - 1) qf qf qf
         have S:=H.yl [0,1,2,3] [2,3,4,5,6,7,8,9,10,11,12]
         refine gI 38 rfl rfl rfl S ?_
         refine gF 39 rfl rfl S ?_
         refine ji [40] qh qm (YE rfl (e:=96) rfl rfl (zN (yI ((r.qQ[i - 1]!).qH)) isAgg2 rfl (H.xW 1 rfl 0 rfl) (⟨H.pick [0,1,2,3] [2,3,4,5,6,7,8,9,10,11,12],?_⟩)) jk)
         have S:=H.yl [0,1,2,3] [2,3,4,5,6,7,8,9,10,11,12]
         refine rgp 41 (.bool (decide (((r.qQ[i]!).qH:Int)≤((r.qQ[i - 1]!).qH)))) 96 S ?_
         refine rgp 42 (.bool (decide (((r.qQ[i]!).qH:Int)≤((r.qQ[i - 1]!).qH)))) 93 S ?_
         refine rtp 43 (.bool (decide (((r.qQ[i]!).qH:Int)≤((r.qQ[i - 1]!).qH)))) S ?_
         refine xO qh (t_n (cD rfl (fun h99=>?_) (fun h99=>?_)))
         ·skip
          refine zcr (sp (.bool false) (zjr (zr5 (ret1 (.bool false) rfl rfl ⟨_,rfl,?_,H.base⟩))))
          rw [xx (fun h=>by obtain ⟨h1,h2,h3,h4,h5,h6,h7,h8,h9,h10,h11⟩:=h;first | contradiction | omega | exact h3 ⟨‹_›,‹_›⟩ | (obtain ⟨q1,q2,q3,q4,q5⟩:=h11 i qf;first | contradiction | omega | (have:=q5 qf;omega)) | (refine absurd ?_ ‹¬ vw _ _›;rcases (show k=0∨k=1∨k=2∨k=3∨k=4 by omega) with e | e | e | e | e <;> subst e <;> assumption))]
         refine qU (b_n (t_n (xY (sw (zC i 1 rfl rfl qf (sp (yI (i+1)) (xZ (xf (m' :=(r.qQ.length - ((i+1):Int)).toNat) qf ⟨_,i+1,uE5,?_,?_,rfl,N,H.pick [1,2,3] [4,5,6,7,8,9,10,11,12]⟩))))))))
         · omega
         · exact i2.succ ⟨‹_›,‹_›,‹_›,‹_›,fun hk=>by omega⟩
        replace h96:=eq_of_beq h96
        refine zT [29,30,31,32,33,34,35,36,37,38,39,40,41,42] 14 (H) (rtp 43 (.bool true) H ?_)
        refine xO qh (t_n (xK true rfl (fun _=>zcr (sp (.bool false) (zjr (zr5 (ret1 (.bool false) rfl rfl ⟨_,rfl,?_,H.base⟩))))) (fun h=>absurd h qj)))
        rw [xx (fun h=>by obtain ⟨h1,h2,h3,h4,h5,h6,h7,h8,h9,h10,h11⟩:=h;first | contradiction | omega | exact h3 ⟨‹_›,‹_›⟩ | (obtain ⟨q1,q2,q3,q4,q5⟩:=h11 i qf;first | contradiction | omega | (have:=q5 qf;omega)) | (refine absurd ?_ ‹¬ vw _ _›;rcases (show k=0∨k=1∨k=2∨k=3∨k=4 by omega) with e | e | e | e | e <;> subst e <;> assumption))]
       replace h93:=xw h93
       replace h93:=vk h93
       refine zT [23,24,25,26] 4 (H) (rtp 27 (.bool true) H ?_)
       refine rtp 28 (.bool true) H ?_
       refine zT [29,30,31,32,33,34,35,36,37,38,39,40,41,42] 14 (H) (rtp 43 (.bool true) H ?_)
       refine xO qh (t_n (xK true rfl (fun _=>zcr (sp (.bool false) (zjr (zr5 (ret1 (.bool false) rfl rfl ⟨_,rfl,?_,H.base⟩))))) (fun h=>absurd h qj)))
       rw [xx (fun h=>by obtain ⟨h1,h2,h3,h4,h5,h6,h7,h8,h9,h10,h11⟩:=h;first | contradiction | omega | exact h3 ⟨‹_›,‹_›⟩ | (obtain ⟨q1,q2,q3,q4,q5⟩:=h11 i qf;first | contradiction | omega | (have:=q5 qf;omega)) | (refine absurd ?_ ‹¬ vw _ _›;rcases (show k=0∨k=1∨k=2∨k=3∨k=4 by omega) with e | e | e | e | e <;> subst e <;> assumption))]
      replace h90:=xw h90
      replace h90:=vk h90
      refine zT [15,16,17,18,19,20] 6 (H) (rtp 21 (.bool true) H ?_)
      refine rtp 22 (.bool true) H ?_
      refine zT [23,24,25,26] 4 (H) (rtp 27 (.bool true) H ?_)
      refine rtp 28 (.bool true) H ?_
      refine zT [29,30,31,32,33,34,35,36,37,38,39,40,41,42] 14 (H) (rtp 43 (.bool true) H ?_)
      refine xO qh (t_n (xK true rfl (fun _=>zcr (sp (.bool false) (zjr (zr5 (ret1 (.bool false) rfl rfl ⟨_,rfl,?_,H.base⟩))))) (fun h=>absurd h qj)))
      rw [xx (fun h=>by obtain ⟨h1,h2,h3,h4,h5,h6,h7,h8,h9,h10,h11⟩:=h;first | contradiction | omega | exact h3 ⟨‹_›,‹_›⟩ | (obtain ⟨q1,q2,q3,q4,q5⟩:=h11 i qf;first | contradiction | omega | (have:=q5 qf;omega)) | (refine absurd ?_ ‹¬ vw _ _›;rcases (show k=0∨k=1∨k=2∨k=3∨k=4 by omega) with e | e | e | e | e <;> subst e <;> assumption))]
     replace h86:=xw h86
     replace h86:=Vs h86
     refine zT [6,7,8,9,10,11,12] 7 (H) (rtp 13 (.bool true) H ?_)
     refine rtp 14 (.bool true) H ?_
     refine zT [15,16,17,18,19,20] 6 (H) (rtp 21 (.bool true) H ?_)
     refine rtp 22 (.bool true) H ?_
     refine zT [23,24,25,26] 4 (H) (rtp 27 (.bool true) H ?_)
     refine rtp 28 (.bool true) H ?_
     refine zT [29,30,31,32,33,34,35,36,37,38,39,40,41,42] 14 (H) (rtp 43 (.bool true) H ?_)
     refine xO qh (t_n (xK true rfl (fun _=>zcr (sp (.bool false) (zjr (zr5 (ret1 (.bool false) rfl rfl ⟨_,rfl,?_,H.base⟩))))) (fun h=>absurd h qj)))
     rw [xx (fun h=>by obtain ⟨h1,h2,h3,h4,h5,h6,h7,h8,h9,h10,h11⟩:=h;first | contradiction | omega | exact h3 ⟨‹_›,‹_›⟩ | (obtain ⟨q1,q2,q3,q4,q5⟩:=h11 i qf;first | contradiction | omega | (have:=q5 qf;omega)) | (refine absurd ?_ ‹¬ vw _ _›;rcases (show k=0∨k=1∨k=2∨k=3∨k=4 by omega) with e | e | e | e | e <;> subst e <;> assumption))]
    refine zx4 (zcr (oF rfl (oL rfl (H.cell 1 rfl rfl) ?_)))
    have sm:Small r.xm:=vJ (by first | assumption | exact i1 0 qf)
    refine sw (oq (VH _ r.xm (H.get 3 rfl).1 (by first | assumption | exact vJ ql | exact Qo ql)) H fun w100 H=>sps [.bool (decide ((VN r.xm:Int) > 0)),.bool (decide ((VN r.xm:Int) > 0))] (zjr (ret1 (.bool (decide ((VN r.xm:Int) > 0))) rfl rfl ⟨_,rfl,(congrArg Value.bool (dec_eq ?_)),H.base⟩)))
    rw [decide_eq_true_iff]
    exact ⟨fun h=>⟨by omega,by omega,by simp_all,by omega,n1,n2,n3,n4,n5,by omega,(show i=r.qQ.length by omega)▸i2⟩,fun h=>by have:=h.2.2.2.2.2.2.2.2.2.1;have:=sum_nonneg n1.1;omega⟩
   replace h57:=eq_of_beq h57
   refine zo [30,31,32,33] (sp (.bool true) (zjn (xK true rfl (fun _=>zcr (sp (.bool false) (zjr (t_r (ret1 (.bool false) rfl rfl ⟨_,rfl,?_,H.base⟩))))) (fun h=>absurd h qj))))
   rw [xx (fun h=>by obtain ⟨h1,h2,h3,h4,h5,h6,h7,h8,h9,h10,h11⟩:=h;first | contradiction | omega | exact h3 ⟨‹_›,‹_›⟩ | (obtain ⟨q1,q2,q3,q4,q5⟩:=h11 i qf;first | contradiction | omega | (have:=q5 qf;omega)) | (refine absurd ?_ ‹¬ vw _ _›;rcases (show k=0∨k=1∨k=2∨k=3∨k=4 by omega) with e | e | e | e | e <;> subst e <;> assumption))]
  replace h11:=xw h11
  replace h11:=Vs h11
  refine zo [21,22,23,24,25,26,27] (sps [.bool true,.bool true] (zo [30,31,32,33] (sp (.bool true) (zjn (xK true rfl (fun _=>zcr (sp (.bool false) (zjr (t_r (ret1 (.bool false) rfl rfl ⟨_,rfl,?_,H.base⟩))))) (fun h=>absurd h qj))))))
  rw [xx (fun h=>by obtain ⟨h1,h2,h3,h4,h5,h6,h7,h8,h9,h10,h11⟩:=h;first | contradiction | omega | exact h3 ⟨‹_›,‹_›⟩ | (obtain ⟨q1,q2,q3,q4,q5⟩:=h11 i qf;first | contradiction | omega | (have:=q5 qf;omega)) | (refine absurd ?_ ‹¬ vw _ _›;rcases (show k=0∨k=1∨k=2∨k=3∨k=4 by omega) with e | e | e | e | e <;> subst e <;> assumption))]
 replace h8:=xw h8
 replace h8:=Vs h8
 refine zo [15,16,17,18] (sps [.bool true,.bool true] (zo [21,22,23,24,25,26,27] (sps [.bool true,.bool true] (zo [30,31,32,33] (sp (.bool true) (zjn (xK true rfl (fun _=>zcr (sp (.bool false) (zjr (t_r (ret1 (.bool false) rfl rfl ⟨_,rfl,?_,H.base⟩))))) (fun h=>absurd h qj))))))))
 rw [xx (fun h=>by obtain ⟨h1,h2,h3,h4,h5,h6,h7,h8,h9,h10,h11⟩:=h;first | contradiction | omega | exact h3 ⟨‹_›,‹_›⟩ | (obtain ⟨q1,q2,q3,q4,q5⟩:=h11 i qf;first | contradiction | omega | (have:=q5 qf;omega)) | (refine absurd ?_ ‹¬ vw _ _›;rcases (show k=0∨k=1∨k=2∨k=3∨k=4 by omega) with e | e | e | e | e <;> subst e <;> assumption))]
theorem validSystem_ok (w:World) (s:qG) {qB:yOA} {qZ:yLN} {qL:yOA} {xE:yLN} (xe:qO.rep w qZ [.slice qB s.qw.length qy] s.qw) (xJ:qO.rep w xE [.slice qL s.qx.length qI] s.qx):Calls Tryz.prog 104 #[.agg #[yI s.xC,.slice qB s.qw.length qy,.slice qL s.qx.length qI]] w (Ret (fun v w' =>v=.bool (dec (jO s))) w):=by
 refine en func104 ntmps104 ?_
 have H:=((St.start w).arg xJ).arg xe
 have zY:=qK xe
 have jb:=qK xJ
 clear xe xJ
 have N:=Fresh.nil w.heap.size
 have p1:=fun h:yX s=>h.2.1
 refine zcr (sw (vH H (yS s qB qy qL qI) fun b1 w2 H=>sp (.bool false) (zjcc (sw (zn (yS s qB qy qL qI) isAgg36 sizeOf36 rfl (qF (H.cells 0 rfl) 0 3) (sw (oq (isShell_ok _ s (H.get 0 rfl).1 (H.get 1 rfl).1) H fun w4 H=>sps [.bool (!(dec (yX s))),.bool (!(dec (yX s)))] ?_)))))))
 cases h6:(!(dec (yX s)))
 ·skip
  replace h6:=xh h6
  replace h6:=QD h6
  refine qP 9 rfl rfl (oF rfl (qP 9 rfl rfl (oL rfl (H.cell 0 rfl rfl) (qP 9 rfl rfl (oN rfl (qP 9 rfl rfl (sps [.bool (decide ((s.qx.length:Int) > 16)),.bool (decide ((s.qx.length:Int) > 16))] (zjn (cD rfl (fun h7=>?_) (fun h7=>?_))))))))))
  ·skip
   refine zcr (sp (.bool false) (zjr (t_r (ret1 (.bool false) rfl rfl ⟨_,rfl,?_,H.base⟩))))
   rw [xx (fun h=>by obtain ⟨h1,h2,h3⟩:=h;first | contradiction | omega | (obtain ⟨r1,r2⟩:=h3 k qf;first | contradiction | (have:=YK (s:=s) (k:=k+1) q1 q2;omega)))]
  refine qU (t_n (zcr (sw (jB [yI 0,yI 0,yI 0,yI 0,yI 0,yI 0] [] (sw (zf H ti159 [yI 0,yI 0,yI 0,yI 0,yI 0,yI 0] fun b8 w9 H=>sw (zB H 0 [yI 0,yI 0,yI 0,yI 0,yI 0,yI 0] sizeOf159 fun w10 H=>zjcc (oF rfl (oL rfl (H.cell 1 rfl rfl) (oN rfl (sp (yI 0) (zjn (qX ?_)))))))))))))
  have p2:=p1 ‹_›
  refine zu (fun m' ρ w11=>∃ (xU:Env) (k:Nat) (many:yLI),ρ=upd (upd (upd (upd (upd xU 1 (pp b1 0)) 3 (pp b8 0)) 17 (.slice qL s.qx.length qI)) 18 (yI s.qx.length)) 19 (yI k)∧many=counts6 s k∧((k:Int)≤s.qx.length)∧(RulesTo s k)∧m' =(s.qx.length - (k:Int)).toNat∧Fresh w.heap.size []∧St w w11 [.box b8 (many.map (Value.int .i64)) 159,.box b1 (yS s qB qy qL qI) 36] [sF false qZ qB qy s.qw,sF false xE qL qI s.qx]) ((s.qx.length - (0:Int)).toNat) ⟨_,0,[0,0,0,0,0,0],uE5,(by exact counts6_zero s),qf,(by exact fun j hj=>by omega),rfl,N,H⟩ ?_
  clear H N
  rintro m' ρ w12 ⟨xU,k,many,rfl,rfl,i0,i1,rfl,N,H⟩
  refine zcr (sp (.bool (decide ((k:Int) < s.qx.length))) (zjn (xQ (cD rfl (fun h13=>?_) (fun h13=>?_)))))
  ·skip
   refine qU (t_n (xQ (qX (zcr ?_))))
   obtain ⟨b14,o15,rfl⟩:=H.addr 1 rfl qf
   obtain ⟨ae17Need,ce17Need,Fe17Need,ae17Have,ce17Have,Fe17Have,ae17Lack,ce17Lack,Fe17Lack,ae17Here,ce17Here,Fe17Here,ae17Out,ce17Out,Fe17Out,ae17Into,ce17Into,Fe17Into,H⟩:=H.yt 1 rfl k k qf qf qf
   refine oI rfl rfl (sw (zn [yI ((s.qx[k]!).qH),yI ((s.qx[k]!).zM),.slice ae17Need (((s.qx[k]!).xm).length) ce17Need,.slice ae17Have (((s.qx[k]!).xF).length) ce17Have,.slice ae17Lack (((s.qx[k]!).xI).length) ce17Lack,.slice ae17Here (((s.qx[k]!).xM).length) ce17Here,.slice ae17Out (((s.qx[k]!).zV).length) ce17Out,.slice ae17Into (((s.qx[k]!).qQ).length) ce17Into,.bool ((s.qx[k]!).zA)] isAgg121 sizeOf121 rfl (qF (H.get 6 rfl) 0 9) ?_))
   refine sw (zf H ti121 [yI 0,yI 0,yN,yN,yN,yN,yN,yN,.bool false] fun b18 w19 H=>sw (zB H 0 [yI ((s.qx[k]!).qH),yI ((s.qx[k]!).zM),.slice ae17Need (((s.qx[k]!).xm).length) ce17Need,.slice ae17Have (((s.qx[k]!).xF).length) ce17Have,.slice ae17Lack (((s.qx[k]!).xI).length) ce17Lack,.slice ae17Here (((s.qx[k]!).xM).length) ce17Here,.slice ae17Out (((s.qx[k]!).zV).length) ce17Out,.slice ae17Into (((s.qx[k]!).qQ).length) ce17Into,.bool ((s.qx[k]!).zA)] sizeOf121 fun w20 H=>?_))
   refine zjcc (sw (zn [yI s.xC,.slice qB s.qw.length qy,.slice (aa b14 o15) s.qx.length qI] isAgg36 sizeOf36 rfl (qF (H.cells 2 rfl) 0 3) ?_))
   refine sw (zn [yI ((s.qx[k]!).qH),yI ((s.qx[k]!).zM),.slice ae17Need (((s.qx[k]!).xm).length) ce17Need,.slice ae17Have (((s.qx[k]!).xF).length) ce17Have,.slice ae17Lack (((s.qx[k]!).xI).length) ce17Lack,.slice ae17Here (((s.qx[k]!).xM).length) ce17Here,.slice ae17Out (((s.qx[k]!).zV).length) ce17Out,.slice ae17Into (((s.qx[k]!).qQ).length) ce17Into,.bool ((s.qx[k]!).zA)] isAgg121 sizeOf121 rfl (qF (H.cells 0 rfl) 0 9) ?_)
   refine sw (oq (isRule_ok _ s (s.qx[k]!) (H.get 7 rfl).1 (H.get 8 rfl).1 (H.get 0 rfl).1 (H.get 1 rfl).1 (H.get 2 rfl).1 (H.get 3 rfl).1 (H.get 4 rfl).1 (H.get 5 rfl).1 qg) H fun w22 H=>?_)
   have q:=fun h:RuleOk s (s.qx[k]!)=>(show 0≤(s.qx[k]!).qH∧(s.qx[k]!).qH≤5 from ⟨h.1.1,by have:=h.1.2;omega⟩)
   refine sp (.bool (!(dec (RuleOk s (s.qx[k]!))))) (zjn (cQ rfl (fun h24=>?_) (fun h24=>?_)))
   ·skip
    refine zcr (sp (.bool false) (zjr (t_r (zr5 (ret1 (.bool false) rfl rfl ⟨_,rfl,?_,H.base⟩)))))
    rw [xx (fun h=>by obtain ⟨h1,h2,h3⟩:=h;first | contradiction | omega | (obtain ⟨r1,r2⟩:=h3 k qf;first | contradiction | (have:=YK (s:=s) (k:=k+1) q1 q2;omega)))]
   obtain ⟨q1,q2⟩:=q ‹_›
   have q3:=YK (s:=s) (k:=k) q1 q2
   have q4:=ofCell_bd s.qx (s.qx[k]!).qH k
   refine qU (t_n (zcr (oF rfl (oL rfl (H.cell 0 rfl rfl) (sw (o_idxArr ((s.qx[k]!).qH) underlying159 ti3 rfl rfl qf qf (oL rfl (H.cell 1 rfl (ints_at (iv:=(s.qx[k]!).qH) (i:=(((s.qx[k]!).qH).toNat)) qf (by simp only [List.length_set,List.length_cons,List.length_nil,counts6_len];omega))) (sw (zC ((counts6 s k)[((s.qx[k]!).qH).toNat]!) 1 rfl rfl qf (sw (o_idxArr ((s.qx[k]!).qH) underlying159 ti3 rfl rfl qf qf ?_)))))))))))
   refine sw (o_storeArr H 1 rfl (((counts6 s k)[((s.qx[k]!).qH).toNat]!)+1) sizeOf3 rfl rfl (i:=(((s.qx[k]!).qH).toNat)) qf (by simp only [List.length_set,List.length_cons,List.length_nil,counts6_len];omega) fun w25 H=>?_)
   rw [counts6_succ q1 q2] at H
   refine zjc (oF rfl (oL rfl (H.cell 0 rfl rfl) (sw (o_idxArr ((s.qx[k]!).qH) underlying159 ti3 rfl rfl qf qf (oL rfl (H.cell 1 rfl (ints_at (iv:=(s.qx[k]!).qH) (i:=(((s.qx[k]!).qH).toNat)) qf (by simp only [List.length_set,List.length_cons,List.length_nil,counts6_len];omega))) (sp (.bool (decide (((counts6 s (k+1))[((s.qx[k]!).qH).toNat]! :Int) > 8))) (zjn (cD rfl (fun h26=>?_) (fun h26=>?_)))))))))
   ·skip
    refine zcr (sp (.bool false) (zjr (zr5 (ret1 (.bool false) rfl rfl ⟨_,rfl,?_,H.base⟩))))
    rw [xx (fun h=>by obtain ⟨h1,h2,h3⟩:=h;first | contradiction | omega | (obtain ⟨r1,r2⟩:=h3 k qf;first | contradiction | (have:=YK (s:=s) (k:=k+1) q1 q2;omega)))]
   refine qU (b_n (t_n (xY (sw (zC k 1 rfl rfl qf (sp (yI (k+1)) (xZ (xf (m' :=(s.qx.length - ((k+1):Int)).toNat) qf ⟨_,k+1,counts6 s (k+1),uE5,?_,?_,?_,rfl,N,H.pick [1,2] [7,8]⟩))))))))
   · rfl
   · omega
   · exact i1.succ ‹_› (by have:=YK (s:=s) (k:=k+1) q1 q2;omega)
  refine zx4 (zcr (sp (.bool true) (zjr (ret1 (.bool true) rfl rfl ⟨_,rfl,?_,H.base⟩))))
  rw [yD ⟨by assumption,by omega,(show s.qx.length=k by omega)▸i1⟩]
 replace h6:=xw h6
 replace h6:=vk h6
 refine zo [10,11,12,13] (sp (.bool true) (zjn (xK true rfl (fun _=>zcr (sp (.bool false) (zjr (t_r (ret1 (.bool false) rfl rfl ⟨_,rfl,?_,H.base⟩))))) (fun h=>absurd h qj))))
 rw [xx (fun h=>by obtain ⟨h1,h2,h3⟩:=h;first | contradiction | omega | (obtain ⟨r1,r2⟩:=h3 k qf;first | contradiction | (have:=YK (s:=s) (k:=k+1) q1 q2;omega)))]

theorem validState_ok (w:World) (s:qG) (t:qJ) {qB:yOA} {qZ:yLN} {qL:yOA} {xE:yLN} {qV:yOA} {xR:yLN} {xn:yOA} {zy:yLN} {qN:yOA} {xH:yLN} (xe:qO.rep w qZ [.slice qB s.qw.length qy] s.qw) (xJ:qO.rep w xE [.slice qL s.qx.length qI] s.qx) (zl:qO.rep w xR [.slice qV t.qA.length qR] t.qA) (zK:qO.rep w zy [.slice xn t.qE.length xk] t.qE) (xP:qO.rep w xH [.slice qN t.qC.length qM] t.qC):Calls Tryz.prog 63 #[.agg #[yI s.xC,.slice qB s.qw.length qy,.slice qL s.qx.length qI],.agg #[.slice qV t.qA.length qR,.slice xn t.qE.length xk,.slice qN t.qC.length qM]] w (Ret (fun v w' =>v=.bool (dec (jO s∧zF s t))) w):=by
 refine en func63 ntmps63 ?_
 have H:=(((((St.start w).arg xP).arg zK).arg zl).arg xJ).arg xe
 have zY:=qK xe
 have jb:=qK xJ
 have Qd:=qK zl
 have QQ:=qK zK
 have jP:=qK xP
 clear xe xJ zl zK xP
 have N:=Fresh.nil w.heap.size
 refine zcr (sw (vH H (yS s qB qy qL qI) fun b1 w2 H=>sw (vH H (yT t qV qR xn xk qN qM) fun b3 w4 H=>sp (.bool false) (zjcc (sw (zn (yS s qB qy qL qI) isAgg36 sizeOf36 rfl (qF (H.cells 1 rfl) 0 3) (sw (oq (validSystem_ok _ s (H.get 0 rfl).1 (H.get 1 rfl).1) H fun w6 H=>sps [.bool (!(dec (jO s))),.bool (!(dec (jO s)))] ?_))))))))
 cases h8:(!(dec (jO s)))
 ·skip
  replace h8:=xh h8
  replace h8:=QD h8
  have z1:=(‹jO s›:jO s).1.2.1
  refine qP 10 rfl rfl (oF rfl (qP 10 rfl rfl (oL rfl (H.cell 0 rfl rfl) (qP 10 rfl rfl (oN rfl (qP 10 rfl rfl (oF rfl (qP 10 rfl rfl (oL rfl (H.cell 1 rfl rfl) (qP 10 rfl rfl (oN rfl (qP 10 rfl rfl (sps [.bool ((t.qA.length:Int) != s.qw.length),.bool ((t.qA.length:Int) != s.qw.length),.bool ((t.qA.length:Int) != s.qw.length)] ?_)))))))))))))
  cases h9:((t.qA.length:Int) != s.qw.length)
  ·skip
   replace h9:=xq h9
   refine qP 19 rfl rfl (oF rfl (qP 19 rfl rfl (oL rfl (H.cell 0 rfl rfl) (qP 19 rfl rfl (oN rfl (qP 19 rfl rfl (oF rfl (qP 19 rfl rfl (oL rfl (H.cell 1 rfl rfl) (qP 19 rfl rfl (oN rfl (qP 19 rfl rfl (sps [.bool ((t.qE.length:Int) != s.qw.length),.bool ((t.qE.length:Int) != s.qw.length),.bool ((t.qE.length:Int) != s.qw.length)] ?_)))))))))))))
   cases h10:((t.qE.length:Int) != s.qw.length)
   ·skip
    replace h10:=xq h10
    refine qP 28 rfl rfl (oF rfl (qP 28 rfl rfl (oL rfl (H.cell 0 rfl rfl) (qP 28 rfl rfl ?_))))
    obtain ⟨b11,o12,rfl⟩:=H.addr 2 rfl qf
    refine oI rfl rfl (qP 28 rfl rfl (oL rfl (H.Vb 2 rfl 0 qf qf) (qP 28 rfl rfl (sps [.bool (!(t.qA[0]!)),.bool (!(t.qA[0]!)),.bool (!(t.qA[0]!))] ?_))))
    cases h14:(!(t.qA[0]!))
    ·skip
     replace h14:=xh h14
     refine qP 35 rfl rfl (oF rfl (qP 35 rfl rfl (oL rfl (H.cell 1 rfl rfl) (qP 35 rfl rfl (oF rfl (qP 35 rfl rfl (oL rfl (H.cell 0 rfl rfl) (qP 35 rfl rfl (sw (oq (YB _ s.xC t.qC (H.get 4 rfl).1) H fun w15 H=>qP 35 rfl rfl (sps [.bool (!(dec (vw s.xC t.qC))),.bool (!(dec (vw s.xC t.qC)))] (zjn (cQ rfl (fun h17=>?_) (fun h17=>?_))))))))))))))
     ·skip
      refine zcr (sp (.bool false) (zjr (t_r (ret1 (.bool false) rfl rfl ⟨_,rfl,?_,H.base⟩))))
      rw [xx (fun h=>by obtain ⟨h0,h1,h2,h3,h4,h5⟩:=h;first | contradiction | omega | (simp_all;done) | (obtain ⟨q1,q2⟩:=h5 c qf;first | contradiction | (have:=q2 ql;omega)))]
     refine qU (t_n (zcc (oF rfl (oL rfl (H.cell 0 rfl rfl) (oN rfl (sp (yI 0) (zjn (qX ?_))))))))
     refine zu (fun m' ρ w18=>∃ (xU:Env) (c:Nat),ρ=upd (upd (upd (upd (upd xU 2 (pp b1 0)) 3 (pp b3 0)) 44 (.slice xn t.qE.length xk)) 45 (yI t.qE.length)) 46 (yI c)∧((c:Int)≤t.qE.length)∧(BagsTo s t c)∧m' =(t.qE.length - (c:Int)).toNat∧Fresh w.heap.size []∧St w w18 [.box b3 [.slice (aa b11 o12) t.qA.length qR,.slice xn t.qE.length xk,.slice qN t.qC.length qM] 38,.box b1 (yS s qB qy qL qI) 36] [sF false qZ qB qy s.qw,sF false xE qL qI s.qx,sF false xR (aa b11 o12) qR t.qA,sF false zy xn xk t.qE,sF false xH qN qM t.qC]) ((t.qE.length - (0:Int)).toNat) ⟨_,0,uE5,qf,(by exact fun j hj=>by omega),rfl,N,H⟩ ?_
     clear H N
     rintro m' ρ w19 ⟨xU,c,rfl,i0,i1,rfl,N,H⟩
     refine zcr (sp (.bool (decide ((c:Int) < t.qE.length))) (zjn (xQ (cD rfl (fun h20=>?_) (fun h20=>?_)))))
     ·skip
      refine qU (t_n (xQ (qX (zcr (sp (yI c) ?_)))))
      obtain ⟨b21,o22,rfl⟩:=H.addr 3 rfl qf
      obtain ⟨ae24,ce24,Fe24,H⟩:=H.vM 3 rfl c c qf qf qf
      refine oI rfl rfl (oL rfl (H.xW 1 rfl 0 rfl) (sps [yI c,.slice ae24 ((t.qE[c]!).length) ce24] (zjc (oF rfl (oL rfl (H.cell 1 rfl rfl) (sp (.slice ae24 ((t.qE[c]!).length) ce24) (sw (oq (YB _ s.xC (t.qE[c]!) (H.get 0 rfl).1) H fun w25 H=>sps [.bool (!(dec (vw s.xC (t.qE[c]!)))),.bool (!(dec (vw s.xC (t.qE[c]!))))] ?_))))))))
      cases h27:(!(dec (vw s.xC (t.qE[c]!))))
      ·skip
       replace h27:=xh h27
       replace h27:=QD h27
       refine qP 56 rfl rfl (oF rfl (qP 56 rfl rfl (oL rfl (H.cell 0 rfl rfl) (qP 56 rfl rfl (sp (yI c) (qP 56 rfl rfl (oI rfl rfl (qP 56 rfl rfl (oL rfl (H.Vb 4 rfl c qf qf) (qP 56 rfl rfl (sp (.bool (!(t.qA[c]!))) (qP 56 rfl rfl (sp (.bool (!(t.qA[c]!))) ?_)))))))))))))
       cases h28:(!(t.qA[c]!))
       ·skip
        replace h28:=xh h28
        refine zo [64,65,66] (qP 56 rfl rfl (sps [.bool false,.bool false] (zjn (xK false rfl (fun h=>absurd h qj) (fun _=>qU (b_n (t_n (xY (sw (zC c 1 rfl rfl qf (sp (yI (c+1)) (xZ (xf (m' :=(t.qE.length - ((c+1):Int)).toNat) qf ⟨_,c+1,uE5,?_,?_,rfl,N,H.pick [0,1] [2,3,4,5,6]⟩)))))))))))))
        · omega
        · exact i1.succ ‹_› (fun hk=>by first | omega | simp_all)
       replace h28:=xw h28
       refine qP 63 rfl rfl (sp (.slice ae24 ((t.qE[c]!).length) ce24) (qP 63 rfl rfl (sw (oq (VH _ (t.qE[c]!) (H.get 0 rfl).1 (by first | assumption | exact vJ ql | exact Qo ql)) H fun w29 H=>qP 63 rfl rfl (sp (.bool (decide ((VN (t.qE[c]!):Int) > 0))) (qP 56 rfl rfl (sps [.bool (decide ((VN (t.qE[c]!):Int) > 0)),.bool (decide ((VN (t.qE[c]!):Int) > 0))] (zjn (cD rfl (fun h31=>?_) (fun h31=>?_))))))))))
       ·skip
        refine zcr (sp (.bool false) (zjr (zr5 (ret1 (.bool false) rfl rfl ⟨_,rfl,?_,H.base⟩))))
        rw [xx (fun h=>by obtain ⟨h0,h1,h2,h3,h4,h5⟩:=h;first | contradiction | omega | (simp_all;done) | (obtain ⟨q1,q2⟩:=h5 c qf;first | contradiction | (have:=q2 ql;omega)))]
       refine qU (b_n (t_n (xY (sw (zC c 1 rfl rfl qf (sp (yI (c+1)) (xZ (xf (m' :=(t.qE.length - ((c+1):Int)).toNat) qf ⟨_,c+1,uE5,?_,?_,rfl,N,H.pick [0,1] [2,3,4,5,6]⟩))))))))
       · omega
       · exact i1.succ ‹_› (fun hk=>by first | omega | simp_all)
      replace h27:=xw h27
      replace h27:=vk h27
      refine zo [57,58,59,60,61,62,63,64,65,66,67] (sp (.bool true) (zjn (xK true rfl (fun _=>zcr (sp (.bool false) (zjr (zr5 (ret1 (.bool false) rfl rfl ⟨_,rfl,?_,H.base⟩))))) (fun h=>absurd h qj))))
      rw [xx (fun h=>by obtain ⟨h0,h1,h2,h3,h4,h5⟩:=h;first | contradiction | omega | (simp_all;done) | (obtain ⟨q1,q2⟩:=h5 c qf;first | contradiction | (have:=q2 ql;omega)))]
     refine zx4 (zcr (sp (.bool true) (zjr (ret1 (.bool true) rfl rfl ⟨_,rfl,?_,H.base⟩))))
     rw [yD ⟨by assumption,by omega,by omega,by first | assumption | simp_all,by assumption,(show t.qE.length=c by omega)▸i1⟩]
    replace h14:=xw h14
    refine zo [36,37,38,39,40,41] (sp (.bool true) (zjn (xK true rfl (fun _=>zcr (sp (.bool false) (zjr (t_r (ret1 (.bool false) rfl rfl ⟨_,rfl,?_,H.base⟩))))) (fun h=>absurd h qj))))
    rw [xx (fun h=>by obtain ⟨h0,h1,h2,h3,h4,h5⟩:=h;first | contradiction | omega | (simp_all;done) | (obtain ⟨q1,q2⟩:=h5 c qf;first | contradiction | (have:=q2 ql;omega)))]
   replace h10:=bne_iff_ne.1 h10
   refine zo [29,30,31,32,33] (sps [.bool true,.bool true] (zo [36,37,38,39,40,41] (sp (.bool true) (zjn (xK true rfl (fun _=>zcr (sp (.bool false) (zjr (t_r (ret1 (.bool false) rfl rfl ⟨_,rfl,?_,H.base⟩))))) (fun h=>absurd h qj))))))
   rw [xx (fun h=>by obtain ⟨h0,h1,h2,h3,h4,h5⟩:=h;first | contradiction | omega | (simp_all;done) | (obtain ⟨q1,q2⟩:=h5 c qf;first | contradiction | (have:=q2 ql;omega)))]
  replace h9:=bne_iff_ne.1 h9
  refine zo [20,21,22,23,24,25,26] (sps [.bool true,.bool true] (zo [29,30,31,32,33] (sps [.bool true,.bool true] (zo [36,37,38,39,40,41] (sp (.bool true) (zjn (xK true rfl (fun _=>zcr (sp (.bool false) (zjr (t_r (ret1 (.bool false) rfl rfl ⟨_,rfl,?_,H.base⟩))))) (fun h=>absurd h qj))))))))
  rw [xx (fun h=>by obtain ⟨h0,h1,h2,h3,h4,h5⟩:=h;first | contradiction | omega | (simp_all;done) | (obtain ⟨q1,q2⟩:=h5 c qf;first | contradiction | (have:=q2 ql;omega)))]
 replace h8:=xw h8
 replace h8:=vk h8
 refine zo [11,12,13,14,15,16,17] (sps [.bool true,.bool true] (zo [20,21,22,23,24,25,26] (sps [.bool true,.bool true] (zo [29,30,31,32,33] (sps [.bool true,.bool true] (zo [36,37,38,39,40,41] (sp (.bool true) (zjn (xK true rfl (fun _=>zcr (sp (.bool false) (zjr (t_r (ret1 (.bool false) rfl rfl ⟨_,rfl,?_,H.base⟩))))) (fun h=>absurd h qj))))))))))
 rw [xx (fun h=>by obtain ⟨h0,h1,h2,h3,h4,h5⟩:=h;first | contradiction | omega | (simp_all;done) | (obtain ⟨q1,q2⟩:=h5 c qf;first | contradiction | (have:=q2 ql;omega)))]

theorem parentNow_ok (w:World) (s:qG) (t:qJ) (c:Int) {qB:yOA} {qZ:yLN} {qL:yOA} {xE:yLN} {qV:yOA} {xR:yLN} {xn:yOA} {zy:yLN} {qN:yOA} {xH:yLN} (xe:qO.rep w qZ [.slice qB s.qw.length qy] s.qw) (xJ:qO.rep w xE [.slice qL s.qx.length qI] s.qx) (zl:qO.rep w xR [.slice qV t.qA.length qR] t.qA) (zK:qO.rep w zy [.slice xn t.qE.length xk] t.qE) (xP:qO.rep w xH [.slice qN t.qC.length qM] t.qC) (p0:yX s) (p1:CellIn s c) (p2:t.qA.length=s.qw.length):Calls Tryz.prog 188 #[.agg #[yI s.xC,.slice qB s.qw.length qy,.slice qL s.qx.length qI],.agg #[.slice qV t.qA.length qR,.slice xn t.qE.length xk,.slice qN t.qC.length qM],yI c] w (Ret (fun v w' =>v=yI (xA s t c)) w):=by
 refine en func188 ntmps188 ?_
 have H:=(((((St.start w).arg xP).arg zK).arg zl).arg xJ).arg xe
 have zY:=qK xe
 have jb:=qK xJ
 have Qd:=qK zl
 have QQ:=qK zK
 have jP:=qK xP
 clear xe xJ zl zK xP
 have N:=Fresh.nil w.heap.size
 have p3:=p0.step p1.1 p1.2
 refine zcr (sw (vH H (yS s qB qy qL qI) fun b1 w2 H=>sw (vH H (yT t qV qR xn xk qN qM) fun b3 w4 H=>sp (yI 0) (zjc (oF rfl (oL rfl (H.cell 1 rfl rfl) (sp (yI c) ?_)))))))
 obtain ⟨b5,o6,rfl⟩:=H.addr 0 rfl qf
 refine oI rfl rfl (oL rfl (H.jC 0 rfl c qf qf) (sp (yI (s.qw[c.toNat]!)) (zjn (xQ (qX ?_)))))
 refine zu (fun m' ρ w8=>∃ (xU:Env) (p:Int) (n:Nat),ρ=upd (upd (upd xU 3 (pp b1 0)) 4 (pp b3 0)) 7 (yI p)∧(-1≤p∧p≤(s.qw.length:Int) - 1)∧(p < n)∧(xA s t c=climb s.qw t.qA n p)∧m' =(p+1).toNat∧Fresh w.heap.size []∧St w w8 [.box b3 (yT t qV qR xn xk qN qM) 38,.box b1 [yI s.xC,.slice (aa b5 o6) s.qw.length qy,.slice qL s.qx.length qI] 36] [sF false qZ (aa b5 o6) qy s.qw,sF false xE qL qI s.qx,sF false xR qV qR t.qA,sF false zy xn xk t.qE,sF false xH qN qM t.qC]) (((s.qw[c.toNat]!)+1).toNat) ⟨_,s.qw[c.toNat]!,s.qw.length,uE3,qf,qf,(by rfl),rfl,N,H⟩ ?_
 clear H N
 rintro m' ρ w9 ⟨xU,p,n,rfl,i0,i1,i2,rfl,N,H⟩
 have up:=fun h=>p0.step (c:=p) h i0.2
 refine zcc (sps [yI p,.bool (decide ((p:Int)≥0)),.bool (decide ((p:Int)≥0))] ?_)
 cases h10:(decide ((p:Int)≥0))
 ·skip
  replace h10:=of_decide_eq_false h10
  refine zo [16,17,18,19,20,21] (sp (.bool false) (zjn (xK false rfl (fun h=>absurd h qj) (fun _=>zx4 (zcr (sps [yI p,yI p] (zjr (ret1 (yI p) rfl rfl ⟨_,rfl,?_,H.base⟩))))))))
  rw [i2,climb_end (by first | omega | simp_all)]
 replace h10:=of_decide_eq_true h10
 refine qP 15 rfl rfl (oF rfl (qP 15 rfl rfl (oL rfl (H.cell 0 rfl rfl) (qP 15 rfl rfl (sp (yI p) (qP 15 rfl rfl ?_))))))
 obtain ⟨b11,o12,rfl⟩:=H.addr 2 rfl qf
 refine oI rfl rfl (qP 15 rfl rfl (oL rfl (H.Vb 2 rfl p qf qf) (qP 15 rfl rfl (sps [.bool (!(t.qA[p.toNat]!)),.bool (!(t.qA[p.toNat]!))] (zjn (xK (!(t.qA[p.toNat]!)) rfl (fun h14=>?_) (fun h14=>?_)))))))
 ·skip
  replace h14:=xw h14
  refine qU (t_n (qX (xY (oF rfl (oL rfl (H.cell 1 rfl rfl) (sp (yI p) (oI rfl rfl (oL rfl (H.jC 0 rfl p qf qf) (sp (yI (s.qw[p.toNat]!)) (xZ (b_n ?_)))))))))))
  have up1:=up qf
  refine xf (m' :=((s.qw[p.toNat]!)+1).toNat) qf ⟨_,s.qw[p.toNat]!,n - 1,uE3,?_,?_,?_,rfl,N,H⟩
  · omega
  · omega
  · exact i2.trans (climb_go qf qf ‹_›)
 replace h14:=xh h14
 refine zx4 (zcr (sps [yI p,yI p] (zjr (ret1 (yI p) rfl rfl ⟨_,rfl,?_,H.base⟩))))
 rw [i2,climb_end (by first | omega | simp_all)]

theorem Yc (w:World) (t:qJ) {qV:yOA} {xR:yLN} {xn:yOA} {zy:yLN} {qN:yOA} {xH:yLN} (zl:qO.rep w xR [.slice qV t.qA.length qR] t.qA) (zK:qO.rep w zy [.slice xn t.qE.length xk] t.qE) (xP:qO.rep w xH [.slice qN t.qC.length qM] t.qC) (p0:t.qA.length≤1000000) (p1:t.qC.length≤1000000) (p2:t.qE.length≤1000000) (p3:∀ j,j < t.qE.length→(t.qE[j]!).length≤1000000):Calls Tryz.prog 79 #[.agg #[.slice qV t.qA.length qR,.slice xn t.qE.length xk,.slice qN t.qC.length qM]] w (Ret (fun v w' =>∃ (raAlive:yOA) (rnAlive:Nat) (rcAlive:Nat) (raBags:yOA) (rnBags:Nat) (rcBags:Nat) (rxBags:List Value) (rFBags:yLN) (raAround:yOA) (rnAround:Nat) (rcAround:Nat),v=.agg #[.slice raAlive rnAlive rcAlive,.slice raBags rnBags rcBags,.slice raAround rnAround rcAround]∧Fresh w.heap.size [rFBags]∧St w w' [rr raAlive rnAlive rcAlive 4 1 (t.qA.map (Value.bool)),rr raBags rnBags rcBags 22 1 rxBags,rr raAround rnAround rcAround 2 1 (t.qC.map (Value.int .i64))] [zi true rFBags rxBags t.qE]) w):=by
 refine en func79 ntmps79 ?_
 have H:=(((St.start w).arg xP).arg zK).arg zl
 have Qd:=qK zl
 have QQ:=qK zK
 have jP:=qK xP
 clear zl zK xP
 have N:=Fresh.nil w.heap.size
 refine zcr (sw (vH H (yT t qV qR xn xk qN qM) fun b1 w2 H=>sw (zf H ti38 [yN,yN,yN] fun b3 w4 H=>zjn (xQ ?_))))
 refine c_cut (fun ρ w10=>∃ (xU:Env) (b5:Nat) (ra6:yOA) (rc7:Nat) (a8:yOA) (c9:Nat),ρ=upd (upd (upd xU 1 (pp b1 0)) 2 (pp b3 0)) 3 (pp b5 0)∧Fresh w.heap.size []∧St w w10 [.box b5 [.slice ra6 t.qA.length rc7,yN,.slice a8 t.qC.length c9] 38,rr a8 t.qC.length c9 2 1 (t.qC.map (Value.int .i64)),rr ra6 t.qA.length rc7 4 1 (t.qA.map (Value.bool)),.box b3 [yN,yN,yN] 38,.box b1 (yT t qV qR xn xk qN qM) 38] [sF false xR qV qR t.qA,sF false zy xn xk t.qE,sF false xH qN qM t.qC]) ?_ ?_
 ·skip
  refine vT rfl H fun H=>tF 0 rfl rfl H ?_
  refine tL 1 rfl rfl (fun _ h=>h.cell 1 rfl rfl) H ?_
  refine tF 3 rfl rfl H ?_
  refine tL 4 rfl rfl (fun _ h=>h.cell 1 rfl rfl) H ?_
  refine ji [2,7] qh qm (Qg rfl ?_ (Qg rfl ?_ jk))
  ·skip
   have sz15:=H.base.size
   refine oc (cloneB_ok _ t.qA (H.get 0 rfl).1 qg) ?_
   rintro _ w13 ⟨ra12,rn12,rc12,rfl,M,K⟩ _
   replace H:=H.merge K M
   obtain rfl:=H.rowNB 0 rfl
   refine ⟨H.pick [1,2] [0,1,2],(ji [5,7] qh qm (Qg rfl ?_ (Qg rfl ?_ jk)))⟩
   ·skip
    have sz18:=H.base.size
    refine oc (cloneI_ok _ t.qC (H.get 2 rfl).1 qg) ?_
    rintro v23 w21 r23 x22
    replace H:=H.zD x22 r23
    obtain ⟨a24,c25,rfl,hc26,hm27⟩:=H.jo 0 rfl
    refine ⟨H.pick [2,3] [0,1,2],(ji [6,7] qh qm (Qg rfl ?_ (Qg rfl ?_ jk)))⟩
    ·skip
     refine jB [.slice ra12 t.qA.length rc12,yN,.slice a24 t.qC.length c25] [(0,.slice ra12 t.qA.length rc12),(2,.slice a24 t.qC.length c25)] (⟨H.pick [2,3] [0,1,2],(ro 7 rfl (zf H ti38 [yN,yN,yN] fun b28 w29 H=>⟨H.pick [3,4] [0,1,2],(ro 8 rfl (zB H 0 [.slice ra12 t.qA.length rc12,yN,.slice a24 t.qC.length c25] sizeOf38 fun w30 H=>⟨H.pick [3,4] [0,1,2],(xO qh ((meet ⟨_,b28,ra12,rc12,a24,c25,uE3,N,H⟩)))⟩))⟩))⟩)
    refine zf H ti38 [yN,yN,yN] fun b31 w32 H=>⟨H.pick [3,4] [0,1,2],(ro 6 rfl (jB [.slice ra12 t.qA.length rc12,yN,.slice a24 t.qC.length c25] [(0,.slice ra12 t.qA.length rc12),(2,.slice a24 t.qC.length c25)] (⟨H.pick [3,4] [0,1,2],(ro 8 rfl (zB H 0 [.slice ra12 t.qA.length rc12,yN,.slice a24 t.qC.length c25] sizeOf38 fun w33 H=>⟨H.pick [3,4] [0,1,2],(xO qh ((meet ⟨_,b31,ra12,rc12,a24,c25,uE3,N,H⟩)))⟩))⟩)))⟩
   refine zf H ti38 [yN,yN,yN] fun b34 w35 H=>⟨H.pick [2,3] [0,1,2],(ro 5 rfl ?_)⟩
   have sz36:=H.base.size
   refine oc (cloneI_ok _ t.qC (H.get 2 rfl).1 qg) ?_
   rintro v41 w39 r41 x40
   replace H:=H.zD x40 r41
   obtain ⟨a42,c43,rfl,hc44,hm45⟩:=H.jo 0 rfl
   refine ⟨H.pick [3,4] [0,1,2],(ro 6 rfl (jB [.slice ra12 t.qA.length rc12,yN,.slice a42 t.qC.length c43] [(0,.slice ra12 t.qA.length rc12),(2,.slice a42 t.qC.length c43)] (⟨H.pick [3,4] [0,1,2],(ro 8 rfl (zB H 1 [.slice ra12 t.qA.length rc12,yN,.slice a42 t.qC.length c43] sizeOf38 fun w46 H=>⟨H.pick [3,4] [0,1,2],(xO qh ((meet ⟨_,b34,ra12,rc12,a42,c43,uE3,N,H.pick [1,0,2,3,4] [0,1,2]⟩)))⟩))⟩)))⟩
  refine zf H ti38 [yN,yN,yN] fun b47 w48 H=>⟨H.pick [1,2] [0,1,2],(ro 2 rfl ?_)⟩
  have sz52:=H.base.size
  refine oc (cloneB_ok _ t.qA (H.get 0 rfl).1 qg) ?_
  rintro _ w50 ⟨ra49,rn49,rc49,rfl,M,K⟩ _
  replace H:=H.merge K M
  obtain rfl:=H.rowNB 0 rfl
  refine ⟨H.pick [2,3] [0,1,2],(ro 5 rfl ?_)⟩
  have sz55:=H.base.size
  refine oc (cloneI_ok _ t.qC (H.get 2 rfl).1 qg) ?_
  rintro v60 w58 r60 x59
  replace H:=H.zD x59 r60
  obtain ⟨a61,c62,rfl,hc63,hm64⟩:=H.jo 0 rfl
  refine ⟨H.pick [3,4] [0,1,2],(ro 6 rfl (jB [.slice ra49 t.qA.length rc49,yN,.slice a61 t.qC.length c62] [(0,.slice ra49 t.qA.length rc49),(2,.slice a61 t.qC.length c62)] (⟨H.pick [3,4] [0,1,2],(ro 8 rfl (zB H 2 [.slice ra49 t.qA.length rc49,yN,.slice a61 t.qC.length c62] sizeOf38 fun w65 H=>⟨H.pick [3,4] [0,1,2],(xO qh ((meet ⟨_,b47,ra49,rc49,a61,c62,uE3,N,H.pick [2,0,1,3,4] [0,1,2]⟩)))⟩))⟩)))⟩
 clear H N
 rintro ρ w66 ⟨xU,b5,ra6,rc7,a8,c9,rfl,N,H⟩
 refine t_n (zcc (oF rfl (oL rfl (H.cell 4 rfl rfl) (oN rfl (sp (yI 0) (zjn (qX ?_)))))))
 replace H:=H.nilRow 22 1
 replace H:=H.vI (α:=yLI)
 refine zu (fun m' ρ w67=>∃ (xU:Env) (k:Nat) (jU:yOA) (vz:Nat) (jT:Nat) (out_Bags:yLL) (zS:List Value) (zg:yLN),ρ=upd (upd (upd (upd (upd xU 2 (pp b3 0)) 3 (pp b5 0)) 14 (.slice xn t.qE.length xk)) 15 (yI t.qE.length)) 16 (yI k)∧out_Bags=t.qE.take k∧((k:Int)≤t.qE.length)∧m' =(t.qE.length - (k:Int)).toNat∧Fresh w.heap.size [zg]∧St w w67 [rr jU vz jT 22 1 zS,.box b5 [.slice ra6 t.qA.length rc7,.slice jU vz jT,.slice a8 t.qC.length c9] 38,rr a8 t.qC.length c9 2 1 (t.qC.map (Value.int .i64)),rr ra6 t.qA.length rc7 4 1 (t.qA.map (Value.bool)),.box b3 [yN,yN,yN] 38,.box b1 (yT t qV qR xn xk qN qM) 38] [zi true zg zS out_Bags,sF false xR qV qR t.qA,sF false zy xn xk t.qE,sF false xH qN qM t.qC]) ((t.qE.length - (0:Int)).toNat) ⟨_,0,none,0,0,([]:yLL),[],[],uE5,(by rfl),qf,rfl,N.emp,H⟩ ?_
 clear H N
 rintro m' ρ w68 ⟨xU,k,jU,vz,jT,out_Bags,zS,zg,rfl,rfl,i0,rfl,N,H⟩
 have YH:=H.zh (α:=yLI) 0 rfl 0 rfl qj
 have p4:=p3 k
 rw [List.length_take_of_le qf] at YH
 refine zcr (sp (.bool (decide ((k:Int) < t.qE.length))) (zjn (xQ (cD rfl (fun h69=>?_) (fun h69=>?_)))))
 ·skip
  refine qU (t_n (xQ (qX (zcr ?_))))
  obtain ⟨b70,o71,rfl⟩:=H.addr 2 rfl qf
  obtain ⟨ae73,ce73,Fe73,H⟩:=H.vM 2 rfl k k qf qf qf
  refine oI rfl rfl (oL rfl (H.xW 1 rfl 0 rfl) (sp (.slice ae73 ((t.qE[k]!).length) ce73) (zjn ?_)))
  refine c_cut (fun ρ w79=>∃ (xU:Env) (a74:yOA) (c75:Nat) (a76:yOA) (c77:Nat) (G78:yLN),ρ=upd (upd (upd (upd (upd xU 2 (pp b3 0)) 3 (pp b5 0)) 14 (.slice (aa b70 o71) t.qE.length xk)) 15 (yI t.qE.length)) 16 (yI k)∧Fresh w.heap.size [(zg++G78)]∧St w w79 [rr a74 (vz+1) c75 22 1 (zS++[.slice a76 ((t.qE[k]!).length) c77]),.box b5 [.slice ra6 t.qA.length rc7,.slice a74 (vz+1) c75,.slice a8 t.qC.length c9] 38,rr a8 t.qC.length c9 2 1 (t.qC.map (Value.int .i64)),rr ra6 t.qA.length rc7 4 1 (t.qA.map (Value.bool)),.box b3 [yN,yN,yN] 38,.box b1 [.slice qV t.qA.length qR,.slice (aa b70 o71) t.qE.length xk,.slice qN t.qC.length qM] 38] [zi true (zg++G78) (zS++[.slice a76 ((t.qE[k]!).length) c77]) ((t.qE.take k)++[(t.qE[k]!)]),sF true G78 a76 c77 (t.qE[k]!),sF false Fe73 ae73 ce73 (t.qE[k]!),atF b70 (o71+(k:Int).toNat * 1) [.slice ae73 ((t.qE[k]!).length) ce73],sF false xR qV qR t.qA,sF false zy (aa b70 o71) xk t.qE,sF false xH qN qM t.qC]) ?_ ?_
  ·skip
   refine Qn rfl H [2,3,4,5] fun H=>?_
   have S:=H.yl [2,3,4,5] [0,1,2,3,4,5]
   refine tF 0 rfl rfl S ?_
   refine rtp 2 (.slice ae73 ((t.qE[k]!).length) ce73) S ?_
   refine ji [1,3] qh qm (Qg rfl ?_ (Qg rfl ?_ jk))
   ·skip
    refine zN (.slice jU vz jT) isAgg27 rfl (H.cell 1 rfl rfl) (⟨H.pick [2,3,4,5] [0,1,2,3,4,5],(ro 3 rfl ?_)⟩)
    have sz81:=H.base.size
    have lt82:=H.ltN (L:=[zg]) [2]
    refine oc (cloneI_ok _ (t.qE[k]!) (H.get 0 rfl).1 qg) ?_
    rintro v86 w84 r86 x85
    replace H:=H.zD x85 r86
    obtain ⟨a87,c88,rfl,hc89,hm90⟩:=H.jo 0 rfl
    refine ⟨H.pick [3,4,5,6] [0,1,2,3,4,5],(ro 4 rfl (zG H underlying27 ti22 [.slice a87 ((t.qE[k]!).length) c88] fun b91 w92 H=>⟨H.pick [4,5,6,7] [0,1,2,3,4,5],(ro 5 rfl ?_)⟩))⟩
    obtain ⟨G96,N,hn97,H⟩:=H.vS 1 rfl N (H.jQ [2])
    refine zQ H 2 rfl 0 rfl underlying27 ti22 rfl qj rfl rfl rfl (by simp [Value.oneCell',Value.cells]) qp qf fun a93 c94 w95 H=>?_
    replace H:=H.jW 3 rfl 0 rfl
    replace N:Fresh w.heap.size [(zg++G96)]:=(N.pick [1,0]).join
    refine ⟨H.pick [4,5,6,7] [2,3,4,5,6,7],(tF 6 rfl rfl (H.pick [4,5,6,7] [2,3,4,5,6,7]) ?_)⟩
    refine ro 7 rfl (zJ H 3 [.slice ra6 t.qA.length rc7,.slice a93 (vz+1) c94,.slice a8 t.qC.length c9] sizeOf27 fun w98 H=>⟨H.pick [4,5,6,7] [2,3,4,5,6,7],(xO qh ((meet ⟨_,a93,c94,a87,c88,G96,uE5,N,H.pick [2,3,4,5,6,7] [0,1,2,3,5,6,7]⟩)))⟩)
   have sz99:=H.base.size
   have lt100:=H.ltN (L:=[zg]) [2]
   refine oc (cloneI_ok _ (t.qE[k]!) (H.get 0 rfl).1 qg) ?_
   rintro v104 w102 r104 x103
   replace H:=H.zD x103 r104
   obtain ⟨a105,c106,rfl,hc107,hm108⟩:=H.jo 0 rfl
   refine ⟨H.pick [3,4,5,6] [0,1,2,3,4,5],(ji [1,4] qh qm (Qg rfl ?_ (Qg rfl ?_ jk)))⟩
   ·skip
    refine zN (.slice jU vz jT) isAgg27 rfl (H.cell 2 rfl rfl) (⟨H.pick [3,4,5,6] [0,1,2,3,4,5],(ro 4 rfl (zG H underlying27 ti22 [.slice a105 ((t.qE[k]!).length) c106] fun b109 w110 H=>⟨H.pick [4,5,6,7] [0,1,2,3,4,5],(ro 5 rfl ?_)⟩))⟩)
    obtain ⟨G114,N,hn115,H⟩:=H.vS 1 rfl N (H.jQ [2])
    refine zQ H 2 rfl 0 rfl underlying27 ti22 rfl qj rfl rfl rfl (by simp [Value.oneCell',Value.cells]) qp qf fun a111 c112 w113 H=>?_
    replace H:=H.jW 3 rfl 0 rfl
    replace N:Fresh w.heap.size [(zg++G114)]:=(N.pick [1,0]).join
    refine ⟨H.pick [4,5,6,7] [2,3,4,5,6,7],(tF 6 rfl rfl (H.pick [4,5,6,7] [2,3,4,5,6,7]) ?_)⟩
    refine ro 7 rfl (zJ H 3 [.slice ra6 t.qA.length rc7,.slice a111 (vz+1) c112,.slice a8 t.qC.length c9] sizeOf27 fun w116 H=>⟨H.pick [4,5,6,7] [2,3,4,5,6,7],(xO qh ((meet ⟨_,a111,c112,a105,c106,G114,uE5,N,H.pick [2,3,4,5,6,7] [0,1,2,3,5,6,7]⟩)))⟩)
   refine zG H underlying27 ti22 [.slice a105 ((t.qE[k]!).length) c106] fun b117 w118 H=>⟨H.pick [4,5,6,7] [0,1,2,3,4,5],(ro 1 rfl (zN (.slice jU vz jT) isAgg27 rfl (H.cell 3 rfl rfl) (⟨H.pick [4,5,6,7] [0,1,2,3,4,5],(ro 5 rfl ?_)⟩)))⟩
   obtain ⟨G122,N,hn123,H⟩:=H.vS 1 rfl N (H.jQ [2])
   refine zQ H 2 rfl 0 rfl underlying27 ti22 rfl qj rfl rfl rfl (by simp [Value.oneCell',Value.cells]) qp qf fun a119 c120 w121 H=>?_
   replace H:=H.jW 3 rfl 0 rfl
   replace N:Fresh w.heap.size [(zg++G122)]:=(N.pick [1,0]).join
   refine ⟨H.pick [4,5,6,7] [2,3,4,5,6,7],(tF 6 rfl rfl (H.pick [4,5,6,7] [2,3,4,5,6,7]) ?_)⟩
   refine ro 7 rfl (zJ H 3 [.slice ra6 t.qA.length rc7,.slice a119 (vz+1) c120,.slice a8 t.qC.length c9] sizeOf27 fun w124 H=>⟨H.pick [4,5,6,7] [2,3,4,5,6,7],(xO qh ((meet ⟨_,a119,c120,a105,c106,G122,uE5,N,H.pick [2,3,4,5,6,7] [0,1,2,3,5,6,7]⟩)))⟩)
  clear H N
  rintro ρ w125 ⟨xU,a74,c75,a76,c77,G78,rfl,N,H⟩
  refine b_n (t_n (xY (sw (zC k 1 rfl rfl qf (sp (yI (k+1)) (xZ (xf (m' :=(t.qE.length - ((k+1):Int)).toNat) qf ⟨_,k+1,a74,vz+1,c75,((t.qE.take k)++[(t.qE[k]!)]),zS++[.slice a76 ((t.qE[k]!).length) c77],(zg++G78),uE5,?_,?_,rfl,N,H.pick [0,1,2,3,4,5] [0,4,5,6]⟩)))))))
  · exact take_snoc qf
  · omega
 refine zx4 (zcr (sw (zn [.slice ra6 t.qA.length rc7,.slice jU vz jT,.slice a8 t.qC.length c9] isAgg38 sizeOf38 rfl (qF (H.cells 1 rfl) 0 3) (sw (zB H 4 [.slice ra6 t.qA.length rc7,.slice jU vz jT,.slice a8 t.qC.length c9] sizeOf38 fun w126 H=>zjr (retC H 4 rfl rfl isAgg38 sizeOf38 rfl ⟨_,rfl,?_,H.base⟩))))))
 obtain rfl:k=t.qE.length:=by omega
 rw [List.take_length] at H
 exact ⟨ra6,t.qA.length,rc7,jU,vz,jT,zS,zg,a8,t.qC.length,c9,rfl,N,H.pick [3,0,2] [0]⟩
theorem l00Max_ok (w:World) (a:Int) (b:Int):Calls Tryz.prog 119 #[yI a,yI b] w (Ret (fun v w' =>v=yI (max a b)) w):=by
 refine en func119 ntmps119 ?_
 have H:=St.start w
 have N:=Fresh.nil w.heap.size
 refine zcr (sp (yI 0) (zjcc (sps [yI a,yI b,.bool (decide ((a:Int) > b))] (zjn (cD rfl (fun h1=>?_) (fun h1=>?_))))))
 ·skip
  refine zcr (sps [yI a,yI a] (zjr (t_r (ret1 (yI a) rfl rfl ⟨_,rfl,(congrArg (Value.int .i64) ?_),H.base⟩))))
  omega
 refine qU (t_n (zcr (sps [yI b,yI b] (zjr (ret1 (yI b) rfl rfl ⟨_,rfl,(congrArg (Value.int .i64) ?_),H.base⟩)))))
 omega

theorem l01Within_ok (w:World) (l:yLI) (m:yLI) {al:yOA} {Fl:yLN} {am:yOA} {Fm:yLN} (hl:qO.rep w Fl [.slice al l.length cl] l) (hm:qO.rep w Fm [.slice am m.length cm] m) (p0:l.length≤m.length):Calls Tryz.prog 192 #[.slice al l.length cl,.slice am m.length cm] w (Ret (fun v w' =>v=.bool (within l m)) w):=by
 refine en func192 ntmps192 ?_
 have H:=((St.start w).arg hm).arg hl
 have nhl:=qK hl
 have nhm:=qK hm
 clear hl hm
 have N:=Fresh.nil w.heap.size
 refine zcr (sp (.bool false) (zjcc (sp (yI 0) (zjn (qX ?_)))))
 refine zu (fun m' ρ w1=>∃ (xU:Env) (i:Nat),ρ=upd (upd (upd xU 0 (.slice al l.length cl)) 1 (.slice am m.length cm)) 5 (yI i)∧((i:Int)≤l.length)∧(withinTo l m i)∧m' =(l.length - (i:Int)).toNat∧Fresh w.heap.size []∧St w w1 [] [sF false Fl al cl l,sF false Fm am cm m]) ((l.length - (0:Int)).toNat) ⟨_,0,uE3,qf,(by exact withinTo_zero l m),rfl,N,H⟩ ?_
 clear H N
 rintro m' ρ w2 ⟨xU,i,rfl,i0,i1,rfl,N,H⟩
 refine zcc (sps [yI i,.slice al l.length cl] (oN rfl (sp (.bool (decide ((i:Int) < l.length))) (zjn (cD rfl (fun h3=>?_) (fun h3=>?_))))))
 ·skip
  refine qU (t_n (xQ (qX (xQ ?_))))
  refine vT rfl H fun H=>rtp 0 (.slice al l.length cl) H ?_
  refine rtp 1 (yI i) H ?_
  obtain ⟨b5,o6,rfl⟩:=H.addr 0 rfl qf
  refine tI 2 rfl rfl rfl H ?_
  refine tL 3 rfl rfl (fun _ h=>h.yu 0 rfl i qf) H ?_
  refine rtp 4 (.slice am m.length cm) H ?_
  refine rtp 5 (yI i) H ?_
  obtain ⟨b8,o9,rfl⟩:=H.addr 1 rfl qf
  refine tI 6 rfl rfl rfl H ?_
  refine tL 7 rfl rfl (fun _ h=>h.yu 1 rfl i qf) H ?_
  refine rtp 8 (.bool (decide ((l[i]! :Int) > (m[i]!)))) H ?_
  refine xO qh (t_n (cD rfl (fun h11=>?_) (fun h11=>?_)))
  ·skip
   refine zcr (sp (.bool false) (zjr (zr5 (ret1 (.bool false) rfl rfl ⟨_,rfl,?_,H.base⟩))))
   rw [within_no (k:=i) ‹_› qf]
  refine qU (b_n (t_n (xY (sp (yI i) (sw (zC i 1 rfl rfl qf (sp (yI (i+1)) (xZ (xf (m' :=(l.length - ((i+1):Int)).toNat) qf ⟨_,i+1,uE3,?_,?_,rfl,N,H⟩)))))))))
  · omega
  · exact withinTo_succ ‹_› qf
 refine zx4 (zcr (sp (.bool true) (zjr (ret1 (.bool true) rfl rfl ⟨_,rfl,?_,H.base⟩))))
 rw [within_yes ‹_› qf]

theorem l01Times_ok (w:World) (l:yLI) (m:yLI) {al:yOA} {Fl:yLN} {am:yOA} {Fm:yLN} (hl:qO.rep w Fl [.slice al l.length cl] l) (hm:qO.rep w Fm [.slice am m.length cm] m) (p0:l.length≤m.length) (p2:∀ k,k < l.length→0≤m[k]! ∧m[k]! ≤1000) (p3:∃ j,j < l.length∧0 < l[j]!):Calls Tryz.prog 199 #[.slice al l.length cl,.slice am m.length cm] w (Ret (fun v w' =>v=yI (jm l m)) w):=by
 refine en func199 ntmps199 ?_
 have H:=((St.start w).arg hm).arg hl
 have nhl:=qK hl
 have nhm:=qK hm
 clear hl hm
 have N:=Fresh.nil w.heap.size
 refine zcr (sp (yI 0) (zjc (sp (yI (-1)) (zjcc (sp (yI 0) (zjn (qX ?_)))))))
 refine zu (fun m' ρ w1=>∃ (xU:Env) (best:Int) (i:Nat),ρ=upd (upd (upd (upd xU 0 (.slice al l.length cl)) 1 (.slice am m.length cm)) 5 (yI best)) 6 (yI i)∧((i:Int)≤l.length)∧(XE l m i best)∧m' =(l.length - (i:Int)).toNat∧Fresh w.heap.size []∧St w w1 [] [sF false Fl al cl l,sF false Fm am cm m]) ((l.length - (0:Int)).toNat) ⟨_,(-1),0,uE4,qf,(by exact XE.zero l m),rfl,N,H⟩ ?_
 clear H N
 rintro m' ρ w2 ⟨xU,best,i,rfl,i0,i1,rfl,N,H⟩
 refine zcc (sps [yI i,.slice al l.length cl] (oN rfl (sp (.bool (decide ((i:Int) < l.length))) (zjn (cD rfl (fun h3=>?_) (fun h3=>?_))))))
 ·skip
  refine qU (t_n (xQ (qX (xQ ?_))))
  refine vT rfl H fun H=>rtp 0 (.slice al l.length cl) H ?_
  refine rtp 1 (yI i) H ?_
  obtain ⟨b5,o6,rfl⟩:=H.addr 0 rfl qf
  refine tI 2 rfl rfl rfl H ?_
  refine tL 3 rfl rfl (fun _ h=>h.yu 0 rfl i qf) H ?_
  refine rtp 4 (.bool (decide ((l[i]! :Int) > 0))) H ?_
  refine rtp 5 (.bool (decide ((l[i]! :Int) > 0))) H ?_
  cases h8:(decide ((l[i]! :Int) > 0))
  ·skip
   replace h8:=of_decide_eq_false h8
   refine zT [6,7,8,9,10,11,12,13,14,15,16,17,18,19,20] 15 (H) (rtp 21 (.bool false) H ?_)
   refine xO qh (t_n (xK false rfl (fun h=>absurd h qj) (fun _=>qU (b_n (t_n (xY (sp (yI i) (sw (zC i 1 rfl rfl (by (have:=p2 i qf;omega)) (sp (yI (i+1)) (xZ (xf (m' :=(l.length - ((i+1):Int)).toNat) qf ⟨_,best,i+1,uE4,?_,?_,rfl,N,H⟩))))))))))))
   · omega
   · first | exact i1.take (p2 i qf) qf qf (timesTo_bd (fun k hk=>(p2 k hk).1) i qf).1 | exact i1.keep qf | exact i1.keep2 qf qf qf
  replace h8:=of_decide_eq_true h8
  refine rgp 6 (yI best) 18 H ?_
  refine rgp 7 (.bool (decide ((best:Int) < 0))) 18 H ?_
  refine rgp 8 (.bool (decide ((best:Int) < 0))) 18 H ?_
  cases h9:(decide ((best:Int) < 0))
  ·skip
   replace h9:=of_decide_eq_false h9
   refine rgp 9 (.slice am m.length cm) 21 H ?_
   refine rgp 10 (yI i) 21 H ?_
   obtain ⟨b10,o11,rfl⟩:=H.addr 1 rfl qf
   refine gI 11 rfl rfl rfl H ?_
   refine gL 12 rfl rfl (fun _ h=>h.jC 1 rfl i qf qf) H ?_
   refine rgp 13 (.slice (aa b5 o6) l.length cl) 21 H ?_
   refine rgp 14 (yI i) 21 H ?_
   refine gI 15 rfl rfl rfl H ?_
   refine gL 16 rfl rfl (fun _ h=>h.jC 0 rfl i qf qf) H ?_
   refine rg 17 (yI ((m[i]!) / (l[i]!))) 21 (y_quo (m[i]!) (l[i]!) rfl rfl (by (have:=p2 i qf;omega)) (by (have:=p2 i qf;omega))) H ?_
   refine rgp 18 (yI best) 21 H ?_
   refine rgp 19 (.bool (decide (((m[i]!) / (l[i]!):Int) < best))) 21 H ?_
   refine rgp 20 (.bool (decide (((m[i]!) / (l[i]!):Int) < best))) 18 H ?_
   refine rtp 21 (.bool (decide (((m[i]!) / (l[i]!):Int) < best))) H ?_
   refine xO qh (t_n (cD rfl (fun h13=>?_) (fun h13=>?_)))
   ·skip
    refine vT rfl H fun H=>rtp 0 (.slice (aa b10 o11) m.length cm) H ?_
    refine rtp 1 (yI i) H ?_
    refine tI 2 rfl rfl rfl H ?_
    refine tL 3 rfl rfl (fun _ h=>h.yu 1 rfl i qf) H ?_
    refine rtp 4 (.slice (aa b5 o6) l.length cl) H ?_
    refine rtp 5 (yI i) H ?_
    refine tI 6 rfl rfl rfl H ?_
    refine tL 7 rfl rfl (fun _ h=>h.yu 0 rfl i qf) H ?_
    refine rt 8 (yI ((m[i]!) / (l[i]!))) (y_quo (m[i]!) (l[i]!) rfl rfl (by (have:=p2 i qf;omega)) (by (have:=p2 i qf;omega))) H ?_
    refine rtp 9 (yI ((m[i]!) / (l[i]!))) H ?_
    refine xO qh (b_n (t_n (xY (sp (yI i) (sw (zC i 1 rfl rfl (by (have:=p2 i qf;omega)) (sp (yI (i+1)) (xZ (xf (m' :=(l.length - ((i+1):Int)).toNat) qf ⟨_,(m[i]!) / (l[i]!),i+1,uE4,?_,?_,rfl,N,H⟩)))))))))
    · omega
    · first | exact i1.take (p2 i qf) qf qf (timesTo_bd (fun k hk=>(p2 k hk).1) i qf).1 | exact i1.keep qf | exact i1.keep2 qf qf qf
   refine qU (b_n (t_n (xY (sp (yI i) (sw (zC i 1 rfl rfl (by (have:=p2 i qf;omega)) (sp (yI (i+1)) (xZ (xf (m' :=(l.length - ((i+1):Int)).toNat) qf ⟨_,best,i+1,uE4,?_,?_,rfl,N,H⟩)))))))))
   · omega
   · first | exact i1.take (p2 i qf) qf qf (timesTo_bd (fun k hk=>(p2 k hk).1) i qf).1 | exact i1.keep qf | exact i1.keep2 qf qf qf
  replace h9:=of_decide_eq_true h9
  refine zT [9,10,11,12,13,14,15,16,17,18,19] 11 (H) (rgp 20 (.bool true) 18 H ?_)
  refine rtp 21 (.bool true) H ?_
  refine xO qh (t_n (xK true rfl (fun _=>?_) (fun h=>absurd h qj)))
  refine vT rfl H fun H=>rtp 0 (.slice am m.length cm) H ?_
  refine rtp 1 (yI i) H ?_
  obtain ⟨b16,o17,rfl⟩:=H.addr 1 rfl qf
  refine tI 2 rfl rfl rfl H ?_
  refine tL 3 rfl rfl (fun _ h=>h.yu 1 rfl i qf) H ?_
  refine rtp 4 (.slice (aa b5 o6) l.length cl) H ?_
  refine rtp 5 (yI i) H ?_
  refine tI 6 rfl rfl rfl H ?_
  refine tL 7 rfl rfl (fun _ h=>h.yu 0 rfl i qf) H ?_
  refine rt 8 (yI ((m[i]!) / (l[i]!))) (y_quo (m[i]!) (l[i]!) rfl rfl (by (have:=p2 i qf;omega)) (by (have:=p2 i qf;omega))) H ?_
  refine rtp 9 (yI ((m[i]!) / (l[i]!))) H ?_
  refine xO qh (b_n (t_n (xY (sp (yI i) (sw (zC i 1 rfl rfl (by (have:=p2 i qf;omega)) (sp (yI (i+1)) (xZ (xf (m' :=(l.length - ((i+1):Int)).toNat) qf ⟨_,(m[i]!) / (l[i]!),i+1,uE4,?_,?_,rfl,N,H⟩)))))))))
  · omega
  · first | exact i1.take (p2 i qf) qf qf (timesTo_bd (fun k hk=>(p2 k hk).1) i qf).1 | exact i1.keep qf | exact i1.keep2 qf qf qf
 refine zx4 (zcr (sps [yI best,yI best] (zjr (ret1 (yI best) rfl rfl ⟨_,rfl,?_,H.base⟩))))
 obtain rfl:i=l.length:=by omega
 rw [i1.done p3];rfl

theorem l03Both_ok (w:World) (s:qG) (t:qJ) {qB:yOA} {qZ:yLN} {qL:yOA} {xE:yLN} {qV:yOA} {xR:yLN} {xn:yOA} {zy:yLN} {qN:yOA} {xH:yLN} (hs:ve w bs os (yS s qB qy qL qI)) (xe:qO.rep w qZ [.slice qB s.qw.length qy] s.qw) (xJ:qO.rep w xE [.slice qL s.qx.length qI] s.qx) (ht:ve w bt ot (yT t qV qR xn xk qN qM)) (zl:qO.rep w xR [.slice qV t.qA.length qR] t.qA) (zK:qO.rep w zy [.slice xn t.qE.length xk] t.qE) (xP:qO.rep w xH [.slice qN t.qC.length qM] t.qC):Calls Tryz.prog 57 #[pp bs os,pp bt ot] w (Ret (fun v w' =>v=.bool (dec (jO s∧zF s t))) w):=by
 refine en func57 ntmps57 ?_
 have H:=(((((((St.start w).arg xP).arg zK).arg zl).XW ht).arg xJ).arg xe).XW hs
 have zY:=qK xe
 have jb:=qK xJ
 have Qd:=qK zl
 have QQ:=qK zK
 have jP:=qK xP
 clear hs xe xJ ht zl zK xP
 have N:=Fresh.nil w.heap.size
 refine zcr (sp (.bool false) (zjc (sp (pp bs os) (sw (oq (l02Ok_ok _ s (qF (H.get 0 rfl) 0 3) (H.get 1 rfl).1 (H.get 2 rfl).1) H fun w1 H=>sp (.bool (dec (jO s))) ?_)))))
 cases h3:(dec (jO s))
 ·skip
  replace h3:=vk h3
  refine zo [8,9,10] (sps [.bool false,.bool false] (zjr (ret1 (.bool false) rfl rfl ⟨_,rfl,?_,H.base⟩)))
  rw [xx (fun h=>‹¬ jO s› h.1)]
 replace h3:=QD h3
 refine qP 7 rfl rfl (sp (pp bs os) (qP 7 rfl rfl (sp (pp bt ot) (qP 7 rfl rfl (sw (oq (l02State_ok _ s t (qF (H.get 0 rfl) 0 3) (H.get 1 rfl).1 (H.get 2 rfl).1 (qF (H.get 3 rfl) 0 3) (H.get 4 rfl).1 (H.get 5 rfl).1 (H.get 6 rfl).1 (by first | assumption | exact (And.left (by assumption:jO _)))) H fun w4 H=>sps [.bool (dec (zF s t)),.bool (dec (zF s t))] (zjr (ret1 (.bool (dec (zF s t))) rfl rfl ⟨_,rfl,(congrArg Value.bool (dec_eq ?_)),H.base⟩))))))))
 first | exact ⟨fun h=>⟨‹_›,QD h⟩,fun h=>yD h.2⟩ | (simp_all;done)

theorem l03Enabled_ok (w:World) (s:qG) (t:qJ) (r:QU) {qB:yOA} {qZ:yLN} {qL:yOA} {xE:yLN} {qV:yOA} {xR:yLN} {xn:yOA} {zy:yLN} {qN:yOA} {xH:yLN} {br or:Nat} {yL:yOA} {Yr:yLN} {yP:yOA} {Yv:yLN} {yM:yOA} {Yt:yLN} {yO:yOA} {Yu:yLN} {Xv:yOA} {FrOut:yLN} {yh:yOA} {FrInto:yLN} (hs:ve w bs os (yS s qB qy qL qI)) (xe:qO.rep w qZ [.slice qB s.qw.length qy] s.qw) (xJ:qO.rep w xE [.slice qL s.qx.length qI] s.qx) (ht:ve w bt ot (yT t qV qR xn xk qN qM)) (zl:qO.rep w xR [.slice qV t.qA.length qR] t.qA) (zK:qO.rep w zy [.slice xn t.qE.length xk] t.qE) (xP:qO.rep w xH [.slice qN t.qC.length qM] t.qC) (hr:ve w br or [yI r.qH,yI r.zM,.slice yL r.xm.length yF,.slice yP r.xF.length yJ,.slice yM r.xI.length yG,.slice yO r.xM.length yH,.slice Xv r.zV.length Xu,.slice yh r.qQ.length yf,.bool r.zA]) (hrNeed:qO.rep w Yr [.slice yL r.xm.length yF] r.xm) (hrHave:qO.rep w Yv [.slice yP r.xF.length yJ] r.xF) (hrLack:qO.rep w Yt [.slice yM r.xI.length yG] r.xI) (hrHere:qO.rep w Yu [.slice yO r.xM.length yH] r.xM) (hrOut:qO.rep w FrOut [.slice Xv r.zV.length Xu] r.zV) (hrInto:qO.rep w FrInto [.slice yh r.qQ.length yf] r.qQ) (p0:jO s) (p1:zF s t) (p2:RuleOk s r):Calls Tryz.prog 157 #[pp bs os,pp bt ot,pp br or] w (Ret (fun v w' =>v=.bool (dec (EnOk s t r))) w):=by
 refine en func157 ntmps157 ?_
 have H:=((((((((((((((St.start w).arg hrInto).arg hrOut).arg hrHere).arg hrLack).arg hrHave).arg hrNeed).XW hr).arg xP).arg zK).arg zl).XW ht).arg xJ).arg xe).XW hs
 have zY:=qK xe
 have jb:=qK xJ
 have Qd:=qK zl
 have QQ:=qK zK
 have jP:=qK xP
 have nhrNeed:=qK hrNeed
 have nhrHave:=qK hrHave
 have nhrLack:=qK hrLack
 have nhrHere:=qK hrHere
 have nhrOut:=qK hrOut
 have nhrInto:=qK hrInto
 clear hs xe xJ ht zl zK xP hr hrNeed hrHave hrLack hrHere hrOut hrInto
 have N:=Fresh.nil w.heap.size
 have p3:=p2.1
 have p4:=p1.1
 have p5:=p1.2.1
 have p6:=(p1.bagLen (k:=r.qH.toNat) qf).len
 have p7:=p2.2.2.2.2.1.len
 have p8:=p2.2.2.2.2.2.1.len
 have p9:=p2.2.2.2.2.2.2.1.len
 have p10:=vJ p2.2.2.2.2.2.2.1
 have p11:=p0.1
 have p12:=p2.2.2.2.2.2.2.2.2.2.2
 refine zcr (sp (.bool false) (zjn (xQ (xQ ?_))))
 refine vT rfl H fun H=>rtp 0 (pp bt ot) H ?_
 refine rtp 1 (pp bt ot) H ?_
 refine tF 2 rfl rfl H ?_
 refine tL 3 rfl rfl (fun _ h=>h.xW 3 rfl 0 rfl) H ?_
 refine rtp 4 (pp br or) H ?_
 refine rtp 5 (pp br or) H ?_
 refine tF 6 rfl rfl H ?_
 refine tL 7 rfl rfl (fun _ h=>h.xW 7 rfl 0 rfl) H ?_
 obtain ⟨b2,o3,rfl⟩:=H.addr 4 rfl qf
 refine tI 8 rfl rfl rfl H ?_
 refine tL 9 rfl rfl (fun _ h=>h.Vb 4 rfl r.qH qf qf) H ?_
 refine rtp 10 (.bool (!(t.qA[r.qH.toNat]!))) H ?_
 refine xO qh (t_n (xK (!(t.qA[r.qH.toNat]!)) rfl (fun h5=>?_) (fun h5=>?_)))
 ·skip
  replace h5:=xw h5
  refine zcr (sp (.bool false) (zjr (t_r (ret1 (.bool false) rfl rfl ⟨_,rfl,?_,H.base⟩))))
  rw [xx (fun h=>by obtain ⟨h1,h2,h3,h4,h5⟩:=h;first | exact ft h1 ‹_› | exact ft h2 ‹_› | exact ft h3 ‹_› | exact h4 ⟨‹_›,‹_›⟩ | (obtain ⟨q1,q2⟩:=h5 i qf;first | exact ft q1 ‹_› | exact absurd q2 ‹_›))]
 replace h5:=xh h5
 refine qU (t_n (xQ ?_))
 refine vT rfl H fun H=>rtp 0 (pp bt ot) H ?_
 refine rtp 1 (pp bt ot) H ?_
 refine tF 2 rfl rfl H ?_
 refine tL 3 rfl rfl (fun _ h=>h.xW 3 rfl 1 rfl) H ?_
 refine rtp 4 (pp br or) H ?_
 refine rtp 5 (pp br or) H ?_
 refine tF 6 rfl rfl H ?_
 refine tL 7 rfl rfl (fun _ h=>h.xW 7 rfl 0 rfl) H ?_
 obtain ⟨b7,o8,rfl⟩:=H.addr 5 rfl qf
 obtain ⟨ae10,ce10,Fe10,H⟩:=H.vM 5 rfl r.qH r.qH.toNat qf qf qf
 refine tI 8 rfl rfl rfl (H.pick [] [2,3,4,5,6,7,8,9,10,11,12,13,14,15]) ?_
 refine ro 9 rfl (zN (.slice ae10 ((t.qE[r.qH.toNat]!).length) ce10) isAgg22 rfl (H.xW 1 rfl 0 rfl) (⟨H.pick [] [2,3,4,5,6,7,8,9,10,11,12,13,14,15],(rtp 10 (.slice ae10 ((t.qE[r.qH.toNat]!).length) ce10) (H.pick [] [2,3,4,5,6,7,8,9,10,11,12,13,14,15]) ?_)⟩))
 refine xO qh (t_n (zcc (sps [pp br or,pp br or] (oF rfl (oL rfl (H.xW 9 rfl 2 rfl) (sp (.slice ae10 ((t.qE[r.qH.toNat]!).length) ce10) (sw (oq (l01Within_ok _ r.xm (t.qE[r.qH.toNat]!) (H.get 10 rfl).1 (H.get 0 rfl).1 qg) H fun w12 H=>sps [.bool (!(within r.xm (t.qE[r.qH.toNat]!))),.bool (!(within r.xm (t.qE[r.qH.toNat]!)))] ?_))))))))
 cases h14:(!(within r.xm (t.qE[r.qH.toNat]!)))
 ·skip
  replace h14:=xh h14
  refine qP 38 rfl rfl (sp (pp br or) (qP 38 rfl rfl (sp (pp br or) (qP 38 rfl rfl (oF rfl (qP 38 rfl rfl (oL rfl (H.xW 9 rfl 3 rfl) (qP 38 rfl rfl (sp (.slice ae10 ((t.qE[r.qH.toNat]!).length) ce10) (qP 38 rfl rfl (sw (oq (l01Within_ok _ r.xF (t.qE[r.qH.toNat]!) (H.get 11 rfl).1 (H.get 0 rfl).1 qg) H fun w16 H=>qP 38 rfl rfl (sps [.bool (!(within r.xF (t.qE[r.qH.toNat]!))),.bool (!(within r.xF (t.qE[r.qH.toNat]!))),.bool (!(within r.xF (t.qE[r.qH.toNat]!)))] ?_)))))))))))))
  cases h18:(!(within r.xF (t.qE[r.qH.toNat]!)))
  ·skip
   replace h18:=xh h18
   refine qP 47 rfl rfl (sp (pp br or) (qP 47 rfl rfl (sp (pp br or) (qP 47 rfl rfl (oF rfl (qP 47 rfl rfl (oL rfl (H.xW 9 rfl 4 rfl) (qP 47 rfl rfl (sw (oq (YQ _ r.xI (H.get 12 rfl).1 (by first | assumption | exact vJ ql | exact Qo ql)) H fun w19 H=>qP 47 rfl rfl (sp (.bool (decide ((VN r.xI:Int) > 0))) (qP 47 rfl rfl (sp (.bool (decide ((VN r.xI:Int) > 0))) ?_)))))))))))))
   cases h21:(decide ((VN r.xI:Int) > 0))
   ·skip
    replace h21:=of_decide_eq_false h21
    refine zo [55,56,57,58,59,60] (qP 47 rfl rfl (sps [.bool false,.bool false] (zjn (xK false rfl (fun h=>absurd h qj) (fun _=>qU (t_n (zcc (sp (yI 0) (zjn (qX ?_))))))))))
    refine zu (fun m' ρ w22=>∃ (xU:Env) (i:Nat),ρ=upd (upd (upd (upd xU 0 (pp bs os)) 1 (pp bt ot)) 2 (pp br or)) 8 (yI i)∧((i:Int)≤r.qQ.length)∧(IntoUp s t r i)∧m' =(r.qQ.length - (i:Int)).toNat∧Fresh w.heap.size []∧St w w22 [] [sF false Fe10 ae10 ce10 (t.qE[r.qH.toNat]!),atF b7 (o8+(r.qH:Int).toNat * 1) [.slice ae10 ((t.qE[r.qH.toNat]!).length) ce10],atF bs os (yS s qB qy qL qI),sF false qZ qB qy s.qw,sF false xE qL qI s.qx,atF bt ot [.slice (aa b2 o3) t.qA.length qR,.slice (aa b7 o8) t.qE.length xk,.slice qN t.qC.length qM],sF false xR (aa b2 o3) qR t.qA,sF false zy (aa b7 o8) xk t.qE,sF false xH qN qM t.qC,atF br or [yI r.qH,yI r.zM,.slice yL r.xm.length yF,.slice yP r.xF.length yJ,.slice yM r.xI.length yG,.slice yO r.xM.length yH,.slice Xv r.zV.length Xu,.slice yh r.qQ.length yf,.bool r.zA],sF false Yr yL yF r.xm,sF false Yv yP yJ r.xF,sF false Yt yM yG r.xI,sF false Yu yO yH r.xM,sF false FrOut Xv Xu r.zV,sF false FrInto yh yf r.qQ]) ((r.qQ.length - (0:Int)).toNat) ⟨_,0,uE4,qf,(by exact fun j hj=>by omega),rfl,N,H⟩ ?_
    clear H N
    rintro m' ρ w23 ⟨xU,i,rfl,i0,i1,rfl,N,H⟩
    refine zcc (sps [yI i,pp br or,pp br or] (oF rfl (oL rfl (H.xW 9 rfl 7 rfl) (oN rfl (sp (.bool (decide ((i:Int) < r.qQ.length))) (zjn (cD rfl (fun h24=>?_) (fun h24=>?_))))))))
    ·skip
     have q:=(p12 i qf).1
     have q1:=q.1
     have q2:=q.2
     refine qU (t_n (xQ (qX (zcr (sps [pp br or,pp br or] (oF rfl (oL rfl (H.xW 9 rfl 7 rfl) (sp (yI i) ?_))))))))
     obtain ⟨b25,o26,rfl⟩:=H.addr 15 rfl qf
     obtain ⟨ae28Bag,ce28Bag,Fe28Bag,H⟩:=H.jS 15 rfl i i qf qf qf
     refine oI rfl rfl (oF rfl (oL rfl (H.xW 1 rfl 0 rfl) (sp (yI ((r.qQ[i]!).qH)) (zjn (xQ ?_)))))
     refine vT rfl H fun H=>rtp 0 (pp bt ot) H ?_
     refine rtp 1 (pp bt ot) H ?_
     refine tF 2 rfl rfl H ?_
     refine tL 3 rfl rfl (fun _ h=>h.xW 7 rfl 0 rfl) H ?_
     refine rtp 4 (yI ((r.qQ[i]!).qH)) H ?_
     refine tI 5 rfl rfl rfl H ?_
     refine tL 6 rfl rfl (fun _ h=>h.Vb 8 rfl ((r.qQ[i]!).qH) qf qf) H ?_
     refine rtp 7 (.bool (!(t.qA[((r.qQ[i]!).qH).toNat]!))) H ?_
     refine rtp 8 (.bool (!(t.qA[((r.qQ[i]!).qH).toNat]!))) H ?_
     cases h30:(!(t.qA[((r.qQ[i]!).qH).toNat]!))
     ·skip
      replace h30:=xh h30
      refine rgp 9 (pp bs os) 88 H ?_
      refine rgp 10 (pp bt ot) 88 H ?_
      refine rgp 11 (yI ((r.qQ[i]!).qH)) 88 H ?_
      refine rgp 13 (pp br or) 88 H ?_
      refine rgp 14 (pp br or) 88 H ?_
      refine gF 15 rfl rfl H ?_
      refine gL 16 rfl rfl (fun _ h=>h.xW 11 rfl 0 rfl) H ?_
      refine ji [12] qh qm (YE rfl (e:=88) rfl rfl (oq (l02Parent_ok _ s t ((r.qQ[i]!).qH) (qF (H.get 4 rfl) 0 3) (H.get 5 rfl).1 (H.get 6 rfl).1 (qF (H.get 7 rfl) 0 3) (H.get 8 rfl).1 (H.get 9 rfl).1 (H.get 10 rfl).1 ql ql ql) H fun w31 H=>⟨H,(rgp 17 (.bool ((xA s t ((r.qQ[i]!).qH):Int) != r.qH)) 88 H ?_)⟩) jk)
      refine rtp 18 (.bool ((xA s t ((r.qQ[i]!).qH):Int) != r.qH)) H ?_
      refine xO qh (t_n (xK ((xA s t ((r.qQ[i]!).qH):Int) != r.qH) rfl (fun h33=>?_) (fun h33=>?_)))
      ·skip
       replace h33:=bne_iff_ne.1 h33
       refine zcr (sp (.bool false) (zjr (zr5 (ret1 (.bool false) rfl rfl ⟨_,rfl,?_,H.base⟩))))
       rw [xx (fun h=>by obtain ⟨h1,h2,h3,h4,h5⟩:=h;first | exact ft h1 ‹_› | exact ft h2 ‹_› | exact ft h3 ‹_› | exact h4 ⟨‹_›,‹_›⟩ | (obtain ⟨q1,q2⟩:=h5 i qf;first | exact ft q1 ‹_› | exact absurd q2 ‹_›))]
      replace h33:=xq h33
      refine qU (b_n (t_n (xY (sp (yI i) (sw (zC i 1 rfl rfl qf (sp (yI (i+1)) (xZ (xf (m' :=(r.qQ.length - ((i+1):Int)).toNat) qf ⟨_,i+1,uE4,?_,?_,rfl,N,H.pick [] [2,3,4,5,6,7,8,9,10,11,12,13,14,15,16,17]⟩)))))))))
      · omega
      · exact i1.succ ‹_› ‹_›
     replace h30:=xw h30
     refine zT [9,10,11,12,13,14,15,16,17] 9 (H) (rtp 18 (.bool true) H ?_)
     refine xO qh (t_n (xK true rfl (fun _=>zcr (sp (.bool false) (zjr (zr5 (ret1 (.bool false) rfl rfl ⟨_,rfl,?_,H.base⟩))))) (fun h=>absurd h qj)))
     rw [xx (fun h=>by obtain ⟨h1,h2,h3,h4,h5⟩:=h;first | exact ft h1 ‹_› | exact ft h2 ‹_› | exact ft h3 ‹_› | exact h4 ⟨‹_›,‹_›⟩ | (obtain ⟨q1,q2⟩:=h5 i qf;first | exact ft q1 ‹_› | exact absurd q2 ‹_›))]
    refine zx4 (zcr (sp (.bool true) (zjr (ret1 (.bool true) rfl rfl ⟨_,rfl,?_,H.base⟩))))
    rw [yD ⟨by assumption,by assumption,by assumption,fun ⟨u,v⟩=>by first | omega | exact ft v ‹_›,(show i=r.qQ.length by omega)▸i1⟩]
   replace h21:=of_decide_eq_true h21
   refine qP 54 rfl rfl (sp (pp br or) (qP 54 rfl rfl (sp (pp br or) (qP 54 rfl rfl (oF rfl (qP 54 rfl rfl (oL rfl (H.xW 9 rfl 4 rfl) (qP 54 rfl rfl (sp (.slice ae10 ((t.qE[r.qH.toNat]!).length) ce10) (qP 54 rfl rfl (sw (oq (l01Within_ok _ r.xI (t.qE[r.qH.toNat]!) (H.get 12 rfl).1 (H.get 0 rfl).1 qg) H fun w35 H=>qP 47 rfl rfl (sps [.bool (within r.xI (t.qE[r.qH.toNat]!)),.bool (within r.xI (t.qE[r.qH.toNat]!))] (zjn (xK (within r.xI (t.qE[r.qH.toNat]!)) rfl (fun h37=>?_) (fun h37=>?_))))))))))))))))
   ·skip
    refine zcr (sp (.bool false) (zjr (t_r (ret1 (.bool false) rfl rfl ⟨_,rfl,?_,H.base⟩))))
    rw [xx (fun h=>by obtain ⟨h1,h2,h3,h4,h5⟩:=h;first | exact ft h1 ‹_› | exact ft h2 ‹_› | exact ft h3 ‹_› | exact h4 ⟨‹_›,‹_›⟩ | (obtain ⟨q1,q2⟩:=h5 i qf;first | exact ft q1 ‹_› | exact absurd q2 ‹_›))]
   refine qU (t_n (zcc (sp (yI 0) (zjn (qX ?_)))))
   refine zu (fun m' ρ w38=>∃ (xU:Env) (i:Nat),ρ=upd (upd (upd (upd xU 0 (pp bs os)) 1 (pp bt ot)) 2 (pp br or)) 8 (yI i)∧((i:Int)≤r.qQ.length)∧(IntoUp s t r i)∧m' =(r.qQ.length - (i:Int)).toNat∧Fresh w.heap.size []∧St w w38 [] [sF false Fe10 ae10 ce10 (t.qE[r.qH.toNat]!),atF b7 (o8+(r.qH:Int).toNat * 1) [.slice ae10 ((t.qE[r.qH.toNat]!).length) ce10],atF bs os (yS s qB qy qL qI),sF false qZ qB qy s.qw,sF false xE qL qI s.qx,atF bt ot [.slice (aa b2 o3) t.qA.length qR,.slice (aa b7 o8) t.qE.length xk,.slice qN t.qC.length qM],sF false xR (aa b2 o3) qR t.qA,sF false zy (aa b7 o8) xk t.qE,sF false xH qN qM t.qC,atF br or [yI r.qH,yI r.zM,.slice yL r.xm.length yF,.slice yP r.xF.length yJ,.slice yM r.xI.length yG,.slice yO r.xM.length yH,.slice Xv r.zV.length Xu,.slice yh r.qQ.length yf,.bool r.zA],sF false Yr yL yF r.xm,sF false Yv yP yJ r.xF,sF false Yt yM yG r.xI,sF false Yu yO yH r.xM,sF false FrOut Xv Xu r.zV,sF false FrInto yh yf r.qQ]) ((r.qQ.length - (0:Int)).toNat) ⟨_,0,uE4,qf,(by exact fun j hj=>by omega),rfl,N,H⟩ ?_
   clear H N
   rintro m' ρ w39 ⟨xU,i,rfl,i0,i1,rfl,N,H⟩
   refine zcc (sps [yI i,pp br or,pp br or] (oF rfl (oL rfl (H.xW 9 rfl 7 rfl) (oN rfl (sp (.bool (decide ((i:Int) < r.qQ.length))) (zjn (cD rfl (fun h40=>?_) (fun h40=>?_))))))))
   ·skip
    have q:=(p12 i qf).1
    have q1:=q.1
    have q2:=q.2
    refine qU (t_n (xQ (qX (zcr (sps [pp br or,pp br or] (oF rfl (oL rfl (H.xW 9 rfl 7 rfl) (sp (yI i) ?_))))))))
    obtain ⟨b41,o42,rfl⟩:=H.addr 15 rfl qf
    obtain ⟨ae44Bag,ce44Bag,Fe44Bag,H⟩:=H.jS 15 rfl i i qf qf qf
    refine oI rfl rfl (oF rfl (oL rfl (H.xW 1 rfl 0 rfl) (sp (yI ((r.qQ[i]!).qH)) (zjn (xQ ?_)))))
    refine vT rfl H fun H=>rtp 0 (pp bt ot) H ?_
    refine rtp 1 (pp bt ot) H ?_
    refine tF 2 rfl rfl H ?_
    refine tL 3 rfl rfl (fun _ h=>h.xW 7 rfl 0 rfl) H ?_
    refine rtp 4 (yI ((r.qQ[i]!).qH)) H ?_
    refine tI 5 rfl rfl rfl H ?_
    refine tL 6 rfl rfl (fun _ h=>h.Vb 8 rfl ((r.qQ[i]!).qH) qf qf) H ?_
    refine rtp 7 (.bool (!(t.qA[((r.qQ[i]!).qH).toNat]!))) H ?_
    refine rtp 8 (.bool (!(t.qA[((r.qQ[i]!).qH).toNat]!))) H ?_
    cases h46:(!(t.qA[((r.qQ[i]!).qH).toNat]!))
    ·skip
     replace h46:=xh h46
     refine rgp 9 (pp bs os) 88 H ?_
     refine rgp 10 (pp bt ot) 88 H ?_
     refine rgp 11 (yI ((r.qQ[i]!).qH)) 88 H ?_
     refine rgp 13 (pp br or) 88 H ?_
     refine rgp 14 (pp br or) 88 H ?_
     refine gF 15 rfl rfl H ?_
     refine gL 16 rfl rfl (fun _ h=>h.xW 11 rfl 0 rfl) H ?_
     refine ji [12] qh qm (YE rfl (e:=88) rfl rfl (oq (l02Parent_ok _ s t ((r.qQ[i]!).qH) (qF (H.get 4 rfl) 0 3) (H.get 5 rfl).1 (H.get 6 rfl).1 (qF (H.get 7 rfl) 0 3) (H.get 8 rfl).1 (H.get 9 rfl).1 (H.get 10 rfl).1 ql ql ql) H fun w47 H=>⟨H,(rgp 17 (.bool ((xA s t ((r.qQ[i]!).qH):Int) != r.qH)) 88 H ?_)⟩) jk)
     refine rtp 18 (.bool ((xA s t ((r.qQ[i]!).qH):Int) != r.qH)) H ?_
     refine xO qh (t_n (xK ((xA s t ((r.qQ[i]!).qH):Int) != r.qH) rfl (fun h49=>?_) (fun h49=>?_)))
     ·skip
      replace h49:=bne_iff_ne.1 h49
      refine zcr (sp (.bool false) (zjr (zr5 (ret1 (.bool false) rfl rfl ⟨_,rfl,?_,H.base⟩))))
      rw [xx (fun h=>by obtain ⟨h1,h2,h3,h4,h5⟩:=h;first | exact ft h1 ‹_› | exact ft h2 ‹_› | exact ft h3 ‹_› | exact h4 ⟨‹_›,‹_›⟩ | (obtain ⟨q1,q2⟩:=h5 i qf;first | exact ft q1 ‹_› | exact absurd q2 ‹_›))]
     replace h49:=xq h49
     refine qU (b_n (t_n (xY (sp (yI i) (sw (zC i 1 rfl rfl qf (sp (yI (i+1)) (xZ (xf (m' :=(r.qQ.length - ((i+1):Int)).toNat) qf ⟨_,i+1,uE4,?_,?_,rfl,N,H.pick [] [2,3,4,5,6,7,8,9,10,11,12,13,14,15,16,17]⟩)))))))))
     · omega
     · exact i1.succ ‹_› ‹_›
    replace h46:=xw h46
    refine zT [9,10,11,12,13,14,15,16,17] 9 (H) (rtp 18 (.bool true) H ?_)
    refine xO qh (t_n (xK true rfl (fun _=>zcr (sp (.bool false) (zjr (zr5 (ret1 (.bool false) rfl rfl ⟨_,rfl,?_,H.base⟩))))) (fun h=>absurd h qj)))
    rw [xx (fun h=>by obtain ⟨h1,h2,h3,h4,h5⟩:=h;first | exact ft h1 ‹_› | exact ft h2 ‹_› | exact ft h3 ‹_› | exact h4 ⟨‹_›,‹_›⟩ | (obtain ⟨q1,q2⟩:=h5 i qf;first | exact ft q1 ‹_› | exact absurd q2 ‹_›))]
   refine zx4 (zcr (sp (.bool true) (zjr (ret1 (.bool true) rfl rfl ⟨_,rfl,?_,H.base⟩))))
   rw [yD ⟨by assumption,by assumption,by assumption,fun ⟨u,v⟩=>by first | omega | exact ft v ‹_›,(show i=r.qQ.length by omega)▸i1⟩]
  replace h18:=xw h18
  refine zo [48,49,50,51,52,53,54,55,56,57,58,59,60,61] (sp (.bool true) (zjn (xK true rfl (fun _=>zcr (sp (.bool false) (zjr (t_r (ret1 (.bool false) rfl rfl ⟨_,rfl,?_,H.base⟩))))) (fun h=>absurd h qj))))
  rw [xx (fun h=>by obtain ⟨h1,h2,h3,h4,h5⟩:=h;first | exact ft h1 ‹_› | exact ft h2 ‹_› | exact ft h3 ‹_› | exact h4 ⟨‹_›,‹_›⟩ | (obtain ⟨q1,q2⟩:=h5 i qf;first | exact ft q1 ‹_› | exact absurd q2 ‹_›))]
 replace h14:=xw h14
 refine zo [39,40,41,42,43,44,45] (sps [.bool true,.bool true] (zo [48,49,50,51,52,53,54,55,56,57,58,59,60,61] (sp (.bool true) (zjn (xK true rfl (fun _=>zcr (sp (.bool false) (zjr (t_r (ret1 (.bool false) rfl rfl ⟨_,rfl,?_,H.base⟩))))) (fun h=>absurd h qj))))))
 rw [xx (fun h=>by obtain ⟨h1,h2,h3,h4,h5⟩:=h;first | exact ft h1 ‹_› | exact ft h2 ‹_› | exact ft h3 ‹_› | exact h4 ⟨‹_›,‹_›⟩ | (obtain ⟨q1,q2⟩:=h5 i qf;first | exact ft q1 ‹_› | exact absurd q2 ‹_›))]

theorem l03Applicable_ok (w:World) (s:qG) (t:qJ) {qB:yOA} {qZ:yLN} {qL:yOA} {xE:yLN} {qV:yOA} {xR:yLN} {xn:yOA} {zy:yLN} {qN:yOA} {xH:yLN} (hs:ve w bs os (yS s qB qy qL qI)) (xe:qO.rep w qZ [.slice qB s.qw.length qy] s.qw) (xJ:qO.rep w xE [.slice qL s.qx.length qI] s.qx) (ht:ve w bt ot (yT t qV qR xn xk qN qM)) (zl:qO.rep w xR [.slice qV t.qA.length qR] t.qA) (zK:qO.rep w zy [.slice xn t.qE.length xk] t.qE) (xP:qO.rep w xH [.slice qN t.qC.length qM] t.qC) (p0:jO s) (p1:zF s t):Calls Tryz.prog 127 #[pp bs os,pp bt ot] w (Ret (fun v w' =>∃ (ra:yOA) (rn:Nat) (rc:Nat),v=.slice ra rn rc∧Fresh w.heap.size []∧St w w' [rr ra rn rc 4 1 ((appl s t).map (Value.bool))] []) w):=by
 refine en func127 ntmps127 ?_
 have H:=(((((((St.start w).arg xP).arg zK).arg zl).XW ht).arg xJ).arg xe).XW hs
 have zY:=qK xe
 have jb:=qK xJ
 have Qd:=qK zl
 have QQ:=qK zK
 have jP:=qK xP
 clear hs xe xJ ht zl zK xP
 have N:=Fresh.nil w.heap.size
 have p2:=p0.2.1
 have p3:=p0.1.2.1
 refine zcr (sp yN (zjc (sps [pp bs os,pp bs os] (oF rfl (oL rfl (H.xW 0 rfl 1 rfl) (oN rfl (sw (XI H underlying22 ti2 s.qw.length rfl rfl qf qf qf fun b1 w2 H=>sp (.slice (aa b1 0) s.qw.length s.qw.length) (zjc (sw (vG H underlying26 ti4 fun b3 w4 H=>sp (.slice (aa b3 0) 0 0) (zjcc (sp (yI 0) (zjn (qX ?_)))))))))))))))
 replace H:=H.boxRowB 0 [] 0
 refine zu (fun m' ρ w5=>∃ (xU:Env) (zW:yOA) (zt:Nat) (zL:Nat) (out:List Bool) (i:Nat) (best:yLI),ρ=upd (upd (upd (upd (upd xU 0 (pp bs os)) 1 (pp bt ot)) 5 (.slice (aa b1 0) s.qw.length s.qw.length)) 6 (.slice zW zt zL)) 7 (yI i)∧out=applB s t 0 i∧best=bests s t 0 s.qw.length i∧((i:Int)≤s.qx.length)∧m' =(s.qx.length - (i:Int)).toNat∧Fresh w.heap.size []∧St w w5 [rr zW zt zL 4 1 (out.map (Value.bool)),rr (aa b1 0) s.qw.length s.qw.length 2 1 (best.map (Value.int .i64))] [atF bs os (yS s qB qy qL qI),sF false qZ qB qy s.qw,sF false xE qL qI s.qx,atF bt ot (yT t qV qR xn xk qN qM),sF false xR qV qR t.qA,sF false zy xn xk t.qE,sF false xH qN qM t.qC]) ((s.qx.length - (0:Int)).toNat) ⟨_,(aa b3 0),0,0,([]:List Bool),0,(List.replicate s.qw.length (0:Int)),uE5,(by rfl),(by exact bests_zero s t 0 _),qf,rfl,N,H⟩ ?_
 clear H N
 rintro m' ρ w6 ⟨xU,zW,zt,zL,out,i,best,rfl,rfl,rfl,i0,rfl,N,H⟩
 have hn_out:=H.rowNB 0 rfl
 have hn_best:=H.Vq 1 rfl
 have bl:=X4 s t 0 s.qw.length i
 have al:=applB_len s t 0 i
 refine zcc (sps [yI i,pp bs os,pp bs os] (oF rfl (oL rfl (H.xW 0 rfl 2 rfl) (oN rfl (sp (.bool (decide ((i:Int) < s.qx.length))) (zjn (cD rfl (fun h7=>?_) (fun h7=>?_))))))))
 ·skip
  have q:=p0.rule (i:=i) qf
  have qc:=q.1
  have qk:=q.cell
  have qr:=q.2.1
  refine qU (t_n (xQ (qX (zcr (sps [pp bs os,pp bs os] (oF rfl (oL rfl (H.xW 0 rfl 2 rfl) (sp (yI i) ?_))))))))
  obtain ⟨b8,o9,rfl⟩:=H.addr 2 rfl qf
  obtain ⟨ae11Need,ce11Need,Fe11Need,ae11Have,ce11Have,Fe11Have,ae11Lack,ce11Lack,Fe11Lack,ae11Here,ce11Here,Fe11Here,ae11Out,ce11Out,Fe11Out,ae11Into,ce11Into,Fe11Into,H⟩:=H.yt 2 rfl i i qf qf qf
  refine oI rfl rfl (sp (pp b8 (o9+(i:Int).toNat * 9)) (zjc (sps [pp bs os,pp bt ot,pp b8 (o9+(i:Int).toNat * 9)] (sw (oq (l03Enabled_ok _ s t (s.qx[i]!) (qF (H.get 7 rfl) 0 3) (H.get 8 rfl).1 (H.get 9 rfl).1 (qF (H.get 10 rfl) 0 3) (H.get 11 rfl).1 (H.get 12 rfl).1 (H.get 13 rfl).1 (qF (H.get 6 rfl) 0 9) (H.get 0 rfl).1 (H.get 1 rfl).1 (H.get 2 rfl).1 (H.get 3 rfl).1 (H.get 4 rfl).1 (H.get 5 rfl).1 qg qg qg) H fun w13 H=>?_)))))
  refine sp (.bool (dec (EnOk s t (s.qx[i]!)))) (zjc (sps [.slice zW zt zL,.bool (dec (EnOk s t (s.qx[i]!)))] (sw (zG H underlying26 ti4 [.bool (dec (EnOk s t (s.qx[i]!)))] fun b15 w16 H=>sw (zQ H 1 rfl 0 rfl underlying26 ti4 rfl qj rfl rfl rfl (by simp [Value.oneCell',Value.cells]) qp qf fun a17 c18 w19 H=>?_)))))
  rw [snocB] at H
  refine sp (.slice a17 (zt+1) c18) (zjc (sp (.bool (dec (EnOk s t (s.qx[i]!)))) (zjn (cP rfl (fun h20=>?_) (fun h20=>?_)))))
  ·skip
   refine Qn rfl H [0,1] fun H=>?_
   have S:=H.yl [0,1] [0,1,2,3,4,5,6,7,8,9,10,11,12,13]
   refine rtp 0 (.slice (aa b1 0) s.qw.length s.qw.length) S ?_
   refine rtp 1 (pp b8 (o9+(i:Int).toNat * 9)) S ?_
   refine rtp 2 (pp b8 (o9+(i:Int).toNat * 9)) S ?_
   refine tF 3 rfl rfl S ?_
   refine tL 4 rfl rfl (fun _ h=>h.xW 6 rfl 0 rfl) S ?_
   refine rtp 5 (.slice (aa b1 0) s.qw.length s.qw.length) S ?_
   refine rtp 6 (pp b8 (o9+(i:Int).toNat * 9)) S ?_
   refine rtp 7 (pp b8 (o9+(i:Int).toNat * 9)) S ?_
   refine tF 8 rfl rfl S ?_
   refine tL 9 rfl rfl (fun _ h=>h.xW 6 rfl 0 rfl) S ?_
   refine tI 10 rfl rfl rfl S ?_
   refine rtp 12 (pp b8 (o9+(i:Int).toNat * 9)) S ?_
   refine rtp 13 (pp b8 (o9+(i:Int).toNat * 9)) S ?_
   refine tF 14 rfl rfl S ?_
   refine tL 15 rfl rfl (fun _ h=>h.xW 6 rfl 1 rfl) S ?_
   refine ro 11 rfl (zN (yI ((bests s t 0 s.qw.length i)[((s.qx[i]!).qH).toNat]!)) isAgg2 rfl (H.rowInt 2 rfl (iv:=(s.qx[i]!).qH) (i:=(((s.qx[i]!).qH).toNat)) qf qf) (⟨H.pick [0,1] [0,1,2,3,4,5,6,7,8,9,10,11,12,13],(ro 16 rfl (oq (l00Max_ok w19.drew ((bests s t 0 s.qw.length i)[((s.qx[i]!).qH).toNat]!) ((s.qx[i]!).zM)) H fun w23 H=>⟨H.pick [0,1] [0,1,2,3,4,5,6,7,8,9,10,11,12,13],(tI 17 rfl rfl rfl (H.pick [0,1] [0,1,2,3,4,5,6,7,8,9,10,11,12,13]) ?_)⟩))⟩))
   refine ro 18 rfl (o_storeInt H 2 rfl (max ((bests s t 0 s.qw.length i)[((s.qx[i]!).qH).toNat]!) ((s.qx[i]!).zM)) sizeOf2 rfl rfl (i:=(((s.qx[i]!).qH).toNat)) qf qf fun w25 H=>⟨H.pick [0,1] [0,1,2,3,4,5,6,7,8,9,10,11,12,13],(xO qh (b_n (t_n (xY (sp (yI i) (sw (zC i 1 rfl rfl qf (sp (yI (i+1)) (xZ ?_)))))))))⟩)
   refine xf (m' :=(s.qx.length - ((i+1):Int)).toNat) qf ⟨_,a17,zt+1,c18,((applB s t 0 i)++[dec (EnOk s t (s.qx[i]!))]),i+1,((bests s t 0 s.qw.length i).set (((s.qx[i]!).qH).toNat) (max ((bests s t 0 s.qw.length i)[((s.qx[i]!).qH).toNat]!) ((s.qx[i]!).zM))),uE5,?_,?_,?_,rfl,N,H.pick [1,2] [7,8,9,10,11,12,13]⟩
   · exact applB_snoc s t i
   · first | exact bests_set ‹_› qf | exact bests_skip ‹_›
   · omega
  refine qU (b_n (t_n (xY (sp (yI i) (sw (zC i 1 rfl rfl qf (sp (yI (i+1)) (xZ (xf (m' :=(s.qx.length - ((i+1):Int)).toNat) qf ⟨_,a17,zt+1,c18,((applB s t 0 i)++[dec (EnOk s t (s.qx[i]!))]),i+1,(bests s t 0 s.qw.length i),uE5,?_,?_,?_,rfl,N,H.pick [1,2] [7,8,9,10,11,12,13]⟩)))))))))
  · exact applB_snoc s t i
  · first | exact bests_set ‹_› qf | exact bests_skip ‹_›
  · omega
 refine zx4 (zcc (sp (yI 0) (zjn (qX ?_))))
 refine zu (fun m' ρ w26=>∃ (xU:Env) (i_1:Nat) (out_1:List Bool),ρ=upd (upd (upd (upd xU 0 (pp bs os)) 5 (.slice (aa b1 0) s.qw.length s.qw.length)) 6 (.slice zW zt zL)) 10 (yI i_1)∧out_1=applB s t i_1 s.qx.length∧((i_1:Int)≤s.qx.length)∧m' =(s.qx.length - (i_1:Int)).toNat∧Fresh w.heap.size []∧St w w26 [rr zW zt zL 4 1 (out_1.map (Value.bool)),rr (aa b1 0) s.qw.length s.qw.length 2 1 ((bests s t 0 s.qw.length i).map (Value.int .i64))] [atF bs os (yS s qB qy qL qI),sF false qZ qB qy s.qw,sF false xE qL qI s.qx]) ((s.qx.length - (0:Int)).toNat) ⟨_,0,(applB s t 0 i),uE4,(by rw [show i=s.qx.length by omega]),qf,rfl,N,H.pick [0,1] [0,1,2]⟩ ?_
 clear H N
 rintro m' ρ w27 ⟨xU,i_1,out_1,rfl,rfl,i0,rfl,N,H⟩
 have hn_out:=H.rowNB 0 rfl
 have bl:=X4 s t 0 s.qw.length i
 have al:=applB_len s t i_1 s.qx.length
 refine zcc (sps [yI i_1,pp bs os,pp bs os] (oF rfl (oL rfl (H.xW 0 rfl 2 rfl) (oN rfl (sp (.bool (decide ((i_1:Int) < s.qx.length))) (zjn (cD rfl (fun h28=>?_) (fun h28=>?_))))))))
 ·skip
  have q:=p0.rule (i:=i_1) qf
  have qc:=q.1
  have qk:=q.cell
  have qr:=q.2.1
  refine qU (t_n (xQ (qX ?_)))
  refine Qn rfl H [1] fun H=>?_
  have S:=H.yl [1] [0,1,2]
  refine rtp 0 (.slice zW zt zL) S ?_
  refine rtp 1 (yI i_1) S ?_
  refine rtp 2 (.slice zW zt zL) S ?_
  refine rtp 3 (yI i_1) S ?_
  obtain ⟨b30,rfl⟩:=H.Qh 0 rfl qf
  refine tI 4 rfl rfl rfl (H.pick [1] [0,1,2]) ?_
  refine ro 5 rfl (zN (.bool ((applB s t i_1 s.qx.length)[i_1]!)) isAgg4 rfl (H.rowBool 0 rfl (iv:=i_1) (i:=i_1) qf qf) (⟨H.pick [1] [0,1,2],(rtp 6 (.bool ((applB s t i_1 s.qx.length)[i_1]!)) (H.pick [1] [0,1,2]) ?_)⟩))
  cases h31:((applB s t i_1 s.qx.length)[i_1]!)
  ·skip
   refine zT [7,8,9,10,11,12,13,14,15,16,17,18,19,20,21,22,23,24,25,26] 20 (H.pick [1] [0,1,2]) ?_
   have S:=H.yl [1] [0,1,2]
   refine rtp 27 (.bool false) S ?_
   refine tI 28 rfl rfl rfl S ?_
   refine ro 29 rfl (Q4 H 0 rfl false sizeOf4 rfl rfl (i:=i_1) qf qf fun w32 H=>⟨H.pick [1] [0,1,2],(xO qh (b_n (t_n (xY (sp (yI i_1) (sw (zC i_1 1 rfl rfl qf (sp (yI (i_1+1)) (xZ (xf (m' :=(s.qx.length - ((i_1+1):Int)).toNat) qf ⟨_,i_1+1,((applB s t i_1 s.qx.length).set i_1 false),uE4,?_,?_,rfl,N,H⟩))))))))))⟩)
   · first | exact applB_set qf (applB_step0 (m:=s.qx.length) qf ‹_›) | exact applB_set qf (applB_step1 (m:=s.qx.length) (n:=s.qw.length) (z:=0) (i:=i) qf ‹_› rfl qf qf qf)
   · omega
  have S:=H.yl [1] [0,1,2]
  refine rgp 7 (pp bs os) 75 S ?_
  refine rgp 8 (pp bs os) 75 S ?_
  refine gF 9 rfl rfl S ?_
  refine gL 10 rfl rfl (fun _ h=>h.xW 0 rfl 2 rfl) S ?_
  refine rgp 11 (yI i_1) 75 S ?_
  obtain ⟨b33,o34,rfl⟩:=H.addr 2 rfl qf
  obtain ⟨ae36Need,ce36Need,Fe36Need,ae36Have,ce36Have,Fe36Have,ae36Lack,ce36Lack,Fe36Lack,ae36Here,ce36Here,Fe36Here,ae36Out,ce36Out,Fe36Out,ae36Into,ce36Into,Fe36Into,H⟩:=H.yt 2 rfl i_1 i_1 qf qf qf
  have S:=H.yl [1] [7,8,9]
  refine gI 12 rfl rfl rfl S ?_
  refine gF 13 rfl rfl S ?_
  refine rgp 15 (.slice (aa b1 0) s.qw.length s.qw.length) 75 S ?_
  refine rgp 16 (pp bs os) 75 S ?_
  refine rgp 17 (pp bs os) 75 S ?_
  refine gF 18 rfl rfl S ?_
  refine gL 19 rfl rfl (fun _ h=>h.xW 0 rfl 2 rfl) S ?_
  refine rgp 20 (yI i_1) 75 S ?_
  refine gI 21 rfl rfl rfl S ?_
  refine gF 22 rfl rfl S ?_
  refine ji [14,23] qh qm (YE rfl (e:=75) rfl rfl ?_ (YE rfl (e:=75) rfl rfl ?_ jk))
  ·skip
   refine zN (yI ((s.qx[i_1]!).zM)) isAgg2 rfl (H.xW 6 rfl 1 rfl) (⟨H.pick [1] [7,8,9],(ji [23] qh qm (YE rfl (e:=75) rfl rfl (zN (yI ((s.qx[i_1]!).qH)) isAgg2 rfl (H.xW 6 rfl 0 rfl) (⟨H.pick [1] [7,8,9],?_⟩)) jk))⟩)
   have S:=H.yl [1] [7,8,9]
   refine gI 24 rfl rfl rfl S ?_
   refine gL 25 rfl rfl (fun _ h=>h.rowInt 0 rfl (iv:=(s.qx[i_1]!).qH) (i:=(((s.qx[i_1]!).qH).toNat)) qf qf) S ?_
   refine rgp 26 (.bool (((s.qx[i_1]!).zM:Int) == ((bests s t 0 s.qw.length i)[((s.qx[i_1]!).qH).toNat]!))) 75 S ?_
   refine rtp 27 (.bool (((s.qx[i_1]!).zM:Int) == ((bests s t 0 s.qw.length i)[((s.qx[i_1]!).qH).toNat]!))) S ?_
   refine tI 28 rfl rfl rfl S ?_
   refine ro 29 rfl (Q4 H 0 rfl (((s.qx[i_1]!).zM:Int) == ((bests s t 0 s.qw.length i)[((s.qx[i_1]!).qH).toNat]!)) sizeOf4 rfl rfl (i:=i_1) qf qf fun w37 H=>⟨H.pick [1] [7,8,9],(xO qh (b_n (t_n (xY (sp (yI i_1) (sw (zC i_1 1 rfl rfl qf (sp (yI (i_1+1)) (xZ (xf (m' :=(s.qx.length - ((i_1+1):Int)).toNat) qf ⟨_,i_1+1,((applB s t i_1 s.qx.length).set i_1 (((s.qx[i_1]!).zM:Int) == ((bests s t 0 s.qw.length i)[((s.qx[i_1]!).qH).toNat]!))),uE4,?_,?_,rfl,N,H.pick [0,1] [7,8,9]⟩))))))))))⟩)
   · first | exact applB_set qf (applB_step0 (m:=s.qx.length) qf ‹_›) | exact applB_set qf (applB_step1 (m:=s.qx.length) (n:=s.qw.length) (z:=0) (i:=i) qf ‹_› rfl qf qf qf)
   · omega
  refine zN (yI ((s.qx[i_1]!).qH)) isAgg2 rfl (H.xW 6 rfl 0 rfl) (⟨H.pick [1] [7,8,9],?_⟩)
  have S:=H.yl [1] [7,8,9]
  refine gI 24 rfl rfl rfl S ?_
  refine gL 25 rfl rfl (fun _ h=>h.rowInt 0 rfl (iv:=(s.qx[i_1]!).qH) (i:=(((s.qx[i_1]!).qH).toNat)) qf qf) S ?_
  refine ji [14] qh qm (YE rfl (e:=75) rfl rfl (zN (yI ((s.qx[i_1]!).zM)) isAgg2 rfl (H.xW 6 rfl 1 rfl) (⟨H.pick [1] [7,8,9],?_⟩)) jk)
  have S:=H.yl [1] [7,8,9]
  refine rgp 26 (.bool (((s.qx[i_1]!).zM:Int) == ((bests s t 0 s.qw.length i)[((s.qx[i_1]!).qH).toNat]!))) 75 S ?_
  refine rtp 27 (.bool (((s.qx[i_1]!).zM:Int) == ((bests s t 0 s.qw.length i)[((s.qx[i_1]!).qH).toNat]!))) S ?_
  refine tI 28 rfl rfl rfl S ?_
  refine ro 29 rfl (Q4 H 0 rfl (((s.qx[i_1]!).zM:Int) == ((bests s t 0 s.qw.length i)[((s.qx[i_1]!).qH).toNat]!)) sizeOf4 rfl rfl (i:=i_1) qf qf fun w38 H=>⟨H.pick [1] [7,8,9],(xO qh (b_n (t_n (xY (sp (yI i_1) (sw (zC i_1 1 rfl rfl qf (sp (yI (i_1+1)) (xZ (xf (m' :=(s.qx.length - ((i_1+1):Int)).toNat) qf ⟨_,i_1+1,((applB s t i_1 s.qx.length).set i_1 (((s.qx[i_1]!).zM:Int) == ((bests s t 0 s.qw.length i)[((s.qx[i_1]!).qH).toNat]!))),uE4,?_,?_,rfl,N,H.pick [0,1] [7,8,9]⟩))))))))))⟩)
  · first | exact applB_set qf (applB_step0 (m:=s.qx.length) qf ‹_›) | exact applB_set qf (applB_step1 (m:=s.qx.length) (n:=s.qw.length) (z:=0) (i:=i) qf ‹_› rfl qf qf qf)
  · omega
 refine zx4 (zcr (sps [.slice zW zt zL,.slice zW zt zL] (zjr (ret1 (.slice zW zt zL) rfl rfl ⟨_,rfl,?_,H.base⟩))))
 obtain rfl:i_1=s.qx.length:=by omega
 exact ⟨zW,zt,zL,rfl,N,H.pick [0] []⟩

theorem l03Halted_ok (w:World) (s:qG) (t:qJ) {qB:yOA} {qZ:yLN} {qL:yOA} {xE:yLN} {qV:yOA} {xR:yLN} {xn:yOA} {zy:yLN} {qN:yOA} {xH:yLN} (hs:ve w bs os (yS s qB qy qL qI)) (xe:qO.rep w qZ [.slice qB s.qw.length qy] s.qw) (xJ:qO.rep w xE [.slice qL s.qx.length qI] s.qx) (ht:ve w bt ot (yT t qV qR xn xk qN qM)) (zl:qO.rep w xR [.slice qV t.qA.length qR] t.qA) (zK:qO.rep w zy [.slice xn t.qE.length xk] t.qE) (xP:qO.rep w xH [.slice qN t.qC.length qM] t.qC) (p0:jO s) (p1:zF s t):Calls Tryz.prog 90 #[pp bs os,pp bt ot] w (Ret (fun v w' =>v=.bool (dec (Halted s t))) w):=by
 refine en func90 ntmps90 ?_
 have H:=(((((((St.start w).arg xP).arg zK).arg zl).XW ht).arg xJ).arg xe).XW hs
 have zY:=qK xe
 have jb:=qK xJ
 have Qd:=qK zl
 have QQ:=qK zK
 have jP:=qK xP
 clear hs xe xJ ht zl zK xP
 have N:=Fresh.nil w.heap.size
 have p2:=p0.2.1
 refine zcr (sp (.bool false) (zjc (sps [pp bs os,pp bt ot] ?_)))
 have sz4:=H.base.size
 refine sw (oc (l03Applicable_ok _ s t (qF (H.get 0 rfl) 0 3) (H.get 1 rfl).1 (H.get 2 rfl).1 (qF (H.get 3 rfl) 0 3) (H.get 4 rfl).1 (H.get 5 rfl).1 (H.get 6 rfl).1 qg qg) ?_)
 rintro _ w2 ⟨ra1,rn1,rc1,rfl,M,K⟩ _
 replace H:=H.merge K M
 obtain rfl:=H.rowNB 0 rfl
 have al:=appl_len s t
 refine sp (.slice ra1 ((appl s t).length) rc1) (zjcc (sp (yI 0) (zjn (qX ?_))))
 refine zu (fun m' ρ w7=>∃ (xU:Env) (i:Nat),ρ=upd (upd xU 5 (.slice ra1 ((appl s t).length) rc1)) 6 (yI i)∧((i:Int)≤((appl s t).length))∧(HaltTo s t i)∧m' =(((appl s t).length) - (i:Int)).toNat∧Fresh w.heap.size []∧St w w7 [rr ra1 ((appl s t).length) rc1 4 1 ((appl s t).map (Value.bool))] []) ((((appl s t).length) - (0:Int)).toNat) ⟨_,0,uE2,qf,(by exact fun j hj=>by omega),rfl,N,H.pick [0] []⟩ ?_
 clear H N
 rintro m' ρ w8 ⟨xU,i,rfl,i0,i1,rfl,N,H⟩
 refine zcc (sps [yI i,.slice ra1 ((appl s t).length) rc1] (oN rfl (sp (.bool (decide ((i:Int) < ((appl s t).length)))) (zjn (cD rfl (fun h9=>?_) (fun h9=>?_))))))
 ·skip
  refine qU (t_n (xQ (qX (zcr (sps [.slice ra1 ((appl s t).length) rc1,yI i] ?_)))))
  obtain ⟨b10,rfl⟩:=H.Qh 0 rfl qf
  refine oI rfl rfl (oL rfl (H.rowBool 0 rfl (iv:=i) (i:=i) qf qf) (zjn (xK ((appl s t)[i]!) rfl (fun h11=>?_) (fun h11=>?_))))
  ·skip
   refine zcr (sp (.bool false) (zjr (zr5 (ret1 (.bool false) rfl rfl ⟨_,rfl,?_,H.base⟩))))
   rw [xx (fun h=>h i qf (Q9 qf ‹_›))]
  refine qU (b_n (t_n (xY (sp (yI i) (sw (zC i 1 rfl rfl qf (sp (yI (i+1)) (xZ (xf (m' :=(((appl s t).length) - ((i+1):Int)).toNat) qf ⟨_,i+1,uE2,?_,?_,rfl,N,H⟩)))))))))
  · omega
  · exact i1.succ (Qy qf ‹_›)
 refine zx4 (zcr (sp (.bool true) (zjr (ret1 (.bool true) rfl rfl ⟨_,rfl,?_,H.base⟩))))
 obtain rfl:i=s.qx.length:=by omega
 rw [yD i1]

theorem l03Rest_ok (w:World) (s:qG) (t:qJ) (counts:yLI) {qB:yOA} {qZ:yLN} {qL:yOA} {xE:yLN} {qV:yOA} {xR:yLN} {xn:yOA} {zy:yLN} {qN:yOA} {xH:yLN} {acounts:yOA} {Fcounts:yLN} (hs:ve w bs os (yS s qB qy qL qI)) (xe:qO.rep w qZ [.slice qB s.qw.length qy] s.qw) (xJ:qO.rep w xE [.slice qL s.qx.length qI] s.qx) (ht:ve w bt ot (yT t qV qR xn xk qN qM)) (zl:qO.rep w xR [.slice qV t.qA.length qR] t.qA) (zK:qO.rep w zy [.slice xn t.qE.length xk] t.qE) (xP:qO.rep w xH [.slice qN t.qC.length qM] t.qC) (hcounts:qO.rep w Fcounts [.slice acounts counts.length ccounts] counts) (p0:jO s) (p1:zF s t) (p2:CntOk s counts):Calls Tryz.prog 180 #[pp bs os,pp bt ot,.slice acounts counts.length ccounts] w (Ret (fun v w' =>∃ (ra0:yOA) (rn0:Nat) (rc0:Nat) (rx0:List Value) (rF0:yLN),v=.tuple #[.slice ra0 rn0 rc0,.bool (dec (IsCh s t counts))]∧Fresh w.heap.size [rF0]∧St w w' [rr ra0 rn0 rc0 22 1 rx0] [zi true rF0 rx0 (Qi s t counts (QC (BadAt s t counts) counts.length))]) w):=by
 refine en func180 ntmps180 ?_
 have H:=((((((((St.start w).arg hcounts).arg xP).arg zK).arg zl).XW ht).arg xJ).arg xe).XW hs
 have zY:=qK xe
 have jb:=qK xJ
 have Qd:=qK zl
 have QQ:=qK zK
 have jP:=qK xP
 have nhcounts:=qK hcounts
 clear hs xe xJ ht zl zK xP hcounts
 have N:=Fresh.nil w.heap.size
 have p3:=p0.2.1
 have p6:=p2.1
 have p7:=p1.2.1
 have p8:=kinds_le p0
 have p9:=p0.1.2.1
 have p11:jg s=s.qw.length:=rfl
 refine zcr (sps [yN,.bool false] (zjc (sps [pp bs os,pp bt ot] ?_)))
 have sz4:=H.base.size
 refine sw (oc (l03Applicable_ok _ s t (qF (H.get 0 rfl) 0 3) (H.get 1 rfl).1 (H.get 2 rfl).1 (qF (H.get 3 rfl) 0 3) (H.get 4 rfl).1 (H.get 5 rfl).1 (H.get 6 rfl).1 qg qg) ?_)
 rintro _ w2 ⟨ra1,rn1,rc1,rfl,M,K⟩ _
 replace H:=H.merge K M
 obtain rfl:=H.rowNB 0 rfl
 have al:=appl_len s t
 refine sp (.slice ra1 ((appl s t).length) rc1) (zjc (sw (vG H underlying27 ti22 fun b7 w8 H=>sp (.slice (aa b7 0) 0 0) (zjcc (sp (yI 0) (zjn (qX ?_)))))))
 replace H:=H.boxRow 0 rfl 1 0 rfl qj
 replace H:=H.vI (α:=yLI)
 refine zu (fun m' ρ w9=>∃ (xU:Env) (Vl:yOA) (QA:Nat) (Xn:Nat) (rest:yLL) (x_rest:List Value) (F_rest:yLN) (c:Nat),ρ=upd (upd (upd (upd (upd (upd xU 0 (pp bs os)) 1 (pp bt ot)) 2 (.slice acounts counts.length ccounts)) 8 (.slice ra1 ((appl s t).length) rc1)) 9 (.slice Vl QA Xn)) 10 (yI c)∧rest=t.qE.take c∧((c:Int)≤t.qE.length)∧m' =(t.qE.length - (c:Int)).toNat∧Fresh w.heap.size [F_rest]∧St w w9 [rr Vl QA Xn 22 1 x_rest,rr ra1 ((appl s t).length) rc1 4 1 ((appl s t).map (Value.bool))] [zi true F_rest x_rest rest,atF bs os (yS s qB qy qL qI),sF false qZ qB qy s.qw,sF false xE qL qI s.qx,atF bt ot (yT t qV qR xn xk qN qM),sF false xR qV qR t.qA,sF false zy xn xk t.qE,sF false xH qN qM t.qC,sF false Fcounts acounts ccounts counts]) ((t.qE.length - (0:Int)).toNat) ⟨_,(aa b7 0),0,0,([]:yLL),[],[],0,uE6,(by rfl),qf,rfl,N.emp,H⟩ ?_
 clear H N
 rintro m' ρ w10 ⟨xU,Vl,QA,Xn,rest,x_rest,F_rest,c,rfl,rfl,i0,rfl,N,H⟩
 have hn_rest:=H.zh (α:=yLI) 0 rfl 0 rfl qj
 have p4:=(p1.bagLen (k:=c))
 rw [List.length_take_of_le qf] at hn_rest
 refine zcc (sps [yI c,pp bt ot,pp bt ot] (oF rfl (oL rfl (H.xW 4 rfl 1 rfl) (oN rfl (sp (.bool (decide ((c:Int) < t.qE.length))) (zjn (cD rfl (fun h11=>?_) (fun h11=>?_))))))))
 ·skip
  refine qU (t_n (xQ (qX (xY (sps [.slice Vl QA Xn,pp bt ot,pp bt ot] (oF rfl (oL rfl (H.xW 4 rfl 1 rfl) (sp (yI c) ?_))))))))
  obtain ⟨b12,o13,rfl⟩:=H.addr 6 rfl qf
  obtain ⟨ae15,ce15,Fe15,H⟩:=H.vM 6 rfl c c qf qf qf
  refine oI rfl rfl (oL rfl (H.xW 1 rfl 0 rfl) ?_)
  have p5:=(p1.bagLen (k:=c) qf).len
  have sz16:=H.base.size
  have lt17:=H.ltN (L:=[F_rest]) [2]
  refine sw (oc (X3 _ (t.qE[c]!) (H.get 0 rfl).1 qg) ?_)
  rintro v21 w19 r21 x20
  replace H:=H.zD x20 r21
  obtain ⟨a22,c23,rfl,hc24,hm25⟩:=H.jo 0 rfl
  refine sw (zG H underlying27 ti22 [.slice a22 ((t.qE[c]!).length) c23] fun b26 w27 H=>?_)
  obtain ⟨G31,N,hn32,H⟩:=H.vS 1 rfl N (H.jQ [2])
  refine sw (zQ H 2 rfl 0 rfl underlying27 ti22 rfl qj rfl rfl rfl (by simp [Value.oneCell',Value.cells]) qp qf fun a28 c29 w30 H=>?_)
  replace H:=H.jW 3 rfl 0 rfl
  replace N:Fresh w.heap.size [(F_rest++G31)]:=(N.pick [1,0]).join
  refine sp (.slice a28 (QA+1) c29) (xZ (b_n (t_n (xY (sp (yI c) (sw (zC c 1 rfl rfl qf (sp (yI (c+1)) (xZ (xf (m' :=(t.qE.length - ((c+1):Int)).toNat) qf ⟨_,a28,QA+1,c29,((t.qE.take c)++[(t.qE[c]!)]),x_rest++[.slice a22 ((t.qE[c]!).length) c23],(F_rest++G31),c+1,uE6,?_,?_,rfl,N,H.pick [2,3] [0,5,6,7,8,9,10,11,12]⟩))))))))))
  · exact take_snoc qf
  · omega
 refine zx4 (zcc (sp (yI 0) (zjn (qX ?_))))
 refine zu (fun m' ρ w33=>∃ (xU:Env) (i:Nat) (rest_1:yLL) (x_rest_1:List Value) (Yy:yLN),ρ=upd (upd (upd (upd (upd xU 0 (pp bs os)) 2 (.slice acounts counts.length ccounts)) 8 (.slice ra1 ((appl s t).length) rc1)) 9 (.slice Vl QA Xn)) 11 (yI i)∧rest_1=Qi s t counts i∧((i:Int)≤counts.length)∧(GoodTo s t counts i)∧m' =(counts.length - (i:Int)).toNat∧Fresh w.heap.size [Yy]∧St w w33 [rr Vl QA Xn 22 1 x_rest_1,rr ra1 ((appl s t).length) rc1 4 1 ((appl s t).map (Value.bool))] [zi true Yy x_rest_1 rest_1,atF bs os (yS s qB qy qL qI),sF false qZ qB qy s.qw,sF false xE qL qI s.qx,sF false Fcounts acounts ccounts counts]) ((counts.length - (0:Int)).toNat) ⟨_,0,(t.qE.take c),x_rest,F_rest,uE5,(by rw [List.take_of_length_le qf];rfl),qf,(by exact fun j hj=>by omega),rfl,N,H.pick [0,1] [0,1,2,3,8]⟩ ?_
 clear H N
 rintro m' ρ w34 ⟨xU,i,rest_1,x_rest_1,Yy,rfl,rfl,i0,i1,rfl,N,H⟩
 have hn_rest:=H.zh (α:=yLI) 0 rfl 0 rfl qj
 have rl:=restR_len (s:=s) (t:=t) (counts:=counts) i
 refine zcc (sps [yI i,.slice acounts counts.length ccounts] (oN rfl (sp (.bool (decide ((i:Int) < counts.length))) (zjn (cD rfl (fun h35=>?_) (fun h35=>?_))))))
 ·skip
  have q:=p0.rule (i:=i) qf
  have qc:=q.1
  have qk:=q.cell
  have qr:=q.2.1
  have b1:=q.2.2.2.2.1
  have p10:=p2.bd (i:=i) qf
  refine qU (t_n (xQ (qX (zcc (sps [.slice acounts counts.length ccounts,yI i] ?_)))))
  obtain ⟨b36,o37,rfl⟩:=H.addr 4 rfl qf
  refine oI rfl rfl (oL rfl (H.jC 4 rfl i qf qf) (sps [.bool (decide ((counts[i]! :Int) > 0)),.bool (decide ((counts[i]! :Int) > 0))] ?_))
  cases h39:(decide ((counts[i]! :Int) > 0))
  ·skip
   replace h39:=of_decide_eq_false h39
   refine zo [51,52,53,54,55] (sp (.bool false) (zjn (xK false rfl (fun h=>absurd h qj) (fun _=>qU (t_n (zcr (sps [pp bs os,pp bs os] (oF rfl (oL rfl (H.xW 1 rfl 2 rfl) (sp (yI i) ?_))))))))))
   obtain ⟨b40,o41,rfl⟩:=H.addr 3 rfl qf
   obtain ⟨ae43Need,ce43Need,Fe43Need,ae43Have,ce43Have,Fe43Have,ae43Lack,ce43Lack,Fe43Lack,ae43Here,ce43Here,Fe43Here,ae43Out,ce43Out,Fe43Out,ae43Into,ce43Into,Fe43Into,H⟩:=H.yt 3 rfl i i qf qf qf
   refine oI rfl rfl (oF rfl (oL rfl (H.xW 6 rfl 0 rfl) (sp (yI ((s.qx[i]!).qH)) (zjn ?_))))
   refine Qn rfl H [1] fun H=>?_
   have S:=H.yl [1] [0,1,2,3,4,5,6,7,8,9,10,11]
   refine rtp 0 (.slice Vl QA Xn) S ?_
   refine rtp 1 (yI ((s.qx[i]!).qH)) S ?_
   refine rtp 2 (.slice Vl QA Xn) S ?_
   refine rtp 3 (yI ((s.qx[i]!).qH)) S ?_
   obtain ⟨b45,rfl⟩:=H.Qh 0 rfl qf
   have S:=H.yl [1] [0,1,2,3,4,5,6,7,8,9,10,11]
   refine tI 4 rfl rfl rfl S ?_
   refine rtp 6 (pp bs os) S ?_
   refine rtp 7 (pp bs os) S ?_
   refine tF 8 rfl rfl S ?_
   refine tL 9 rfl rfl (fun _ h=>h.xW 8 rfl 2 rfl) S ?_
   refine rtp 10 (yI i) S ?_
   refine tI 11 rfl rfl rfl S ?_
   refine tF 12 rfl rfl S ?_
   refine tL 13 rfl rfl (fun _ h=>h.xW 6 rfl 2 rfl) S ?_
   refine rtp 14 (.slice (aa b36 o37) counts.length ccounts) S ?_
   refine rtp 15 (yI i) S ?_
   refine tI 16 rfl rfl rfl S ?_
   refine tL 17 rfl rfl (fun _ h=>h.yu 11 rfl i qf) S ?_
   refine rt 18 (yI (-(counts[i]!))) (y_neg (counts[i]!) rfl qf) S ?_
   refine ro 5 rfl ?_
   obtain ⟨a46,c47,G48,s49,h50,H⟩:=H.jV 0 rfl 7 rfl (iv:=(s.qx[i]!).qH) (((s.qx[i]!).qH).toNat) qf qf
   refine zN (.slice a46 (((Qi s t counts i)[((s.qx[i]!).qH).toNat]!).length) c47) isAgg22 rfl (h50) (⟨H.pick [1] [1,2,3,4,5,6,7,8,9,10,11,12],(ro 19 rfl ?_)⟩)
   obtain ⟨u1,u2⟩:=restR_row (c:=(s.qx[i]!).qH.toNat) p0 p1 p2 (show i≤_ by omega) qk
   have u3:=b1.len
   have u4:=b1.yY (t:= -(counts[i]!)) qf
   have sz51:=H.base.size
   have lt52:=H.ltN (L:=[Yy]) [8]
   refine oc (X6 _ ((Qi s t counts i)[((s.qx[i]!).qH).toNat]!) ((s.qx[i]!).xm) (-(counts[i]!)) (H.get 0 rfl).1 (H.get 1 rfl).1 qg qg qg) ?_
   rintro v56 w54 r56 x55
   replace H:=H.zD x55 r56
   obtain ⟨a57,c58,rfl,hc59,hm60⟩:=H.jo 0 rfl
   refine ⟨H.pick [2] [1,2,3,4,5,6,7,8,9,10,11,12],(tI 20 rfl rfl rfl (H.pick [2] [1,2,3,4,5,6,7,8,9,10,11,12]) ?_)⟩
   refine ro 21 rfl ?_
   obtain ⟨G62,N,hn63,H⟩:=H.vS 0 rfl N (H.jQ [8])
   refine jL true H 1 rfl 9 rfl (.slice a57 ((vY ((Qi s t counts i)[((s.qx[i]!).qH).toNat]!) ((s.qx[i]!).xm) (-(counts[i]!))).length) c58) 0 rfl rfl sizeOf22 rfl rfl (i:=(((s.qx[i]!).qH).toNat)) qf qf qm fun w61 xs64 F65 hs66 H=>?_
   replace N:Fresh w.heap.size [F65]:=(N.pick [1,0]).repl hs66
   refine ⟨H.pick [2] [3,4,5,6,7,8,9,10,11,12,13,14],(xO qh (b_n (t_n (xY (sp (yI i) (sw (zC i 1 rfl rfl qf (sp (yI (i+1)) (xZ (xf (m' :=(counts.length - ((i+1):Int)).toNat) qf ⟨_,i+1,((Qi s t counts i).set (((s.qx[i]!).qH).toNat) (vY ((Qi s t counts i)[((s.qx[i]!).qH).toNat]!) ((s.qx[i]!).xm) (-(counts[i]!)))),xs64,F65,uE5,?_,?_,?_,rfl,N,H.pick [1,2] [0,11,12,13,14]⟩))))))))))⟩
   · rfl
   · omega
   · exact i1.succ (fun h=>by obtain ⟨u,v⟩:=h;first | omega | exact v (Q9 qf ‹_›))
  replace h39:=of_decide_eq_true h39
  refine qP 50 rfl rfl (sp (.slice ra1 ((appl s t).length) rc1) (qP 50 rfl rfl (sp (yI i) (qP 50 rfl rfl ?_))))
  obtain ⟨b67,rfl⟩:=H.Qh 1 rfl qf
  refine oI rfl rfl (qP 50 rfl rfl (oL rfl (H.rowBool 1 rfl (iv:=i) (i:=i) qf qf) (qP 50 rfl rfl (sps [.bool (!((appl s t)[i]!)),.bool (!((appl s t)[i]!))] (zjn (xK (!((appl s t)[i]!)) rfl (fun h68=>?_) (fun h68=>?_)))))))
  ·skip
   replace h68:=xw h68
   refine zcr (sps [.slice Vl QA Xn,.slice Vl QA Xn,.bool false] (zjr (t_r (zr5 (ret2 (.slice Vl QA Xn) (.bool false) rfl rfl rfl ⟨_,rfl,?_,H.base⟩)))))
   rw [stop_first (k:=i) i1 qf ⟨by omega,Qy qf ‹_›⟩,xx (fun h=>h.1 i qf ⟨by omega,Qy qf ‹_›⟩)]
   exact ⟨Vl,QA,Xn,x_rest_1,Yy,rfl,N,H.pick [0] [0]⟩
  replace h68:=xh h68
  refine qU (t_n (zcr (sps [pp bs os,pp bs os] (oF rfl (oL rfl (H.xW 1 rfl 2 rfl) (sp (yI i) ?_))))))
  obtain ⟨b69,o70,rfl⟩:=H.addr 3 rfl qf
  obtain ⟨ae72Need,ce72Need,Fe72Need,ae72Have,ce72Have,Fe72Have,ae72Lack,ce72Lack,Fe72Lack,ae72Here,ce72Here,Fe72Here,ae72Out,ce72Out,Fe72Out,ae72Into,ce72Into,Fe72Into,H⟩:=H.yt 3 rfl i i qf qf qf
  refine oI rfl rfl (oF rfl (oL rfl (H.xW 6 rfl 0 rfl) (sp (yI ((s.qx[i]!).qH)) (zjn ?_))))
  refine Qn rfl H [1] fun H=>?_
  have S:=H.yl [1] [0,1,2,3,4,5,6,7,8,9,10,11]
  refine rtp 0 (.slice Vl QA Xn) S ?_
  refine rtp 1 (yI ((s.qx[i]!).qH)) S ?_
  refine rtp 2 (.slice Vl QA Xn) S ?_
  refine rtp 3 (yI ((s.qx[i]!).qH)) S ?_
  obtain ⟨b74,rfl⟩:=H.Qh 0 rfl qf
  have S:=H.yl [1] [0,1,2,3,4,5,6,7,8,9,10,11]
  refine tI 4 rfl rfl rfl S ?_
  refine rtp 6 (pp bs os) S ?_
  refine rtp 7 (pp bs os) S ?_
  refine tF 8 rfl rfl S ?_
  refine tL 9 rfl rfl (fun _ h=>h.xW 8 rfl 2 rfl) S ?_
  refine rtp 10 (yI i) S ?_
  refine tI 11 rfl rfl rfl S ?_
  refine tF 12 rfl rfl S ?_
  refine tL 13 rfl rfl (fun _ h=>h.xW 6 rfl 2 rfl) S ?_
  refine rtp 14 (.slice (aa b36 o37) counts.length ccounts) S ?_
  refine rtp 15 (yI i) S ?_
  refine tI 16 rfl rfl rfl S ?_
  refine tL 17 rfl rfl (fun _ h=>h.yu 11 rfl i qf) S ?_
  refine rt 18 (yI (-(counts[i]!))) (y_neg (counts[i]!) rfl qf) S ?_
  refine ro 5 rfl ?_
  obtain ⟨a75,c76,G77,s78,h79,H⟩:=H.jV 0 rfl 7 rfl (iv:=(s.qx[i]!).qH) (((s.qx[i]!).qH).toNat) qf qf
  refine zN (.slice a75 (((Qi s t counts i)[((s.qx[i]!).qH).toNat]!).length) c76) isAgg22 rfl (h79) (⟨H.pick [1] [1,2,3,4,5,6,7,8,9,10,11,12],(ro 19 rfl ?_)⟩)
  obtain ⟨u1,u2⟩:=restR_row (c:=(s.qx[i]!).qH.toNat) p0 p1 p2 (show i≤_ by omega) qk
  have u3:=b1.len
  have u4:=b1.yY (t:= -(counts[i]!)) qf
  have sz80:=H.base.size
  have lt81:=H.ltN (L:=[Yy]) [8]
  refine oc (X6 _ ((Qi s t counts i)[((s.qx[i]!).qH).toNat]!) ((s.qx[i]!).xm) (-(counts[i]!)) (H.get 0 rfl).1 (H.get 1 rfl).1 qg qg qg) ?_
  rintro v85 w83 r85 x84
  replace H:=H.zD x84 r85
  obtain ⟨a86,c87,rfl,hc88,hm89⟩:=H.jo 0 rfl
  refine ⟨H.pick [2] [1,2,3,4,5,6,7,8,9,10,11,12],(tI 20 rfl rfl rfl (H.pick [2] [1,2,3,4,5,6,7,8,9,10,11,12]) ?_)⟩
  refine ro 21 rfl ?_
  obtain ⟨G91,N,hn92,H⟩:=H.vS 0 rfl N (H.jQ [8])
  refine jL true H 1 rfl 9 rfl (.slice a86 ((vY ((Qi s t counts i)[((s.qx[i]!).qH).toNat]!) ((s.qx[i]!).xm) (-(counts[i]!))).length) c87) 0 rfl rfl sizeOf22 rfl rfl (i:=(((s.qx[i]!).qH).toNat)) qf qf qm fun w90 xs93 F94 hs95 H=>?_
  replace N:Fresh w.heap.size [F94]:=(N.pick [1,0]).repl hs95
  refine ⟨H.pick [2] [3,4,5,6,7,8,9,10,11,12,13,14],(xO qh (b_n (t_n (xY (sp (yI i) (sw (zC i 1 rfl rfl qf (sp (yI (i+1)) (xZ (xf (m' :=(counts.length - ((i+1):Int)).toNat) qf ⟨_,i+1,((Qi s t counts i).set (((s.qx[i]!).qH).toNat) (vY ((Qi s t counts i)[((s.qx[i]!).qH).toNat]!) ((s.qx[i]!).xm) (-(counts[i]!)))),xs93,F94,uE5,?_,?_,?_,rfl,N,H.pick [1,2] [0,11,12,13,14]⟩))))))))))⟩
  · rfl
  · omega
  · exact i1.succ (fun h=>by obtain ⟨u,v⟩:=h;first | omega | exact v (Q9 qf ‹_›))
 refine zx4 (zcc (sp (yI 0) (zjn (qX ?_))))
 refine zu (fun m' ρ w96=>∃ (xU:Env) (c_1:Nat),ρ=upd (upd xU 9 (.slice Vl QA Xn)) 13 (yI c_1)∧((c_1:Int)≤QA)∧(NonNeg (Qi s t counts i) c_1)∧m' =(QA - (c_1:Int)).toNat∧Fresh w.heap.size [Yy]∧St w w96 [rr Vl QA Xn 22 1 x_rest_1,rr ra1 ((appl s t).length) rc1 4 1 ((appl s t).map (Value.bool))] [zi true Yy x_rest_1 (Qi s t counts i)]) ((QA - (0:Int)).toNat) ⟨_,0,uE2,qf,(by exact fun j hj=>by omega),rfl,N,H.pick [0,1] [0]⟩ ?_
 clear H N
 rintro m' ρ w97 ⟨xU,c_1,rfl,i0,i2,rfl,N,H⟩
 refine zcc (sps [yI c_1,.slice Vl QA Xn] (oN rfl (sp (.bool (decide ((c_1:Int) < QA))) (zjn (cD rfl (fun h98=>?_) (fun h98=>?_))))))
 ·skip
  have r1:=(restR_row (c:=c_1) p0 p1 p2 (show i≤_ by omega) (show c_1 < jg s by omega)).1
  refine qU (t_n (xQ (qX (zcr (sp (yI 0) (zjn (qX ?_)))))))
  refine zu (fun m' ρ w99=>∃ (xU:Env) (k:Nat),ρ=upd (upd (upd xU 9 (.slice Vl QA Xn)) 13 (yI c_1)) 14 (yI k)∧((k:Int)≤(((Qi s t counts i)[c_1]!).length))∧(∀ j,j < k→0≤((Qi s t counts i)[c_1]!)[j]!)∧m' =((((Qi s t counts i)[c_1]!).length) - (k:Int)).toNat∧Fresh w.heap.size [Yy]∧St w w99 [rr Vl QA Xn 22 1 x_rest_1,rr ra1 ((appl s t).length) rc1 4 1 ((appl s t).map (Value.bool))] [zi true Yy x_rest_1 (Qi s t counts i)]) (((((Qi s t counts i)[c_1]!).length) - (0:Int)).toNat) ⟨_,0,uE3,qf,(by exact fun j hj=>by omega),rfl,N,H⟩ ?_
  clear H N
  rintro m' ρ w100 ⟨xU,k,rfl,i0,i3,rfl,N,H⟩
  refine zcc (sps [yI k,.slice Vl QA Xn,yI c_1] ?_)
  obtain ⟨b101,rfl⟩:=H.Qh 0 rfl qf
  refine oI rfl rfl ?_
  obtain ⟨a102,c103,G104,s105,h106,H⟩:=H.jV 0 rfl 0 rfl (iv:=c_1) c_1 qf qf
  refine oL rfl (h106) (oN rfl (sp (.bool (decide ((k:Int) < (((Qi s t counts i)[c_1]!).length)))) (zjn (cD rfl (fun h107=>?_) (fun h107=>?_)))))
  ·skip
   refine qU (t_n (xQ (qX (zcr (sps [.slice (aa b101 0) QA Xn,yI c_1] (oI rfl rfl ?_))))))
   obtain ⟨a108,c109,G110,s111,h112,H⟩:=H.jV 0 rfl 1 rfl (iv:=c_1) c_1 qf qf
   refine oL rfl (h112) (sp (yI k) ?_)
   obtain ⟨b113,o114,rfl⟩:=H.addr 0 rfl qf
   refine oI rfl rfl (oL rfl (H.jC 0 rfl k qf qf) (sp (.bool (decide ((((Qi s t counts i)[c_1]!)[k]! :Int) < 0))) (zjn (cD rfl (fun h116=>?_) (fun h116=>?_)))))
   ·skip
    refine zcr (sps [.slice (aa b101 0) QA Xn,.slice (aa b101 0) QA Xn,.bool false] (zjr (b_r (t_r (t_r (b_r (zr5 (ret2 (.slice (aa b101 0) QA Xn) (.bool false) rfl rfl rfl ⟨_,rfl,?_,H.base⟩))))))))
    obtain rfl:i=counts.length:=by omega
    rw [stop_none (n:=counts.length) i1,xx (fun h=>by have:=h.2 c_1 qf k qf;omega)]
    exact ⟨(aa b101 0),QA,Xn,x_rest_1,Yy,rfl,N,H.pick [0] [2]⟩
   refine qU (b_n (t_n (xY (sp (yI k) (sw (zC k 1 rfl rfl qf (sp (yI (k+1)) (xZ (xf (m' :=((((Qi s t counts i)[c_1]!).length) - ((k+1):Int)).toNat) qf ⟨_,k+1,uE3,?_,?_,rfl,N,H.pick [0,1] [2]⟩)))))))))
   · omega
   · exact fun j hj=>by (by_cases e:j=k;(subst e;omega);exact i3 j qf)
  refine c_exit (t_x (t_x (b_x (b_n (t_n (xY (sp (yI c_1) (sw (zC c_1 1 rfl rfl qf (sp (yI (c_1+1)) (xZ (xf (m' :=(QA - ((c_1+1):Int)).toNat) qf ⟨_,c_1+1,uE2,?_,?_,rfl,N,H.pick [0,1] [1]⟩))))))))))))
  · omega
  · exact i2.succ (fun j hj=>i3 j qf)
 refine zx4 (zcr (sps [.slice Vl QA Xn,.slice Vl QA Xn,.bool true] (zjr (ret2 (.slice Vl QA Xn) (.bool true) rfl rfl rfl ⟨_,rfl,?_,H.base⟩))))
 obtain rfl:i=counts.length:=by omega
 rw [stop_none (n:=counts.length) i1,yD ⟨i1,(show c_1=t.qE.length by omega)▸i2⟩]
 exact ⟨Vl,QA,Xn,x_rest_1,Yy,rfl,N,H.pick [0] [0]⟩
theorem l03Step_ok (w:World) (s:qG) (t:qJ) (counts:yLI) {qB:yOA} {qZ:yLN} {qL:yOA} {xE:yLN} {qV:yOA} {xR:yLN} {xn:yOA} {zy:yLN} {qN:yOA} {xH:yLN} {acounts:yOA} {Fcounts:yLN} (hs:ve w bs os (yS s qB qy qL qI)) (xe:qO.rep w qZ [.slice qB s.qw.length qy] s.qw) (xJ:qO.rep w xE [.slice qL s.qx.length qI] s.qx) (ht:ve w bt ot (yT t qV qR xn xk qN qM)) (zl:qO.rep w xR [.slice qV t.qA.length qR] t.qA) (zK:qO.rep w zy [.slice xn t.qE.length xk] t.qE) (xP:qO.rep w xH [.slice qN t.qC.length qM] t.qC) (hcounts:qO.rep w Fcounts [.slice acounts counts.length ccounts] counts) (p0:jO s) (p1:zF s t) (p2:CntOk s counts):Calls Tryz.prog 144 #[pp bs os,pp bt ot,.slice acounts counts.length ccounts] w (Ret (fun v w' =>∃ (ra0Alive:yOA) (rn0Alive:Nat) (rc0Alive:Nat) (ra0Bags:yOA) (rn0Bags:Nat) (rc0Bags:Nat) (rx0Bags:List Value) (rF0Bags:yLN) (ra0Around:yOA) (rn0Around:Nat) (rc0Around:Nat),v=.tuple #[.agg #[.slice ra0Alive rn0Alive rc0Alive,.slice ra0Bags rn0Bags rc0Bags,.slice ra0Around rn0Around rc0Around],yI ((xN s t counts).2)]∧Fresh w.heap.size [rF0Bags]∧St w w' [rr ra0Alive rn0Alive rc0Alive 4 1 ((((xN s t counts).1).qA).map (Value.bool)),rr ra0Bags rn0Bags rc0Bags 22 1 rx0Bags,rr ra0Around rn0Around rc0Around 2 1 ((((xN s t counts).1).qC).map (Value.int .i64))] [zi true rF0Bags rx0Bags (((xN s t counts).1).qE)]) w):=by
 refine en func144 ntmps144 ?_
 have H:=((((((((St.start w).arg hcounts).arg xP).arg zK).arg zl).XW ht).arg xJ).arg xe).XW hs
 have zY:=qK xe
 have jb:=qK xJ
 have Qd:=qK zl
 have QQ:=qK zK
 have jP:=qK xP
 have nhcounts:=qK hcounts
 clear hs xe xJ ht zl zK xP hcounts
 have N:=Fresh.nil w.heap.size
 have p3:=p0.2.1
 have p6:=p2.1
 have p7:=p1.2.1
 have p8:=kinds_le p0
 have p9:=p0.1.2.1
 have p11:jg s=s.qw.length:=rfl
 have p12:=p1.1
 have p15:=p0.1
 have p16:=p0.1.1
 obtain ⟨q7,q8,q9,q10⟩:=p1.sizes p0.1
 have q13:=fun k hk=>Nat.le_trans (q10 k hk) (by decide:8≤1000000)
 have p14:=restR_len (s:=s) (t:=t) (counts:=counts)
 refine zcr (sw (zf H ti38 [yN,yN,yN] fun b1 w2 H=>sp (yI 0) (zjc (sps [pp bs os,pp bt ot,.slice acounts counts.length ccounts] ?_))))
 have sz6:=H.base.size
 refine sw (oc (l03Rest_ok _ s t counts (qF (H.get 0 rfl) 0 3) (H.get 1 rfl).1 (H.get 2 rfl).1 (qF (H.get 3 rfl) 0 3) (H.get 4 rfl).1 (H.get 5 rfl).1 (H.get 6 rfl).1 (H.get 7 rfl).1 qg qg qg) ?_)
 rintro _ w4 ⟨ra3a,rn3a,rc3a,rx3a,rF3a,rfl,M,K⟩ _
 replace N:=N.merge sz6 qm M
 replace H:=H.merge K M
 obtain rfl:=H.zh (α:=yLI) 0 rfl 0 rfl qj
 refine sps [.tuple #[.slice ra3a ((Qi s t counts (QC (BadAt s t counts) counts.length)).length) rc3a,.bool (dec (IsCh s t counts))],.slice ra3a ((Qi s t counts (QC (BadAt s t counts) counts.length)).length) rc3a,.bool (dec (IsCh s t counts)),.slice ra3a ((Qi s t counts (QC (BadAt s t counts) counts.length)).length) rc3a,.bool (dec (IsCh s t counts))] (zjcc (sps [.bool (dec (IsCh s t counts)),.bool (!(dec (IsCh s t counts)))] (zjn (cQ rfl (fun h9=>?_) (fun h9=>?_)))))
 ·skip
  refine zcr (sw (jB [yN,yN,yN] [] (sw (zB H 1 [yN,yN,yN] sizeOf38 fun w10 H=>sp (yI 4) (zjr (t_r ?_))))))
  replace H:=H.nilRowB 4
  replace H:=H.nilRow 22 1
  replace H:=H.vI (α:=yLI)
  replace H:=H.nilRowI 2
  refine retC2 H 4 rfl (yI 4) rfl isAgg38 sizeOf38 rfl rfl ⟨_,rfl,?_,H.base⟩
  rw [stepBy_no ‹_›]
  exact ⟨none,0,0,none,0,0,[],[],none,0,0,rfl,(N.emp.pick [0]),H.pick [2,1,0] [0]⟩
 have st:=stop_none (n:=counts.length) (P:=BadAt s t counts) (‹IsCh s t counts›).1
 have r1:=restR_len (s:=s) (t:=t) (counts:=counts) (QC (BadAt s t counts) counts.length)
 refine qU (t_n (zcr (sp (pp bt ot) ?_)))
 have sz14:=H.base.size
 have lt15:=H.ltN (L:=[rF3a]) [0]
 refine sw (oc (l02Own_ok _ t (qF (H.get 4 rfl) 0 3) (H.get 5 rfl).1 (H.get 6 rfl).1 (H.get 7 rfl).1 qg qg qg qg) ?_)
 rintro _ w12 ⟨y9,rn11Alive,yZ,ra11Bags,rn11Bags,rc11Bags,Yw,yC,ra11Around,rn11Around,rc11Around,rfl,M,K⟩ _
 replace N:=N.merge sz14 lt15 M
 replace H:=H.merge K M
 obtain rfl:=H.rowNB 0 rfl
 obtain rfl:=H.zh (α:=yLI) 1 rfl 0 rfl qj
 obtain rfl:=H.Vq 2 rfl
 refine sw (zf H ti38 [yN,yN,yN] fun b19 w20 H=>sw (zB H 0 (yT t y9 yZ ra11Bags rc11Bags ra11Around rc11Around) sizeOf38 fun w21 H=>zjc (sp (.slice ra3a ((Qi s t counts (QC (BadAt s t counts) counts.length)).length) rc3a) (oF rfl (sw (zJ H 0 [.slice y9 t.qA.length yZ,.slice ra3a ((Qi s t counts (QC (BadAt s t counts) counts.length)).length) rc3a,.slice ra11Around t.qC.length rc11Around] sizeOf27 fun w22 H=>zjcc (sp (yI 0) ?_)))))))
 refine zjn (qX ?_)
 refine zu (fun m' ρ w23=>∃ (xU:Env) (i:Nat) (vX:yOA) (vV:Nat) (vW:Nat) (out_Around:yLI) (rest:yLL) (x_rest:List Value) (F_rest:yLN),ρ=upd (upd (upd (upd (upd (upd xU 0 (pp bs os)) 1 (pp bt ot)) 2 (.slice acounts counts.length ccounts)) 6 (pp b1 0)) 10 (pp b19 0)) 11 (yI i)∧((i:Int)≤counts.length)∧(Ent (s.qw.length+1) (QH s) (fun p q=>base0 s t p q+needS s counts s.qx.length p q+putS s t counts i p q) (20000000+6000000 * i) (rest++[out_Around]))∧(rest.length=s.qw.length)∧m' =(counts.length - (i:Int)).toNat∧Fresh w.heap.size [yC,F_rest]∧St w w23 [.box b19 [.slice y9 t.qA.length yZ,.slice ra3a ((Qi s t counts (QC (BadAt s t counts) counts.length)).length) rc3a,.slice vX vV vW] 38,rr y9 t.qA.length yZ 4 1 (t.qA.map (Value.bool)),rr ra11Bags t.qE.length rc11Bags 22 1 Yw,rr vX vV vW 2 1 (out_Around.map (Value.int .i64)),rr ra3a ((Qi s t counts (QC (BadAt s t counts) counts.length)).length) rc3a 22 1 x_rest,.box b1 [yN,yN,yN] 38] [zi true yC Yw t.qE,zi true F_rest x_rest rest,atF bs os (yS s qB qy qL qI),sF false qZ qB qy s.qw,sF false xE qL qI s.qx,atF bt ot (yT t qV qR xn xk qN qM),sF false xR qV qR t.qA,sF false zy xn xk t.qE,sF false xH qN qM t.qC,sF false Fcounts acounts ccounts counts]) ((counts.length - (0:Int)).toNat) ⟨_,0,ra11Around,t.qC.length,rc11Around,t.qC,Qi s t counts (QC (BadAt s t counts) counts.length),rx3a,rF3a,uE6,qf,(by rw [st,p6];exact (rest_ent p0 p1 p2).to (fun _ _=>rfl) qf),qf,rfl,N,H⟩ ?_
 clear H N
 rintro m' ρ w24 ⟨xU,i,vX,vV,vW,out_Around,rest,x_rest,F_rest,rfl,i0,E_rest,z_rest,rfl,N,H⟩
 have hn_out_Around:=H.Vq 3 rfl
 have hn_rest:=H.zh (α:=yLI) 4 rfl 1 rfl qj
 refine zcc (sps [yI i,.slice acounts counts.length ccounts] (oN rfl (sp (.bool (decide ((i:Int) < counts.length))) (zjn (cD rfl (fun h25=>?_) (fun h25=>?_))))))
 ·skip
  have q:=p0.rule (i:=i) qf
  have qc:=q.1
  have qk:=q.cell
  have qr:=q.2.1
  have bn1:=q.2.2.2.2.1
  have bn2:=q.2.2.2.2.2.2.2.1
  have bn3:=q.2.2.2.2.2.2.2.2.1
  have ln1:=bn1.len
  have ln2:=bn2.len
  have ln3:=bn3.len
  have p10:=p2.bd (i:=i) qf
  have qn:=q.2.2.2.1
  refine qU (t_n (xQ (qX (zcr (sps [pp bs os,pp bs os] (oF rfl (oL rfl (H.xW 2 rfl 2 rfl) (sp (yI i) ?_))))))))
  obtain ⟨b26,o27,rfl⟩:=H.addr 4 rfl qf
  obtain ⟨ae29Need,ce29Need,Fe29Need,ae29Have,ce29Have,Fe29Have,ae29Lack,ce29Lack,Fe29Lack,ae29Here,ce29Here,Fe29Here,ae29Out,ce29Out,Fe29Out,ae29Into,ce29Into,Fe29Into,H⟩:=H.yt 4 rfl i i qf qf qf
  refine oI rfl rfl (sp (pp b26 (o27+(i:Int).toNat * 9)) (zjcc (sps [.slice acounts counts.length ccounts,yI i] ?_)))
  obtain ⟨b30,o31,rfl⟩:=H.addr 16 rfl qf
  refine oI rfl rfl (oL rfl (H.jC 16 rfl i qf qf) (sp (.bool ((counts[i]! :Int) == 0)) (zjn (cE rfl (fun h33=>?_) (fun h33=>?_)))))
  ·skip
   refine c_exit (t_x (b_x (t_n (xY (sp (yI i) (sw (zC i 1 rfl rfl qf (sp (yI (i+1)) (xZ (xf (m' :=(counts.length - ((i+1):Int)).toNat) qf ⟨_,i+1,vX,vV,vW,out_Around,rest,x_rest,F_rest,uE6,?_,?_,?_,rfl,N,H.pick [0,1,2,3,4,5] [7,8,9,10,11,12,13,14,15,16]⟩))))))))))
   · omega
   · first | exact E_rest.to (fun p q=>by simp only [putS_skip (s:=s) (t:=t) (counts:=counts) (i:=i) ‹_›]) qf | exact E_out_Bags.to (fun p q=>by rw [show k=((s.qx[i]!).qQ).length by omega];simp only [putS,putF];omega) qf
   · omega
  refine qU (t_n (xQ ?_))
  refine Qn rfl H [0,1,2,3,5] fun H=>?_
  have S:=H.yl [0,1,2,3,5] [0,1,2,3,4,5,6,7,8,9,10,11,12,13,14,15,16]
  refine tF 0 rfl rfl S ?_
  refine tL 1 rfl rfl (fun _ h=>h.cell 0 rfl rfl) S ?_
  refine rtp 2 (pp b26 (o27+(i:Int).toNat * 9)) S ?_
  refine rtp 3 (pp b26 (o27+(i:Int).toNat * 9)) S ?_
  refine tF 4 rfl rfl S ?_
  refine tL 5 rfl rfl (fun _ h=>h.xW 6 rfl 0 rfl) S ?_
  refine tF 6 rfl rfl S ?_
  refine tL 7 rfl rfl (fun _ h=>h.cell 0 rfl rfl) S ?_
  refine rtp 8 (pp b26 (o27+(i:Int).toNat * 9)) S ?_
  refine rtp 9 (pp b26 (o27+(i:Int).toNat * 9)) S ?_
  refine tF 10 rfl rfl S ?_
  refine tL 11 rfl rfl (fun _ h=>h.xW 6 rfl 0 rfl) S ?_
  obtain ⟨b35,rfl⟩:=H.Qh 4 rfl qf
  have S:=H.yl [0,1,2,3,5] [0,1,2,3,4,5,6,7,8,9,10,11,12,13,14,15,16]
  refine tI 12 rfl rfl rfl S ?_
  refine rtp 14 (pp b26 (o27+(i:Int).toNat * 9)) S ?_
  refine rtp 15 (pp b26 (o27+(i:Int).toNat * 9)) S ?_
  refine tF 16 rfl rfl S ?_
  refine tL 17 rfl rfl (fun _ h=>h.xW 6 rfl 5 rfl) S ?_
  refine rtp 18 (.slice (aa b30 o31) counts.length ccounts) S ?_
  refine rtp 19 (yI i) S ?_
  refine tI 20 rfl rfl rfl S ?_
  refine tL 21 rfl rfl (fun _ h=>h.yu 16 rfl i qf) S ?_
  refine ro 13 rfl ?_
  obtain ⟨a36,c37,G38,s39,h40,H⟩:=H.jV 4 rfl 8 rfl (iv:=(s.qx[i]!).qH) (((s.qx[i]!).qH).toNat) qf qf
  refine zN (.slice a36 ((rest[((s.qx[i]!).qH).toNat]!).length) c37) isAgg22 rfl (h40) (⟨H.pick [0,1,2,3,5] [1,2,3,4,5,6,7,8,9,10,11,12,13,14,15,16,17],(ro 22 rfl ?_)⟩)
  obtain ⟨u1,u2⟩:=Ent.rowL E_rest (c:=((s.qx[i]!).qH).toNat) qf qf qf qf
  have u4:=(by first | exact bn2.yY qf | exact bn3.yY qf | exact bn4.yY qf:SmallT ((s.qx[i]!).xM) (counts[i]!))
  have sz41:=H.base.size
  have lt42:=H.ltN (L:=[yC,F_rest]) [8,9]
  refine oc (X6 _ (rest[((s.qx[i]!).qH).toNat]!) ((s.qx[i]!).xM) (counts[i]!) (H.get 0 rfl).1 (H.get 4 rfl).1 qg qg qg) ?_
  rintro v46 w44 r46 x45
  replace H:=H.zD x45 r46
  obtain ⟨a47,c48,rfl,hc49,hm50⟩:=H.jo 0 rfl
  refine ⟨H.pick [1,2,3,4,6] [1,2,3,4,5,6,7,8,9,10,11,12,13,14,15,16,17],(tI 23 rfl rfl rfl (H.pick [1,2,3,4,6] [1,2,3,4,5,6,7,8,9,10,11,12,13,14,15,16,17]) ?_)⟩
  refine ro 24 rfl ?_
  obtain ⟨G52,N,hn53,H⟩:=H.vS 0 rfl N (H.jQ [8,9])
  refine jL true H 5 rfl 10 rfl (.slice a47 ((vY (rest[((s.qx[i]!).qH).toNat]!) ((s.qx[i]!).xM) (counts[i]!)).length) c48) 0 rfl rfl sizeOf22 rfl rfl (i:=(((s.qx[i]!).qH).toNat)) qf qf qm fun w51 xs54 F55 hs56 H=>?_
  replace N:Fresh w.heap.size [F55,yC]:=(N.pick [2,0,1]).repl hs56
  refine ⟨H.pick [1,2,3,4,6] [3,4,5,6,7,8,9,10,11,12,13,14,15,16,17,18,19],(xO qh (t_n (zcc (sps [pp b26 (o27+(i:Int).toNat * 9),pp b26 (o27+(i:Int).toNat * 9)] (oF rfl (oL rfl (H.xW 9 rfl 0 rfl) (sp (.bool (((s.qx[i]!).qH:Int) == 0)) (zjn (cE rfl (fun h57=>?_) (fun h57=>?_))))))))))⟩
  ·skip
   obtain ⟨bg58,e_bg58⟩:∃ z,z=(rest.set (((s.qx[i]!).qH).toNat) (vY (rest[((s.qx[i]!).qH).toNat]!) ((s.qx[i]!).xM) (counts[i]!))):=⟨_,rfl⟩
   rw [← e_bg58] at H
   have E_bg58:=Ent.addL (D:=1000000) E_rest e_bg58 qf qf (by first | exact bn2.mul qf | exact bn3.mul qf | exact bn4.mul qf) qf
   have z_bg58:bg58.length=s.qw.length:=by rw [e_bg58,List.length_set];omega
   have E_cur:=E_bg58
   refine Qn rfl H [0,2,3,4,5,6] fun H=>?_
   have S:=H.yl [0,2,3,4,5,6] [0,1,2,3,4,5,6,7,8,9,10,11,12,13,14,15,16,17,18,19]
   refine tF 0 rfl rfl S ?_
   refine rtp 2 (pp b26 (o27+(i:Int).toNat * 9)) S ?_
   refine rtp 3 (pp b26 (o27+(i:Int).toNat * 9)) S ?_
   refine tF 4 rfl rfl S ?_
   refine tL 5 rfl rfl (fun _ h=>h.xW 9 rfl 6 rfl) S ?_
   refine rtp 6 (.slice (aa b30 o31) counts.length ccounts) S ?_
   refine rtp 7 (yI i) S ?_
   refine tI 8 rfl rfl rfl S ?_
   refine tL 9 rfl rfl (fun _ h=>h.yu 19 rfl i qf) S ?_
   refine ro 1 rfl (zN (.slice vX vV vW) isAgg22 rfl (H.cell 1 rfl rfl) (⟨H.pick [0,2,3,4,5,6] [0,1,2,3,4,5,6,7,8,9,10,11,12,13,14,15,16,17,18,19],(ro 10 rfl ?_)⟩))
   obtain ⟨G60,hn61,h62⟩:=H.rowIsI 4 rfl
   obtain ⟨u1,u2⟩:=Ent.rowN E_bg58 qf qf qf
   have u4:=(by first | exact bn2.yY qf | exact bn3.yY qf | exact bn4.yY qf:SmallT ((s.qx[i]!).zV) (counts[i]!))
   have sz63:=H.base.size
   have lt64:=H.ltN (L:=[F55,yC]) [0,10]
   refine oc (YM (by rw [← hn61]) (X6 _ out_Around ((s.qx[i]!).zV) (counts[i]!) (hn61▸h62) (H.get 7 rfl).1 qg qg qg)) ?_
   rintro v68 w66 r68 x67
   replace H:=H.zD x67 r68
   obtain ⟨a69,c70,rfl,hc71,hm72⟩:=H.jo 0 rfl
   refine ⟨H.pick [1,3,4,5,6,7] [0,1,2,3,4,5,6,7,8,9,10,11,12,13,14,15,16,17,18,19],(tF 11 rfl rfl (H.pick [1,3,4,5,6,7] [0,1,2,3,4,5,6,7,8,9,10,11,12,13,14,15,16,17,18,19]) ?_)⟩
   refine ro 12 rfl (zJ H 2 [.slice y9 t.qA.length yZ,.slice (aa b35 0) ((Qi s t counts (QC (BadAt s t counts) counts.length)).length) rc3a,.slice a69 ((vY out_Around ((s.qx[i]!).zV) (counts[i]!)).length) c70] sizeOf22 fun w73 H=>⟨H.pick [1,3,4,5,6,7] [0,1,2,3,4,5,6,7,8,9,10,11,12,13,14,15,16,17,18,19],(xO qh (t_n (zcr (sp (yI 0) (zjn (qX ?_))))))⟩)
   replace E_bg58:=Ent.addN (D:=1000000) (a' :=vY out_Around ((s.qx[i]!).zV) (counts[i]!)) E_bg58 rfl qf (by first | exact bn2.mul qf | exact bn3.mul qf | exact bn4.mul qf) qf
   have E_cur:=E_bg58
   refine zu (fun m' ρ w74=>∃ (xU:Env) (k:Nat) (out_Bags:yLL) (zS:List Value) (zg:yLN),ρ=upd (upd (upd (upd (upd (upd (upd (upd xU 0 (pp bs os)) 1 (pp bt ot)) 2 (.slice (aa b30 o31) counts.length ccounts)) 6 (pp b1 0)) 10 (pp b19 0)) 11 (yI i)) 12 (pp b26 (o27+(i:Int).toNat * 9))) 14 (yI k)∧((k:Int)≤(((s.qx[i]!).qQ).length))∧(Ent (s.qw.length+1) (QH s) (fun p q=>base0 s t p q+needS s counts s.qx.length p q+putS s t counts i p q+at' p (s.qx[i]!).qH.toNat (counts[i]! * ((s.qx[i]!).xM)[q]!)+at' p (outPl s t (s.qx[i]!)) (counts[i]! * ((s.qx[i]!).zV)[q]!)+intoF (s.qx[i]!) (counts[i]!) k p q) (22000000+6000000 * i+1000000 * k) (out_Bags++[vY out_Around ((s.qx[i]!).zV) (counts[i]!)]))∧(out_Bags.length=s.qw.length)∧m' =((((s.qx[i]!).qQ).length) - (k:Int)).toNat∧Fresh w.heap.size [yC,zg]∧St w w74 [rr a69 ((vY out_Around ((s.qx[i]!).zV) (counts[i]!)).length) c70 2 1 ((vY out_Around ((s.qx[i]!).zV) (counts[i]!)).map (Value.int .i64)),.box b19 [.slice y9 t.qA.length yZ,.slice (aa b35 0) ((Qi s t counts (QC (BadAt s t counts) counts.length)).length) rc3a,.slice a69 ((vY out_Around ((s.qx[i]!).zV) (counts[i]!)).length) c70] 38,rr y9 t.qA.length yZ 4 1 (t.qA.map (Value.bool)),rr ra11Bags t.qE.length rc11Bags 22 1 Yw,rr vX vV vW 2 1 (out_Around.map (Value.int .i64)),rr (aa b35 0) ((Qi s t counts (QC (BadAt s t counts) counts.length)).length) rc3a 22 1 zS,.box b1 [yN,yN,yN] 38] [zi true zg zS out_Bags,sF false Fe29Need ae29Need ce29Need ((s.qx[i]!).xm),sF false Fe29Have ae29Have ce29Have ((s.qx[i]!).xF),sF false Fe29Lack ae29Lack ce29Lack ((s.qx[i]!).xI),sF false Fe29Here ae29Here ce29Here ((s.qx[i]!).xM),sF false Fe29Out ae29Out ce29Out ((s.qx[i]!).zV),sF false Fe29Into ae29Into ce29Into ((s.qx[i]!).qQ),atF b26 (o27+(i:Int).toNat * 9) [yI ((s.qx[i]!).qH),yI ((s.qx[i]!).zM),.slice ae29Need (((s.qx[i]!).xm).length) ce29Need,.slice ae29Have (((s.qx[i]!).xF).length) ce29Have,.slice ae29Lack (((s.qx[i]!).xI).length) ce29Lack,.slice ae29Here (((s.qx[i]!).xM).length) ce29Here,.slice ae29Out (((s.qx[i]!).zV).length) ce29Out,.slice ae29Into (((s.qx[i]!).qQ).length) ce29Into,.bool ((s.qx[i]!).zA)],zi true yC Yw t.qE,atF bs os [yI s.xC,.slice qB s.qw.length qy,.slice (aa b26 o27) s.qx.length qI],sF false qZ qB qy s.qw,sF false xE (aa b26 o27) qI s.qx,atF bt ot (yT t qV qR xn xk qN qM),sF false xR qV qR t.qA,sF false zy xn xk t.qE,sF false xH qN qM t.qC,sF false Fcounts (aa b30 o31) ccounts counts]) (((((s.qx[i]!).qQ).length) - (0:Int)).toNat) ⟨_,0,bg58,xs54,F55,uE8,qf,(by exact E_cur.to (fun p q=>by first | (simp only [intoF,outPl_root (s:=s) (t:=t) (r:=s.qx[i]!) ‹_›,jg];omega) | (simp only [intoF,outPl_up (s:=s) (t:=t) (r:=s.qx[i]!) ‹_›];omega)) qf),qf,rfl,(N.pick [1,0]),H.pick [0,2,3,4,5,6,7] [0,3,4,5,6,7,8,9,10,12,13,14,15,16,17,18,19]⟩ ?_
   clear H N
   rintro m' ρ w75 ⟨xU,k,out_Bags,zS,zg,rfl,i0,E_out_Bags,z_out_Bags,rfl,N,H⟩
   have YH:=H.zh (α:=yLI) 5 rfl 0 rfl qj
   refine zcc (sps [yI k,pp b26 (o27+(i:Int).toNat * 9),pp b26 (o27+(i:Int).toNat * 9)] (oF rfl (oL rfl (H.xW 7 rfl 7 rfl) (oN rfl (sp (.bool (decide ((k:Int) < (((s.qx[i]!).qQ).length)))) (zjn (cD rfl (fun h76=>?_) (fun h76=>?_))))))))
   ·skip
    have qi:=q.2.2.2.2.2.2.2.2.2.2 k qf
    have qi1:=qi.1
    have bn4:=qi.2.2.1
    have ln4:=bn4.len
    refine qU (t_n (xQ (qX (zcr (sps [pp b26 (o27+(i:Int).toNat * 9),pp b26 (o27+(i:Int).toNat * 9)] (oF rfl (oL rfl (H.xW 7 rfl 7 rfl) (sp (yI k) ?_))))))))
    obtain ⟨b77,o78,rfl⟩:=H.addr 6 rfl qf
    obtain ⟨ae80Bag,ce80Bag,Fe80Bag,H⟩:=H.jS 6 rfl k k qf qf qf
    refine oI rfl rfl (oF rfl (oL rfl (H.xW 1 rfl 0 rfl) (sp (yI ((((s.qx[i]!).qQ)[k]!).qH)) (zjn ?_))))
    refine Qn rfl H [0,1,2,3,4,6] fun H=>?_
    have S:=H.yl [0,1,2,3,4,6] [0,1,2,3,4,5,6,7,8,9,10,11,12,13,14,15,16,17,18]
    refine tF 0 rfl rfl S ?_
    refine tL 1 rfl rfl (fun _ h=>h.cell 1 rfl rfl) S ?_
    refine rtp 2 (yI ((((s.qx[i]!).qQ)[k]!).qH)) S ?_
    refine tF 3 rfl rfl S ?_
    refine tL 4 rfl rfl (fun _ h=>h.cell 1 rfl rfl) S ?_
    refine rtp 5 (yI ((((s.qx[i]!).qQ)[k]!).qH)) S ?_
    refine tI 6 rfl rfl rfl S ?_
    refine rtp 8 (pp b26 (o27+(i:Int).toNat * 9)) S ?_
    refine rtp 9 (pp b26 (o27+(i:Int).toNat * 9)) S ?_
    refine tF 10 rfl rfl S ?_
    refine tL 11 rfl rfl (fun _ h=>h.xW 9 rfl 7 rfl) S ?_
    refine rtp 12 (yI k) S ?_
    refine tI 13 rfl rfl rfl S ?_
    refine tF 14 rfl rfl S ?_
    refine tL 15 rfl rfl (fun _ h=>h.xW 1 rfl 1 rfl) S ?_
    refine rtp 16 (.slice (aa b30 o31) counts.length ccounts) S ?_
    refine rtp 17 (yI i) S ?_
    refine tI 18 rfl rfl rfl S ?_
    refine tL 19 rfl rfl (fun _ h=>h.yu 18 rfl i qf) S ?_
    refine ro 7 rfl ?_
    obtain ⟨a82,c83,G84,s85,h86,H⟩:=H.jV 5 rfl 2 rfl (iv:=(((s.qx[i]!).qQ)[k]!).qH) (((((s.qx[i]!).qQ)[k]!).qH).toNat) qf qf
    refine zN (.slice a82 ((out_Bags[((((s.qx[i]!).qQ)[k]!).qH).toNat]!).length) c83) isAgg22 rfl (h86) (⟨H.pick [0,1,2,3,4,6] [1,2,3,4,5,6,7,8,9,10,11,12,13,14,15,16,17,18,19],(ro 20 rfl ?_)⟩)
    obtain ⟨u1,u2⟩:=Ent.rowL E_out_Bags (c:=((((s.qx[i]!).qQ)[k]!).qH).toNat) qf qf qf qf
    have u4:=(by first | exact bn2.yY qf | exact bn3.yY qf | exact bn4.yY qf:SmallT ((((s.qx[i]!).qQ)[k]!).jy) (counts[i]!))
    have sz87:=H.base.size
    have lt88:=H.ltN (L:=[yC,zg]) [11,3]
    refine oc (X6 _ (out_Bags[((((s.qx[i]!).qQ)[k]!).qH).toNat]!) ((((s.qx[i]!).qQ)[k]!).jy) (counts[i]!) (H.get 0 rfl).1 (H.get 1 rfl).1 qg qg qg) ?_
    rintro v92 w90 r92 x91
    replace H:=H.zD x91 r92
    obtain ⟨a93,c94,rfl,hc95,hm96⟩:=H.jo 0 rfl
    refine ⟨H.pick [1,2,3,4,5,7] [1,2,3,4,5,6,7,8,9,10,11,12,13,14,15,16,17,18,19],(tI 21 rfl rfl rfl (H.pick [1,2,3,4,5,7] [1,2,3,4,5,6,7,8,9,10,11,12,13,14,15,16,17,18,19]) ?_)⟩
    refine ro 22 rfl ?_
    obtain ⟨G98,N,hn99,H⟩:=H.vS 0 rfl N (H.jQ [11,3])
    refine jL true H 6 rfl 4 rfl (.slice a93 ((vY (out_Bags[((((s.qx[i]!).qQ)[k]!).qH).toNat]!) ((((s.qx[i]!).qQ)[k]!).jy) (counts[i]!)).length) c94) 0 rfl rfl sizeOf22 rfl rfl (i:=(((((s.qx[i]!).qQ)[k]!).qH).toNat)) qf qf qm fun w97 xs100 F101 hs102 H=>?_
    replace N:Fresh w.heap.size [F101,yC]:=(N.pick [2,0,1]).repl hs102
    refine ⟨H.pick [1,2,3,4,5,7] [3,4,5,6,7,8,9,10,11,12,13,14,15,16,17,18,19,20,21],(xO qh (b_n (t_n (xY (sp (yI k) (sw (zC k 1 rfl rfl qf (sp (yI (k+1)) (xZ ?_)))))))))⟩
    obtain ⟨bg103,e_bg103⟩:∃ z,z=(out_Bags.set (((((s.qx[i]!).qQ)[k]!).qH).toNat) (vY (out_Bags[((((s.qx[i]!).qQ)[k]!).qH).toNat]!) ((((s.qx[i]!).qQ)[k]!).jy) (counts[i]!))):=⟨_,rfl⟩
    rw [← e_bg103] at H
    have E_bg103:=Ent.addL (D:=1000000) E_out_Bags e_bg103 qf qf (by first | exact bn2.mul qf | exact bn3.mul qf | exact bn4.mul qf) qf
    have z_bg103:bg103.length=s.qw.length:=by rw [e_bg103,List.length_set];omega
    have E_cur:=E_bg103
    refine xf (m' :=((((s.qx[i]!).qQ).length) - ((k+1):Int)).toNat) qf ⟨_,k+1,bg103,xs100,F101,uE8,?_,?_,?_,rfl,(N.pick [1,0]),H.pick [1,2,3,4,5,6,7] [0,6,7,8,9,10,11,12,13,14,15,16,17,18,19,20,21]⟩
    · omega
    · exact E_cur.to (fun p q=>by simp only [intoF];omega) qf
    · omega
   refine c_exit (t_x (t_x (b_x (b_n (t_n (xY (sp (yI i) (sw (zC i 1 rfl rfl qf (sp (yI (i+1)) (xZ (xf (m' :=(counts.length - ((i+1):Int)).toNat) qf ⟨_,i+1,a69,(vY out_Around ((s.qx[i]!).zV) (counts[i]!)).length,c70,vY out_Around ((s.qx[i]!).zV) (counts[i]!),out_Bags,zS,zg,uE6,?_,?_,?_,rfl,N,H.pick [1,2,3,0,5,6] [8,0,9,10,11,12,13,14,15,16]⟩))))))))))))
   · omega
   · first | exact E_rest.to (fun p q=>by simp only [putS_skip (s:=s) (t:=t) (counts:=counts) (i:=i) ‹_›]) qf | exact E_out_Bags.to (fun p q=>by rw [show k=((s.qx[i]!).qQ).length by omega];simp only [putS,putF];omega) qf
   · omega
  obtain ⟨bg104,e_bg104⟩:∃ z,z=(rest.set (((s.qx[i]!).qH).toNat) (vY (rest[((s.qx[i]!).qH).toNat]!) ((s.qx[i]!).xM) (counts[i]!))):=⟨_,rfl⟩
  rw [← e_bg104] at H
  have E_bg104:=Ent.addL (D:=1000000) E_rest e_bg104 qf qf (by first | exact bn2.mul qf | exact bn3.mul qf | exact bn4.mul qf) qf
  have z_bg104:bg104.length=s.qw.length:=by rw [e_bg104,List.length_set];omega
  have E_cur:=E_bg104
  refine zcr (sps [pp bs os,pp bt ot,pp b26 (o27+(i:Int).toNat * 9),pp b26 (o27+(i:Int).toNat * 9)] (oF rfl (oL rfl (H.xW 9 rfl 0 rfl) (sw (oq (l02Parent_ok _ s t ((s.qx[i]!).qH) (qF (H.get 12 rfl) 0 3) (H.get 13 rfl).1 (H.get 14 rfl).1 (qF (H.get 15 rfl) 0 3) (H.get 16 rfl).1 (H.get 17 rfl).1 (H.get 18 rfl).1 ql ql ql) H fun w105 H=>?_)))))
  have pin:=YP (s:=s) (t:=t) (c:=((s.qx[i]!).qH)) p0.1 p1.2.2.1 qf qf
  refine sp (yI (xA s t ((s.qx[i]!).qH))) (zjn ?_)
  refine Qn rfl H [0,1,2,3,4,6] fun H=>?_
  have S:=H.yl [0,1,2,3,4,6] [0,1,2,3,4,5,6,7,8,9,10,11,12,13,14,15,16,17,18,19]
  refine tF 0 rfl rfl S ?_
  refine tL 1 rfl rfl (fun _ h=>h.cell 1 rfl rfl) S ?_
  refine rtp 2 (yI (xA s t ((s.qx[i]!).qH))) S ?_
  refine tF 3 rfl rfl S ?_
  refine tL 4 rfl rfl (fun _ h=>h.cell 1 rfl rfl) S ?_
  refine rtp 5 (yI (xA s t ((s.qx[i]!).qH))) S ?_
  refine tI 6 rfl rfl rfl S ?_
  refine rtp 8 (pp b26 (o27+(i:Int).toNat * 9)) S ?_
  refine rtp 9 (pp b26 (o27+(i:Int).toNat * 9)) S ?_
  refine tF 10 rfl rfl S ?_
  refine tL 11 rfl rfl (fun _ h=>h.xW 9 rfl 6 rfl) S ?_
  refine rtp 12 (.slice (aa b30 o31) counts.length ccounts) S ?_
  refine rtp 13 (yI i) S ?_
  refine tI 14 rfl rfl rfl S ?_
  refine tL 15 rfl rfl (fun _ h=>h.yu 19 rfl i qf) S ?_
  refine ro 7 rfl ?_
  obtain ⟨a108,c109,G110,s111,h112,H⟩:=H.jV 5 rfl 0 rfl (iv:=xA s t ((s.qx[i]!).qH)) ((xA s t ((s.qx[i]!).qH)).toNat) qf qf
  refine zN (.slice a108 ((bg104[(xA s t ((s.qx[i]!).qH)).toNat]!).length) c109) isAgg22 rfl (h112) (⟨H.pick [0,1,2,3,4,6] [1,2,3,4,5,6,7,8,9,10,11,12,13,14,15,16,17,18,19,20],(ro 16 rfl ?_)⟩)
  obtain ⟨u1,u2⟩:=Ent.rowL E_bg104 (c:=(xA s t ((s.qx[i]!).qH)).toNat) qf qf qf qf
  have u4:=(by first | exact bn2.yY qf | exact bn3.yY qf | exact bn4.yY qf:SmallT ((s.qx[i]!).zV) (counts[i]!))
  have sz113:=H.base.size
  have lt114:=H.ltN (L:=[F55,yC]) [1,11]
  refine oc (X6 _ (bg104[(xA s t ((s.qx[i]!).qH)).toNat]!) ((s.qx[i]!).zV) (counts[i]!) (H.get 0 rfl).1 (H.get 8 rfl).1 qg qg qg) ?_
  rintro v118 w116 r118 x117
  replace H:=H.zD x117 r118
  obtain ⟨a119,c120,rfl,hc121,hm122⟩:=H.jo 0 rfl
  refine ⟨H.pick [1,2,3,4,5,7] [1,2,3,4,5,6,7,8,9,10,11,12,13,14,15,16,17,18,19,20],(tI 17 rfl rfl rfl (H.pick [1,2,3,4,5,7] [1,2,3,4,5,6,7,8,9,10,11,12,13,14,15,16,17,18,19,20]) ?_)⟩
  refine ro 18 rfl ?_
  obtain ⟨G124,N,hn125,H⟩:=H.vS 0 rfl N (H.jQ [1,11])
  refine jL true H 6 rfl 2 rfl (.slice a119 ((vY (bg104[(xA s t ((s.qx[i]!).qH)).toNat]!) ((s.qx[i]!).zV) (counts[i]!)).length) c120) 0 rfl rfl sizeOf22 rfl rfl (i:=((xA s t ((s.qx[i]!).qH)).toNat)) qf qf qm fun w123 xs126 F127 hs128 H=>?_
  replace N:Fresh w.heap.size [F127,yC]:=(N.pick [1,0,2]).repl hs128
  refine ⟨H.pick [1,2,3,4,5,7] [3,4,5,6,7,8,9,10,11,12,13,14,15,16,17,18,19,20,21,22],(xO qh (t_n (zcr (sp (yI 0) (zjn (qX ?_))))))⟩
  obtain ⟨bg129,e_bg129⟩:∃ z,z=(bg104.set ((xA s t ((s.qx[i]!).qH)).toNat) (vY (bg104[(xA s t ((s.qx[i]!).qH)).toNat]!) ((s.qx[i]!).zV) (counts[i]!))):=⟨_,rfl⟩
  rw [← e_bg129] at H
  have E_bg129:=Ent.addL (D:=1000000) E_bg104 e_bg129 qf qf (by first | exact bn2.mul qf | exact bn3.mul qf | exact bn4.mul qf) qf
  have z_bg129:bg129.length=s.qw.length:=by rw [e_bg129,List.length_set];omega
  have E_cur:=E_bg129
  refine zu (fun m' ρ w130=>∃ (xU:Env) (k:Nat) (out_Bags:yLL) (zS:List Value) (zg:yLN),ρ=upd (upd (upd (upd (upd (upd (upd (upd xU 0 (pp bs os)) 1 (pp bt ot)) 2 (.slice (aa b30 o31) counts.length ccounts)) 6 (pp b1 0)) 10 (pp b19 0)) 11 (yI i)) 12 (pp b26 (o27+(i:Int).toNat * 9))) 14 (yI k)∧((k:Int)≤(((s.qx[i]!).qQ).length))∧(Ent (s.qw.length+1) (QH s) (fun p q=>base0 s t p q+needS s counts s.qx.length p q+putS s t counts i p q+at' p (s.qx[i]!).qH.toNat (counts[i]! * ((s.qx[i]!).xM)[q]!)+at' p (outPl s t (s.qx[i]!)) (counts[i]! * ((s.qx[i]!).zV)[q]!)+intoF (s.qx[i]!) (counts[i]!) k p q) (22000000+6000000 * i+1000000 * k) (out_Bags++[out_Around]))∧(out_Bags.length=s.qw.length)∧m' =((((s.qx[i]!).qQ).length) - (k:Int)).toNat∧Fresh w.heap.size [yC,zg]∧St w w130 [.box b19 [.slice y9 t.qA.length yZ,.slice (aa b35 0) ((Qi s t counts (QC (BadAt s t counts) counts.length)).length) rc3a,.slice vX vV vW] 38,rr y9 t.qA.length yZ 4 1 (t.qA.map (Value.bool)),rr ra11Bags t.qE.length rc11Bags 22 1 Yw,rr vX vV vW 2 1 (out_Around.map (Value.int .i64)),rr (aa b35 0) ((Qi s t counts (QC (BadAt s t counts) counts.length)).length) rc3a 22 1 zS,.box b1 [yN,yN,yN] 38] [zi true zg zS out_Bags,sF false Fe29Need ae29Need ce29Need ((s.qx[i]!).xm),sF false Fe29Have ae29Have ce29Have ((s.qx[i]!).xF),sF false Fe29Lack ae29Lack ce29Lack ((s.qx[i]!).xI),sF false Fe29Here ae29Here ce29Here ((s.qx[i]!).xM),sF false Fe29Out ae29Out ce29Out ((s.qx[i]!).zV),sF false Fe29Into ae29Into ce29Into ((s.qx[i]!).qQ),atF b26 (o27+(i:Int).toNat * 9) [yI ((s.qx[i]!).qH),yI ((s.qx[i]!).zM),.slice ae29Need (((s.qx[i]!).xm).length) ce29Need,.slice ae29Have (((s.qx[i]!).xF).length) ce29Have,.slice ae29Lack (((s.qx[i]!).xI).length) ce29Lack,.slice ae29Here (((s.qx[i]!).xM).length) ce29Here,.slice ae29Out (((s.qx[i]!).zV).length) ce29Out,.slice ae29Into (((s.qx[i]!).qQ).length) ce29Into,.bool ((s.qx[i]!).zA)],zi true yC Yw t.qE,atF bs os [yI s.xC,.slice qB s.qw.length qy,.slice (aa b26 o27) s.qx.length qI],sF false qZ qB qy s.qw,sF false xE (aa b26 o27) qI s.qx,atF bt ot (yT t qV qR xn xk qN qM),sF false xR qV qR t.qA,sF false zy xn xk t.qE,sF false xH qN qM t.qC,sF false Fcounts (aa b30 o31) ccounts counts]) (((((s.qx[i]!).qQ).length) - (0:Int)).toNat) ⟨_,0,bg129,xs126,F127,uE8,qf,(by exact E_cur.to (fun p q=>by first | (simp only [intoF,outPl_root (s:=s) (t:=t) (r:=s.qx[i]!) ‹_›,jg];omega) | (simp only [intoF,outPl_up (s:=s) (t:=t) (r:=s.qx[i]!) ‹_›];omega)) qf),qf,rfl,(N.pick [1,0]),H.pick [2,3,4,5,6,7] [0,6,7,8,9,10,11,12,13,15,16,17,18,19,20,21,22]⟩ ?_
  clear H N
  rintro m' ρ w131 ⟨xU,k,out_Bags,zS,zg,rfl,i0,E_out_Bags,z_out_Bags,rfl,N,H⟩
  have YH:=H.zh (α:=yLI) 4 rfl 0 rfl qj
  refine zcc (sps [yI k,pp b26 (o27+(i:Int).toNat * 9),pp b26 (o27+(i:Int).toNat * 9)] (oF rfl (oL rfl (H.xW 7 rfl 7 rfl) (oN rfl (sp (.bool (decide ((k:Int) < (((s.qx[i]!).qQ).length)))) (zjn (cD rfl (fun h132=>?_) (fun h132=>?_))))))))
  ·skip
   have qi:=q.2.2.2.2.2.2.2.2.2.2 k qf
   have qi1:=qi.1
   have bn4:=qi.2.2.1
   have ln4:=bn4.len
   refine qU (t_n (xQ (qX (zcr (sps [pp b26 (o27+(i:Int).toNat * 9),pp b26 (o27+(i:Int).toNat * 9)] (oF rfl (oL rfl (H.xW 7 rfl 7 rfl) (sp (yI k) ?_))))))))
   obtain ⟨b133,o134,rfl⟩:=H.addr 6 rfl qf
   obtain ⟨ae136Bag,ce136Bag,Fe136Bag,H⟩:=H.jS 6 rfl k k qf qf qf
   refine oI rfl rfl (oF rfl (oL rfl (H.xW 1 rfl 0 rfl) (sp (yI ((((s.qx[i]!).qQ)[k]!).qH)) (zjn ?_))))
   refine Qn rfl H [0,1,2,3,5] fun H=>?_
   have S:=H.yl [0,1,2,3,5] [0,1,2,3,4,5,6,7,8,9,10,11,12,13,14,15,16,17,18]
   refine tF 0 rfl rfl S ?_
   refine tL 1 rfl rfl (fun _ h=>h.cell 0 rfl rfl) S ?_
   refine rtp 2 (yI ((((s.qx[i]!).qQ)[k]!).qH)) S ?_
   refine tF 3 rfl rfl S ?_
   refine tL 4 rfl rfl (fun _ h=>h.cell 0 rfl rfl) S ?_
   refine rtp 5 (yI ((((s.qx[i]!).qQ)[k]!).qH)) S ?_
   refine tI 6 rfl rfl rfl S ?_
   refine rtp 8 (pp b26 (o27+(i:Int).toNat * 9)) S ?_
   refine rtp 9 (pp b26 (o27+(i:Int).toNat * 9)) S ?_
   refine tF 10 rfl rfl S ?_
   refine tL 11 rfl rfl (fun _ h=>h.xW 9 rfl 7 rfl) S ?_
   refine rtp 12 (yI k) S ?_
   refine tI 13 rfl rfl rfl S ?_
   refine tF 14 rfl rfl S ?_
   refine tL 15 rfl rfl (fun _ h=>h.xW 1 rfl 1 rfl) S ?_
   refine rtp 16 (.slice (aa b30 o31) counts.length ccounts) S ?_
   refine rtp 17 (yI i) S ?_
   refine tI 18 rfl rfl rfl S ?_
   refine tL 19 rfl rfl (fun _ h=>h.yu 18 rfl i qf) S ?_
   refine ro 7 rfl ?_
   obtain ⟨a138,c139,G140,s141,h142,H⟩:=H.jV 4 rfl 2 rfl (iv:=(((s.qx[i]!).qQ)[k]!).qH) (((((s.qx[i]!).qQ)[k]!).qH).toNat) qf qf
   refine zN (.slice a138 ((out_Bags[((((s.qx[i]!).qQ)[k]!).qH).toNat]!).length) c139) isAgg22 rfl (h142) (⟨H.pick [0,1,2,3,5] [1,2,3,4,5,6,7,8,9,10,11,12,13,14,15,16,17,18,19],(ro 20 rfl ?_)⟩)
   obtain ⟨u1,u2⟩:=Ent.rowL E_out_Bags (c:=((((s.qx[i]!).qQ)[k]!).qH).toNat) qf qf qf qf
   have u4:=(by first | exact bn2.yY qf | exact bn3.yY qf | exact bn4.yY qf:SmallT ((((s.qx[i]!).qQ)[k]!).jy) (counts[i]!))
   have sz143:=H.base.size
   have lt144:=H.ltN (L:=[yC,zg]) [11,3]
   refine oc (X6 _ (out_Bags[((((s.qx[i]!).qQ)[k]!).qH).toNat]!) ((((s.qx[i]!).qQ)[k]!).jy) (counts[i]!) (H.get 0 rfl).1 (H.get 1 rfl).1 qg qg qg) ?_
   rintro v148 w146 r148 x147
   replace H:=H.zD x147 r148
   obtain ⟨a149,c150,rfl,hc151,hm152⟩:=H.jo 0 rfl
   refine ⟨H.pick [1,2,3,4,6] [1,2,3,4,5,6,7,8,9,10,11,12,13,14,15,16,17,18,19],(tI 21 rfl rfl rfl (H.pick [1,2,3,4,6] [1,2,3,4,5,6,7,8,9,10,11,12,13,14,15,16,17,18,19]) ?_)⟩
   refine ro 22 rfl ?_
   obtain ⟨G154,N,hn155,H⟩:=H.vS 0 rfl N (H.jQ [11,3])
   refine jL true H 5 rfl 4 rfl (.slice a149 ((vY (out_Bags[((((s.qx[i]!).qQ)[k]!).qH).toNat]!) ((((s.qx[i]!).qQ)[k]!).jy) (counts[i]!)).length) c150) 0 rfl rfl sizeOf22 rfl rfl (i:=(((((s.qx[i]!).qQ)[k]!).qH).toNat)) qf qf qm fun w153 xs156 F157 hs158 H=>?_
   replace N:Fresh w.heap.size [F157,yC]:=(N.pick [2,0,1]).repl hs158
   refine ⟨H.pick [1,2,3,4,6] [3,4,5,6,7,8,9,10,11,12,13,14,15,16,17,18,19,20,21],(xO qh (b_n (t_n (xY (sp (yI k) (sw (zC k 1 rfl rfl qf (sp (yI (k+1)) (xZ ?_)))))))))⟩
   obtain ⟨bg159,e_bg159⟩:∃ z,z=(out_Bags.set (((((s.qx[i]!).qQ)[k]!).qH).toNat) (vY (out_Bags[((((s.qx[i]!).qQ)[k]!).qH).toNat]!) ((((s.qx[i]!).qQ)[k]!).jy) (counts[i]!))):=⟨_,rfl⟩
   rw [← e_bg159] at H
   have E_bg159:=Ent.addL (D:=1000000) E_out_Bags e_bg159 qf qf (by first | exact bn2.mul qf | exact bn3.mul qf | exact bn4.mul qf) qf
   have z_bg159:bg159.length=s.qw.length:=by rw [e_bg159,List.length_set];omega
   have E_cur:=E_bg159
   refine xf (m' :=((((s.qx[i]!).qQ).length) - ((k+1):Int)).toNat) qf ⟨_,k+1,bg159,xs156,F157,uE8,?_,?_,?_,rfl,(N.pick [1,0]),H.pick [1,2,3,4,5,6] [0,6,7,8,9,10,11,12,13,14,15,16,17,18,19,20,21]⟩
   · omega
   · exact E_cur.to (fun p q=>by simp only [intoF];omega) qf
   · omega
  refine c_exit (t_x (t_x (b_x (b_n (t_n (xY (sp (yI i) (sw (zC i 1 rfl rfl qf (sp (yI (i+1)) (xZ (xf (m' :=(counts.length - ((i+1):Int)).toNat) qf ⟨_,i+1,vX,vV,vW,out_Around,out_Bags,zS,zg,uE6,?_,?_,?_,rfl,N,H.pick [0,1,2,3,4,5] [8,0,9,10,11,12,13,14,15,16]⟩))))))))))))
  · omega
  · first | exact E_rest.to (fun p q=>by simp only [putS_skip (s:=s) (t:=t) (counts:=counts) (i:=i) ‹_›]) qf | exact E_out_Bags.to (fun p q=>by rw [show k=((s.qx[i]!).qQ).length by omega];simp only [putS,putF];omega) qf
  · omega
 refine zx4 (zcc (sps [pp bs os,pp bs os] (oF rfl (oL rfl (H.xW 2 rfl 1 rfl) (oN rfl (sw (o_sub s.qw.length 1 rfl rfl qf (sp (yI (s.qw.length - 1)) (zjn (qX ?_))))))))))
 obtain rfl:i=s.qx.length:=by omega
 have hl:=stepped_live (counts:=counts) p1 (E_rest.to (g:=fun p k=>base0 s t p k+allS s t counts s.qx.length p k) (fun p k=>by rw [allS_eq];omega) (Int.le_refl _)) qf
 obtain ⟨s1,s2⟩:=step_tab2 qf E_rest
 subst s1 s2
 refine zu (fun m' ρ w160=>∃ (xU:Env) (c:Int) (out_Alive:List Bool) (out_Bags:yLL) (zS:List Value) (zg:yLN) (j:Nat),ρ=upd (upd (upd (upd (upd xU 0 (pp bs os)) 2 (.slice acounts counts.length ccounts)) 6 (pp b1 0)) 10 (pp b19 0)) 16 (yI c)∧out_Alive=(xu s counts (xy s t counts) j).qA∧out_Bags=(xu s counts (xy s t counts) j).qE∧(c=(s.qw.length:Int) - 1 - j)∧(j+1≤s.qw.length)∧m' =(c:Int).toNat∧Fresh w.heap.size [yC,zg]∧St w w160 [.box b19 [.slice y9 t.qA.length yZ,.slice ra3a ((Qi s t counts (QC (BadAt s t counts) counts.length)).length) rc3a,.slice vX vV vW] 38,rr y9 t.qA.length yZ 4 1 (out_Alive.map (Value.bool)),rr ra11Bags t.qE.length rc11Bags 22 1 Yw,rr vX vV vW 2 1 (((xy s t counts).qC).map (Value.int .i64)),rr ra3a ((Qi s t counts (QC (BadAt s t counts) counts.length)).length) rc3a 22 1 zS,.box b1 [yN,yN,yN] 38] [zi true yC Yw t.qE,zi true zg zS out_Bags,atF bs os (yS s qB qy qL qI),sF false qZ qB qy s.qw,sF false xE qL qI s.qx,sF false Fcounts acounts ccounts counts]) (((s.qw.length - 1):Int).toNat) ⟨_,s.qw.length - 1,t.qA,(xy s t counts).qE,x_rest,F_rest,0,uE5,(by rfl),(by rfl),qf,qf,rfl,N,H.pick [0,1,2,3,4,5] [0,1,2,3,4,9]⟩ ?_
 clear H N
 rintro m' ρ w161 ⟨xU,c,out_Alive,out_Bags,zS,zg,j,rfl,rfl,rfl,ic,jc,rfl,N,H⟩
 have hn_out_Alive:=H.rowNB 1 rfl
 have YH:=H.zh (α:=yLI) 4 rfl 1 rfl qj
 have L:=meltDown_live (counts:=counts) p0 hl j qf
 have L1:=L.alive
 have L2:=L.root
 have L3:=L.bags.1
 rw [← QE s counts (xy s t counts) j] at H
 refine zcc (sps [yI c,.bool (decide ((c:Int) > 0))] (zjn (cD rfl (fun h162=>?_) (fun h162=>?_))))
 ·skip
  have cin:CellIn s c:=⟨by omega,by omega⟩
  refine qU (t_n (xQ (qX (zcr (sp (.bool false) (zjcc (sp (yI 0) (zjn (qX ?_)))))))))
  refine zu (fun m' ρ w163=>∃ (xU:Env) (melts:Bool) (i_1:Nat),ρ=upd (upd (upd (upd (upd (upd (upd xU 0 (pp bs os)) 2 (.slice acounts counts.length ccounts)) 6 (pp b1 0)) 10 (pp b19 0)) 16 (yI c)) 17 (.bool melts)) 18 (yI i_1)∧melts=dec (Xg s counts c i_1)∧((i_1:Int)≤counts.length)∧m' =(counts.length - (i_1:Int)).toNat∧Fresh w.heap.size [yC,zg]∧St w w163 [.box b19 [.slice y9 t.qA.length yZ,.slice ra3a ((Qi s t counts (QC (BadAt s t counts) counts.length)).length) rc3a,.slice vX vV vW] 38,rr y9 t.qA.length yZ 4 1 (((xu s counts (xy s t counts) j).qA).map (Value.bool)),rr ra11Bags t.qE.length rc11Bags 22 1 Yw,rr vX vV vW 2 1 (((xu s counts (xy s t counts) j).qC).map (Value.int .i64)),rr ra3a ((Qi s t counts (QC (BadAt s t counts) counts.length)).length) rc3a 22 1 zS,.box b1 [yN,yN,yN] 38] [zi true yC Yw t.qE,zi true zg zS ((xu s counts (xy s t counts) j).qE),atF bs os (yS s qB qy qL qI),sF false qZ qB qy s.qw,sF false xE qL qI s.qx,sF false Fcounts acounts ccounts counts]) ((counts.length - (0:Int)).toNat) ⟨_,false,0,uE7,(by exact (xx (melts_zero _ _ _)).symm),qf,rfl,N,H⟩ ?_
  clear H N
  rintro m' ρ w164 ⟨xU,melts,i_1,rfl,rfl,i0,rfl,N,H⟩
  refine zcc (sps [yI i_1,.slice acounts counts.length ccounts] (oN rfl (sp (.bool (decide ((i_1:Int) < counts.length))) (zjn (cD rfl (fun h165=>?_) (fun h165=>?_))))))
  ·skip
   refine qU (t_n (xQ (qX (xY (sps [.bool (dec (Xg s counts c i_1)),.bool (dec (Xg s counts c i_1))] ?_)))))
   cases h166:((dec (Xg s counts c i_1)))
   ·skip
    refine qP 172 rfl rfl (sp (.slice acounts counts.length ccounts) (qP 172 rfl rfl (sp (yI i_1) (qP 172 rfl rfl ?_))))
    obtain ⟨b167,o168,rfl⟩:=H.addr 5 rfl qf
    refine oI rfl rfl (qP 172 rfl rfl (oL rfl (H.jC 5 rfl i_1 qf qf) (qP 172 rfl rfl (sp (.bool (decide ((counts[i_1]! :Int) > 0))) (qP 172 rfl rfl (sp (.bool (decide ((counts[i_1]! :Int) > 0))) ?_))))))
    cases h170:(decide ((counts[i_1]! :Int) > 0))
    ·skip
     replace h170:=of_decide_eq_false h170
     refine zo [179,180,181,182,183,184,185,186] (qP 172 rfl rfl (sp (.bool false) (qP 172 rfl rfl (sp (.bool false) (zo [189,190,191,192,193,194,195,196,197,198] (qP 172 rfl rfl (sps [.bool false,.bool false,.bool false] (xZ (b_n (t_n (xY (sp (yI i_1) (sw (zC i_1 1 rfl rfl qf (sp (yI (i_1+1)) (xZ (xf (m' :=(counts.length - ((i_1+1):Int)).toNat) qf ⟨_,false,i_1+1,uE7,?_,?_,rfl,N,H⟩)))))))))))))))))
     · first | exact melts_1 ‹_› | exact melts_2 ‹_› qf | exact melts_3 ‹_› ‹_› | exact melts_4 ‹_› qf ‹_›
     · omega
    replace h170:=of_decide_eq_true h170
    refine qP 178 rfl rfl (sp (pp bs os) (qP 178 rfl rfl (sp (pp bs os) (qP 178 rfl rfl (oF rfl (qP 178 rfl rfl (oL rfl (H.xW 2 rfl 2 rfl) (qP 178 rfl rfl (sp (yI i_1) (qP 178 rfl rfl ?_))))))))))
    obtain ⟨b171,o172,rfl⟩:=H.addr 4 rfl qf
    obtain ⟨ae174Need,ce174Need,Fe174Need,ae174Have,ce174Have,Fe174Have,ae174Lack,ce174Lack,Fe174Lack,ae174Here,ce174Here,Fe174Here,ae174Out,ce174Out,Fe174Out,ae174Into,ce174Into,Fe174Into,H⟩:=H.yt 4 rfl i_1 i_1 qf qf qf
    refine oI rfl rfl (qP 178 rfl rfl (oF rfl (qP 178 rfl rfl (oL rfl (H.xW 6 rfl 8 rfl) (qP 172 rfl rfl (sp (.bool ((s.qx[i_1]!).zA)) (qP 172 rfl rfl (sp (.bool ((s.qx[i_1]!).zA)) ?_))))))))
    cases h175:((s.qx[i_1]!).zA)
    ·skip
     rw [h175] at H
     refine zo [189,190,191,192,193,194,195,196,197,198] (qP 172 rfl rfl (sps [.bool false,.bool false,.bool false] (xZ (b_n (t_n (xY (sp (yI i_1) (sw (zC i_1 1 rfl rfl qf (sp (yI (i_1+1)) (xZ (xf (m' :=(counts.length - ((i_1+1):Int)).toNat) qf ⟨_,false,i_1+1,uE7,?_,?_,rfl,N,H.pick [0,1,2,3,4,5] [7,8,9,10,11,12]⟩))))))))))))
     · first | exact melts_1 ‹_› | exact melts_2 ‹_› qf | exact melts_3 ‹_› ‹_› | exact melts_4 ‹_› qf ‹_›
     · omega
    rw [h175] at H
    refine qP 188 rfl rfl (sp (pp bs os) (qP 188 rfl rfl (sp (pp bs os) (qP 188 rfl rfl (oF rfl (qP 188 rfl rfl (oL rfl (H.xW 9 rfl 2 rfl) (qP 188 rfl rfl (sp (yI i_1) (qP 188 rfl rfl (oI rfl rfl (qP 188 rfl rfl (oF rfl (qP 188 rfl rfl (oL rfl (H.xW 6 rfl 0 rfl) (qP 188 rfl rfl (sp (yI c) (qP 188 rfl rfl (sp (.bool (((s.qx[i_1]!).qH:Int) == c)) (qP 172 rfl rfl (sps [.bool (((s.qx[i_1]!).qH:Int) == c),.bool (((s.qx[i_1]!).qH:Int) == c),.bool (((s.qx[i_1]!).qH:Int) == c)] (xZ (b_n (t_n (xY (sp (yI i_1) ?_))))))))))))))))))))))))))
    refine sw (zC i_1 1 rfl rfl qf (sp (yI (i_1+1)) (xZ (xf (m' :=(counts.length - ((i_1+1):Int)).toNat) qf ⟨_,((s.qx[i_1]!).qH:Int) == c,i_1+1,uE7,?_,?_,rfl,N,H.pick [0,1,2,3,4,5] [7,8,9,10,11,12]⟩))))
    · first | exact melts_1 ‹_› | exact melts_2 ‹_› qf | exact melts_3 ‹_› ‹_› | exact melts_4 ‹_› qf ‹_›
    · omega
   refine zo [173,174,175,176,177,178,179,180,181,182,183,184,185,186,187,188,189,190,191,192,193,194,195,196,197,198,199] (sps [.bool true,.bool true] (xZ (b_n (t_n (xY (sp (yI i_1) (sw (zC i_1 1 rfl rfl qf (sp (yI (i_1+1)) (xZ (xf (m' :=(counts.length - ((i_1+1):Int)).toNat) qf ⟨_,true,i_1+1,uE7,?_,?_,rfl,N,H⟩)))))))))))
   · first | exact melts_1 ‹_› | exact melts_2 ‹_› qf | exact melts_3 ‹_› ‹_› | exact melts_4 ‹_› qf ‹_›
   · omega
  refine zx4 (zcr (sp (.bool (dec (Xg s counts c i_1))) (zjn (xK ((dec (Xg s counts c i_1))) rfl (fun h176=>?_) (fun h176=>?_)))))
  ·skip
   refine xY (sps [pp bs os,yI c] (sw (vF #[pp bs os,pp b19 0,yI c] rfl rfl call183 (en func183 ntmps183 ?_))))
   refine zcr (sps [pp bs os,pp b19 0,yI c] ?_)
   obtain ⟨G177,hn178,h179⟩:=H.rowIsB 1 rfl
   obtain ⟨G180,hn181,h182⟩:=H.rowIsR (α:=yLI) 4 rfl 1 rfl qj
   obtain ⟨G183,hn184,h185⟩:=H.rowIsI 3 rfl
   refine sw (oq (l02Parent_ok _ s (xu s counts (xy s t counts) j) c (qF (H.get 2 rfl) 0 3) (H.get 3 rfl).1 (H.get 4 rfl).1 (by have hz:=(qF (H.cells 0 rfl) 0 3);rw [hn178,hn181,hn184] at hz;exact hz) (hn178▸h179) (hn181▸h182) (hn184▸h185) ql ql ql) H fun w186 H=>?_)
   have pin:=YP (s:=s) (t:=(xu s counts (xy s t counts) j)) (c:=c) p0.1 L2 qf qf
   refine sp (yI (xA s (xu s counts (xy s t counts) j) c)) (zjn (xQ ?_))
   obtain ⟨b188,rfl⟩:=H.Qh 4 rfl qf
   refine c_cut (fun ρ w191=>∃ (xU:Env) (xs189:List Value) (F190:yLN),ρ=upd (upd (upd xU 0 (pp bs os)) 1 (pp b19 0)) 2 (yI c)∧Fresh w.heap.size [F190,yC]∧St w w191 [.box b19 [.slice y9 t.qA.length yZ,.slice (aa b188 0) ((Qi s t counts (QC (BadAt s t counts) counts.length)).length) rc3a,.slice vX vV vW] 38,rr y9 t.qA.length yZ 4 1 (((xu s counts (xy s t counts) j).qA).map (Value.bool)),rr ra11Bags t.qE.length rc11Bags 22 1 Yw,rr vX vV vW 2 1 (((xu s counts (xy s t counts) j).qC).map (Value.int .i64)),rr (aa b188 0) ((Qi s t counts (QC (BadAt s t counts) counts.length)).length) rc3a 22 1 xs189,.box b1 [yN,yN,yN] 38] [zi true F190 xs189 (((xu s counts (xy s t counts) j).qE).set ((xA s (xu s counts (xy s t counts) j) c).toNat) (vY (((xu s counts (xy s t counts) j).qE)[(xA s (xu s counts (xy s t counts) j) c).toNat]!) (((xu s counts (xy s t counts) j).qE)[c.toNat]!) 1)),zi true yC Yw t.qE,atF bs os (yS s qB qy qL qI),sF false qZ qB qy s.qw,sF false xE qL qI s.qx,sF false Fcounts acounts ccounts counts]) ?_ ?_
   ·skip
    refine Qn rfl H [0,1,2,3,5] fun H=>?_
    have S:=H.yl [0,1,2,3,5] [0,1,2,3,4,5]
    refine rtp 0 (pp b19 0) S ?_
    refine rtp 1 (pp b19 0) S ?_
    refine tF 2 rfl rfl S ?_
    refine tL 3 rfl rfl (fun _ h=>h.cell 0 rfl rfl) S ?_
    refine rtp 4 (yI (xA s (xu s counts (xy s t counts) j) c)) S ?_
    refine rtp 5 (pp b19 0) S ?_
    refine rtp 6 (pp b19 0) S ?_
    refine tF 7 rfl rfl S ?_
    refine tL 8 rfl rfl (fun _ h=>h.cell 0 rfl rfl) S ?_
    refine rtp 9 (yI (xA s (xu s counts (xy s t counts) j) c)) S ?_
    refine tI 10 rfl rfl rfl S ?_
    refine rtp 12 (pp b19 0) S ?_
    refine rtp 13 (pp b19 0) S ?_
    refine tF 14 rfl rfl S ?_
    refine tL 15 rfl rfl (fun _ h=>h.cell 0 rfl rfl) S ?_
    refine rtp 16 (yI c) S ?_
    refine tI 17 rfl rfl rfl S ?_
    refine ji [11,18] qh qm (Qg rfl ?_ (Qg rfl ?_ jk))
    ·skip
     obtain ⟨a193,c194,G195,s196,h197,H⟩:=H.jV 4 rfl 1 rfl (iv:=xA s (xu s counts (xy s t counts) j) c) ((xA s (xu s counts (xy s t counts) j) c).toNat) qf qf
     refine zN (.slice a193 ((((xu s counts (xy s t counts) j).qE)[(xA s (xu s counts (xy s t counts) j) c).toNat]!).length) c194) isAgg22 rfl (h197) (⟨H.pick [0,1,2,3,5] [1,2,3,4,5,6],(ro 18 rfl ?_)⟩)
     obtain ⟨a198,c199,G200,s201,h202,H⟩:=H.jV 4 rfl 2 rfl (iv:=c) c.toNat qf qf
     refine zN (.slice a198 ((((xu s counts (xy s t counts) j).qE)[c.toNat]!).length) c199) isAgg22 rfl (h202) (⟨H.pick [0,1,2,3,5] [2,3,4,5,6,7],(ro 19 rfl ?_)⟩)
     obtain ⟨u1,u2,u4⟩:=L.rows p0 (bnd_le qf) (p:=(xA s (xu s counts (xy s t counts) j) c).toNat) (c:=c.toNat) qf qf
     have sz203:=H.base.size
     have lt204:=H.ltN (L:=[yC,zg]) [2,3]
     refine oc (X6 _ (((xu s counts (xy s t counts) j).qE)[(xA s (xu s counts (xy s t counts) j) c).toNat]!) (((xu s counts (xy s t counts) j).qE)[c.toNat]!) 1 (H.get 1 rfl).1 (H.get 0 rfl).1 qg qg qg) ?_
     rintro v208 w206 r208 x207
     replace H:=H.zD x207 r208
     obtain ⟨a209,c210,rfl,hc211,hm212⟩:=H.jo 0 rfl
     refine ⟨H.pick [1,2,3,4,6] [2,3,4,5,6,7],(tI 20 rfl rfl rfl (H.pick [1,2,3,4,6] [2,3,4,5,6,7]) ?_)⟩
     refine ro 21 rfl ?_
     obtain ⟨G214,N,hn215,H⟩:=H.vS 0 rfl N (H.jQ [2,3])
     refine jL true H 5 rfl 4 rfl (.slice a209 ((vY (((xu s counts (xy s t counts) j).qE)[(xA s (xu s counts (xy s t counts) j) c).toNat]!) (((xu s counts (xy s t counts) j).qE)[c.toNat]!) 1).length) c210) 0 rfl rfl sizeOf22 rfl rfl (i:=((xA s (xu s counts (xy s t counts) j) c).toNat)) qf qf qm fun w213 xs216 F217 hs218 H=>?_
     replace N:Fresh w.heap.size [F217,yC]:=(N.pick [2,0,1]).repl hs218
     refine ⟨H.pick [1,2,3,4,6] [4,5,6,7,8,9],(xO qh ((meet ⟨_,xs216,F217,uE3,N,H.pick [1,2,3,4,5,6] [0,4,6,7,8,9]⟩)))⟩
    obtain ⟨a219,c220,G221,s222,h223,H⟩:=H.jV 4 rfl 1 rfl (iv:=c) c.toNat qf qf
    refine zN (.slice a219 ((((xu s counts (xy s t counts) j).qE)[c.toNat]!).length) c220) isAgg22 rfl (h223) (⟨H.pick [0,1,2,3,5] [1,2,3,4,5,6],(ro 11 rfl ?_)⟩)
    obtain ⟨a224,c225,G226,s227,h228,H⟩:=H.jV 4 rfl 2 rfl (iv:=xA s (xu s counts (xy s t counts) j) c) ((xA s (xu s counts (xy s t counts) j) c).toNat) qf qf
    refine zN (.slice a224 ((((xu s counts (xy s t counts) j).qE)[(xA s (xu s counts (xy s t counts) j) c).toNat]!).length) c225) isAgg22 rfl (h228) (⟨H.pick [0,1,2,3,5] [2,3,4,5,6,7],(ro 19 rfl ?_)⟩)
    obtain ⟨u1,u2,u4⟩:=L.rows p0 (bnd_le qf) (p:=(xA s (xu s counts (xy s t counts) j) c).toNat) (c:=c.toNat) qf qf
    have sz229:=H.base.size
    have lt230:=H.ltN (L:=[yC,zg]) [2,3]
    refine oc (X6 _ (((xu s counts (xy s t counts) j).qE)[(xA s (xu s counts (xy s t counts) j) c).toNat]!) (((xu s counts (xy s t counts) j).qE)[c.toNat]!) 1 (H.get 0 rfl).1 (H.get 1 rfl).1 qg qg qg) ?_
    rintro v234 w232 r234 x233
    replace H:=H.zD x233 r234
    obtain ⟨a235,c236,rfl,hc237,hm238⟩:=H.jo 0 rfl
    refine ⟨H.pick [1,2,3,4,6] [2,3,4,5,6,7],(tI 20 rfl rfl rfl (H.pick [1,2,3,4,6] [2,3,4,5,6,7]) ?_)⟩
    refine ro 21 rfl ?_
    obtain ⟨G240,N,hn241,H⟩:=H.vS 0 rfl N (H.jQ [2,3])
    refine jL true H 5 rfl 4 rfl (.slice a235 ((vY (((xu s counts (xy s t counts) j).qE)[(xA s (xu s counts (xy s t counts) j) c).toNat]!) (((xu s counts (xy s t counts) j).qE)[c.toNat]!) 1).length) c236) 0 rfl rfl sizeOf22 rfl rfl (i:=((xA s (xu s counts (xy s t counts) j) c).toNat)) qf qf qm fun w239 xs242 F243 hs244 H=>?_
    replace N:Fresh w.heap.size [F243,yC]:=(N.pick [2,0,1]).repl hs244
    refine ⟨H.pick [1,2,3,4,6] [4,5,6,7,8,9],(xO qh ((meet ⟨_,xs242,F243,uE3,N,H.pick [1,2,3,4,5,6] [0,4,6,7,8,9]⟩)))⟩
   clear H N
   rintro ρ w245 ⟨xU,xs189,F190,rfl,N,H⟩
   refine t_n (xQ ?_)
   refine Qn rfl H [0,1,2,3,5] fun H=>?_
   have S:=H.yl [0,1,2,3,5] [0,1,2,3,4,5]
   refine rtp 0 (pp b19 0) S ?_
   refine rtp 1 (pp b19 0) S ?_
   refine tF 2 rfl rfl S ?_
   refine tL 3 rfl rfl (fun _ h=>h.cell 0 rfl rfl) S ?_
   refine rtp 4 (yI c) S ?_
   refine rtp 5 (pp bs os) S ?_
   refine rtp 6 (pp bs os) S ?_
   refine tF 7 rfl rfl S ?_
   refine tL 8 rfl rfl (fun _ h=>h.xW 2 rfl 0 rfl) S ?_
   refine ro 9 rfl (XI H underlying22 ti2 s.xC.toNat rfl rfl qf qf qf fun b247 w248 H=>⟨H.pick [1,2,3,4,6] [0,1,2,3,4,5],(tI 10 rfl rfl rfl (H.pick [1,2,3,4,6] [0,1,2,3,4,5]) ?_)⟩)
   refine ro 11 rfl ?_
   obtain ⟨G250,N,hn251,H⟩:=H.vS 0 rfl N (H.jQ [0,1])
   refine jL true H 5 rfl 1 rfl (.slice (aa b247 0) s.xC.toNat s.xC.toNat) 0 rfl rfl sizeOf22 rfl rfl (i:=c.toNat) qf qf qm fun w249 xs252 F253 hs254 H=>?_
   replace N:Fresh w.heap.size [F253,yC]:=(N.pick [1,0,2]).repl hs254
   refine ⟨H.pick [1,2,3,4,6] [2,3,4,5,6,7],(xO qh (t_n (xY (sps [pp b19 0,pp b19 0] (oF rfl (oL rfl (H.cell 1 rfl rfl) (sp (yI c) ?_)))))))⟩
   obtain ⟨b255,rfl⟩:=H.Qh 2 rfl qf
   refine oI rfl rfl (sw (Q4 H 2 rfl false sizeOf4 rfl rfl (i:=c.toNat) qf qf fun w256 H=>xZ (ret0 rfl ⟨_,rfl,?_⟩)))
   replace H:=H.erases [0]
   dsimp only [vU,List.eraseIdx] at H
   refine xZ (b_n (t_n (xY (sp (yI c) (sw (o_sub c 1 rfl rfl qf (sp (yI (c - 1)) (xZ ?_))))))))
   rw [QE] at H
   refine xf (m' :=((c - 1):Int).toNat) qf ⟨_,c - 1,(((xu s counts (xy s t counts) j).qA).set c.toNat false),((((xu s counts (xy s t counts) j).qE).set ((xA s (xu s counts (xy s t counts) j) c).toNat) (vY (((xu s counts (xy s t counts) j).qE)[(xA s (xu s counts (xy s t counts) j) c).toNat]!) (((xu s counts (xy s t counts) j).qE)[c.toNat]!) 1)).set c.toNat (List.replicate s.xC.toNat (0:Int))),xs252,F253,j+1,uE5,?_,?_,?_,?_,rfl,(N.pick [1,0]),H.pick [0,1,2,3,4,5] [3,0,4,5,6,7]⟩
   · first | (rw [QR (c:=c) (i:=i_1) ‹_› qf ic];done) | (rw [QR (c:=c) (i:=i_1) ‹_› qf ic];rfl) | rw [meltDown_no' (c:=c) (i:=i_1) ‹_› qf ic]
   · first | (rw [QR (c:=c) (i:=i_1) ‹_› qf ic];done) | (rw [QR (c:=c) (i:=i_1) ‹_› qf ic];rfl) | rw [meltDown_no' (c:=c) (i:=i_1) ‹_› qf ic]
   · omega
   · omega
  refine qU (b_n (t_n (xY (sp (yI c) (sw (o_sub c 1 rfl rfl qf (sp (yI (c - 1)) (xZ ?_))))))))
  rw [QE] at H
  refine xf (m' :=((c - 1):Int).toNat) qf ⟨_,c - 1,((xu s counts (xy s t counts) j).qA),((xu s counts (xy s t counts) j).qE),zS,zg,j+1,uE5,?_,?_,?_,?_,rfl,N,H⟩
  · first | (rw [QR (c:=c) (i:=i_1) ‹_› qf ic];done) | (rw [QR (c:=c) (i:=i_1) ‹_› qf ic];rfl) | rw [meltDown_no' (c:=c) (i:=i_1) ‹_› qf ic]
  · first | (rw [QR (c:=c) (i:=i_1) ‹_› qf ic];done) | (rw [QR (c:=c) (i:=i_1) ‹_› qf ic];rfl) | rw [meltDown_no' (c:=c) (i:=i_1) ‹_› qf ic]
  · omega
  · omega
 refine zx4 (zcr (sp (pp bs os) (sw (vF #[pp bs os,pp b19 0] rfl rfl call184 (en func184 ntmps184 ?_)))))
 refine zcr (sw (zf H ti38 [yN,yN,yN] fun b257 w258 H=>sp (yI 0) (zjcc (sps [pp bs os,pp b19 0] ?_))))
 obtain ⟨G259,hn260,h261⟩:=H.rowIsB 2 rfl
 obtain ⟨G262,hn263,h264⟩:=H.rowIsR (α:=yLI) 5 rfl 1 rfl qj
 obtain ⟨G265,hn266,h267⟩:=H.rowIsI 4 rfl
 refine sw (oq (l02State_ok _ s (xu s counts (xy s t counts) j) (qF (H.get 2 rfl) 0 3) (H.get 3 rfl).1 (H.get 4 rfl).1 (by have hz:=(qF (H.cells 1 rfl) 0 3);rw [hn260,hn263,hn266] at hz;exact hz) (hn260▸h261) (hn263▸h264) (hn266▸h267) (by first | assumption | exact (And.left (by assumption:jO _)))) H fun w268 H=>sp (.bool (!(dec (zF s (xu s counts (xy s t counts) j))))) (zjn (cQ rfl (fun h270=>?_) (fun h270=>?_))))
 ·skip
  refine zcr (sw (jB [yN,yN,yN] [] (sw (zB H 0 [yN,yN,yN] sizeOf38 fun w271 H=>sp (yI 3) (zjr (t_r (retC2 H 0 rfl (yI 3) rfl isAgg38 sizeOf38 rfl rfl ⟨_,rfl,?_⟩)))))))
  replace H:=H.erases [0]
  dsimp only [vU,List.eraseIdx] at H
  refine sps [.agg #[yN,yN,yN],yI 3] (sw (zB H 5 [yN,yN,yN] sizeOf38 fun w272 H=>sp (yI 3) (zjr ?_)))
  replace H:=H.nilRowB 4
  replace H:=H.nilRow 22 1
  replace H:=H.vI (α:=yLI)
  replace H:=H.nilRowI 2
  refine retC2 H 8 rfl (yI 3) rfl isAgg38 sizeOf38 rfl rfl ⟨_,rfl,?_,H.base⟩
  rw [stepBy_yes ‹_›,stepRes,show jg s - 1=j by omega,told_no ‹_›]
  exact ⟨none,0,0,none,0,0,[],[],none,0,0,rfl,(N.emp.pick [0]),H.pick [2,1,0] [0]⟩
 refine qU (t_n (zcr (sps [pp b19 0,pp b19 0] (sw (zn [.slice y9 t.qA.length yZ,.slice ra3a ((Qi s t counts (QC (BadAt s t counts) counts.length)).length) rc3a,.slice vX vV vW] isAgg38 sizeOf38 rfl (qF (H.cells 1 rfl) 0 3) (sw (zB H 0 [.slice y9 t.qA.length yZ,.slice ra3a ((Qi s t counts (QC (BadAt s t counts) counts.length)).length) rc3a,.slice vX vV vW] sizeOf38 fun w273 H=>sp (yI 0) (zjr ?_))))))))
 refine retC2 H 0 rfl (yI 0) rfl isAgg38 sizeOf38 rfl rfl ⟨_,rfl,?_⟩
 replace H:=H.erases [0]
 dsimp only [vU,List.eraseIdx] at H
 refine sps [.agg #[.slice y9 t.qA.length yZ,.slice ra3a ((Qi s t counts (QC (BadAt s t counts) counts.length)).length) rc3a,.slice vX vV vW],yI 0] (sw (zB H 5 [.slice y9 t.qA.length yZ,.slice ra3a ((Qi s t counts (QC (BadAt s t counts) counts.length)).length) rc3a,.slice vX vV vW] sizeOf38 fun w274 H=>sp (yI 0) (zjr (retC2 H 5 rfl (yI 0) rfl isAgg38 sizeOf38 rfl rfl ⟨_,rfl,?_,H.base⟩))))
 rw [stepBy_yes ‹_›,stepRes,show jg s - 1=j by omega,told_yes ‹_›]
 exact ⟨y9,t.qA.length,yZ,ra3a,(Qi s t counts (QC (BadAt s t counts) counts.length)).length,rc3a,zS,zg,vX,vV,vW,rfl,(N.pick [1]),H.pick [1,4,3] [1]⟩
theorem isEnabled_ok (w:World) (s:qG) (t:qJ) (r:QU) {qB:yOA} {qZ:yLN} {qL:yOA} {xE:yLN} {qV:yOA} {xR:yLN} {xn:yOA} {zy:yLN} {qN:yOA} {xH:yLN} {yL:yOA} {Yr:yLN} {yP:yOA} {Yv:yLN} {yM:yOA} {Yt:yLN} {yO:yOA} {Yu:yLN} {Xv:yOA} {FrOut:yLN} {yh:yOA} {FrInto:yLN} (xe:qO.rep w qZ [.slice qB s.qw.length qy] s.qw) (xJ:qO.rep w xE [.slice qL s.qx.length qI] s.qx) (zl:qO.rep w xR [.slice qV t.qA.length qR] t.qA) (zK:qO.rep w zy [.slice xn t.qE.length xk] t.qE) (xP:qO.rep w xH [.slice qN t.qC.length qM] t.qC) (hrNeed:qO.rep w Yr [.slice yL r.xm.length yF] r.xm) (hrHave:qO.rep w Yv [.slice yP r.xF.length yJ] r.xF) (hrLack:qO.rep w Yt [.slice yM r.xI.length yG] r.xI) (hrHere:qO.rep w Yu [.slice yO r.xM.length yH] r.xM) (hrOut:qO.rep w FrOut [.slice Xv r.zV.length Xu] r.zV) (hrInto:qO.rep w FrInto [.slice yh r.qQ.length yf] r.qQ) (p0:jO s) (p1:zF s t) (p2:RuleOk s r):Calls Tryz.prog 145 #[.agg #[yI s.xC,.slice qB s.qw.length qy,.slice qL s.qx.length qI],.agg #[.slice qV t.qA.length qR,.slice xn t.qE.length xk,.slice qN t.qC.length qM],.agg #[yI r.qH,yI r.zM,.slice yL r.xm.length yF,.slice yP r.xF.length yJ,.slice yM r.xI.length yG,.slice yO r.xM.length yH,.slice Xv r.zV.length Xu,.slice yh r.qQ.length yf,.bool r.zA]] w (Ret (fun v w' =>v=.bool (dec (EnOk s t r))) w):=by
 refine en func145 ntmps145 ?_
 have H:=(((((((((((St.start w).arg hrInto).arg hrOut).arg hrHere).arg hrLack).arg hrHave).arg hrNeed).arg xP).arg zK).arg zl).arg xJ).arg xe
 have zY:=qK xe
 have jb:=qK xJ
 have Qd:=qK zl
 have QQ:=qK zK
 have jP:=qK xP
 have nhrNeed:=qK hrNeed
 have nhrHave:=qK hrHave
 have nhrLack:=qK hrLack
 have nhrHere:=qK hrHere
 have nhrOut:=qK hrOut
 have nhrInto:=qK hrInto
 clear xe xJ zl zK xP hrNeed hrHave hrLack hrHere hrOut hrInto
 have N:=Fresh.nil w.heap.size
 have p3:=p2.1
 have p4:=p1.1
 have p5:=p1.2.1
 have p6:=(p1.bagLen (k:=r.qH.toNat) qf).len
 have p7:=p2.2.2.2.2.1.len
 have p8:=p2.2.2.2.2.2.1.len
 have p9:=p2.2.2.2.2.2.2.1.len
 have p10:=vJ p2.2.2.2.2.2.2.1
 have p11:=p0.1
 have p12:=p2.2.2.2.2.2.2.2.2.2.2
 have p13:=kinds_le p0
 refine zcr (sw (vH H (yS s qB qy qL qI) fun b1 w2 H=>sw (vH H (yT t qV qR xn xk qN qM) fun b3 w4 H=>sw (vH H [yI r.qH,yI r.zM,.slice yL r.xm.length yF,.slice yP r.xF.length yJ,.slice yM r.xI.length yG,.slice yO r.xM.length yH,.slice Xv r.zV.length Xu,.slice yh r.qQ.length yf,.bool r.zA] fun b5 w6 H=>sp (.bool false) (zjcc (oF rfl ?_))))))
 refine oL rfl (H.cell 1 rfl rfl) (oF rfl (oL rfl (H.cell 0 rfl rfl) ?_))
 obtain ⟨b7,o8,rfl⟩:=H.addr 2 rfl qf
 refine oI rfl rfl (oL rfl (H.Vb 2 rfl r.qH qf qf) (sp (.bool (!(t.qA[r.qH.toNat]!))) (zjn (xK (!(t.qA[r.qH.toNat]!)) rfl (fun h10=>?_) (fun h10=>?_)))))
 ·skip
  replace h10:=xw h10
  refine zcr (sp (.bool false) (zjr (t_r (ret1 (.bool false) rfl rfl ⟨_,rfl,?_,H.base⟩))))
  rw [xx (fun h=>by obtain ⟨h1,h2,h3,h4,h5⟩:=h;first | exact ft h1 ‹_› | exact ft h2 ‹_› | exact ft h3 ‹_› | exact h4 ⟨‹_›,‹_›⟩ | (obtain ⟨q1,q2⟩:=h5 i qf;first | exact ft q1 ‹_› | exact absurd q2 ‹_›))]
 replace h10:=xh h10
 refine qU (t_n (zcr (oF rfl (oL rfl (H.cell 1 rfl rfl) (oF rfl (oL rfl (H.cell 0 rfl rfl) ?_))))))
 obtain ⟨b11,o12,rfl⟩:=H.addr 3 rfl qf
 obtain ⟨ae14,ce14,Fe14,H⟩:=H.vM 3 rfl r.qH r.qH.toNat qf qf qf
 refine oI rfl rfl (oL rfl (H.xW 1 rfl 0 rfl) (sp (.slice ae14 ((t.qE[r.qH.toNat]!).length) ce14) (zjcc (oF rfl (oL rfl (H.cell 0 rfl rfl) (sp (.slice ae14 ((t.qE[r.qH.toNat]!).length) ce14) (sw (oq (isWithin_ok _ r.xm (t.qE[r.qH.toNat]!) (H.get 7 rfl).1 (H.get 0 rfl).1 qg qg) H fun w15 H=>sps [.bool (!(within r.xm (t.qE[r.qH.toNat]!))),.bool (!(within r.xm (t.qE[r.qH.toNat]!)))] ?_))))))))
 cases h17:(!(within r.xm (t.qE[r.qH.toNat]!)))
 ·skip
  replace h17:=xh h17
  refine qP 26 rfl rfl (oF rfl (qP 26 rfl rfl (oL rfl (H.cell 0 rfl rfl) (qP 26 rfl rfl (sp (.slice ae14 ((t.qE[r.qH.toNat]!).length) ce14) (qP 26 rfl rfl (sw (oq (isWithin_ok _ r.xF (t.qE[r.qH.toNat]!) (H.get 8 rfl).1 (H.get 0 rfl).1 qg qg) H fun w18 H=>qP 26 rfl rfl (sps [.bool (!(within r.xF (t.qE[r.qH.toNat]!))),.bool (!(within r.xF (t.qE[r.qH.toNat]!))),.bool (!(within r.xF (t.qE[r.qH.toNat]!)))] ?_)))))))))
  cases h20:(!(within r.xF (t.qE[r.qH.toNat]!)))
  ·skip
   replace h20:=xh h20
   refine qP 33 rfl rfl (oF rfl (qP 33 rfl rfl (oL rfl (H.cell 0 rfl rfl) (qP 33 rfl rfl (sw (oq (VH _ r.xI (H.get 9 rfl).1 (by first | assumption | exact vJ ql | exact Qo ql)) H fun w21 H=>qP 33 rfl rfl (sp (.bool (decide ((VN r.xI:Int) > 0))) (qP 33 rfl rfl (sp (.bool (decide ((VN r.xI:Int) > 0))) ?_)))))))))
   cases h23:(decide ((VN r.xI:Int) > 0))
   ·skip
    replace h23:=of_decide_eq_false h23
    refine zo [39,40,41,42] (qP 33 rfl rfl (sps [.bool false,.bool false] (zjn (xK false rfl (fun h=>absurd h qj) (fun _=>qU (t_n (zcr (oF rfl (oL rfl (H.cell 0 rfl rfl) (sp (.func (.func 187) #[] #[pp b3 0,pp b1 0,pp b5 0]) (sw (vF #[.slice yh r.qQ.length yf,.func (.func 187) #[] #[pp b3 0,pp b1 0,pp b5 0]] rfl rfl call186 (en func186 ntmps186 ?_)))))))))))))
    refine zcr (sp (.bool false) (zjc (sps [.slice yh r.qQ.length yf,.func (.func 187) #[] #[pp b3 0,pp b1 0,pp b5 0]] (sw (vF #[.slice yh r.qQ.length yf,.func (.func 187) #[] #[pp b3 0,pp b1 0,pp b5 0]] rfl rfl call207 (en func207 ntmps207 ?_))))))
    refine zcr (sp (yI 0) (zjcc (sp (.slice yh r.qQ.length yf) (oN rfl (sp (yI 0) (zjn (qX ?_)))))))
    refine zu (fun m' ρ w24=>∃ (xU:Env) (i:Nat),ρ=upd (upd (upd (upd xU 0 (.slice yh r.qQ.length yf)) 1 (.func (.func 187) #[] #[pp b3 0,pp b1 0,pp b5 0])) 7 (yI r.qQ.length)) 8 (yI i)∧((i:Int)≤r.qQ.length)∧(IntoUp s t r i)∧m' =(r.qQ.length - (i:Int)).toNat∧Fresh w.heap.size []∧St w w24 [.box b5 [yI r.qH,yI r.zM,.slice yL r.xm.length yF,.slice yP r.xF.length yJ,.slice yM r.xI.length yG,.slice yO r.xM.length yH,.slice Xv r.zV.length Xu,.slice yh r.qQ.length yf,.bool r.zA] 121,.box b3 [.slice (aa b7 o8) t.qA.length qR,.slice (aa b11 o12) t.qE.length xk,.slice qN t.qC.length qM] 38,.box b1 (yS s qB qy qL qI) 36] [sF false Fe14 ae14 ce14 (t.qE[r.qH.toNat]!),atF b11 (o12+(r.qH:Int).toNat * 1) [.slice ae14 ((t.qE[r.qH.toNat]!).length) ce14],sF false qZ qB qy s.qw,sF false xE qL qI s.qx,sF false xR (aa b7 o8) qR t.qA,sF false zy (aa b11 o12) xk t.qE,sF false xH qN qM t.qC,sF false Yr yL yF r.xm,sF false Yv yP yJ r.xF,sF false Yt yM yG r.xI,sF false Yu yO yH r.xM,sF false FrOut Xv Xu r.zV,sF false FrInto yh yf r.qQ]) ((r.qQ.length - (0:Int)).toNat) ⟨_,0,uE4,qf,(by exact fun j hj=>by omega),rfl,N,H⟩ ?_
    clear H N
    rintro m' ρ w25 ⟨xU,i,rfl,i0,i1,rfl,N,H⟩
    refine zcr (sp (.bool (decide ((i:Int) < r.qQ.length))) (zjn (xQ (cD rfl (fun h26=>?_) (fun h26=>?_)))))
    ·skip
     have q:=(p12 i qf).1
     have q1:=q.1
     have q2:=q.2
     refine qU (t_n (xQ (qX (zcr (sps [yI i,yI i] (zjc (sps [.func (.func 187) #[] #[pp b3 0,pp b1 0,pp b5 0],.slice yh r.qQ.length yf,yI i] ?_)))))))
     obtain ⟨b27,o28,rfl⟩:=H.addr 12 rfl qf
     obtain ⟨ae30Bag,ce30Bag,Fe30Bag,H⟩:=H.jS 12 rfl i i qf qf qf
     refine oI rfl rfl (sw (zn [yI ((r.qQ[i]!).qH),.slice ae30Bag (((r.qQ[i]!).jy).length) ce30Bag] isAgg164 sizeOf164 rfl (qF (H.get 1 rfl) 0 2) (sw (vF #[.agg #[yI ((r.qQ[i]!).qH),.slice ae30Bag (((r.qQ[i]!).jy).length) ce30Bag],pp b3 0,pp b1 0,pp b5 0] rfl rfl call187 (en func187 ntmps187 ?_)))))
     refine zcr (sw (vH H [yI ((r.qQ[i]!).qH),.slice ae30Bag (((r.qQ[i]!).jy).length) ce30Bag] fun b31 w32 H=>sp (.bool false) (zjn (xQ ?_))))
     refine vT rfl H fun H=>tF 0 rfl rfl H ?_
     refine tL 1 rfl rfl (fun _ h=>h.cell 2 rfl rfl) H ?_
     refine tF 2 rfl rfl H ?_
     refine tL 3 rfl rfl (fun _ h=>h.cell 0 rfl rfl) H ?_
     refine tI 4 rfl rfl rfl H ?_
     refine tL 5 rfl rfl (fun _ h=>h.Vb 6 rfl ((r.qQ[i]!).qH) qf qf) H ?_
     refine rtp 6 (.bool (!(t.qA[((r.qQ[i]!).qH).toNat]!))) H ?_
     refine rtp 7 (.bool (!(t.qA[((r.qQ[i]!).qH).toNat]!))) H ?_
     cases h34:(!(t.qA[((r.qQ[i]!).qH).toNat]!))
     ·skip
      replace h34:=xh h34
      refine rg 8 (.agg #[yI s.xC,.slice qB s.qw.length qy,.slice qL s.qx.length qI]) 13 (Qe (cs:=(yS s qB qy qL qI)) isAgg36 sizeOf36 rfl (fun _ h=>qF (h.cells 3 rfl) 0 3)) H ?_
      refine rg 9 (.agg #[.slice (aa b7 o8) t.qA.length qR,.slice (aa b11 o12) t.qE.length xk,.slice qN t.qC.length qM]) 13 (Qe (cs:=[.slice (aa b7 o8) t.qA.length qR,.slice (aa b11 o12) t.qE.length xk,.slice qN t.qC.length qM]) isAgg38 sizeOf38 rfl (fun _ h=>qF (h.cells 2 rfl) 0 3)) H ?_
      refine gF 10 rfl rfl H ?_
      refine gL 11 rfl rfl (fun _ h=>h.cell 0 rfl rfl) H ?_
      refine gF 13 rfl rfl H ?_
      refine gL 14 rfl rfl (fun _ h=>h.cell 1 rfl rfl) H ?_
      refine ji [12] qh qm (YE rfl (e:=13) rfl rfl (oq (parentNow_ok _ s t ((r.qQ[i]!).qH) (H.get 4 rfl).1 (H.get 5 rfl).1 (H.get 6 rfl).1 (H.get 7 rfl).1 (H.get 8 rfl).1 qg qg qg) H fun w36 H=>⟨H,(rgp 15 (.bool ((xA s t ((r.qQ[i]!).qH):Int) != r.qH)) 13 H ?_)⟩) jk)
      refine rtp 16 (.bool ((xA s t ((r.qQ[i]!).qH):Int) != r.qH)) H ?_
      refine rtp 17 (.bool ((xA s t ((r.qQ[i]!).qH):Int) != r.qH)) H ?_
      refine xO qh (t_n (c_ret (ret1 (.bool ((xA s t ((r.qQ[i]!).qH):Int) != r.qH)) rfl rfl ⟨_,rfl,?_⟩)))
      replace H:=H.erases [0]
      dsimp only [vU,List.eraseIdx] at H
      refine zjn (xK ((xA s t ((r.qQ[i]!).qH):Int) != r.qH) rfl (fun h38=>?_) (fun h38=>?_))
      ·skip
       replace h38:=bne_iff_ne.1 h38
       refine zcr (sps [yI i,yI i] (zjr (zr5 (ret1 (yI i) rfl rfl ⟨_,rfl,(sw (o_pure (.bool true) (by show some (Value.bool (decide ((i:Int)≥0)))=some (Value.bool true);rw [decide_eq_true qf]) (sp (.bool true) (zjr (ret1 (.bool true) rfl rfl ⟨_,rfl,(sps [.bool false,.bool false] (zjr (ret1 (.bool false) rfl rfl ⟨_,rfl,?_,H.base⟩)))⟩)))))⟩))))
       rw [xx (fun h=>by obtain ⟨h1,h2,h3,h4,h5⟩:=h;first | exact ft h1 ‹_› | exact ft h2 ‹_› | exact ft h3 ‹_› | exact h4 ⟨‹_›,‹_›⟩ | (obtain ⟨q1,q2⟩:=h5 i qf;first | exact ft q1 ‹_› | exact absurd q2 ‹_›))]
      replace h38:=xq h38
      refine qU (b_n (t_n (xY (sw (zC i 1 rfl rfl qf (sp (yI (i+1)) (xZ (xf (m' :=(r.qQ.length - ((i+1):Int)).toNat) qf ⟨_,i+1,uE4,?_,?_,rfl,N,H.pick [0,1,2] [2,3,4,5,6,7,8,9,10,11,12,13,14]⟩))))))))
      · omega
      · exact i1.succ ‹_› ‹_›
     replace h34:=xw h34
     refine zT [8,9,10,11,12,13,14,15] 8 (H) (rtp 16 (.bool true) H ?_)
     refine rtp 17 (.bool true) H ?_
     refine xO qh (t_n (c_ret (ret1 (.bool true) rfl rfl ⟨_,rfl,?_⟩)))
     replace H:=H.erases [0]
     dsimp only [vU,List.eraseIdx] at H
     refine zjn (xK true rfl (fun _=>zcr (sps [yI i,yI i] (zjr (zr5 (ret1 (yI i) rfl rfl ⟨_,rfl,(sw (o_pure (.bool true) (by show some (Value.bool (decide ((i:Int)≥0)))=some (Value.bool true);rw [decide_eq_true qf]) (sp (.bool true) (zjr (ret1 (.bool true) rfl rfl ⟨_,rfl,(sps [.bool false,.bool false] (zjr (ret1 (.bool false) rfl rfl ⟨_,rfl,?_,H.base⟩)))⟩)))))⟩))))) (fun h=>absurd h qj))
     rw [xx (fun h=>by obtain ⟨h1,h2,h3,h4,h5⟩:=h;first | exact ft h1 ‹_› | exact ft h2 ‹_› | exact ft h3 ‹_› | exact h4 ⟨‹_›,‹_›⟩ | (obtain ⟨q1,q2⟩:=h5 i qf;first | exact ft q1 ‹_› | exact absurd q2 ‹_›))]
    refine zx4 (zcr (sp (yI (-1)) (zjr (ret1 (yI (-1)) rfl rfl ⟨_,rfl,(sps [.bool false,.bool false] (zjr (ret1 (.bool false) rfl rfl ⟨_,rfl,(sps [.bool true,.bool true] (zjr (ret1 (.bool true) rfl rfl ⟨_,rfl,?_,H.base⟩)))⟩)))⟩))))
    rw [yD ⟨by assumption,by assumption,by assumption,fun ⟨u,v⟩=>by first | omega | exact ft v ‹_›,(show i=r.qQ.length by omega)▸i1⟩]
   replace h23:=of_decide_eq_true h23
   refine qP 38 rfl rfl (oF rfl (qP 38 rfl rfl (oL rfl (H.cell 0 rfl rfl) (qP 38 rfl rfl (sp (.slice ae14 ((t.qE[r.qH.toNat]!).length) ce14) (qP 38 rfl rfl (sw (oq (isWithin_ok _ r.xI (t.qE[r.qH.toNat]!) (H.get 9 rfl).1 (H.get 0 rfl).1 qg qg) H fun w39 H=>qP 33 rfl rfl (sps [.bool (within r.xI (t.qE[r.qH.toNat]!)),.bool (within r.xI (t.qE[r.qH.toNat]!))] (zjn (xK (within r.xI (t.qE[r.qH.toNat]!)) rfl (fun h41=>?_) (fun h41=>?_))))))))))))
   ·skip
    refine zcr (sp (.bool false) (zjr (t_r (ret1 (.bool false) rfl rfl ⟨_,rfl,?_,H.base⟩))))
    rw [xx (fun h=>by obtain ⟨h1,h2,h3,h4,h5⟩:=h;first | exact ft h1 ‹_› | exact ft h2 ‹_› | exact ft h3 ‹_› | exact h4 ⟨‹_›,‹_›⟩ | (obtain ⟨q1,q2⟩:=h5 i qf;first | exact ft q1 ‹_› | exact absurd q2 ‹_›))]
   refine qU (t_n (zcr (oF rfl (oL rfl (H.cell 0 rfl rfl) (sp (.func (.func 187) #[] #[pp b3 0,pp b1 0,pp b5 0]) (sw (vF #[.slice yh r.qQ.length yf,.func (.func 187) #[] #[pp b3 0,pp b1 0,pp b5 0]] rfl rfl call186 (en func186 ntmps186 ?_))))))))
   refine zcr (sp (.bool false) (zjc (sps [.slice yh r.qQ.length yf,.func (.func 187) #[] #[pp b3 0,pp b1 0,pp b5 0]] (sw (vF #[.slice yh r.qQ.length yf,.func (.func 187) #[] #[pp b3 0,pp b1 0,pp b5 0]] rfl rfl call207 (en func207 ntmps207 ?_))))))
   refine zcr (sp (yI 0) (zjcc (sp (.slice yh r.qQ.length yf) (oN rfl (sp (yI 0) (zjn (qX ?_)))))))
   refine zu (fun m' ρ w42=>∃ (xU:Env) (i:Nat),ρ=upd (upd (upd (upd xU 0 (.slice yh r.qQ.length yf)) 1 (.func (.func 187) #[] #[pp b3 0,pp b1 0,pp b5 0])) 7 (yI r.qQ.length)) 8 (yI i)∧((i:Int)≤r.qQ.length)∧(IntoUp s t r i)∧m' =(r.qQ.length - (i:Int)).toNat∧Fresh w.heap.size []∧St w w42 [.box b5 [yI r.qH,yI r.zM,.slice yL r.xm.length yF,.slice yP r.xF.length yJ,.slice yM r.xI.length yG,.slice yO r.xM.length yH,.slice Xv r.zV.length Xu,.slice yh r.qQ.length yf,.bool r.zA] 121,.box b3 [.slice (aa b7 o8) t.qA.length qR,.slice (aa b11 o12) t.qE.length xk,.slice qN t.qC.length qM] 38,.box b1 (yS s qB qy qL qI) 36] [sF false Fe14 ae14 ce14 (t.qE[r.qH.toNat]!),atF b11 (o12+(r.qH:Int).toNat * 1) [.slice ae14 ((t.qE[r.qH.toNat]!).length) ce14],sF false qZ qB qy s.qw,sF false xE qL qI s.qx,sF false xR (aa b7 o8) qR t.qA,sF false zy (aa b11 o12) xk t.qE,sF false xH qN qM t.qC,sF false Yr yL yF r.xm,sF false Yv yP yJ r.xF,sF false Yt yM yG r.xI,sF false Yu yO yH r.xM,sF false FrOut Xv Xu r.zV,sF false FrInto yh yf r.qQ]) ((r.qQ.length - (0:Int)).toNat) ⟨_,0,uE4,qf,(by exact fun j hj=>by omega),rfl,N,H⟩ ?_
   clear H N
   rintro m' ρ w43 ⟨xU,i,rfl,i0,i1,rfl,N,H⟩
   refine zcr (sp (.bool (decide ((i:Int) < r.qQ.length))) (zjn (xQ (cD rfl (fun h44=>?_) (fun h44=>?_)))))
   ·skip
    have q:=(p12 i qf).1
    have q1:=q.1
    have q2:=q.2
    refine qU (t_n (xQ (qX (zcr (sps [yI i,yI i] (zjc (sps [.func (.func 187) #[] #[pp b3 0,pp b1 0,pp b5 0],.slice yh r.qQ.length yf,yI i] ?_)))))))
    obtain ⟨b45,o46,rfl⟩:=H.addr 12 rfl qf
    obtain ⟨ae48Bag,ce48Bag,Fe48Bag,H⟩:=H.jS 12 rfl i i qf qf qf
    refine oI rfl rfl (sw (zn [yI ((r.qQ[i]!).qH),.slice ae48Bag (((r.qQ[i]!).jy).length) ce48Bag] isAgg164 sizeOf164 rfl (qF (H.get 1 rfl) 0 2) (sw (vF #[.agg #[yI ((r.qQ[i]!).qH),.slice ae48Bag (((r.qQ[i]!).jy).length) ce48Bag],pp b3 0,pp b1 0,pp b5 0] rfl rfl call187 (en func187 ntmps187 ?_)))))
    refine zcr (sw (vH H [yI ((r.qQ[i]!).qH),.slice ae48Bag (((r.qQ[i]!).jy).length) ce48Bag] fun b49 w50 H=>sp (.bool false) (zjn (xQ ?_))))
    refine vT rfl H fun H=>tF 0 rfl rfl H ?_
    refine tL 1 rfl rfl (fun _ h=>h.cell 2 rfl rfl) H ?_
    refine tF 2 rfl rfl H ?_
    refine tL 3 rfl rfl (fun _ h=>h.cell 0 rfl rfl) H ?_
    refine tI 4 rfl rfl rfl H ?_
    refine tL 5 rfl rfl (fun _ h=>h.Vb 6 rfl ((r.qQ[i]!).qH) qf qf) H ?_
    refine rtp 6 (.bool (!(t.qA[((r.qQ[i]!).qH).toNat]!))) H ?_
    refine rtp 7 (.bool (!(t.qA[((r.qQ[i]!).qH).toNat]!))) H ?_
    cases h52:(!(t.qA[((r.qQ[i]!).qH).toNat]!))
    ·skip
     replace h52:=xh h52
     refine rg 8 (.agg #[yI s.xC,.slice qB s.qw.length qy,.slice qL s.qx.length qI]) 13 (Qe (cs:=(yS s qB qy qL qI)) isAgg36 sizeOf36 rfl (fun _ h=>qF (h.cells 3 rfl) 0 3)) H ?_
     refine rg 9 (.agg #[.slice (aa b7 o8) t.qA.length qR,.slice (aa b11 o12) t.qE.length xk,.slice qN t.qC.length qM]) 13 (Qe (cs:=[.slice (aa b7 o8) t.qA.length qR,.slice (aa b11 o12) t.qE.length xk,.slice qN t.qC.length qM]) isAgg38 sizeOf38 rfl (fun _ h=>qF (h.cells 2 rfl) 0 3)) H ?_
     refine gF 10 rfl rfl H ?_
     refine gL 11 rfl rfl (fun _ h=>h.cell 0 rfl rfl) H ?_
     refine gF 13 rfl rfl H ?_
     refine gL 14 rfl rfl (fun _ h=>h.cell 1 rfl rfl) H ?_
     refine ji [12] qh qm (YE rfl (e:=13) rfl rfl (oq (parentNow_ok _ s t ((r.qQ[i]!).qH) (H.get 4 rfl).1 (H.get 5 rfl).1 (H.get 6 rfl).1 (H.get 7 rfl).1 (H.get 8 rfl).1 qg qg qg) H fun w54 H=>⟨H,(rgp 15 (.bool ((xA s t ((r.qQ[i]!).qH):Int) != r.qH)) 13 H ?_)⟩) jk)
     refine rtp 16 (.bool ((xA s t ((r.qQ[i]!).qH):Int) != r.qH)) H ?_
     refine rtp 17 (.bool ((xA s t ((r.qQ[i]!).qH):Int) != r.qH)) H ?_
     refine xO qh (t_n (c_ret (ret1 (.bool ((xA s t ((r.qQ[i]!).qH):Int) != r.qH)) rfl rfl ⟨_,rfl,?_⟩)))
     replace H:=H.erases [0]
     dsimp only [vU,List.eraseIdx] at H
     refine zjn (xK ((xA s t ((r.qQ[i]!).qH):Int) != r.qH) rfl (fun h56=>?_) (fun h56=>?_))
     ·skip
      replace h56:=bne_iff_ne.1 h56
      refine zcr (sps [yI i,yI i] (zjr (zr5 (ret1 (yI i) rfl rfl ⟨_,rfl,(sw (o_pure (.bool true) (by show some (Value.bool (decide ((i:Int)≥0)))=some (Value.bool true);rw [decide_eq_true qf]) (sp (.bool true) (zjr (ret1 (.bool true) rfl rfl ⟨_,rfl,(sps [.bool false,.bool false] (zjr (ret1 (.bool false) rfl rfl ⟨_,rfl,?_,H.base⟩)))⟩)))))⟩))))
      rw [xx (fun h=>by obtain ⟨h1,h2,h3,h4,h5⟩:=h;first | exact ft h1 ‹_› | exact ft h2 ‹_› | exact ft h3 ‹_› | exact h4 ⟨‹_›,‹_›⟩ | (obtain ⟨q1,q2⟩:=h5 i qf;first | exact ft q1 ‹_› | exact absurd q2 ‹_›))]
     replace h56:=xq h56
     refine qU (b_n (t_n (xY (sw (zC i 1 rfl rfl qf (sp (yI (i+1)) (xZ (xf (m' :=(r.qQ.length - ((i+1):Int)).toNat) qf ⟨_,i+1,uE4,?_,?_,rfl,N,H.pick [0,1,2] [2,3,4,5,6,7,8,9,10,11,12,13,14]⟩))))))))
     · omega
     · exact i1.succ ‹_› ‹_›
    replace h52:=xw h52
    refine zT [8,9,10,11,12,13,14,15] 8 (H) (rtp 16 (.bool true) H ?_)
    refine rtp 17 (.bool true) H ?_
    refine xO qh (t_n (c_ret (ret1 (.bool true) rfl rfl ⟨_,rfl,?_⟩)))
    replace H:=H.erases [0]
    dsimp only [vU,List.eraseIdx] at H
    refine zjn (xK true rfl (fun _=>zcr (sps [yI i,yI i] (zjr (zr5 (ret1 (yI i) rfl rfl ⟨_,rfl,(sw (o_pure (.bool true) (by show some (Value.bool (decide ((i:Int)≥0)))=some (Value.bool true);rw [decide_eq_true qf]) (sp (.bool true) (zjr (ret1 (.bool true) rfl rfl ⟨_,rfl,(sps [.bool false,.bool false] (zjr (ret1 (.bool false) rfl rfl ⟨_,rfl,?_,H.base⟩)))⟩)))))⟩))))) (fun h=>absurd h qj))
    rw [xx (fun h=>by obtain ⟨h1,h2,h3,h4,h5⟩:=h;first | exact ft h1 ‹_› | exact ft h2 ‹_› | exact ft h3 ‹_› | exact h4 ⟨‹_›,‹_›⟩ | (obtain ⟨q1,q2⟩:=h5 i qf;first | exact ft q1 ‹_› | exact absurd q2 ‹_›))]
   refine zx4 (zcr (sp (yI (-1)) (zjr (ret1 (yI (-1)) rfl rfl ⟨_,rfl,(sps [.bool false,.bool false] (zjr (ret1 (.bool false) rfl rfl ⟨_,rfl,(sps [.bool true,.bool true] (zjr (ret1 (.bool true) rfl rfl ⟨_,rfl,?_,H.base⟩)))⟩)))⟩))))
   rw [yD ⟨by assumption,by assumption,by assumption,fun ⟨u,v⟩=>by first | omega | exact ft v ‹_›,(show i=r.qQ.length by omega)▸i1⟩]
  replace h20:=xw h20
  refine zo [34,35,36,37,38,39,40,41,42,43] (sp (.bool true) (zjn (xK true rfl (fun _=>zcr (sp (.bool false) (zjr (t_r (ret1 (.bool false) rfl rfl ⟨_,rfl,?_,H.base⟩))))) (fun h=>absurd h qj))))
  rw [xx (fun h=>by obtain ⟨h1,h2,h3,h4,h5⟩:=h;first | exact ft h1 ‹_› | exact ft h2 ‹_› | exact ft h3 ‹_› | exact h4 ⟨‹_›,‹_›⟩ | (obtain ⟨q1,q2⟩:=h5 i qf;first | exact ft q1 ‹_› | exact absurd q2 ‹_›))]
 replace h17:=xw h17
 refine zo [27,28,29,30,31] (sps [.bool true,.bool true] (zo [34,35,36,37,38,39,40,41,42,43] (sp (.bool true) (zjn (xK true rfl (fun _=>zcr (sp (.bool false) (zjr (t_r (ret1 (.bool false) rfl rfl ⟨_,rfl,?_,H.base⟩))))) (fun h=>absurd h qj))))))
 rw [xx (fun h=>by obtain ⟨h1,h2,h3,h4,h5⟩:=h;first | exact ft h1 ‹_› | exact ft h2 ‹_› | exact ft h3 ‹_› | exact h4 ⟨‹_›,‹_›⟩ | (obtain ⟨q1,q2⟩:=h5 i qf;first | exact ft q1 ‹_› | exact absurd q2 ‹_›))]

theorem cloneSS_ok (w:World) (l:yLL) {al:yOA} {Fl:yLN} (hl:qO.rep w Fl [.slice al l.length cl] l) (p0:l.length≤1000000):Calls Tryz.prog 151 #[.slice al l.length cl] w (Ret (fun v w' =>∃ (ra:yOA) (rn:Nat) (rc:Nat) (rx:List Value) (rF:yLN),v=.slice ra rn rc∧(∀ b∈rF,b∈Fl)∧St w w' [rr ra rn rc 22 1 rx] [zi false rF rx l]) w):=by
 refine en func151 ntmps151 ?_
 have H:=(St.start w).arg hl
 have nhl:=qK hl
 clear hl
 have N:=Fresh.nil w.heap.size
 refine zcr (sp yN (zjcc (sp (.slice al l.length cl) (sw (o_eqnil underlying27 al l.length cl rfl (zjn (xK (al.isNone) rfl (fun h1=>?_) (fun h1=>?_))))))))
 ·skip
  refine zcr (sp yN (zjr (t_r ?_)))
  replace H:=H.nilRow 22 1
  replace H:=H.vI (α:=yLI)
  refine ret1 yN rfl rfl ⟨_,rfl,?_,H.base⟩
  obtain rfl:=H.nilOf 1 rfl ‹_›
  replace H:=H.unfree 0 rfl
  exact ⟨none,0,0,[],[],rfl,(by intro b hb;first | (simp at hb;done) | exact id b (by simpa using hb)),H.pick [0] [0]⟩
 refine qU (t_n (zcr (sw (vG H underlying27 ti22 fun b2 w3 H=>sp (.slice al l.length cl) ?_))))
 replace H:=H.boxRow 0 rfl 1 0 rfl qj
 replace H:=H.vI (α:=yLI)
 refine sw (o_appendFR H 0 rfl 1 rfl underlying27 ti22 rfl qj rfl rfl qp qf fun a4 c5 w6 us7 G8 H hG9=>?_)
 replace H:=H.repsCat false 1 rfl 0 rfl qm
 refine sp (.slice a4 (0+l.length) c5) (zjr (ret1 (.slice a4 (0+l.length) c5) rfl rfl ⟨_,rfl,(⟨a4,0+l.length,c5,[]++us7,([]++G8),rfl,(by intro b hb;first | (simp at hb;done) | exact hG9 b (by simpa using hb)),H.pick [0] [0]⟩),H.base⟩))

theorem timesIn_ok (w:World) (l:yLI) (m:yLI) {al:yOA} {Fl:yLN} {am:yOA} {Fm:yLN} (hl:qO.rep w Fl [.slice al l.length cl] l) (hm:qO.rep w Fm [.slice am m.length cm] m) (p0:l.length≤m.length) (p2:∀ q,q < l.length→0≤m[q]! ∧m[q]! ≤1000):Calls Tryz.prog 203 #[.slice al l.length cl,.slice am m.length cm] w (Ret (fun v w' =>v=yI (jm l m)) w):=by
 refine en func203 ntmps203 ?_
 have H:=((St.start w).arg hm).arg hl
 have nhl:=qK hl
 have nhm:=qK hm
 clear hl hm
 have N:=Fresh.nil w.heap.size
 refine zcr (sp (yI 0) (zjc (sp (yI 1000) (zjcc (sp (.slice al l.length cl) (oN rfl (sp (yI 0) (zjn (qX ?_)))))))))
 refine zu (fun m' ρ w1=>∃ (xU:Env) (most:Int) (k:Nat),ρ=upd (upd (upd (upd (upd xU 1 (.slice am m.length cm)) 5 (yI most)) 8 (.slice al l.length cl)) 9 (yI l.length)) 10 (yI k)∧most=yR l m k∧((k:Int)≤l.length)∧m' =(l.length - (k:Int)).toNat∧Fresh w.heap.size []∧St w w1 [] [sF false Fl al cl l,sF false Fm am cm m]) ((l.length - (0:Int)).toNat) ⟨_,1000,0,uE5,(by rfl),qf,rfl,N,H⟩ ?_
 clear H N
 rintro m' ρ w2 ⟨xU,most,k,rfl,rfl,i0,rfl,N,H⟩
 refine zcr (sp (.bool (decide ((k:Int) < l.length))) (zjn (xQ (cD rfl (fun h3=>?_) (fun h3=>?_)))))
 ·skip
  refine qU (t_n (xQ (qX (zcr (sp (yI k) ?_)))))
  obtain ⟨b4,o5,rfl⟩:=H.addr 0 rfl qf
  refine oI rfl rfl (oL rfl (H.jC 0 rfl k qf qf) (sps [yI k,yI (l[k]!)] (zjc (sps [yI (l[k]!),.bool (decide ((l[k]! :Int) > 0))] (zjn (cD rfl (fun h7=>?_) (fun h7=>?_)))))))
  ·skip
   refine xY (sps [yI (yR l m k),.slice am m.length cm,yI k] ?_)
   obtain ⟨b8,o9,rfl⟩:=H.addr 1 rfl qf
   refine oI rfl rfl (oL rfl (H.jC 1 rfl k qf qf) (sp (yI (l[k]!)) (sw (o_quo (m[k]!) (l[k]!) rfl rfl (by (have:=p2 k qf;omega)) (by (have:=p2 k qf;omega)) (sw (o_min (yR l m k) ((m[k]!) / (l[k]!)) rfl rfl (sp (yI (min (yR l m k) ((m[k]!) / (l[k]!)))) (xZ (b_n (t_n (xY (sw (zC k 1 rfl rfl (by (have:=p2 k qf;omega)) (sp (yI (k+1)) (xZ (xf (m' :=(l.length - ((k+1):Int)).toNat) qf ⟨_,min (yR l m k) ((m[k]!) / (l[k]!)),k+1,uE5,?_,?_,rfl,N,H⟩))))))))))))))))
   · first | exact (timesTo_pos qf).symm | exact (timesTo_skip qf).symm
   · omega
  refine qU (b_n (t_n (xY (sw (zC k 1 rfl rfl (by (have:=p2 k qf;omega)) (sp (yI (k+1)) (xZ (xf (m' :=(l.length - ((k+1):Int)).toNat) qf ⟨_,(yR l m k),k+1,uE5,?_,?_,rfl,N,H⟩))))))))
  · first | exact (timesTo_pos qf).symm | exact (timesTo_skip qf).symm
  · omega
 refine zx4 (zcr (sps [yI (yR l m k),yI (yR l m k)] (zjr (ret1 (yI (yR l m k)) rfl rfl ⟨_,rfl,?_,H.base⟩))))
 obtain rfl:k=l.length:=by omega
 rfl

theorem applicable_ok (w:World) (s:qG) (t:qJ) {qB:yOA} {qZ:yLN} {qL:yOA} {xE:yLN} {qV:yOA} {xR:yLN} {xn:yOA} {zy:yLN} {qN:yOA} {xH:yLN} (xe:qO.rep w qZ [.slice qB s.qw.length qy] s.qw) (xJ:qO.rep w xE [.slice qL s.qx.length qI] s.qx) (zl:qO.rep w xR [.slice qV t.qA.length qR] t.qA) (zK:qO.rep w zy [.slice xn t.qE.length xk] t.qE) (xP:qO.rep w xH [.slice qN t.qC.length qM] t.qC) (p0:jO s) (p1:zF s t):Calls Tryz.prog 112 #[.agg #[yI s.xC,.slice qB s.qw.length qy,.slice qL s.qx.length qI],.agg #[.slice qV t.qA.length qR,.slice xn t.qE.length xk,.slice qN t.qC.length qM]] w (Ret (fun v w' =>∃ (ra:yOA) (rn:Nat) (rc:Nat),v=.slice ra rn rc∧Fresh w.heap.size []∧St w w' [rr ra rn rc 2 1 ((appls s t).map (Value.int .i64))] []) w):=by
 refine en func112 ntmps112 ?_
 have H:=(((((St.start w).arg xP).arg zK).arg zl).arg xJ).arg xe
 have zY:=qK xe
 have jb:=qK xJ
 have Qd:=qK zl
 have QQ:=qK zK
 have jP:=qK xP
 clear xe xJ zl zK xP
 have N:=Fresh.nil w.heap.size
 have p2:=p0.2.1
 have p3:=p0.1.2.1
 refine zcr (sw (vH H (yS s qB qy qL qI) fun b1 w2 H=>sw (vH H (yT t qV qR xn xk qN qM) fun b3 w4 H=>sp yN (zjc (sw (jB [yI 0,yI 0,yI 0,yI 0,yI 0,yI 0] [] (sw (zf H ti166 [yI 0,yI 0,yI 0,yI 0,yI 0,yI 0] fun b5 w6 H=>?_))))))))
 refine sw (zB H 0 [yI 0,yI 0,yI 0,yI 0,yI 0,yI 0] sizeOf166 fun w7 H=>zjcc (sp (yI 0) (zjn (qX ?_))))
 refine zu (fun m' ρ w8=>∃ (xU:Env) (c:Nat) (top:yLI),ρ=upd (upd (upd (upd xU 2 (pp b1 0)) 3 (pp b3 0)) 5 (pp b5 0)) 13 (yI c)∧top=minus c∧((c:Int)≤6)∧m' =(6 - (c:Int)).toNat∧Fresh w.heap.size []∧St w w8 [.box b5 (top.map (Value.int .i64)) 166,.box b3 (yT t qV qR xn xk qN qM) 38,.box b1 (yS s qB qy qL qI) 36] [sF false qZ qB qy s.qw,sF false xE qL qI s.qx,sF false xR qV qR t.qA,sF false zy xn xk t.qE,sF false xH qN qM t.qC]) ((6 - (0:Int)).toNat) ⟨_,0,[0,0,0,0,0,0],uE4,(by rfl),qf,rfl,N,H⟩ ?_
 clear H N
 rintro m' ρ w9 ⟨xU,c,top,rfl,rfl,i0,rfl,N,H⟩
 refine zcr (sp (.bool (decide ((c:Int) < 6))) (zjn (xQ (cD rfl (fun h10=>?_) (fun h10=>?_)))))
 ·skip
  refine qU (t_n (xQ (qX (zcr (sps [yI c,yI c] (zjn (xY (sp (yI c) (sw (o_idxArr c underlying166 ti2 rfl rfl qf qf (sw (o_storeArr H 0 rfl (-1) sizeOf2 rfl rfl (i:=c) qf (by simp only [List.length_set,List.length_cons,List.length_nil,minus_len,X4];omega) fun w11 H=>xZ (b_n (t_n (xY (sw (zC c 1 rfl rfl qf (sp (yI (c+1)) (xZ (xf (m' :=(6 - ((c+1):Int)).toNat) qf ⟨_,c+1,((minus c).set c (-1)),uE4,?_,?_,rfl,N,H⟩))))))))))))))))))))
  · exact minus_set qf
  · omega
 refine zx4 (zcc (oF rfl (oL rfl (H.cell 2 rfl rfl) (oN rfl (sp (yI 0) (zjn (qX ?_)))))))
 refine zu (fun m' ρ w12=>∃ (xU:Env) (k:Nat) (top_1:yLI),ρ=upd (upd (upd (upd (upd (upd xU 2 (pp b1 0)) 3 (pp b3 0)) 5 (pp b5 0)) 20 (.slice qL s.qx.length qI)) 21 (yI s.qx.length)) 22 (yI k)∧top_1=bests s t (-1) 6 k∧((k:Int)≤s.qx.length)∧m' =(s.qx.length - (k:Int)).toNat∧Fresh w.heap.size []∧St w w12 [.box b5 (top_1.map (Value.int .i64)) 166,.box b3 (yT t qV qR xn xk qN qM) 38,.box b1 (yS s qB qy qL qI) 36] [sF false qZ qB qy s.qw,sF false xE qL qI s.qx,sF false xR qV qR t.qA,sF false zy xn xk t.qE,sF false xH qN qM t.qC]) ((s.qx.length - (0:Int)).toNat) ⟨_,0,(minus c),uE6,(by exact minus_six qf s t),qf,rfl,N,H⟩ ?_
 clear H N
 rintro m' ρ w13 ⟨xU,k,top_1,rfl,rfl,i0,rfl,N,H⟩
 refine zcr (sp (.bool (decide ((k:Int) < s.qx.length))) (zjn (xQ (cD rfl (fun h14=>?_) (fun h14=>?_)))))
 ·skip
  have q:=p0.rule (i:=k) qf
  have qc:=q.1
  have qk:=q.cell
  have qr:=q.2.1
  have q6:(s.qx[k]!).qH.toNat < 6:=by omega
  refine qU (t_n (xQ (qX (zcr ?_))))
  obtain ⟨b15,o16,rfl⟩:=H.addr 1 rfl qf
  obtain ⟨ae18Need,ce18Need,Fe18Need,ae18Have,ce18Have,Fe18Have,ae18Lack,ce18Lack,Fe18Lack,ae18Here,ce18Here,Fe18Here,ae18Out,ce18Out,Fe18Out,ae18Into,ce18Into,Fe18Into,H⟩:=H.yt 1 rfl k k qf qf qf
  refine oI rfl rfl (sw (zn [yI ((s.qx[k]!).qH),yI ((s.qx[k]!).zM),.slice ae18Need (((s.qx[k]!).xm).length) ce18Need,.slice ae18Have (((s.qx[k]!).xF).length) ce18Have,.slice ae18Lack (((s.qx[k]!).xI).length) ce18Lack,.slice ae18Here (((s.qx[k]!).xM).length) ce18Here,.slice ae18Out (((s.qx[k]!).zV).length) ce18Out,.slice ae18Into (((s.qx[k]!).qQ).length) ce18Into,.bool ((s.qx[k]!).zA)] isAgg121 sizeOf121 rfl (qF (H.get 6 rfl) 0 9) ?_))
  refine sw (zf H ti121 [yI 0,yI 0,yN,yN,yN,yN,yN,yN,.bool false] fun b19 w20 H=>sw (zB H 0 [yI ((s.qx[k]!).qH),yI ((s.qx[k]!).zM),.slice ae18Need (((s.qx[k]!).xm).length) ce18Need,.slice ae18Have (((s.qx[k]!).xF).length) ce18Have,.slice ae18Lack (((s.qx[k]!).xI).length) ce18Lack,.slice ae18Here (((s.qx[k]!).xM).length) ce18Here,.slice ae18Out (((s.qx[k]!).zV).length) ce18Out,.slice ae18Into (((s.qx[k]!).qQ).length) ce18Into,.bool ((s.qx[k]!).zA)] sizeOf121 fun w21 H=>?_))
  refine zjc (sw (zn [yI s.xC,.slice qB s.qw.length qy,.slice (aa b15 o16) s.qx.length qI] isAgg36 sizeOf36 rfl (qF (H.cells 3 rfl) 0 3) (sw (zn (yT t qV qR xn xk qN qM) isAgg38 sizeOf38 rfl (qF (H.cells 2 rfl) 0 3) ?_))))
  refine sw (zn [yI ((s.qx[k]!).qH),yI ((s.qx[k]!).zM),.slice ae18Need (((s.qx[k]!).xm).length) ce18Need,.slice ae18Have (((s.qx[k]!).xF).length) ce18Have,.slice ae18Lack (((s.qx[k]!).xI).length) ce18Lack,.slice ae18Here (((s.qx[k]!).xM).length) ce18Here,.slice ae18Out (((s.qx[k]!).zV).length) ce18Out,.slice ae18Into (((s.qx[k]!).qQ).length) ce18Into,.bool ((s.qx[k]!).zA)] isAgg121 sizeOf121 rfl (qF (H.cells 0 rfl) 0 9) ?_)
  refine sw (oq (isEnabled_ok _ s t (s.qx[k]!) (H.get 7 rfl).1 (H.get 8 rfl).1 (H.get 9 rfl).1 (H.get 10 rfl).1 (H.get 11 rfl).1 (H.get 0 rfl).1 (H.get 1 rfl).1 (H.get 2 rfl).1 (H.get 3 rfl).1 (H.get 4 rfl).1 (H.get 5 rfl).1 qg qg qg) H fun w23 H=>zjn (cP rfl (fun h25=>?_) (fun h25=>?_)))
  ·skip
   refine Qn rfl H [0,2,3] fun H=>?_
   have S:=H.yl [0,2,3] [0,1,2,3,4,5,6,7,8,9,10,11]
   refine tF 0 rfl rfl S ?_
   refine tL 1 rfl rfl (fun _ h=>h.cell 0 rfl rfl) S ?_
   refine tF 2 rfl rfl S ?_
   refine tL 3 rfl rfl (fun _ h=>h.cell 0 rfl rfl) S ?_
   refine rt 4 (pp b5 (0+((s.qx[k]!).qH:Int).toNat * 1)) (y_idxArr b5 (0) 6 ((s.qx[k]!).qH) underlying166 ti2 rfl rfl qf qf) S ?_
   refine tF 6 rfl rfl S ?_
   refine tL 7 rfl rfl (fun _ h=>h.cell 0 rfl rfl) S ?_
   refine ro 5 rfl (zN (yI ((bests s t (-1) 6 k)[((s.qx[k]!).qH).toNat]!)) isAgg2 rfl (H.cell 1 rfl (ints_at (iv:=(s.qx[k]!).qH) (i:=(((s.qx[k]!).qH).toNat)) qf (by simp only [List.length_set,List.length_cons,List.length_nil,minus_len,X4];omega))) (⟨H.pick [0,2,3] [0,1,2,3,4,5,6,7,8,9,10,11],?_⟩))
   have S:=H.yl [0,2,3] [0,1,2,3,4,5,6,7,8,9,10,11]
   refine rt 8 (yI (max ((bests s t (-1) 6 k)[((s.qx[k]!).qH).toNat]!) ((s.qx[k]!).zM))) (y_max ((bests s t (-1) 6 k)[((s.qx[k]!).qH).toNat]!) ((s.qx[k]!).zM) rfl rfl) S ?_
   refine rt 9 (pp b5 (0+((s.qx[k]!).qH:Int).toNat * 1)) (y_idxArr b5 (0) 6 ((s.qx[k]!).qH) underlying166 ti2 rfl rfl qf qf) S ?_
   refine ro 10 rfl (o_storeArr H 1 rfl (max ((bests s t (-1) 6 k)[((s.qx[k]!).qH).toNat]!) ((s.qx[k]!).zM)) sizeOf2 rfl rfl (i:=(((s.qx[k]!).qH).toNat)) qf (by simp only [List.length_set,List.length_cons,List.length_nil,minus_len,X4];omega) fun w27 H=>⟨H.pick [0,2,3] [0,1,2,3,4,5,6,7,8,9,10,11],(xO qh (b_n (t_n (xY (sw (zC k 1 rfl rfl qf (sp (yI (k+1)) (xZ ?_))))))))⟩)
   refine xf (m' :=(s.qx.length - ((k+1):Int)).toNat) qf ⟨_,k+1,((bests s t (-1) 6 k).set (((s.qx[k]!).qH).toNat) (max ((bests s t (-1) 6 k)[((s.qx[k]!).qH).toNat]!) ((s.qx[k]!).zM))),uE6,?_,?_,rfl,N,H.pick [1,2,3] [7,8,9,10,11]⟩
   · first | exact bests_set ‹_› qf | exact bests_skip ‹_›
   · omega
  refine qU (b_n (t_n (xY (sw (zC k 1 rfl rfl qf (sp (yI (k+1)) (xZ (xf (m' :=(s.qx.length - ((k+1):Int)).toNat) qf ⟨_,k+1,(bests s t (-1) 6 k),uE6,?_,?_,rfl,N,H.pick [1,2,3] [7,8,9,10,11]⟩))))))))
  · first | exact bests_set ‹_› qf | exact bests_skip ‹_›
  · omega
 refine zx4 (zcr (sw (vG H underlying22 ti2 fun b28 w29 H=>sp (.slice (aa b28 0) 0 0) (zjcc (oF rfl (oL rfl (H.cell 3 rfl rfl) (oN rfl (sp (yI 0) (zjn (qX ?_))))))))))
 replace H:=H.boxRowI 0 [] 0
 refine zu (fun m' ρ w30=>∃ (xU:Env) (zW:yOA) (zt:Nat) (zL:Nat) (out:yLI) (i:Nat),ρ=upd (upd (upd (upd (upd (upd (upd xU 2 (pp b1 0)) 3 (pp b3 0)) 5 (pp b5 0)) 9 (.slice zW zt zL)) 43 (.slice qL s.qx.length qI)) 44 (yI s.qx.length)) 45 (yI i)∧out=applL s t i∧((i:Int)≤s.qx.length)∧m' =(s.qx.length - (i:Int)).toNat∧Fresh w.heap.size []∧St w w30 [rr zW zt zL 2 1 (out.map (Value.int .i64)),.box b5 ((bests s t (-1) 6 k).map (Value.int .i64)) 166,.box b3 (yT t qV qR xn xk qN qM) 38,.box b1 (yS s qB qy qL qI) 36] [sF false qZ qB qy s.qw,sF false xE qL qI s.qx,sF false xR qV qR t.qA,sF false zy xn xk t.qE,sF false xH qN qM t.qC]) ((s.qx.length - (0:Int)).toNat) ⟨_,(aa b28 0),0,0,([]:yLI),0,uE7,(by rfl),qf,rfl,N,H⟩ ?_
 clear H N
 rintro m' ρ w31 ⟨xU,zW,zt,zL,out,i,rfl,rfl,i0,rfl,N,H⟩
 have hn_out:=H.Vq 0 rfl
 have ll:=applL_le s t i
 refine zcr (sp (.bool (decide ((i:Int) < s.qx.length))) (zjn (xQ (cD rfl (fun h32=>?_) (fun h32=>?_)))))
 ·skip
  have q:=p0.rule (i:=i) qf
  have qc:=q.1
  have qk:=q.cell
  have qr:=q.2.1
  have q6:(s.qx[i]!).qH.toNat < 6:=by omega
  refine qU (t_n (xQ (qX (zcr (sp (yI i) ?_)))))
  obtain ⟨b33,o34,rfl⟩:=H.addr 1 rfl qf
  obtain ⟨ae36Need,ce36Need,Fe36Need,ae36Have,ce36Have,Fe36Have,ae36Lack,ce36Lack,Fe36Lack,ae36Here,ce36Here,Fe36Here,ae36Out,ce36Out,Fe36Out,ae36Into,ce36Into,Fe36Into,H⟩:=H.yt 1 rfl i i qf qf qf
  refine oI rfl rfl (sw (zn [yI ((s.qx[i]!).qH),yI ((s.qx[i]!).zM),.slice ae36Need (((s.qx[i]!).xm).length) ce36Need,.slice ae36Have (((s.qx[i]!).xF).length) ce36Have,.slice ae36Lack (((s.qx[i]!).xI).length) ce36Lack,.slice ae36Here (((s.qx[i]!).xM).length) ce36Here,.slice ae36Out (((s.qx[i]!).zV).length) ce36Out,.slice ae36Into (((s.qx[i]!).qQ).length) ce36Into,.bool ((s.qx[i]!).zA)] isAgg121 sizeOf121 rfl (qF (H.get 6 rfl) 0 9) ?_))
  refine sw (zf H ti121 [yI 0,yI 0,yN,yN,yN,yN,yN,yN,.bool false] fun b37 w38 H=>sp (yI i) ?_)
  refine sw (zB H 0 [yI ((s.qx[i]!).qH),yI ((s.qx[i]!).zM),.slice ae36Need (((s.qx[i]!).xm).length) ce36Need,.slice ae36Have (((s.qx[i]!).xF).length) ce36Have,.slice ae36Lack (((s.qx[i]!).xI).length) ce36Lack,.slice ae36Here (((s.qx[i]!).xM).length) ce36Here,.slice ae36Out (((s.qx[i]!).zV).length) ce36Out,.slice ae36Into (((s.qx[i]!).qQ).length) ce36Into,.bool ((s.qx[i]!).zA)] sizeOf121 fun w39 H=>zjn (xQ ?_))
  refine vT rfl H fun H=>tF 0 rfl rfl H ?_
  refine tL 1 rfl rfl (fun _ h=>h.cell 0 rfl rfl) H ?_
  refine tF 2 rfl rfl H ?_
  refine tL 3 rfl rfl (fun _ h=>h.cell 0 rfl rfl) H ?_
  refine rt 4 (pp b5 (0+((s.qx[i]!).qH:Int).toNat * 1)) (y_idxArr b5 (0) 6 ((s.qx[i]!).qH) underlying166 ti2 rfl rfl qf qf) H ?_
  refine tL 5 rfl rfl (fun _ h=>h.cell 2 rfl (ints_at (iv:=(s.qx[i]!).qH) (i:=(((s.qx[i]!).qH).toNat)) qf (by simp only [List.length_set,List.length_cons,List.length_nil,minus_len,X4];omega))) H ?_
  refine rtp 6 (.bool (((s.qx[i]!).zM:Int) == ((bests s t (-1) 6 k)[((s.qx[i]!).qH).toNat]!))) H ?_
  refine rtp 7 (.bool (((s.qx[i]!).zM:Int) == ((bests s t (-1) 6 k)[((s.qx[i]!).qH).toNat]!))) H ?_
  cases h41:(((s.qx[i]!).zM:Int) == ((bests s t (-1) 6 k)[((s.qx[i]!).qH).toNat]!))
  ·skip
   replace h41:=ne_of_beq_false h41
   refine zT [8,9,10,11] 4 (H) (rtp 12 (.bool false) H ?_)
   refine xO qh (t_n (xK false rfl (fun h=>absurd h qj) (fun _=>qU (b_n (t_n (xY (sw (zC i 1 rfl rfl qf (sp (yI (i+1)) (xZ (xf (m' :=(s.qx.length - ((i+1):Int)).toNat) qf ⟨_,zW,zt,zL,(applL s t i),i+1,uE7,?_,?_,rfl,N,H.pick [1,2,3,4] [7,8,9,10,11]⟩)))))))))))
   · first | exact applL_yes (appl_yes (n:=6) (z:= -1) (k:=k) qf qf qf q6 ‹_› ‹_›) | exact applL_no (appl_no (n:=6) (z:= -1) (k:=k) qf qf qf q6 ‹_›) | exact applL_no (fun h=>‹¬ EnOk _ _ _› h.1)
   · omega
  replace h41:=eq_of_beq h41
  refine rg 8 (.agg #[yI s.xC,.slice qB s.qw.length qy,.slice (aa b33 o34) s.qx.length qI]) 57 (Qe (cs:=[yI s.xC,.slice qB s.qw.length qy,.slice (aa b33 o34) s.qx.length qI]) isAgg36 sizeOf36 rfl (fun _ h=>qF (h.cells 4 rfl) 0 3)) H ?_
  refine rg 9 (.agg #[.slice qV t.qA.length qR,.slice xn t.qE.length xk,.slice qN t.qC.length qM]) 57 (Qe (cs:=(yT t qV qR xn xk qN qM)) isAgg38 sizeOf38 rfl (fun _ h=>qF (h.cells 3 rfl) 0 3)) H ?_
  refine rg 10 (.agg #[yI ((s.qx[i]!).qH),yI ((s.qx[i]!).zM),.slice ae36Need (((s.qx[i]!).xm).length) ce36Need,.slice ae36Have (((s.qx[i]!).xF).length) ce36Have,.slice ae36Lack (((s.qx[i]!).xI).length) ce36Lack,.slice ae36Here (((s.qx[i]!).xM).length) ce36Here,.slice ae36Out (((s.qx[i]!).zV).length) ce36Out,.slice ae36Into (((s.qx[i]!).qQ).length) ce36Into,.bool ((s.qx[i]!).zA)]) 57 (Qe (cs:=[yI ((s.qx[i]!).qH),yI ((s.qx[i]!).zM),.slice ae36Need (((s.qx[i]!).xm).length) ce36Need,.slice ae36Have (((s.qx[i]!).xF).length) ce36Have,.slice ae36Lack (((s.qx[i]!).xI).length) ce36Lack,.slice ae36Here (((s.qx[i]!).xM).length) ce36Here,.slice ae36Out (((s.qx[i]!).zV).length) ce36Out,.slice ae36Into (((s.qx[i]!).qQ).length) ce36Into,.bool ((s.qx[i]!).zA)]) isAgg121 sizeOf121 rfl (fun _ h=>qF (h.cells 0 rfl) 0 9)) H ?_
  refine ji [11] qh qm (YE rfl (e:=57) rfl rfl (oq (isEnabled_ok _ s t (s.qx[i]!) (H.get 7 rfl).1 (H.get 8 rfl).1 (H.get 9 rfl).1 (H.get 10 rfl).1 (H.get 11 rfl).1 (H.get 0 rfl).1 (H.get 1 rfl).1 (H.get 2 rfl).1 (H.get 3 rfl).1 (H.get 4 rfl).1 (H.get 5 rfl).1 qg qg qg) H fun w43 H=>⟨H,(rtp 12 (.bool (dec (EnOk s t (s.qx[i]!)))) H ?_)⟩) jk)
  refine xO qh (t_n (cP rfl (fun h45=>?_) (fun h45=>?_)))
  ·skip
   refine xY (sps [.slice zW zt zL,yI i] (sw (zG H underlying22 ti2 [yI i] fun b46 w47 H=>sw (zQ H 2 rfl 0 rfl underlying22 ti2 rfl qj rfl rfl rfl (by simp [Value.oneCell',Value.cells]) qp qf fun a48 c49 w50 H=>?_))))
   rw [snocI] at H
   refine sp (.slice a48 (zt+1) c49) (xZ (b_n (t_n (xY (sw (zC i 1 rfl rfl qf (sp (yI (i+1)) (xZ (xf (m' :=(s.qx.length - ((i+1):Int)).toNat) qf ⟨_,a48,zt+1,c49,((applL s t i)++[(i:Int)]),i+1,uE7,?_,?_,rfl,N,H.pick [2,3,4,5] [7,8,9,10,11]⟩)))))))))
   · first | exact applL_yes (appl_yes (n:=6) (z:= -1) (k:=k) qf qf qf q6 ‹_› ‹_›) | exact applL_no (appl_no (n:=6) (z:= -1) (k:=k) qf qf qf q6 ‹_›) | exact applL_no (fun h=>‹¬ EnOk _ _ _› h.1)
   · omega
  refine qU (b_n (t_n (xY (sw (zC i 1 rfl rfl qf (sp (yI (i+1)) (xZ (xf (m' :=(s.qx.length - ((i+1):Int)).toNat) qf ⟨_,zW,zt,zL,(applL s t i),i+1,uE7,?_,?_,rfl,N,H.pick [1,2,3,4] [7,8,9,10,11]⟩))))))))
  · first | exact applL_yes (appl_yes (n:=6) (z:= -1) (k:=k) qf qf qf q6 ‹_› ‹_›) | exact applL_no (appl_no (n:=6) (z:= -1) (k:=k) qf qf qf q6 ‹_›) | exact applL_no (fun h=>‹¬ EnOk _ _ _› h.1)
  · omega
 refine zx4 (zcr (sps [.slice zW zt zL,.slice zW zt zL] (zjr (ret1 (.slice zW zt zL) rfl rfl ⟨_,rfl,?_,H.base⟩))))
 obtain rfl:i=s.qx.length:=by omega
 exact ⟨zW,zt,zL,rfl,N,H.pick [0] []⟩
end
end Go.Proofs.YtgjnaocffdhnbaaGreat
