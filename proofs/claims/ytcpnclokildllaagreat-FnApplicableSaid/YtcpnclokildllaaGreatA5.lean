/- Walks and laws, printed by program and by hand: what each function comes to, for all arguments, part 5. -/
import Derived.Test.YtcpnclokildllaaGreatA4
namespace Go.Proofs.YtcpnclokildllaaGreat
open Go.Proofs.Tryz
set_option linter.unusedVariables false
set_option linter.unusedSimpArgs false
open Go.Proofs.YtcpnclokildllaaGreat.Tot (tot)
open Go.Proofs.YtcpnclokildllaaGreat.Mark (cnt mrk mkd mkd_mark cnt_mark)
section
open Go.Proofs.Tryz
open Go.RowKit
set_option linter.unusedVariables false
set_option linter.unusedSimpArgs false
set_option maxRecDepth 100000
set_option maxHeartbeats 4000000
variable {cb qC qK qQ qY qL : Nat}
theorem l01Full_ok (w:World) (rest:yLI) (parts:yLL) {arest:yOA} {crest:Nat} {Frest:yLN} {zt:yOA} {zn:Nat} {Fparts:yLN} (hrest:qX.rep w Frest [Sv arest rest.length crest] rest) (hparts:qX.rep w Fparts [Sv zt parts.length zn] parts) (p0:VQ parts rest):Calls Tryz.prog 222 #[Sv arest rest.length crest,Sv zt parts.length zn] w (Ret (fun v w' =>v=Bv (dec (FullOk parts rest))) w):=by
 refine en func222 ntmps222 ?_
 have H:=((St.start w).arg hparts).arg hrest
 have nhrest:=qV hrest
 have nhparts:=qV hparts
 clear hrest hparts
 have N:=Fresh.nil w.heap.size
 refine zcr (sp (Bv false) (zjcc (sp (yI 0) (zjn (xg ?_)))))
 refine zJ (fun m' ρ w1=>∃ (xY:Env) (i:Nat),ρ=upd (upd (upd xY 0 (Sv arest rest.length crest)) 1 (Sv zt parts.length zn)) 5 (yI i)∧((i:Int)≤parts.length)∧(FullTo parts rest i)∧m' =(parts.length - (i:Int)).toNat∧Fresh w.heap.size []∧St w w1 [] [sF false Frest arest crest rest,sF false Fparts zt zn parts]) ((parts.length - (0:Int)).toNat) ⟨_,0,uE3,qf,qx,rfl,N,H⟩ ?_
 clear H N
 rintro m' ρ w2 ⟨xY,i,rfl,i0,i1,rfl,N,H⟩
 refine zcc (sps [yI i,Sv zt parts.length zn] (oN rfl (sp (Bv (decide ((i:Int) < parts.length))) (zjn (cD rfl (fun h3=>?_) (fun h3=>?_))))))
 ·skip
  refine xk (t_n (zf (xg (zcr (sps [Sv zt parts.length zn,yI i] ?_)))))
  obtain ⟨b4,o5,rfl⟩:=H.addr 1 rfl qf
  obtain ⟨ae7,ce7,Fe7,H⟩:=H.jq 1 rfl i i qf qf qf
  refine oI rfl rfl (oL rfl (H.x9 1 rfl 0 rfl) (sp (Sv arest rest.length crest) ?_))
  obtain ⟨t1,t2⟩:=p0.times (k:=i) qf
  refine sw (oq (l01Within_ok _ (parts[i]!) rest (H.get 0 rfl).1 (H.get 2 rfl).1 qg) H fun w9 H=>zjn (xK (within (parts[i]!) rest) rfl (fun h11=>?_) (fun h11=>?_)))
  ·skip
   refine zcr (sp (Bv false) (zjr (zr5 (ret1 (Bv false) rfl rfl ⟨_,rfl,?_,H.base⟩))))
   rw [xy (fun h=>by have:=h i qf;simp_all)]
  refine xk (b_n (t_n (zg (sp (yI i) (sw (zL i 1 rfl rfl qf (sp (yI (i+1)) (zi (xq (m' :=(parts.length - ((i+1):Int)).toNat) qf ⟨_,i+1,uE3,?_,?_,rfl,N,H.pick [] [2,3]⟩)))))))))
  · omega
  · exact i1.succ ‹_›
 refine zx4 (zcr (sp (Bv true) (zjr (ret1 (Bv true) rfl rfl ⟨_,rfl,?_,H.base⟩))))
 rw [yh (show FullOk parts rest from fun j hj=>i1 j qf)]

def l01Pack_ok_S (f:Nat):Prop:=∀ {W0 w:World} {ps:List Prv} {Γ:List Fact} {Ns:List yLN} (rest:yLI) (parts:yLL) (jm:yLI) (out:yLL) (arest:yOA) (crest:Nat) (Frest:yLN) (zt:yOA) (zn:Nat) (Fparts:yLN) (abegin:yOA) (cbegin:Nat) (Fbegin:yLN) (bout:Nat) (raout:yOA) (rnout:Nat) (rcout:Nat) (rxout:List Value) (rFout:yLN) (H:St W0 w ((.box bout [Sv raout rnout rcout] 29) :: (rr raout rnout rcout 24 1 rxout) :: ps) ((sF false Frest arest crest rest) :: (sF false Fparts zt zn parts) :: (sF false Fbegin abegin cbegin jm) :: (xN true rFout rxout out) :: Γ)) (N:Fresh W0.heap.size (rFout :: Ns)) (K0:Kept Ns Γ) (p0:jm.length+f=parts.length) (p1:VQ parts rest) (p2:out.length≤2000),Calls Tryz.prog 196 #[Sv arest rest.length crest,Sv zt parts.length zn,Sv abegin jm.length cbegin,pp bout 0] w (fun e w' =>∃ v,e=.returned v∧∃ (raout_:yOA) (rnout_:Nat) (rcout_:Nat) (rxout_:List Value) (rFout_:yLN),v=.tuple #[]∧Fresh W0.heap.size (rFout_ :: Ns)∧St W0 w' ((.box bout [Sv raout_ rnout_ rcout_] 29) :: (rr raout_ rnout_ rcout_ 24 1 rxout_) :: ps) ((sF false Frest arest crest rest) :: (sF false Fparts zt zn parts) :: (sF false Fbegin abegin cbegin jm) :: (xN true rFout_ rxout_ (gath out (begins jm (packs parts (parts.length - jm.length) jm.length rest)))) :: Γ))
theorem l01Pack_ok_step (f:Nat) (IH:∀ k,k < f→l01Pack_ok_S k) {W0 w:World} {ps:List Prv} {Γ:List Fact} {Ns:List yLN} (rest:yLI) (parts:yLL) (jm:yLI) (out:yLL) (arest:yOA) (crest:Nat) (Frest:yLN) (zt:yOA) (zn:Nat) (Fparts:yLN) (abegin:yOA) (cbegin:Nat) (Fbegin:yLN) (bout:Nat) (raout:yOA) (rnout:Nat) (rcout:Nat) (rxout:List Value) (rFout:yLN) (H:St W0 w ((.box bout [Sv raout rnout rcout] 29) :: (rr raout rnout rcout 24 1 rxout) :: ps) ((sF false Frest arest crest rest) :: (sF false Fparts zt zn parts) :: (sF false Fbegin abegin cbegin jm) :: (xN true rFout rxout out) :: Γ)) (N:Fresh W0.heap.size (rFout :: Ns)) (K0:Kept Ns Γ) (p0:jm.length+f=parts.length) (p1:VQ parts rest) (p2:out.length≤2000):Calls Tryz.prog 196 #[Sv arest rest.length crest,Sv zt parts.length zn,Sv abegin jm.length cbegin,pp bout 0] w (fun e w' =>∃ v,e=.returned v∧∃ (raout_:yOA) (rnout_:Nat) (rcout_:Nat) (rxout_:List Value) (rFout_:yLN),v=.tuple #[]∧Fresh W0.heap.size (rFout_ :: Ns)∧St W0 w' ((.box bout [Sv raout_ rnout_ rcout_] 29) :: (rr raout_ rnout_ rcout_ 24 1 rxout_) :: ps) ((sF false Frest arest crest rest) :: (sF false Fparts zt zn parts) :: (sF false Fbegin abegin cbegin jm) :: (xN true rFout_ rxout_ (gath out (begins jm (packs parts (parts.length - jm.length) jm.length rest)))) :: Γ)):=by
 refine en func196 ntmps196 ?_
 have nhrest:=qV (H.get 0 rfl).1
 have nhparts:=qV (H.get 1 rfl).1
 have nhbegin:=qV (H.get 2 rfl).1
 obtain rfl:=H.x8 (α:=yLI) 1 rfl 3 rfl qj
 have p3:=p1.small
 refine zcr (sp (Sv abegin jm.length cbegin) (oN rfl (sp (yI jm.length) (zjcc (sps [yI jm.length,Sv zt parts.length zn] (oN rfl (sp (Bv ((jm.length:Int) == parts.length)) (zjn (cE rfl (fun h1=>?_) (fun h1=>?_))))))))))
 ·skip
  refine zcc (sps [Sv arest rest.length crest,Sv zt parts.length zn] (sw (oq (l01Full_ok _ rest parts (H.get 0 rfl).1 (H.get 1 rfl).1 qg) H fun w3 H=>zjn (cP rfl (fun h5=>?_) (fun h5=>?_)))))
  ·skip
   refine c_cut (fun ρ w11=>∃ (xY:Env) (a6:yOA) (c7:Nat) (a8:yOA) (c9:Nat) (G10:yLN),ρ=xY∧Fresh W0.heap.size ((rFout++G10) :: Ns)∧St W0 w11 ((.box bout [Sv a6 (out.length+1) c7] 29) :: (rr a6 (out.length+1) c7 24 1 (rxout++[Sv a8 jm.length c9])) :: ps) ((xN true (rFout++G10) (rxout++[Sv a8 jm.length c9]) (out++[jm])) :: (sF true G10 a8 c9 jm) :: (sF false Frest arest crest rest) :: (sF false Fparts zt zn parts) :: (sF false Fbegin abegin cbegin jm) :: Γ)) ?_ ?_
   ·skip
    refine VV rfl H [] [0,1,2,3] fun H=>?_
    have S:=H.yj [] [0,1,2,3]
    refine rtp 0 (pp bout 0) S ?_
    refine rtp 1 (pp bout 0) S ?_
    refine rtp 2 (pp bout 0) S ?_
    refine rtp 4 (Sv abegin jm.length cbegin) S ?_
    refine jb [3,5] qh qm (jQ rfl ?_ (jQ rfl ?_ jd))
    ·skip
     refine zF (Sv raout out.length rcout) isAgg29 rfl (H.cell 0 rfl rfl) (⟨H.pick [] [0,1,2,3],(ro 5 rfl ?_)⟩)
     have sz13:=H.base.size
     have lt14:=all_two (H.ltN (L:=[rFout]) [3]) (H.ltK (K0.behind 4 rfl))
     refine oc (XW _ jm (H.get 2 rfl).1 qg) ?_
     rintro v18 w16 r18 x17
     replace H:=H.zB x17 r18
     obtain ⟨a19,c20,rfl,hc21,hm22⟩:=H.jG 0 rfl
     refine ⟨H.pick [] [0,1,2,3],(ro 6 rfl (zy H underlying29 ti24 [Sv a19 jm.length c20] fun b23 w24 H=>⟨H.pick [] [0,1,2,3],(ro 7 rfl ?_)⟩))⟩
     obtain ⟨G28,N,hn29,H⟩:=H.zT 1 rfl N (fun F hF b hb=>(List.mem_append.1 (show F∈[rFout]++Ns from hF)).elim (fun h=>(H.jR (L:=[rFout]) [3]) F h b hb) fun h=>H.VC (K0.behind 4 rfl) F h b hb)
     try dsimp only [List.set] at H
     refine zC H 3 rfl 0 rfl underlying29 ti24 rfl qj rfl rfl rfl qw qp qf fun a25 c26 w27 H=>?_
     try dsimp only [List.set] at H
     replace H:=H.yt 4 rfl 0 rfl
     replace N:Fresh W0.heap.size ((rFout++G28) :: Ns):=(N.jg 2 [1,0] qo).join
     refine ⟨H.pick [] [2,3,4,5],(rtp 8 (pp bout 0) (H.pick [] [2,3,4,5]) ?_)⟩
     refine ro 9 rfl (zh H 2 [Sv a25 (out.length+1) c26] sizeOf29 fun w30 H=>?_)
     try dsimp only [List.set] at H
     refine ⟨H.pick [] [2,3,4,5],(xJ qh ((meet ⟨_,a25,c26,a19,c20,G28,(by exact rfl),N,H.jg 4 6 [2,3] [0,1,2,3,4] qo qo⟩)))⟩
    have sz31:=H.base.size
    have lt32:=all_two (H.ltN (L:=[rFout]) [3]) (H.ltK (K0.behind 4 rfl))
    refine oc (XW _ jm (H.get 2 rfl).1 qg) ?_
    rintro v36 w34 r36 x35
    replace H:=H.zB x35 r36
    obtain ⟨a37,c38,rfl,hc39,hm40⟩:=H.jG 0 rfl
    refine ⟨H.pick [] [0,1,2,3],(jb [3,6] qh qm (jQ rfl ?_ (jQ rfl ?_ jd)))⟩
    ·skip
     refine zF (Sv raout out.length rcout) isAgg29 rfl (H.cell 1 rfl rfl) (⟨H.pick [] [0,1,2,3],(ro 6 rfl (zy H underlying29 ti24 [Sv a37 jm.length c38] fun b41 w42 H=>⟨H.pick [] [0,1,2,3],(ro 7 rfl ?_)⟩))⟩)
     obtain ⟨G46,N,hn47,H⟩:=H.zT 1 rfl N (fun F hF b hb=>(List.mem_append.1 (show F∈[rFout]++Ns from hF)).elim (fun h=>(H.jR (L:=[rFout]) [3]) F h b hb) fun h=>H.VC (K0.behind 4 rfl) F h b hb)
     try dsimp only [List.set] at H
     refine zC H 3 rfl 0 rfl underlying29 ti24 rfl qj rfl rfl rfl qw qp qf fun a43 c44 w45 H=>?_
     try dsimp only [List.set] at H
     replace H:=H.yt 4 rfl 0 rfl
     replace N:Fresh W0.heap.size ((rFout++G46) :: Ns):=(N.jg 2 [1,0] qo).join
     refine ⟨H.pick [] [2,3,4,5],(rtp 8 (pp bout 0) (H.pick [] [2,3,4,5]) ?_)⟩
     refine ro 9 rfl (zh H 2 [Sv a43 (out.length+1) c44] sizeOf29 fun w48 H=>?_)
     try dsimp only [List.set] at H
     refine ⟨H.pick [] [2,3,4,5],(xJ qh ((meet ⟨_,a43,c44,a37,c38,G46,(by exact rfl),N,H.jg 4 6 [2,3] [0,1,2,3,4] qo qo⟩)))⟩
    refine zy H underlying29 ti24 [Sv a37 jm.length c38] fun b49 w50 H=>⟨H.pick [] [0,1,2,3],(ro 3 rfl (zF (Sv raout out.length rcout) isAgg29 rfl (H.cell 2 rfl rfl) (⟨H.pick [] [0,1,2,3],(ro 7 rfl ?_)⟩)))⟩
    obtain ⟨G54,N,hn55,H⟩:=H.zT 1 rfl N (fun F hF b hb=>(List.mem_append.1 (show F∈[rFout]++Ns from hF)).elim (fun h=>(H.jR (L:=[rFout]) [3]) F h b hb) fun h=>H.VC (K0.behind 4 rfl) F h b hb)
    try dsimp only [List.set] at H
    refine zC H 3 rfl 0 rfl underlying29 ti24 rfl qj rfl rfl rfl qw qp qf fun a51 c52 w53 H=>?_
    try dsimp only [List.set] at H
    replace H:=H.yt 4 rfl 0 rfl
    replace N:Fresh W0.heap.size ((rFout++G54) :: Ns):=(N.jg 2 [1,0] qo).join
    refine ⟨H.pick [] [2,3,4,5],(rtp 8 (pp bout 0) (H.pick [] [2,3,4,5]) ?_)⟩
    refine ro 9 rfl (zh H 2 [Sv a51 (out.length+1) c52] sizeOf29 fun w56 H=>?_)
    try dsimp only [List.set] at H
    refine ⟨H.pick [] [2,3,4,5],(xJ qh ((meet ⟨_,a51,c52,a37,c38,G54,(by exact rfl),N,H.jg 4 6 [2,3] [0,1,2,3,4] qo qo⟩)))⟩
   clear H N
   rintro ρ w57 ⟨xY,a6,c7,a8,c9,G10,rfl,N,H⟩
   refine t_n (c_ret (t_r (ret0' rfl ⟨_,rfl,?_⟩)))
   rw [pack_full qf ‹_› p2]
   exact ⟨a6,out.length+1,c7,rxout++[Value.slice a8 jm.length c9],(rFout++G10),rfl,N,H.jg 2 5 [0,1] [2,3,4,0] qo qo⟩
  refine xk (t_n (c_ret (t_r (ret0' rfl ⟨_,rfl,?_⟩))))
  rw [pack_none qf ‹_› p2]
  exact ⟨raout,out.length,rcout,rxout,rFout,rfl,N,H.jg 2 4 [0,1] [0,1,2,3] qo qo⟩
 refine xk (t_n (zcr (sp (yI 0) (zjn (xg ?_)))))
 obtain ⟨t1,t2,t3,t4,t5,t6⟩:=p1.times (k:=jm.length) qf
 refine zJ (fun m' ρ w58=>∃ (xY:Env) (n:Nat) (vY:yOA) (zG:Nat) (vG:Nat) (out_1:yLL) (QQ:List Value) (Qu:yLN),ρ=upd (upd (upd (upd (upd (upd xY 0 (Sv arest rest.length crest)) 1 (Sv zt parts.length zn)) 2 (Sv abegin jm.length cbegin)) 3 (pp bout 0)) 8 (yI jm.length)) 9 (yI n)∧out_1=gath out (begins jm (yB parts (f - 1) jm.length rest n))∧((n:Int)≤jF (parts[jm.length]!) rest+1)∧m' =(jF (parts[jm.length]!) rest+1 - (n:Int)).toNat∧Fresh W0.heap.size (Qu :: Ns)∧St W0 w58 ((.box bout [Sv vY zG vG] 29) :: (rr vY zG vG 24 1 QQ) :: ps) ((sF false Frest arest crest rest) :: (sF false Fparts zt zn parts) :: (sF false Fbegin abegin cbegin jm) :: (xN true Qu QQ out_1) :: Γ)) ((jF (parts[jm.length]!) rest+1 - (0:Int)).toNat) ⟨_,0,raout,out.length,rcout,out,rxout,rFout,uE6,(by exact pack_start p2),qf,rfl,N,H⟩ ?_
 clear H N
 rintro m' ρ w59 ⟨xY,n,vY,zG,vG,out_1,QQ,Qu,rfl,rfl,i0,rfl,N,H⟩
 have hn_out:=H.x8 (α:=yLI) 1 rfl 3 rfl qj
 have gl:=gath_len out (begins jm (yB parts (f - 1) jm.length rest n))
 refine zcc (sps [yI n,Sv zt parts.length zn,yI jm.length] ?_)
 obtain ⟨b60,o61,rfl⟩:=H.addr 1 rfl qf
 obtain ⟨ae63,ce63,Fe63,H⟩:=H.jq 1 rfl jm.length jm.length qf qf qf
 refine oI rfl rfl (oL rfl (H.x9 1 rfl 0 rfl) (sp (Sv arest rest.length crest) ?_))
 obtain ⟨t1,t2,t3,t4,t5,t6⟩:=p1.times (k:=jm.length) qf
 refine sw (oq (l01Times_ok _ (parts[jm.length]!) rest (H.get 0 rfl).1 (H.get 2 rfl).1 qg qg qg) H fun w65 H=>sps [Bv (decide ((n:Int)≤(jF (parts[jm.length]!) rest))),Bv (decide ((n:Int)≤(jF (parts[jm.length]!) rest)))] ?_)
 cases h67:(decide ((n:Int)≤(jF (parts[jm.length]!) rest)))
 ·skip
  replace h67:=of_decide_eq_false h67
  refine xW [37,38,39,40,41] (sp (Bv false) (zjn (xK false rfl (fun h=>absurd h qj) (fun _=>c_exit (t_x (t_x (b_x (ret0 rfl ⟨_,rfl,?_⟩))))))))
  rw [pack_end p0 qf qf qf (by first | (left;omega) | (right;omega))]
  exact ⟨vY,zG,vG,QQ,Qu,rfl,N,H.jg 2 6 [0,1] [2,3,4,5] qo qo⟩
 replace h67:=of_decide_eq_true h67
 refine qR 36 rfl rfl (sp (pp bout 0) (qR 36 rfl rfl (sp (pp bout 0) (qR 36 rfl rfl (oL rfl (H.cell 0 rfl rfl) (qR 36 rfl rfl (oN rfl (qR 36 rfl rfl (sps [Bv (decide ((zG:Int)≤2000)),Bv (decide ((zG:Int)≤2000))] (zjn (cD rfl (fun h68=>?_) (fun h68=>?_))))))))))))
 ·skip
  refine xk (t_n (zf (xg (zg (sps [Sv arest rest.length crest,Sv (aa b60 o61) parts.length zn,yI jm.length] (oI rfl rfl (oL rfl (H.x9 1 rfl 0 rfl) (sp (yI n) (sw (o_neg n rfl qf ?_))))))))))
  obtain ⟨u1,u2,u3,u4⟩:=p1.plus (k:=jm.length) qf (n:=(n:Int)) qf qf
  have sz69:=H.base.size
  have lt70:=all_two (H.ltN (L:=[Qu]) [5]) (H.ltK (K0.behind 6 rfl))
  refine sw (oc (X4 _ rest (parts[jm.length]!) (-n) (H.get 2 rfl).1 (H.get 0 rfl).1 qg qg qg) ?_)
  rintro v74 w72 r74 x73
  replace H:=H.zB x73 r74
  obtain ⟨a75,c76,rfl,hc77,hm78⟩:=H.jG 0 rfl
  refine sps [Sv (aa b60 o61) parts.length zn,Sv abegin jm.length cbegin] ?_
  have sz79:=H.base.size
  have lt80:=all_two (H.ltN (L:=[Qu]) [5]) (H.ltK (K0.behind 6 rfl))
  refine sw (oc (XW _ jm (H.get 4 rfl).1 qg) ?_)
  rintro v84 w82 r84 x83
  replace H:=H.zB x83 r84
  obtain ⟨a85,c86,rfl,hc87,hm88⟩:=H.jG 0 rfl
  refine sp (yI n) (sw (zy H underlying24 ti2 [yI n] fun b89 w90 H=>sw (zC H 1 rfl 0 rfl underlying24 ti2 rfl qj rfl rfl rfl qw qp qf fun a91 c92 w93 H=>?_)))
  rw [snocI] at H
  try dsimp only [List.set] at H
  refine sp (pp bout 0) ?_
  obtain ⟨G94,N,hn95,H⟩:=H.zT 2 rfl N (fun F hF b hb=>(List.mem_append.1 (show F∈[Qu]++Ns from hF)).elim (fun h=>(H.jR (L:=[Qu]) [5]) F h b hb) fun h=>H.VC (K0.behind 6 rfl) F h b hb)
  try dsimp only [List.set] at H
  replace H:=H.unfreeI 0 rfl
  obtain ⟨G96,N,hn97,H⟩:=H.zT 1 rfl N (fun F hF b hb=>(List.mem_append.1 (show F∈[G94,Qu]++Ns from hF)).elim (fun h=>(H.jR (L:=[G94,Qu]) [0,7]) F h b hb) fun h=>H.VC (K0.behind 8 rfl) F h b hb)
  try dsimp only [List.set] at H
  replace H:=H.unfreeI 0 rfl
  have hn98:=H.isLen 0 rfl
  have H1:St W0 w93 ((.box bout [Sv vY zG vG] 29) :: (.row (Sv vY zG vG) 24 1 zG QQ) :: (.box b89 [yI n] 2) :: (.row yN 0 1 0 []) :: (.row yN 0 1 0 []) :: ps) ((isF false G94 (Sv a75 ((vZ rest (parts[jm.length]!) (-n)).length) c76) (vZ rest (parts[jm.length]!) (-n))) :: (isF false Fparts (Sv (aa b60 o61) parts.length zn) parts) :: (isF false G96 (Sv a91 ((jm++[(n:Int)]).length) c92) (jm++[(n:Int)])) :: (xN true Qu QQ (gath out (begins jm (yB parts (f - 1) jm.length rest n)))) :: (isF false G96 (Sv a91 (jm.length+1) c92) (jm++[(n:Int)])) :: (isF true G96 (Sv a91 (jm.length+1) c92) (jm++[(n:Int)])) :: (isF false G94 (Sv a75 ((vZ rest (parts[jm.length]!) (-n)).length) c76) (vZ rest (parts[jm.length]!) (-n))) :: (isF true G94 (Sv a75 ((vZ rest (parts[jm.length]!) (-n)).length) c76) (vZ rest (parts[jm.length]!) (-n))) :: (isF false Fe63 (Sv ae63 ((parts[jm.length]!).length) ce63) (parts[jm.length]!)) :: (atF b60 (o61+(jm.length:Int).toNat * 1) [Sv ae63 ((parts[jm.length]!).length) ce63]) :: (isF false Frest (Sv arest rest.length crest) rest) :: (isF false Fparts (Sv (aa b60 o61) parts.length zn) parts) :: (isF false Fbegin (Sv abegin jm.length cbegin) jm) :: Γ):=by (try rw [← hn98]);exact H.jg 5 10 [3,4,0,1,2] [2,7,0,9,0,1,2,3,4,5,6,7,8] qo qo
  have N1:Fresh _ (Qu :: G96 :: G94 :: Ns):=(N.jg 3 [2,0,1] qo)
  have K1:Kept (Ns) ((isF false G96 (Sv a91 (jm.length+1) c92) (jm++[(n:Int)])) :: (isF true G96 (Sv a91 (jm.length+1) c92) (jm++[(n:Int)])) :: (sF false G94 a75 c76 (vZ rest (parts[jm.length]!) (-n))) :: (sF true G94 a75 c76 (vZ rest (parts[jm.length]!) (-n))) :: (sF false Fe63 ae63 ce63 (parts[jm.length]!)) :: (atF b60 (o61+(jm.length:Int).toNat * 1) [Sv ae63 ((parts[jm.length]!).length) ce63]) :: (sF false Frest arest crest rest) :: (sF false Fparts (aa b60 o61) zn parts) :: (sF false Fbegin abegin cbegin jm) :: Γ):=K0.behind 9 rfl
  replace K1:=K1.cons (F:=G94) 2 rfl rfl
  replace K1:=K1.cons (F:=G96) 0 rfl rfl
  refine sw (vK #[Sv a75 ((vZ rest (parts[jm.length]!) (-n)).length) c76,Sv (aa b60 o61) parts.length zn,Sv a91 (jm.length+1) c92,pp bout 0] rfl rfl call196 (args_eq (by first | rfl | rw [hn98]) (IH (f - 1) qf (vZ rest (parts[jm.length]!) (-n)) parts (jm++[(n:Int)]) (gath out (begins jm (yB parts (f - 1) jm.length rest n))) a75 c76 G94 (aa b60 o61) zn Fparts a91 c92 G96 bout vY zG vG QQ Qu H1 N1 K1 (by simp only [List.length_append,List.length_cons,List.length_nil];omega) (by first | assumption | exact u4) (by first | assumption | (simp only [List.length_nil];omega) | omega))) ?_)
  clear H H1 N1 K1
  rintro _ w99 ⟨ra100,rn100,rc100,rx100,rF100,rfl,N,H⟩
  obtain rfl:=H.x8 (α:=yLI) 1 rfl 3 rfl qj
  refine zi (b_n (t_n (zg (sp (yI n) (sw (zL n 1 rfl rfl qf (sp (yI (n+1)) (zi ?_))))))))
  refine xq (m' :=(jF (parts[jm.length]!) rest+1 - ((n+1):Int)).toNat) qf ⟨_,n+1,ra100,(gath (gath out (begins jm (yB parts (f - 1) jm.length rest n))) (begins (jm++[(n:Int)]) (packs parts (parts.length - (jm++[(n:Int)]).length) (jm++[(n:Int)]).length (vZ rest (parts[jm.length]!) (-n))))).length,rc100,(gath (gath out (begins jm (yB parts (f - 1) jm.length rest n))) (begins (jm++[(n:Int)]) (packs parts (parts.length - (jm++[(n:Int)]).length) (jm++[(n:Int)]).length (vZ rest (parts[jm.length]!) (-n))))),rx100,rF100,uE6,?_,?_,rfl,(N.jg 3 [0] qo),H.jg 5 13 [0,1] [10,11,12,3] qo qo⟩
  · exact pack_step p0 qf qf
  · omega
 refine c_exit (t_x (t_x (b_x (ret0 rfl ⟨_,rfl,?_⟩))))
 rw [pack_end p0 qf qf qf (by first | (left;omega) | (right;omega))]
 exact ⟨vY,zG,vG,QQ,Qu,rfl,N,H.jg 2 6 [0,1] [2,3,4,5] qo qo⟩

theorem l01Pack_ok (f:Nat):l01Pack_ok_S f:=Nat.strongRecOn (motive:=l01Pack_ok_S) f fun f IH=>by unfold l01Pack_ok_S;intros;apply l01Pack_ok_step f IH <;> assumption

theorem l01All_ok (w:World) (b:yLI) (parts:yLL) {ab:yOA} {Fb:yLN} {zt:yOA} {zn:Nat} {Fparts:yLN} (hb:qX.rep w Fb [Sv ab b.length cb] b) (hparts:qX.rep w Fparts [Sv zt parts.length zn] parts) (p0:VQ parts b):Calls Tryz.prog 164 #[Sv ab b.length cb,Sv zt parts.length zn] w (Ret (fun v w' =>∃ (ra0:yOA) (rn0:Nat) (rc0:Nat) (rx0:List Value) (rF0:yLN),v=.tuple #[Sv ra0 rn0 rc0,yI ((zk b parts).2)]∧Fresh w.heap.size [rF0]∧St w w' [rr ra0 rn0 rc0 24 1 rx0] [xN true rF0 rx0 ((zk b parts).1)]) w):=by
 refine en func164 ntmps164 ?_
 have H:=((St.start w).arg hparts).arg hb
 have nhb:=qV hb
 have nhparts:=qV hparts
 clear hb hparts
 have N:=Fresh.nil w.heap.size
 have p3:=p0.small
 have p4:=p0.smallB
 refine zcr (sps [yN,yI 0] (zjcc (sp (Sv ab b.length cb) (sw (oq (X3 _ b (H.get 0 rfl).1 (by first | assumption | exact vz ql | exact Qa ql)) H fun w1 H=>sp (Bv (decide ((Xh b:Int) > 16))) (zjn (cD rfl (fun h3=>?_) (fun h3=>?_))))))))
 ·skip
  refine zcr (sw (je H underlying29 ti24 fun b4 w5 H=>sps [Sv (aa b4 0) 0 0,yI 3] (zjr (t_r ?_))))
  replace H:=H.boxRow 0 rfl 1 0 rfl qj
  replace H:=H.vT (α:=yLI)
  refine ret2 (Sv (aa b4 0) 0 0) (yI 3) rfl rfl rfl ⟨_,rfl,?_,H.base⟩
  first | rw [all_a ql] | rw [all_b ql ql]
  exact ⟨(aa b4 0),0,0,[],[],rfl,N.emp,H.pick [0] [0]⟩
 refine xk (t_n (zcr (sw (je H underlying29 ti24 fun b6 w7 H=>sw (xZ H ti29 [yN] fun b8 w9 H=>sw (zh H 0 [Sv (aa b6 0) 0 0] sizeOf29 fun w10 H=>zjc (sps [Sv ab b.length cb,Sv zt parts.length zn] (sw (je H underlying24 ti2 fun b11 w12 H=>?_)))))))))
 replace H:=H.boxRowI 0 [] 0
 obtain ⟨G13,N,hn14,H⟩:=H.zT 0 rfl N (H.jR [])
 replace H:=H.unfreeI 0 rfl
 have hn15:=H.isLen 0 rfl
 replace H:=H.boxRow 2 rfl 1 0 rfl qj
 replace H:=H.vT (α:=yLI)
 have H1:St w w12 [.box b8 [Sv (aa b6 0) 0 0] 29,.row (Sv (aa b6 0) 0 0) 24 1 0 [],.row yN 0 1 0 []] [isF false Fb (Sv ab b.length cb) b,isF false Fparts (Sv zt parts.length zn) parts,isF false G13 (Sv (aa b11 0) (([]:yLI).length) 0) ([]:yLI),xN true [] [] ([]:yLL),isF false G13 (Sv (aa b11 0) 0 0) ([]:yLI),isF true G13 (Sv (aa b11 0) 0 0) ([]:yLI),isF false Fb (Sv ab b.length cb) b,isF false Fparts (Sv zt parts.length zn) parts]:=by (try rw [← hn15]);exact H.pick [1,2,0] [3,4,1,0,1,2,3,4]
 have N1:Fresh _ [[],G13]:=N.emp
 have K1:Kept [] [isF false G13 (Sv (aa b11 0) 0 0) ([]:yLI),isF true G13 (Sv (aa b11 0) 0 0) ([]:yLI),sF false Fb ab cb b,sF false Fparts zt zn parts]:=Kept.nil _
 replace K1:=K1.cons (F:=G13) 0 rfl rfl
 refine sw (vK #[Sv ab b.length cb,Sv zt parts.length zn,Sv (aa b11 0) 0 0,pp b8 0] rfl rfl call196 (args_eq (by first | rfl | rw [hn15]) (l01Pack_ok (parts.length - ([]:yLI).length) b parts ([]:yLI) ([]:yLL) ab cb Fb zt zn Fparts (aa b11 0) 0 G13 b8 (aa b6 0) 0 0 [] [] H1 N1 K1 (by simp only [List.length_append,List.length_cons,List.length_nil];omega) (by first | assumption | exact u4) (by first | assumption | (simp only [List.length_nil];omega) | omega))) ?_)
 clear H H1 N1 K1
 rintro _ w16 ⟨ra17,rn17,rc17,rx17,rF17,rfl,N,H⟩
 obtain rfl:=H.x8 (α:=yLI) 1 rfl 3 rfl qj
 refine zjcc (oL rfl (H.cell 0 rfl rfl) (oN rfl (sp (Bv (decide (((gath ([]:yLL) (begins ([]:yLI) (packs parts (parts.length - ([]:yLI).length) ([]:yLI).length b))).length:Int) > 2000))) (zjn (cD rfl (fun h18=>?_) (fun h18=>?_))))))
 ·skip
  refine zcr (sw (je H underlying29 ti24 fun b19 w20 H=>sps [Sv (aa b19 0) 0 0,yI 3] (zjr (t_r ?_))))
  replace H:=H.boxRow 0 rfl 1 0 rfl qj
  replace H:=H.vT (α:=yLI)
  refine ret2 (Sv (aa b19 0) 0 0) (yI 3) rfl rfl rfl ⟨_,rfl,?_,H.base⟩
  first | rw [all_a ql] | rw [all_b ql ql]
  exact ⟨(aa b19 0),0,0,[],[],rfl,(N.emp.pick [0]),H.pick [0] [0]⟩
 refine xk (t_n (zcr (oL rfl (H.cell 0 rfl rfl) (sps [Sv ra17 ((gath ([]:yLL) (begins ([]:yLI) (packs parts (parts.length - ([]:yLI).length) ([]:yLI).length b))).length) rc17,yI 0] (zjr (ret2 (Sv ra17 ((gath ([]:yLL) (begins ([]:yLI) (packs parts (parts.length - ([]:yLI).length) ([]:yLI).length b))).length) rc17) (yI 0) rfl rfl rfl ⟨_,rfl,?_,H.base⟩))))))
 rw [all_0 ql ql]
 exact ⟨ra17,(gath ([]:yLL) (begins ([]:yLI) (packs parts (parts.length - ([]:yLI).length) ([]:yLI).length b))).length,rc17,rx17,rF17,rfl,(N.pick [0]),H.pick [1] [3]⟩
theorem l03Before_ok (w:World) (a:yLI) (b:yLI) {aa:yOA} {ca:Nat} {Fa:yLN} {ab:yOA} {Fb:yLN} (ha:qX.rep w Fa [Sv aa a.length ca] a) (hb:qX.rep w Fb [Sv ab b.length cb] b) (p0:a.length=b.length):Calls Tryz.prog 146 #[Sv aa a.length ca,Sv ab b.length cb] w (Ret (fun v w' =>v=Bv (dec (ahead a b))) w):=by
 refine en func146 ntmps146 ?_
 have H:=((St.start w).arg hb).arg ha
 have nha:=qV ha
 have nhb:=qV hb
 clear ha hb
 have N:=Fresh.nil w.heap.size
 refine zcr (sp (Bv false) (zjcc (sp (yI 0) (zjn (xg ?_)))))
 refine zJ (fun m' ρ w1=>∃ (xY:Env) (i:Nat),ρ=upd (upd (upd xY 0 (Sv aa a.length ca)) 1 (Sv ab b.length cb)) 5 (yI i)∧((i:Int)≤a.length)∧(SameTo a b i)∧m' =(a.length - (i:Int)).toNat∧Fresh w.heap.size []∧St w w1 [] [sF false Fa aa ca a,sF false Fb ab cb b]) ((a.length - (0:Int)).toNat) ⟨_,0,uE3,qf,qx,rfl,N,H⟩ ?_
 clear H N
 rintro m' ρ w2 ⟨xY,i,rfl,i0,i1,rfl,N,H⟩
 refine zcc (sps [yI i,Sv aa a.length ca] (oN rfl (sp (Bv (decide ((i:Int) < a.length))) (zjn (cD rfl (fun h3=>?_) (fun h3=>?_))))))
 ·skip
  refine xk (t_n (zf (xg (zf ?_))))
  refine yl rfl H fun H=>rtp 0 (Sv aa a.length ca) H ?_
  refine rtp 1 (yI i) H ?_
  obtain ⟨b5,o6,rfl⟩:=H.addr 0 rfl qf
  refine tI 2 rfl rfl rfl H ?_
  refine tL 3 rfl rfl (fun _ h=>h.yV 0 rfl i qf) H ?_
  refine rtp 4 (Sv ab b.length cb) H ?_
  refine rtp 5 (yI i) H ?_
  obtain ⟨b8,o9,rfl⟩:=H.addr 1 rfl qf
  refine tI 6 rfl rfl rfl H ?_
  refine tL 7 rfl rfl (fun _ h=>h.yV 1 rfl i qf) H ?_
  refine rtp 8 (Bv ((a[i]! :Int) != (b[i]!))) H ?_
  refine xJ qh (t_n (xK ((a[i]! :Int) != (b[i]!)) rfl (fun h11=>?_) (fun h11=>?_)))
  ·skip
   replace h11:=bne_iff_ne.1 h11
   refine zf ?_
   refine yl rfl H fun H=>rtp 0 (Sv (aa b5 o6) a.length ca) H ?_
   refine rtp 1 (yI i) H ?_
   refine tI 2 rfl rfl rfl H ?_
   refine tL 3 rfl rfl (fun _ h=>h.yV 0 rfl i qf) H ?_
   refine rtp 4 (Sv (aa b8 o9) b.length cb) H ?_
   refine rtp 5 (yI i) H ?_
   refine tI 6 rfl rfl rfl H ?_
   refine tL 7 rfl rfl (fun _ h=>h.yV 1 rfl i qf) H ?_
   refine rtp 8 (Bv (decide ((a[i]! :Int) < (b[i]!)))) H ?_
   refine rtp 9 (Bv (decide ((a[i]! :Int) < (b[i]!)))) H ?_
   refine xJ qh (t_n (c_ret (zr5 (ret1 (Bv (decide ((a[i]! :Int) < (b[i]!)))) rfl rfl ⟨_,rfl,?_,H.base⟩))))
   first | rw [xy (ahead_same (show SameTo a b a.length from fun j hj=>i1 j qf))] | rw [show decide (a[i]! < b[i]!)=dec (ahead a b) from dec_eq ⟨fun h=>ahead_yes i1 qf (of_decide_eq_true h),fun h=>decide_eq_true (Classical.byContradiction fun h1=>ahead_no i1 h1 ‹_› h)⟩]
  replace h11:=xF h11
  refine xk (b_n (t_n (zg (sp (yI i) (sw (zL i 1 rfl rfl qf (sp (yI (i+1)) (zi (xq (m' :=(a.length - ((i+1):Int)).toNat) qf ⟨_,i+1,uE3,?_,?_,rfl,N,H⟩)))))))))
  · omega
  · exact i1.succ qg
 refine zx4 (zcr (sp (Bv false) (zjr (ret1 (Bv false) rfl rfl ⟨_,rfl,?_,H.base⟩))))
 first | rw [xy (ahead_same (show SameTo a b a.length from fun j hj=>i1 j qf))] | rw [show decide (a[i]! < b[i]!)=dec (ahead a b) from dec_eq ⟨fun h=>ahead_yes i1 qf (of_decide_eq_true h),fun h=>decide_eq_true (Classical.byContradiction fun h1=>ahead_no i1 h1 ‹_› h)⟩]

theorem l03Count_ok (w:World) (all:List yLL) {aall:yOA} {call:Nat} {Fall:yLN} (hall:qX.rep w Fall [Sv aall all.length call] all) (p0:∀ j,j≤all.length→((yU all j:Nat):Int)≤2862423051509815793):Calls Tryz.prog 94 #[Sv aall all.length call] w (Ret (fun v w' =>v=yI ((yU all all.length:Nat):Int)) w):=by
 refine en func94 ntmps94 ?_
 have H:=(St.start w).arg hall
 have nhall:=qV hall
 clear hall
 have N:=Fresh.nil w.heap.size
 refine zcr (sp (yI 0) (zjc (sp (yI 1) (zjcc (sp (yI 0) (zjn (xg ?_)))))))
 refine zJ (fun m' ρ w1=>∃ (xY:Env) (n:Int) (i:Nat),ρ=upd (upd (upd xY 0 (Sv aall all.length call)) 3 (yI n)) 4 (yI i)∧n=((yU all i:Nat):Int)∧((i:Int)≤all.length)∧m' =(all.length - (i:Int)).toNat∧Fresh w.heap.size []∧St w w1 [] [sF false Fall aall call all]) ((all.length - (0:Int)).toNat) ⟨_,1,0,uE3,(by rfl),qf,rfl,N,H⟩ ?_
 clear H N
 rintro m' ρ w2 ⟨xY,n,i,rfl,rfl,i0,rfl,N,H⟩
 have pm:=prod_mul all i
 have pb:=fun h=>p0 (i+1) h
 have pn:=Int.natCast_nonneg (yU all (i+1))
 refine zcc (sps [yI i,Sv aall all.length call] (oN rfl (sp (Bv (decide ((i:Int) < all.length))) (zjn (cD rfl (fun h3=>?_) (fun h3=>?_))))))
 ·skip
  refine xk (t_n (zf (xg (zg (sps [yI ((yU all i:Nat):Int),Sv aall all.length call,yI i] ?_)))))
  obtain ⟨b4,o5,rfl⟩:=H.addr 0 rfl qf
  obtain ⟨ae7,ce7,Fe7,H⟩:=H.jq 0 rfl i i qf qf qf
  refine oI rfl rfl (oL rfl (H.x9 1 rfl 0 rfl) (oN rfl (sw (o_mul ((yU all i:Nat):Int) ((all[i]!).length) rfl rfl qf (sp (yI (((yU all i:Nat):Int) * ((all[i]!).length))) (zi (b_n (t_n (zg (sp (yI i) (sw (zL i 1 rfl rfl qf (sp (yI (i+1)) (zi (xq (m' :=(all.length - ((i+1):Int)).toNat) qf ⟨_,((yU all i:Nat):Int) * ((all[i]!).length),i+1,uE3,?_,?_,rfl,N,H.pick [] [2]⟩)))))))))))))))
  · exact prod_mul all i
  · omega
 refine zx4 (zcr (sps [yI ((yU all i:Nat):Int),yI ((yU all i:Nat):Int)] (zjr (ret1 (yI ((yU all i:Nat):Int)) rfl rfl ⟨_,rfl,?_,H.base⟩))))
 rw [show i=all.length by omega]

theorem l03Choices_ok (w:World) (s:qI) (t:qP) {bs os:Nat} {qE:yOA} {xe:yLN} {qO:yOA} {xE:yLN} {bt ot:Nat} {qU:yOA} {xO:yLN} {xf:yOA} {zo:yLN} {qM:yOA} {xB:yLN} (hs:jk w bs os (yS s qE qC qO qK)) (qZ:qX.rep w xe [Sv qE s.qA.length qC] s.qA) (xC:qX.rep w xE [Sv qO s.qB.length qK] s.qB) (ht:jk w bt ot (yT t qU qQ xf qY qM qL)) (xQ:qX.rep w xO [Sv qU t.qG.length qQ] t.qG) (zA:qX.rep w zo [Sv xf t.qH.length qY] t.qH) (xH:qX.rep w xB [Sv qM t.qF.length qL] t.qF) (p0:zQ s) (p1:xI s t):Calls Tryz.prog 80 #[pp bs os,pp bt ot] w (Ret (fun v w' =>∃ (ra0:yOA) (rn0:Nat) (rc0:Nat) (rx0:List Value) (rF0:yLN),v=.tuple #[Sv ra0 rn0 rc0,yI ((vJ s t).2)]∧Fresh w.heap.size [rF0]∧St w w' [rr ra0 rn0 rc0 24 1 rx0] [xN true rF0 rx0 ((vJ s t).1)]) w):=by
 refine en func80 ntmps80 ?_
 have H:=(((((((St.start w).arg xH).arg zA).arg xQ).Vf ht).arg xC).arg qZ).Vf hs
 have zX:=qV qZ
 have jo:=qV xC
 have yC:=qV xQ
 have Qm:=qV zA
 have jH:=qV xH
 clear hs qZ xC ht xQ zA xH
 have N:=Fresh.nil w.heap.size
 have p2:=p0.2.1
 have p3:=p0.1.2.1
 have p4:=p1.1
 have p5:=p1.2.1
 refine zcr (sps [yN,yI 0] (zjc (sps [pp bs os,pp bt ot] (sw (vk #[pp bs os,pp bt ot] rfl rfl call93 (en func93 ntmps93 ?_))))))
 refine zcr (sps [yN,yN,yI 0] (zjc (sps [pp bs os,pp bt ot] ?_)))
 have sz4:=H.base.size
 refine sw (oc (VU _ s t (qJ (H.get 0 rfl) 0 3) (H.get 1 rfl).1 (H.get 2 rfl).1 (qJ (H.get 3 rfl) 0 3) (H.get 4 rfl).1 (H.get 5 rfl).1 (H.get 6 rfl).1 qg qg) ?_)
 rintro _ w2 ⟨ra1,rn1,rc1,rfl,M,K⟩ _
 replace H:=H.merge K M
 obtain rfl:=H.rowNB 0 rfl
 have al:=appl_len s t
 refine sp (Sv ra1 ((appl s t).length) rc1) (zjc (sw (je H underlying113 ti165 fun b7 w8 H=>sp (Sv (aa b7 0) 0 0) (zjc (sw (je H underlying114 ti29 fun b9 w10 H=>sp (Sv (aa b9 0) 0 0) (zjcc (sp (yI 0) (zjn (xg ?_))))))))))
 refine zJ (fun m' ρ w11=>∃ (xY:Env) (c:Nat),ρ=upd (upd (upd (upd (upd (upd xY 0 (pp bs os)) 1 (pp bt ot)) 7 (Sv ra1 ((appl s t).length) rc1)) 8 (Sv (aa b7 0) 0 0)) 9 (Sv (aa b9 0) 0 0)) 10 (yI c)∧((c:Int)≤s.qA.length)∧m' =(s.qA.length - (c:Int)).toNat∧Fresh w.heap.size []∧St w w11 [.box b9 [] 29,.box b7 [] 165,rr ra1 ((appl s t).length) rc1 4 1 ((appl s t).map (Value.bool))] [atF bs os (yS s qE qC qO qK),sF false xe qE qC s.qA,sF false xE qO qK s.qB,atF bt ot (yT t qU qQ xf qY qM qL),sF false xO qU qQ t.qG,sF false zo xf qY t.qH,sF false xB qM qL t.qF]) ((s.qA.length - (0:Int)).toNat) ⟨_,0,uE6,qf,rfl,N,H⟩ ?_
 clear H N
 rintro m' ρ w12 ⟨xY,c,rfl,i0,rfl,N,H⟩
 refine zcc (sps [yI c,pp bs os,pp bs os] (oF rfl (oL rfl (H.x9 0 rfl 1 rfl) (oN rfl (sp (Bv (decide ((c:Int) < s.qA.length))) (zjn (cD rfl (fun h13=>?_) (fun h13=>?_))))))))
 ·skip
  refine xk (t_n (zf (xg (zcr (sps [pp bs os,Sv ra1 ((appl s t).length) rc1,yI c] (sw (vk #[pp bs os,Sv ra1 ((appl s t).length) rc1,yI c] rfl rfl call163 (en func163 ntmps163 ?_))))))))
  refine zcr (sps [yN,yN] (zjc (sw (je H underlying165 ti3 fun b14 w15 H=>sp (Sv (aa b14 0) 0 0) (zjc (sw (je H underlying29 ti24 fun b16 w17 H=>sp (Sv (aa b16 0) 0 0) (zjcc (sp (yI 0) (zjn (xg ?_)))))))))))
  replace H:=H.boxRowI 1 [] 0
  replace H:=H.boxRow 0 rfl 1 0 rfl qj
  replace H:=H.vT (α:=yLI)
  replace H:=H.unfree 0 rfl
  refine zJ (fun m' ρ w18=>∃ (xY:Env) (zU:yOA) (zD:Nat) (zS:Nat) (rules:yLI) (vC:yOA) (zO:Nat) (vw:Nat) (needs:yLL) (yJ:List Value) (Qn:yLN) (i:Nat),ρ=upd (upd (upd (upd (upd (upd xY 0 (pp bs os)) 1 (Sv ra1 ((appl s t).length) rc1)) 2 (yI c)) 8 (Sv zU zD zS)) 9 (Sv vC zO vw)) 10 (yI i)∧rules=(cellT s t i c)∧needs=(xA s (cellT s t i c))∧((i:Int)≤((appl s t).length))∧m' =(((appl s t).length) - (i:Int)).toNat∧Fresh w.heap.size []∧St w w18 [rr vC zO vw 24 1 yJ,rr zU zD zS 3 1 (rules.map (Value.int .i64)),.box b9 [] 29,.box b7 [] 165,rr ra1 ((appl s t).length) rc1 4 1 ((appl s t).map (Value.bool))] [xN false Qn yJ needs,atF bs os (yS s qE qC qO qK),sF false xe qE qC s.qA,sF false xE qO qK s.qB,atF bt ot (yT t qU qQ xf qY qM qL),sF false xO qU qQ t.qG,sF false zo xf qY t.qH,sF false xB qM qL t.qF]) ((((appl s t).length) - (0:Int)).toNat) ⟨_,(aa b14 0),0,0,([]:yLI),(aa b16 0),0,0,([]:yLL),[],[],0,uE6,(by rfl),(by rfl),qf,rfl,N,H.pick [0,1,2,3,4] [0,2,3,4,5,6,7,8]⟩ ?_
  clear H N
  rintro m' ρ w19 ⟨xY,zU,zD,zS,rules,vC,zO,vw,needs,yJ,Qn,i,rfl,rfl,rfl,i0,rfl,N,H⟩
  have hn_rules:=H.yx 1 rfl
  have hn_needs:=H.x8 (α:=yLI) 0 rfl 0 rfl qj
  have tl:=cellT_le s t i c
  have nl:=Xa s (cellT s t i c)
  refine zcc (sps [yI i,Sv ra1 ((appl s t).length) rc1] (oN rfl (sp (Bv (decide ((i:Int) < ((appl s t).length)))) (zjn (cD rfl (fun h20=>?_) (fun h20=>?_))))))
  ·skip
   refine xk (t_n (zf (xg (zcr (sps [Sv ra1 ((appl s t).length) rc1,yI i] ?_)))))
   obtain ⟨b21,rfl⟩:=H.Qe 4 rfl qf
   refine oI rfl rfl (oL rfl (H.rowBool 4 rfl (iv:=i) (i:=i) qf qf) (sp (Bv ((appl s t)[i]!)) ?_))
   cases h22:((appl s t)[i]!)
   ·skip
    refine xW [24,25,26,27,28,29,30,31,32,33] (sp (Bv false) (zjn (xK false rfl (fun h=>absurd h qj) (fun _=>xk (b_n (t_n (zg (sp (yI i) (sw (zL i 1 rfl rfl qf (sp (yI (i+1)) (zi (xq (m' :=(((appl s t).length) - ((i+1):Int)).toNat) qf ⟨_,zU,zD,zS,(cellT s t i c),vC,zO,vw,(xA s (cellT s t i c)),yJ,Qn,i+1,uE6,?_,?_,?_,rfl,N,H⟩)))))))))))))
    · first | exact Xb (yu qf ‹_›) ‹_› | exact yX (jB qf ‹_›) | exact yA ‹_›
    · first | exact XV (yu qf ‹_›) ‹_› | exact congrArg (xA s) (yX (jB qf ‹_›)) | exact congrArg (xA s) (yA ‹_›)
    · omega
   refine qR 23 rfl rfl (sp (pp bs os) (qR 23 rfl rfl (sp (pp bs os) (qR 23 rfl rfl (oF rfl (qR 23 rfl rfl (oL rfl (H.x9 1 rfl 2 rfl) (qR 23 rfl rfl (sp (yI i) (qR 23 rfl rfl ?_))))))))))
   obtain ⟨b23,o24,rfl⟩:=H.addr 3 rfl qf
   obtain ⟨ae26Need,ce26Need,Fe26Need,ae26Have,ce26Have,Fe26Have,ae26Lack,ce26Lack,Fe26Lack,ae26Here,ce26Here,Fe26Here,ae26Out,ce26Out,Fe26Out,ae26Into,ce26Into,Fe26Into,H⟩:=H.yH 3 rfl i i qf qf qf
   refine oI rfl rfl (qR 23 rfl rfl (oF rfl (qR 23 rfl rfl (oL rfl (H.x9 6 rfl 0 rfl) (qR 23 rfl rfl (sp (yI c) (qR 23 rfl rfl (sps [Bv (((s.qB[i]!).qN:Int) == c),Bv (((s.qB[i]!).qN:Int) == c)] (zjn (cE rfl (fun h27=>?_) (fun h27=>?_)))))))))))
   ·skip
    refine zcr (sps [Sv zU zD zS,yI i] (sw (zy H underlying165 ti3 [yI i] fun b28 w29 H=>sw (zC H 2 rfl 0 rfl underlying165 ti3 rfl qj rfl rfl rfl qw qp qf fun a30 c31 w32 H=>?_))))
    rw [snocI] at H
    refine sp (Sv a30 (zD+1) c31) (zjn (zg (sps [Sv vC zO vw,pp bs os,pp bs os] (oF rfl (oL rfl (H.x9 8 rfl 2 rfl) (sp (yI i) (oI rfl rfl (oF rfl (oL rfl (H.x9 6 rfl 2 rfl) (sw (zy H underlying29 ti24 [Sv ae26Need (((s.qB[i]!).xR).length) ce26Need] fun b33 w34 H=>sw (zC H 2 rfl 0 rfl underlying29 ti24 rfl qj rfl rfl rfl qw qp qf fun a35 c36 w37 H=>?_))))))))))))
    replace H:=H.yt 7 rfl 0 rfl
    refine sp (Sv a35 (zO+1) c36) (zi (b_n (t_n (zg (sp (yI i) (sw (zL i 1 rfl rfl qf (sp (yI (i+1)) (zi (xq (m' :=(((appl s t).length) - ((i+1):Int)).toNat) qf ⟨_,a30,zD+1,c31,((cellT s t i c)++[(i:Int)]),a35,zO+1,c36,((xA s (cellT s t i c))++[(s.qB[i]!).xR]),yJ++[Sv ae26Need (((s.qB[i]!).xR).length) ce26Need],(Qn++Fe26Need),i+1,uE6,?_,?_,?_,rfl,N,H.pick [2,3,4,5,6] [0,9,10,11,12,13,14,15]⟩))))))))))
    · first | exact Xb (yu qf ‹_›) ‹_› | exact yX (jB qf ‹_›) | exact yA ‹_›
    · first | exact XV (yu qf ‹_›) ‹_› | exact congrArg (xA s) (yX (jB qf ‹_›)) | exact congrArg (xA s) (yA ‹_›)
    · omega
   refine xk (b_n (t_n (zg (sp (yI i) (sw (zL i 1 rfl rfl qf (sp (yI (i+1)) (zi (xq (m' :=(((appl s t).length) - ((i+1):Int)).toNat) qf ⟨_,zU,zD,zS,(cellT s t i c),vC,zO,vw,(xA s (cellT s t i c)),yJ,Qn,i+1,uE6,?_,?_,?_,rfl,N,H.pick [0,1,2,3,4] [7,8,9,10,11,12,13,14]⟩)))))))))
   · first | exact Xb (yu qf ‹_›) ‹_› | exact yX (jB qf ‹_›) | exact yA ‹_›
   · first | exact XV (yu qf ‹_›) ‹_› | exact congrArg (xA s) (yX (jB qf ‹_›)) | exact congrArg (xA s) (yA ‹_›)
   · omega
  refine zx4 (zcr (sps [Sv zU zD zS,Sv vC zO vw,Sv zU zD zS,Sv vC zO vw] (zjr (ret2 (Sv zU zD zS) (Sv vC zO vw) rfl rfl rfl ⟨_,rfl,?_⟩))))
  obtain rfl:i=s.qB.length:=by omega
  rw [show cellT s t s.qB.length c=xX s t c from rfl] at H hn_rules hn_needs
  refine sps [.tuple #[Sv zU zD zS,Sv vC zO vw],Sv zU zD zS,Sv vC zO vw,Sv zU zD zS,Sv vC zO vw] (zjc (sp (Sv zU zD zS) (oN rfl (sps [Bv (decide ((zD:Int) > 0)),Bv (decide ((zD:Int) > 0))] ?_))))
  cases h38:(decide ((zD:Int) > 0))
  ·skip
   replace h38:=of_decide_eq_false h38
   refine xW [43,44,45,46,47,48,49,50,51] (sp (Bv false) (zjn (xK false rfl (fun h=>absurd h qj) (fun _=>xk (b_n (t_n (zg (sp (yI c) (sw (zL c 1 rfl rfl qf (sp (yI (c+1)) (zi (xq (m' :=(s.qA.length - ((c+1):Int)).toNat) qf ⟨_,c+1,uE6,?_,rfl,N,H.pick [2,3,4] [1,2,3,4,5,6,7]⟩)))))))))))))
   · omega
  replace h38:=of_decide_eq_true h38
  refine qR 42 rfl rfl (sp (pp bt ot) (qR 42 rfl rfl (sp (pp bt ot) (qR 42 rfl rfl (oF rfl (qR 42 rfl rfl (oL rfl (H.x9 4 rfl 1 rfl) (qR 42 rfl rfl (sp (yI c) (qR 42 rfl rfl ?_))))))))))
  obtain ⟨b39,o40,rfl⟩:=H.addr 6 rfl qf
  obtain ⟨ae42,ce42,Fe42,H⟩:=H.jq 6 rfl c c qf qf qf
  refine oI rfl rfl (qR 42 rfl rfl (oL rfl (H.x9 1 rfl 0 rfl) (qR 42 rfl rfl ?_)))
  have sm:=vz (p1.2.2.2.2 c qf).1
  refine sw (oq (X3 _ (t.qH[c]!) (H.get 0 rfl).1 (by first | assumption | exact vz ql | exact Qa ql)) H fun w43 H=>qR 42 rfl rfl (sps [Bv (decide ((Xh (t.qH[c]!):Int) > 16)),Bv (decide ((Xh (t.qH[c]!):Int) > 16))] (zjn (cD rfl (fun h45=>?_) (fun h45=>?_)))))
  ·skip
   refine zcr (sps [Sv (aa b7 0) 0 0,Sv (aa b9 0) 0 0,Sv (aa b7 0) 0 0,Sv (aa b9 0) 0 0,yI 3] (zjr (zr5 (ret3 (Sv (aa b7 0) 0 0) (Sv (aa b9 0) 0 0) (yI 3) rfl rfl rfl rfl ⟨_,rfl,?_⟩))))
   replace H:=H.erases [4,1,0]
   dsimp only [vM,List.eraseIdx] at H
   refine sps [.tuple #[Sv (aa b7 0) 0 0,Sv (aa b9 0) 0 0,yI 3],Sv (aa b7 0) 0 0,Sv (aa b9 0) 0 0,yI 3,Sv (aa b7 0) 0 0,Sv (aa b9 0) 0 0,yI 3] (zjcc (sps [yI 3,Bv true] (zjn (xK true rfl (fun _=>zcr (sw (je H underlying29 ti24 fun b46 w47 H=>sps [yI 3,Sv (aa b46 0) 0 0,yI 3] (zjr (t_r ?_))))) (fun h=>absurd h qj)))))
   replace H:=H.boxRow 0 rfl 1 0 rfl qj
   replace H:=H.vT (α:=yLI)
   refine ret2 (Sv (aa b46 0) 0 0) (yI 3) rfl rfl rfl ⟨_,rfl,?_,H.base⟩
   first | rw [cho_3 (.inl (bad_sum (c:=c) qf qf qf))] | rw [cho_3 (.inr qf)]
   exact ⟨(aa b46 0),0,0,[],[],rfl,N.emp,H.pick [0] [0]⟩
  refine xk (b_n (t_n (zg (sp (yI c) (sw (zL c 1 rfl rfl qf (sp (yI (c+1)) (zi (xq (m' :=(s.qA.length - ((c+1):Int)).toNat) qf ⟨_,c+1,uE6,?_,rfl,N,H.pick [2,3,4] [3,4,5,6,7,8,9]⟩)))))))))
  · omega
 refine zx4 (zcc (sp (yI 0) (zjn (xg ?_))))
 replace H:=H.boxRow 1 rfl 1 0 rfl qj
 replace H:=H.vT (α:=yLI)
 replace H:=H.boxRow 0 rfl 1 0 rfl qj
 replace H:=H.vT (α:=yLL)
 refine zJ (fun m' ρ w48=>∃ (xY:Env) (zU:yOA) (zD:Nat) (zS:Nat) (rules:yLL) (VX:List Value) (Xg:yLN) (Xe:yOA) (QA:Nat) (QY:Nat) (all:List yLL) (x_all:List Value) (F_all:yLN) (c_1:Nat),ρ=upd (upd (upd (upd (upd (upd xY 0 (pp bs os)) 1 (pp bt ot)) 7 (Sv ra1 ((appl s t).length) rc1)) 8 (Sv zU zD zS)) 9 (Sv Xe QA QY)) 13 (yI c_1)∧rules=(xn s t c_1)∧all=(xx s t c_1)∧((c_1:Int)≤s.qA.length)∧(Yf s t c_1)∧m' =(s.qA.length - (c_1:Int)).toNat∧Fresh w.heap.size [Xg,F_all]∧St w w48 [rr Xe QA QY 29 1 x_all,rr zU zD zS 165 1 VX,rr ra1 ((appl s t).length) rc1 4 1 ((appl s t).map (Value.bool))] [xN true Xg VX rules,xN true F_all x_all all,atF bs os (yS s qE qC qO qK),sF false xe qE qC s.qA,sF false xE qO qK s.qB,atF bt ot (yT t qU qQ xf qY qM qL),sF false xO qU qQ t.qG,sF false zo xf qY t.qH,sF false xB qM qL t.qF]) ((s.qA.length - (0:Int)).toNat) ⟨_,(aa b7 0),0,0,([]:yLL),[],[],(aa b9 0),0,0,([]:List yLL),[],[],0,uE6,(by rfl),(by rfl),qf,qx,rfl,N.emp.emp,H⟩ ?_
 clear H N
 rintro m' ρ w49 ⟨xY,zU,zD,zS,rules,VX,Xg,Xe,QA,QY,all,x_all,F_all,c_1,rfl,rfl,rfl,i0,gp,rfl,N,H⟩
 have hn_rules:=H.x8 (α:=yLI) 1 rfl 0 rfl qj
 have hn_all:=H.x8 (α:=yLL) 0 rfl 1 rfl qj
 have rl:=rules_le s t c_1
 have pl:=VL s t c_1
 refine zcc (sps [yI c_1,pp bs os,pp bs os] (oF rfl (oL rfl (H.x9 2 rfl 1 rfl) (oN rfl (sp (Bv (decide ((c_1:Int) < s.qA.length))) (zjn (cD rfl (fun h50=>?_) (fun h50=>?_))))))))
 ·skip
  refine xk (t_n (zf (xg (zcr (sps [pp bs os,Sv ra1 ((appl s t).length) rc1,yI c_1] (sw (vk #[pp bs os,Sv ra1 ((appl s t).length) rc1,yI c_1] rfl rfl call163 (en func163 ntmps163 ?_))))))))
  refine zcr (sps [yN,yN] (zjc (sw (je H underlying165 ti3 fun b51 w52 H=>sp (Sv (aa b51 0) 0 0) (zjc (sw (je H underlying29 ti24 fun b53 w54 H=>sp (Sv (aa b53 0) 0 0) (zjcc (sp (yI 0) (zjn (xg ?_)))))))))))
  replace H:=H.boxRowI 1 [] 0
  replace H:=H.boxRow 0 rfl 1 0 rfl qj
  replace H:=H.vT (α:=yLI)
  replace H:=H.unfree 0 rfl
  refine zJ (fun m' ρ w55=>∃ (xY:Env) (jw:yOA) (vV:Nat) (jv:Nat) (rules_1:yLI) (vC:yOA) (zO:Nat) (vw:Nat) (needs:yLL) (yJ:List Value) (Qn:yLN) (i:Nat),ρ=upd (upd (upd (upd (upd (upd xY 0 (pp bs os)) 1 (Sv ra1 ((appl s t).length) rc1)) 2 (yI c_1)) 8 (Sv jw vV jv)) 9 (Sv vC zO vw)) 10 (yI i)∧rules_1=(cellT s t i c_1)∧needs=(xA s (cellT s t i c_1))∧((i:Int)≤((appl s t).length))∧m' =(((appl s t).length) - (i:Int)).toNat∧Fresh w.heap.size [Xg,F_all]∧St w w55 [rr vC zO vw 24 1 yJ,rr jw vV jv 3 1 (rules_1.map (Value.int .i64)),rr Xe QA QY 29 1 x_all,rr zU zD zS 165 1 VX,rr ra1 ((appl s t).length) rc1 4 1 ((appl s t).map (Value.bool))] [xN false Qn yJ needs,xN true Xg VX (xn s t c_1),xN true F_all x_all (xx s t c_1),atF bs os (yS s qE qC qO qK),sF false xe qE qC s.qA,sF false xE qO qK s.qB,atF bt ot (yT t qU qQ xf qY qM qL),sF false xO qU qQ t.qG,sF false zo xf qY t.qH,sF false xB qM qL t.qF]) ((((appl s t).length) - (0:Int)).toNat) ⟨_,(aa b51 0),0,0,([]:yLI),(aa b53 0),0,0,([]:yLL),[],[],0,uE6,(by rfl),(by rfl),qf,rfl,N,H.pick [0,1,2,3,4] [0,2,3,4,5,6,7,8,9,10]⟩ ?_
  clear H N
  rintro m' ρ w56 ⟨xY,jw,vV,jv,rules_1,vC,zO,vw,needs,yJ,Qn,i,rfl,rfl,rfl,i0,rfl,N,H⟩
  have hn_rules:=H.yx 1 rfl
  have hn_needs:=H.x8 (α:=yLI) 0 rfl 0 rfl qj
  have tl:=cellT_le s t i c_1
  have nl:=Xa s (cellT s t i c_1)
  refine zcc (sps [yI i,Sv ra1 ((appl s t).length) rc1] (oN rfl (sp (Bv (decide ((i:Int) < ((appl s t).length)))) (zjn (cD rfl (fun h57=>?_) (fun h57=>?_))))))
  ·skip
   refine xk (t_n (zf (xg (zcr (sps [Sv ra1 ((appl s t).length) rc1,yI i] ?_)))))
   obtain ⟨b58,rfl⟩:=H.Qe 4 rfl qf
   refine oI rfl rfl (oL rfl (H.rowBool 4 rfl (iv:=i) (i:=i) qf qf) (sp (Bv ((appl s t)[i]!)) ?_))
   cases h59:((appl s t)[i]!)
   ·skip
    refine xW [24,25,26,27,28,29,30,31,32,33] (sp (Bv false) (zjn (xK false rfl (fun h=>absurd h qj) (fun _=>xk (b_n (t_n (zg (sp (yI i) (sw (zL i 1 rfl rfl qf (sp (yI (i+1)) (zi (xq (m' :=(((appl s t).length) - ((i+1):Int)).toNat) qf ⟨_,jw,vV,jv,(cellT s t i c_1),vC,zO,vw,(xA s (cellT s t i c_1)),yJ,Qn,i+1,uE6,?_,?_,?_,rfl,N,H⟩)))))))))))))
    · first | exact Xb (yu qf ‹_›) ‹_› | exact yX (jB qf ‹_›) | exact yA ‹_›
    · first | exact XV (yu qf ‹_›) ‹_› | exact congrArg (xA s) (yX (jB qf ‹_›)) | exact congrArg (xA s) (yA ‹_›)
    · omega
   refine qR 23 rfl rfl (sp (pp bs os) (qR 23 rfl rfl (sp (pp bs os) (qR 23 rfl rfl (oF rfl (qR 23 rfl rfl (oL rfl (H.x9 3 rfl 2 rfl) (qR 23 rfl rfl (sp (yI i) (qR 23 rfl rfl ?_))))))))))
   obtain ⟨b60,o61,rfl⟩:=H.addr 5 rfl qf
   obtain ⟨ae63Need,ce63Need,Fe63Need,ae63Have,ce63Have,Fe63Have,ae63Lack,ce63Lack,Fe63Lack,ae63Here,ce63Here,Fe63Here,ae63Out,ce63Out,Fe63Out,ae63Into,ce63Into,Fe63Into,H⟩:=H.yH 5 rfl i i qf qf qf
   refine oI rfl rfl (qR 23 rfl rfl (oF rfl (qR 23 rfl rfl (oL rfl (H.x9 6 rfl 0 rfl) (qR 23 rfl rfl (sp (yI c_1) (qR 23 rfl rfl (sps [Bv (((s.qB[i]!).qN:Int) == c_1),Bv (((s.qB[i]!).qN:Int) == c_1)] (zjn (cE rfl (fun h64=>?_) (fun h64=>?_)))))))))))
   ·skip
    refine zcr (sps [Sv jw vV jv,yI i] (sw (zy H underlying165 ti3 [yI i] fun b65 w66 H=>sw (zC H 2 rfl 0 rfl underlying165 ti3 rfl qj rfl rfl rfl qw qp qf fun a67 c68 w69 H=>?_))))
    rw [snocI] at H
    refine sp (Sv a67 (vV+1) c68) (zjn (zg (sps [Sv vC zO vw,pp bs os,pp bs os] (oF rfl (oL rfl (H.x9 10 rfl 2 rfl) (sp (yI i) (oI rfl rfl (oF rfl (oL rfl (H.x9 6 rfl 2 rfl) (sw (zy H underlying29 ti24 [Sv ae63Need (((s.qB[i]!).xR).length) ce63Need] fun b70 w71 H=>sw (zC H 2 rfl 0 rfl underlying29 ti24 rfl qj rfl rfl rfl qw qp qf fun a72 c73 w74 H=>?_))))))))))))
    replace H:=H.yt 7 rfl 0 rfl
    refine sp (Sv a72 (zO+1) c73) (zi (b_n (t_n (zg (sp (yI i) (sw (zL i 1 rfl rfl qf (sp (yI (i+1)) (zi (xq (m' :=(((appl s t).length) - ((i+1):Int)).toNat) qf ⟨_,a67,vV+1,c68,((cellT s t i c_1)++[(i:Int)]),a72,zO+1,c73,((xA s (cellT s t i c_1))++[(s.qB[i]!).xR]),yJ++[Sv ae63Need (((s.qB[i]!).xR).length) ce63Need],(Qn++Fe63Need),i+1,uE6,?_,?_,?_,rfl,N,H.pick [2,3,4,5,6] [0,9,10,11,12,13,14,15,16,17]⟩))))))))))
    · first | exact Xb (yu qf ‹_›) ‹_› | exact yX (jB qf ‹_›) | exact yA ‹_›
    · first | exact XV (yu qf ‹_›) ‹_› | exact congrArg (xA s) (yX (jB qf ‹_›)) | exact congrArg (xA s) (yA ‹_›)
    · omega
   refine xk (b_n (t_n (zg (sp (yI i) (sw (zL i 1 rfl rfl qf (sp (yI (i+1)) (zi (xq (m' :=(((appl s t).length) - ((i+1):Int)).toNat) qf ⟨_,jw,vV,jv,(cellT s t i c_1),vC,zO,vw,(xA s (cellT s t i c_1)),yJ,Qn,i+1,uE6,?_,?_,?_,rfl,N,H.pick [0,1,2,3,4] [7,8,9,10,11,12,13,14,15,16]⟩)))))))))
   · first | exact Xb (yu qf ‹_›) ‹_› | exact yX (jB qf ‹_›) | exact yA ‹_›
   · first | exact XV (yu qf ‹_›) ‹_› | exact congrArg (xA s) (yX (jB qf ‹_›)) | exact congrArg (xA s) (yA ‹_›)
   · omega
  refine zx4 (zcr (sps [Sv jw vV jv,Sv vC zO vw,Sv jw vV jv,Sv vC zO vw] (zjr (ret2 (Sv jw vV jv) (Sv vC zO vw) rfl rfl rfl ⟨_,rfl,?_⟩))))
  obtain rfl:i=s.qB.length:=by omega
  rw [show cellT s t s.qB.length c_1=xX s t c_1 from rfl] at H hn_rules hn_needs
  refine sps [.tuple #[Sv jw vV jv,Sv vC zO vw],Sv jw vV jv,Sv vC zO vw,Sv jw vV jv,Sv vC zO vw] (zjcc (sp (Sv jw vV jv) (oN rfl (sp (Bv ((vV:Int) == 0)) (zjn (cE rfl (fun h75=>?_) (fun h75=>?_)))))))
  ·skip
   refine c_exit (t_x (b_x (t_n (zg (sp (yI c_1) (sw (zL c_1 1 rfl rfl qf (sp (yI (c_1+1)) (zi (xq (m' :=(s.qA.length - ((c_1+1):Int)).toNat) qf ⟨_,zU,zD,zS,(xn s t c_1),VX,Xg,Xe,QA,QY,(xx s t c_1),x_all,F_all,c_1+1,uE6,?_,?_,?_,?_,rfl,N,H.pick [2,3,4] [1,2,3,4,5,6,7,8,9]⟩))))))))))
   · first | exact rules_yes qf | exact rules_no qf
   · first | exact packsL_yes qf | exact packsL_no qf
   · omega
   · exact gp.succ (by first | exact .inl qf | exact .inr (show (zk _ _).2=0 from ‹_›))
  refine xk (t_n (zcr (sps [pp bt ot,pp bt ot] (oF rfl (oL rfl (H.x9 6 rfl 1 rfl) (sp (yI c_1) ?_))))))
  obtain ⟨b76,o77,rfl⟩:=H.addr 8 rfl qf
  obtain ⟨ae79,ce79,Fe79,H⟩:=H.jq 8 rfl c_1 c_1 qf qf qf
  refine oI rfl rfl (oL rfl (H.x9 1 rfl 0 rfl) (sp (Sv vC zO vw) ?_))
  obtain ⟨G80,hn81,h82⟩:=H.QK (α:=yLI) 0 rfl 2 rfl qj
  have cp:=cell_pack p0 p1 (c:=c_1) qf
  have sz86:=H.base.size
  have lt87:=H.ltN (L:=[Xg,F_all]) [3,4]
  refine sw (oc (args_eq (by rw [← hn81]) (l01All_ok _ (t.qH[c_1]!) (xA s (xX s t c_1)) (H.get 0 rfl).1 (hn81▸h82) qg)) ?_)
  rintro _ w84 ⟨ra83a,rn83a,rc83a,rx83a,rF83a,rfl,M,K⟩ _
  replace N:=N.merge sz86 lt87 M
  replace H:=H.merge K M
  obtain rfl:=H.x8 (α:=yLI) 0 rfl 0 rfl qj
  refine sps [.tuple #[Sv ra83a (((zk (t.qH[c_1]!) (xA s (xX s t c_1))).1).length) rc83a,yI ((zk (t.qH[c_1]!) (xA s (xX s t c_1))).2)],Sv ra83a (((zk (t.qH[c_1]!) (xA s (xX s t c_1))).1).length) rc83a,yI ((zk (t.qH[c_1]!) (xA s (xX s t c_1))).2),Sv ra83a (((zk (t.qH[c_1]!) (xA s (xX s t c_1))).1).length) rc83a,yI ((zk (t.qH[c_1]!) (xA s (xX s t c_1))).2)] (zjcc (sps [yI ((zk (t.qH[c_1]!) (xA s (xX s t c_1))).2),Bv (((zk (t.qH[c_1]!) (xA s (xX s t c_1))).2:Int) != 0)] (zjn ?_)))
  refine xK (((zk (t.qH[c_1]!) (xA s (xX s t c_1))).2:Int) != 0) rfl (fun h89=>?_) (fun h89=>?_)
  ·skip
   replace h89:=bne_iff_ne.1 h89
   refine zcr (sps [Sv zU zD zS,Sv Xe QA QY,yI ((zk (t.qH[c_1]!) (xA s (xX s t c_1))).2),Sv zU zD zS,Sv Xe QA QY,yI ((zk (t.qH[c_1]!) (xA s (xX s t c_1))).2)] (zjr (t_r (zr5 (ret3 (Sv zU zD zS) (Sv Xe QA QY) (yI ((zk (t.qH[c_1]!) (xA s (xX s t c_1))).2)) rfl rfl rfl rfl ⟨_,rfl,?_⟩)))))
   replace H:=H.erases [5,2,1,0]
   dsimp only [vM,List.eraseIdx] at H
   refine sps [.tuple #[Sv zU zD zS,Sv Xe QA QY,yI ((zk (t.qH[c_1]!) (xA s (xX s t c_1))).2)],Sv zU zD zS,Sv Xe QA QY,yI ((zk (t.qH[c_1]!) (xA s (xX s t c_1))).2),Sv zU zD zS,Sv Xe QA QY,yI ((zk (t.qH[c_1]!) (xA s (xX s t c_1))).2)] (zjcc (sps [yI ((zk (t.qH[c_1]!) (xA s (xX s t c_1))).2),Bv (((zk (t.qH[c_1]!) (xA s (xX s t c_1))).2:Int) != 0)] (zjn ?_)))
   refine xK (((zk (t.qH[c_1]!) (xA s (xX s t c_1))).2:Int) != 0) rfl (fun h90=>?_) (fun h=>absurd (xF h) h89)
   replace h90:=bne_iff_ne.1 h90
   refine zcr (sw (je H underlying29 ti24 fun b91 w92 H=>sps [yI ((zk (t.qH[c_1]!) (xA s (xX s t c_1))).2),Sv (aa b91 0) 0 0,yI ((zk (t.qH[c_1]!) (xA s (xX s t c_1))).2)] (zjr (t_r ?_))))
   replace H:=H.boxRow 0 rfl 1 0 rfl qj
   replace H:=H.vT (α:=yLI)
   refine ret2 (Sv (aa b91 0) 0 0) (yI ((zk (t.qH[c_1]!) (xA s (xX s t c_1))).2)) rfl rfl rfl ⟨_,rfl,?_,H.base⟩
   rw [cho_code (bad_code (c:=c_1) qf qf ‹_›) ‹_›]
   exact ⟨(aa b91 0),0,0,[],[],rfl,(N.emp.pick [0]),H.pick [0] [0]⟩
  replace h89:=xF h89
  refine xk (t_n (zcr (sps [Sv zU zD zS,Sv jw vV jv] (sw (zy H underlying113 ti165 [Sv jw vV jv] fun b93 w94 H=>?_)))))
  obtain ⟨G98,N,hn99,H⟩:=H.zT 3 rfl N (H.jR [0,4,5])
  refine sw (zC H 5 rfl 0 rfl underlying113 ti165 rfl qj rfl rfl rfl qw qp qf fun a95 c96 w97 H=>?_)
  replace H:=H.yt 5 rfl 0 rfl
  replace N:Fresh w.heap.size [(Xg++G98),rF83a,F_all]:=(N.pick [2,0,1,3]).join
  refine sp (Sv a95 (zD+1) c96) (zjn (zg (sps [Sv Xe QA QY,Sv ra83a (((zk (t.qH[c_1]!) (xA s (xX s t c_1))).1).length) rc83a] (sw (zy H underlying114 ti29 [Sv ra83a (((zk (t.qH[c_1]!) (xA s (xX s t c_1))).1).length) rc83a] fun b100 w101 H=>?_)))))
  have H0:=H
  obtain ⟨G105,hg107,hn106,H⟩:=H.Xz (α:=yLI) 2 rfl 2 rfl qj
  replace N:Fresh w.heap.size [G105,(Xg++G98),F_all]:=Fresh.ice (N.pick [1,0,2]) H0 2 hg107.1 hg107.2 (H0.jR [0,7])
  clear H0
  refine sw (zC H 5 rfl 0 rfl underlying114 ti29 rfl qj rfl rfl rfl qw qp qf fun a102 c103 w104 H=>?_)
  replace H:=H.yt 8 rfl 0 rfl
  replace N:Fresh w.heap.size [(F_all++G105),(Xg++G98)]:=(N.pick [2,0,1]).join
  refine sp (Sv a102 (QA+1) c103) (zi (b_n (t_n (zg (sp (yI c_1) (sw (zL c_1 1 rfl rfl qf (sp (yI (c_1+1)) (zi ?_)))))))))
  refine xq (m' :=(s.qA.length - ((c_1+1):Int)).toNat) qf ⟨_,a95,zD+1,c96,((xn s t c_1)++[(xX s t c_1)]),VX++[Sv jw vV jv],(Xg++G98),a102,QA+1,c103,((xx s t c_1)++[(zk (t.qH[c_1]!) (xA s (xX s t c_1))).1]),x_all++[Sv ra83a (((zk (t.qH[c_1]!) (xA s (xX s t c_1))).1).length) rc83a],(F_all++G105),c_1+1,uE6,?_,?_,?_,?_,rfl,(N.pick [1,0]),H.pick [5,6,7] [2,0,10,11,12,13,14,15,16]⟩
  · first | exact rules_yes qf | exact rules_no qf
  · first | exact packsL_yes qf | exact packsL_no qf
  · omega
  · exact gp.succ (by first | exact .inl qf | exact .inr (show (zk _ _).2=0 from ‹_›))
 refine zx4 (zcr (sps [Sv zU zD zS,Sv Xe QA QY,Sv zU zD zS,Sv Xe QA QY,yI 0] (zjr (ret3 (Sv zU zD zS) (Sv Xe QA QY) (yI 0) rfl rfl rfl rfl ⟨_,rfl,?_⟩))))
 replace H:=H.erases [2]
 dsimp only [vM,List.eraseIdx] at H
 obtain rfl:c_1=s.qA.length:=by omega
 have kb:=prod_bd p0 p1 (k:=s.qA.length) qf gp
 have kn:=packsL_ne p0 p1 (k:=s.qA.length) qf gp
 have kr:=rules_le s t s.qA.length
 have kl:=VL s t s.qA.length
 refine sps [.tuple #[Sv zU zD zS,Sv Xe QA QY,yI 0],Sv zU zD zS,Sv Xe QA QY,yI 0,Sv zU zD zS,Sv Xe QA QY,yI 0] (zjcc (sps [yI 0,Bv false] (zjn (xK false rfl (fun h=>absurd h qj) (fun _=>xk (t_n (zcc (sp (Sv Xe QA QY) ?_))))))))
 obtain ⟨G108,hn109,h110⟩:=H.QK (α:=yLL) 0 rfl 1 rfl qj
 refine sw (oq (args_eq (by rw [← hn109]) (l03Count_ok _ (xx s t s.qA.length) (hn109▸h110) qg)) H fun w112 H=>sp (Bv (decide ((((yU (xx s t s.qA.length) (xx s t s.qA.length).length:Nat):Int):Int) > 300))) (zjn (cD rfl (fun h114=>?_) (fun h114=>?_))))
 ·skip
  refine zcr (sw (je H underlying29 ti24 fun b115 w116 H=>sps [Sv (aa b115 0) 0 0,yI 3] (zjr (t_r ?_))))
  replace H:=H.boxRow 0 rfl 1 0 rfl qj
  replace H:=H.vT (α:=yLI)
  refine ret2 (Sv (aa b115 0) 0 0) (yI 3) rfl rfl rfl ⟨_,rfl,?_,H.base⟩
  first | rw [cho_3 (.inl (bad_sum (c:=c) qf qf qf))] | rw [cho_3 (.inr qf)]
  exact ⟨(aa b115 0),0,0,[],[],rfl,(N.emp.pick [0]),H.pick [0] [0]⟩
 have kc:¬ yU (xx s t s.qA.length) (xx s t s.qA.length).length > 300:=by omega
 refine xk (t_n (zcr (sps [pp bs os,pp bs os] (oF rfl (oL rfl (H.x9 2 rfl 2 rfl) (oN rfl (sw (ji H underlying24 ti2 s.qB.length rfl rfl qf qf qf fun b117 w118 H=>sw (zy H underlying29 ti24 [Sv (aa b117 0) s.qB.length s.qB.length] fun b119 w120 H=>sp (Sv (aa b119 0) 1 1) (zjcc (sp (yI 0) (zjn (xg ?_)))))))))))))
 have H0:=H
 obtain ⟨G121,hg123,hn122,H⟩:=H.Xz (α:=yLI) 3 rfl 0 rfl qj
 replace N:Fresh w.heap.size [G121,F_all]:=Fresh.ice N H0 3 hg123.1 hg123.2 (H0.jR [1])
 clear H0
 have H0:=H
 obtain ⟨G124,hg126,hn125,H⟩:=H.Xz (α:=yLL) 2 rfl 2 rfl qj
 replace N:Fresh w.heap.size [G124,G121]:=Fresh.ice (N.pick [1,0]) H0 2 hg126.1 hg126.2 (H0.jR [0])
 clear H0
 replace H:=H.boxRow 0 rfl 1 1 rfl qj
 replace H:=H.vT (α:=yLI)
 obtain ⟨G127,N,hn128,H⟩:=H.zT 1 rfl N (H.jR [1,2])
 replace H:=H.VS true 0 rfl 1 rfl qm
 replace N:Fresh w.heap.size [(G127++[]),G124,G121]:=(N.emp.pick [1,0,2,3]).join
 refine zJ (fun m' ρ w129=>∃ (xY:Env) (vY:yOA) (zG:Nat) (vG:Nat) (out:yLL) (QQ:List Value) (Qu:yLN) (i:Nat),ρ=upd (upd (upd (upd xY 6 (Sv zU zD zS)) 7 (Sv Xe QA QY)) 9 (Sv vY zG vG)) 10 (yI i)∧out=(jZ s.qB.length (xn s t s.qA.length) (xx s t s.qA.length) i)∧((i:Int)≤QA)∧m' =(QA - (i:Int)).toNat∧Fresh w.heap.size [G124,G121,Qu]∧St w w129 [rr vY zG vG 24 1 QQ] [xN true Qu QQ out,isF true G124 (Sv Xe QA QY) (xx s t s.qA.length),isF true G121 (Sv zU zD zS) (xn s t s.qA.length)]) ((QA - (0:Int)).toNat) ⟨_,(aa b119 0),1,1,[(List.replicate s.qB.length (0:Int))],[Sv (aa b117 0) s.qB.length s.qB.length],(G127++[]),0,uE4,(by rfl),qf,rfl,(N.pick [1,2,0]),H.pick [0] [0,3,4]⟩ ?_
 clear H N
 rintro m' ρ w130 ⟨xY,vY,zG,vG,out,QQ,Qu,i,rfl,rfl,i0,rfl,N,H⟩
 have hn_out:=H.x8 (α:=yLI) 0 rfl 0 rfl qj
 refine zcc (sps [yI i,Sv Xe QA QY] (oN rfl (sp (Bv (decide ((i:Int) < QA))) (zjn (cD rfl (fun h131=>?_) (fun h131=>?_))))))
 ·skip
  have ga:=G_le (n:=s.qB.length) (rs:=(xn s t s.qA.length)) (i:=i) kn kc qf
  obtain ⟨gb,gc⟩:=cell_few (s:=s) (t:=t) (n:=s.qA.length) (i:=i) p0 qf
  refine xk (t_n (zf (xg (zcr (sw (je H underlying29 ti24 fun b132 w133 H=>sp (Sv (aa b132 0) 0 0) (zjcc (sp (yI 0) (zjn (xg ?_))))))))))
  replace H:=H.boxRow 0 rfl 1 0 rfl qj
  replace H:=H.vT (α:=yLI)
  refine zJ (fun m' ρ w134=>∃ (xY:Env) (a_next:yOA) (n_next:Nat) (c_next:Nat) (next:yLL) (x_next:List Value) (F_next:yLN) (k:Nat),ρ=upd (upd (upd (upd (upd (upd xY 6 (Sv zU zD zS)) 7 (Sv Xe QA QY)) 9 (Sv vY zG vG)) 10 (yI i)) 11 (Sv a_next n_next c_next)) 12 (yI k)∧next=(nextK (jZ s.qB.length (xn s t s.qA.length) (xx s t s.qA.length) i) ((xn s t s.qA.length)[i]!) ((xx s t s.qA.length)[i]!) k)∧((k:Int)≤zG)∧m' =(zG - (k:Int)).toNat∧Fresh w.heap.size [G124,G121,Qu,F_next]∧St w w134 [rr a_next n_next c_next 24 1 x_next,rr vY zG vG 24 1 QQ] [xN true F_next x_next next,xN true Qu QQ (jZ s.qB.length (xn s t s.qA.length) (xx s t s.qA.length) i),isF true G124 (Sv Xe QA QY) (xx s t s.qA.length),isF true G121 (Sv zU zD zS) (xn s t s.qA.length)]) ((zG - (0:Int)).toNat) ⟨_,(aa b132 0),0,0,([]:yLL),[],[],0,uE6,(by rfl),qf,rfl,(N.emp.pick [1,2,3,0]),H⟩ ?_
  clear H N
  rintro m' ρ w135 ⟨xY,a_next,n_next,c_next,next,x_next,F_next,k,rfl,rfl,i0,rfl,N,H⟩
  have hn_next:=H.x8 (α:=yLI) 0 rfl 0 rfl qj
  refine zcc (sps [yI k,Sv vY zG vG] (oN rfl (sp (Bv (decide ((k:Int) < zG))) (zjn (cD rfl (fun h136=>?_) (fun h136=>?_))))))
  ·skip
   refine xk (t_n (zf (xg (zcr (sp (yI 0) (zjn (xg ?_)))))))
   refine zJ (fun m' ρ w137=>∃ (xY:Env) (Xv:yOA) (QM:Nat) (Xu:Nat) (next_1:yLL) (XK:List Value) (Q8:yLN) (x:Nat),ρ=upd (upd (upd (upd (upd (upd (upd xY 6 (Sv zU zD zS)) 7 (Sv Xe QA QY)) 9 (Sv vY zG vG)) 10 (yI i)) 11 (Sv Xv QM Xu)) 12 (yI k)) 13 (yI x)∧next_1=(nextX (jZ s.qB.length (xn s t s.qA.length) (xx s t s.qA.length) i) ((xn s t s.qA.length)[i]!) ((xx s t s.qA.length)[i]!) k x)∧((x:Int)≤(((xx s t s.qA.length)[i]!).length))∧m' =((((xx s t s.qA.length)[i]!).length) - (x:Int)).toNat∧Fresh w.heap.size [G124,G121,Qu,Q8]∧St w w137 [rr Xv QM Xu 24 1 XK,rr vY zG vG 24 1 QQ] [xN true Q8 XK next_1,xN true Qu QQ (jZ s.qB.length (xn s t s.qA.length) (xx s t s.qA.length) i),isF true G124 (Sv Xe QA QY) (xx s t s.qA.length),isF true G121 (Sv zU zD zS) (xn s t s.qA.length)]) (((((xx s t s.qA.length)[i]!).length) - (0:Int)).toNat) ⟨_,a_next,n_next,c_next,(nextK (jZ s.qB.length (xn s t s.qA.length) (xx s t s.qA.length) i) ((xn s t s.qA.length)[i]!) ((xx s t s.qA.length)[i]!) k),x_next,F_next,0,uE7,(by exact nextX_zero _ _ _ _),qf,rfl,N,H⟩ ?_
   clear H N
   rintro m' ρ w138 ⟨xY,Xv,QM,Xu,next_1,XK,Q8,x,rfl,rfl,i0,rfl,N,H⟩
   have hn_next:=H.x8 (α:=yLI) 0 rfl 0 rfl qj
   refine zcc (sps [yI x,Sv Xe QA QY,yI i] ?_)
   have hl141:=H.isLen 2 rfl
   obtain ⟨b139,o140,rfl⟩:=H.addr 2 rfl qf
   obtain ⟨ae142,ce142,Fe142,H⟩:=H.jq 2 rfl i i qf qf qf
   refine oI rfl rfl (oL rfl (H.x9 1 rfl 0 rfl) (oN rfl (sp (Bv (decide ((x:Int) < (((xx s t s.qA.length)[i]!).length)))) (zjn (cD rfl (fun h143=>?_) (fun h143=>?_))))))
   ·skip
    have nx:=next_le (n:=s.qB.length) (rs:=(xn s t s.qA.length)) (i:=i) (k:=k) (x:=x) kn kc qf qf qf
    have g1:=prodG_at (n:=s.qB.length) (rs:=(xn s t s.qA.length)) (all:=(xx s t s.qA.length)) (i:=i) (k:=k) qf
    have g2:=pack_at (s:=s) (t:=t) (n:=s.qA.length) (i:=i) (x:=x) qf qf
    refine xk (t_n (zf (xg (zcr (sps [Sv vY zG vG,yI k] ?_)))))
    obtain ⟨b144,rfl⟩:=H.Qe 1 rfl qf
    refine oI rfl rfl ?_
    obtain ⟨a145,c146,G147,s148,h149,hx150,hy151,H⟩:=H.rowElemX 1 rfl 3 rfl (iv:=k) k qf qf
    refine oL rfl (H.rowGet 1 rfl hx150) ?_
    have sz152:=H.base.size
    have lt153:=H.ltN (L:=[G124,G121,Qu,Q8]) [5,6,4,3]
    refine sw (oc (XW _ ((jZ s.qB.length (xn s t s.qA.length) (xx s t s.qA.length) i)[k]!) (H.get 0 rfl).1 qg) ?_)
    rintro v157 w155 r157 x156
    replace H:=H.zB x156 r157
    obtain ⟨a158,c159,rfl,hc160,hm161⟩:=H.jG 0 rfl
    refine sp (Sv a158 (((jZ s.qB.length (xn s t s.qA.length) (xx s t s.qA.length) i)[k]!).length) c159) (zjcc (sp (yI 0) (zjn (xg ?_))))
    refine zJ (fun m' ρ w162=>∃ (xY:Env) (r:Nat) (own:yLI),ρ=upd (upd (upd (upd (upd (upd (upd (upd (upd xY 6 (Sv zU zD zS)) 7 (Sv (aa b139 o140) QA QY)) 9 (Sv (aa b144 0) zG vG)) 10 (yI i)) 11 (Sv Xv QM Xu)) 12 (yI k)) 13 (yI x)) 14 (Sv a158 (((jZ s.qB.length (xn s t s.qA.length) (xx s t s.qA.length) i)[k]!).length) c159)) 15 (yI r)∧own=(setTo ((jZ s.qB.length (xn s t s.qA.length) (xx s t s.qA.length) i)[k]!) ((xn s t s.qA.length)[i]!) (((xx s t s.qA.length)[i]!)[x]!) r)∧((r:Int)≤(((xn s t s.qA.length)[i]!).length))∧m' =((((xn s t s.qA.length)[i]!).length) - (r:Int)).toNat∧Fresh w.heap.size [G124,G121,Qu,Q8]∧St w w162 [rr a158 (((jZ s.qB.length (xn s t s.qA.length) (xx s t s.qA.length) i)[k]!).length) c159 2 1 (own.map (Value.int .i64)),rr Xv QM Xu 24 1 XK,rr (aa b144 0) zG vG 24 1 QQ] [sF true Fe142 ae142 ce142 ((xx s t s.qA.length)[i]!),atF b139 (o140+(i:Int).toNat * 1) [Sv ae142 (((xx s t s.qA.length)[i]!).length) ce142],xN true Q8 XK (nextX (jZ s.qB.length (xn s t s.qA.length) (xx s t s.qA.length) i) ((xn s t s.qA.length)[i]!) ((xx s t s.qA.length)[i]!) k x),xN true Qu QQ (jZ s.qB.length (xn s t s.qA.length) (xx s t s.qA.length) i),isF true G124 (Sv (aa b139 o140) QA QY) (xx s t s.qA.length),isF true G121 (Sv zU zD zS) (xn s t s.qA.length)]) (((((xn s t s.qA.length)[i]!).length) - (0:Int)).toNat) ⟨_,0,((jZ s.qB.length (xn s t s.qA.length) (xx s t s.qA.length) i)[k]!),uE9,(by rfl),qf,rfl,N,H.pick [0,1,2] [1,2,3,4,5,6]⟩ ?_
    clear H N
    rintro m' ρ w163 ⟨xY,r,own,rfl,rfl,i0,rfl,N,H⟩
    have hn_own:=H.yx 0 rfl
    have sl:=setTo_len ((jZ s.qB.length (xn s t s.qA.length) (xx s t s.qA.length) i)[k]!) ((xn s t s.qA.length)[i]!) (((xx s t s.qA.length)[i]!)[x]!) r
    refine zcc (sps [yI r,Sv zU zD zS,yI i] ?_)
    have hl166:=H.isLen 5 rfl
    obtain ⟨b164,o165,rfl⟩:=H.addr 5 rfl qf
    obtain ⟨ae167,ce167,Fe167,H⟩:=H.jq 5 rfl i i qf qf qf
    refine oI rfl rfl (oL rfl (H.x9 1 rfl 0 rfl) (oN rfl (sp (Bv (decide ((r:Int) < (((xn s t s.qA.length)[i]!).length)))) (zjn (cD rfl (fun h168=>?_) (fun h168=>?_))))))
    ·skip
     obtain ⟨g3,g4⟩:=choice_at (s:=s) (t:=t) (n:=s.qA.length) (i:=i) (r:=r) qf qf
     refine xk (t_n (zf (xg ?_)))
     refine yR rfl H [1,2] fun H=>?_
     have S:=H.yj [1,2] [0,1,2,3,4,5,6,7]
     refine rtp 0 (Sv a158 (((jZ s.qB.length (xn s t s.qA.length) (xx s t s.qA.length) i)[k]!).length) c159) S ?_
     refine rtp 1 (Sv (aa b164 o165) zD zS) S ?_
     refine rtp 2 (yI i) S ?_
     refine tI 3 rfl rfl rfl S ?_
     refine tL 4 rfl rfl (fun _ h=>h.x9 1 rfl 0 rfl) S ?_
     refine rtp 5 (yI r) S ?_
     obtain ⟨b170,o171,rfl⟩:=H.addr 0 rfl qf
     have S:=H.yj [1,2] [0,1,2,3,4,5,6,7]
     refine tI 6 rfl rfl rfl S ?_
     refine tL 7 rfl rfl (fun _ h=>h.yV 0 rfl r qf) S ?_
     refine rtp 8 (Sv (aa b139 o140) QA QY) S ?_
     refine rtp 9 (yI i) S ?_
     refine tI 10 rfl rfl rfl S ?_
     refine tL 11 rfl rfl (fun _ h=>h.x9 3 rfl 0 rfl) S ?_
     refine rtp 12 (yI x) S ?_
     obtain ⟨b173,o174,rfl⟩:=H.addr 2 rfl qf
     obtain ⟨ae176,ce176,Fe176,H⟩:=H.jq 2 rfl x x qf qf qf
     have S:=H.yj [1,2] [2,3,4,5,6,7,8,9]
     refine tI 13 rfl rfl rfl S ?_
     refine rtp 15 (yI r) S ?_
     refine ro 14 rfl (zF (Sv ae176 ((((xx s t s.qA.length)[i]!)[x]!).length) ce176) isAgg24 rfl (H.x9 1 rfl 0 rfl) (⟨H.pick [1,2] [2,3,4,5,6,7,8,9],?_⟩))
     obtain ⟨b177,o178,rfl⟩:=H.addr 0 rfl qf
     refine tI 16 rfl rfl rfl (H.pick [1,2] [2,3,4,5,6,7,8,9]) ?_
     refine ro 17 rfl (zF (yI ((((xx s t s.qA.length)[i]!)[x]!)[r]!)) isAgg2 rfl (H.yF 0 rfl r qf qf) (⟨H.pick [1,2] [2,3,4,5,6,7,8,9],?_⟩))
     obtain ⟨b180,rfl⟩:=H.Qe 0 rfl qf
     refine tI 18 rfl rfl rfl (H.pick [1,2] [2,3,4,5,6,7,8,9]) ?_
     refine ro 19 rfl (X0 H 0 rfl ((((xx s t s.qA.length)[i]!)[x]!)[r]!) sizeOf2 rfl rfl (i:=((((xn s t s.qA.length)[i]!)[r]!).toNat)) qf qf fun w181 H=>⟨H.pick [1,2] [2,3,4,5,6,7,8,9],(xJ qh (b_n (t_n (zg (sp (yI r) (sw (zL r 1 rfl rfl qf (sp (yI (r+1)) (zi ?_)))))))))⟩)
     refine xq (m' :=((((xn s t s.qA.length)[i]!).length) - ((r+1):Int)).toNat) qf ⟨_,r+1,((setTo ((jZ s.qB.length (xn s t s.qA.length) (xx s t s.qA.length) i)[k]!) ((xn s t s.qA.length)[i]!) (((xx s t s.qA.length)[i]!)[x]!) r).set ((((xn s t s.qA.length)[i]!)[r]!).toNat) ((((xx s t s.qA.length)[i]!)[x]!)[r]!)),uE9,?_,?_,rfl,N,H.pick [0,1,2] [4,5,6,7,8,9]⟩
     · rfl
     · omega
    refine zx4 (zg (sps [Sv Xv QM Xu,Sv a158 (((jZ s.qB.length (xn s t s.qA.length) (xx s t s.qA.length) i)[k]!).length) c159] (sw (zy H underlying29 ti24 [Sv a158 (((jZ s.qB.length (xn s t s.qA.length) (xx s t s.qA.length) i)[k]!).length) c159] fun b182 w183 H=>?_))))
    obtain ⟨G187,N,hn188,H⟩:=H.zT 1 rfl N (H.jR [6,7,5,4])
    refine sw (zC H 2 rfl 0 rfl underlying29 ti24 rfl qj rfl rfl rfl qw qp qf fun a184 c185 w186 H=>?_)
    replace H:=H.yt 5 rfl 0 rfl
    replace N:Fresh w.heap.size [(Q8++G187),G124,G121,Qu]:=(N.pick [4,0,1,2,3]).join
    refine sp (Sv a184 (QM+1) c185) (zi (b_n (t_n (zg (sp (yI x) (sw (zL x 1 rfl rfl qf (sp (yI (x+1)) (zi ?_)))))))))
    refine xq (m' :=((((xx s t s.qA.length)[i]!).length) - ((x+1):Int)).toNat) qf ⟨_,a184,QM+1,c185,((nextX (jZ s.qB.length (xn s t s.qA.length) (xx s t s.qA.length) i) ((xn s t s.qA.length)[i]!) ((xx s t s.qA.length)[i]!) k x)++[(setTo ((jZ s.qB.length (xn s t s.qA.length) (xx s t s.qA.length) i)[k]!) ((xn s t s.qA.length)[i]!) (((xx s t s.qA.length)[i]!)[x]!) r)]),XK++[Sv a158 (((jZ s.qB.length (xn s t s.qA.length) (xx s t s.qA.length) i)[k]!).length) c159],(Q8++G187),x+1,uE7,?_,?_,rfl,(N.pick [1,2,3,0]),H.pick [2,3] [0,7,8,9]⟩
    · exact nextX_succ qf (by rw [show r=((xn s t s.qA.length)[i]!).length by omega];rfl)
    · omega
   refine c_exit (t_x (t_x (b_x (b_n (t_n (zg (sp (yI k) (sw (zL k 1 rfl rfl qf (sp (yI (k+1)) (zi (xq (m' :=(zG - ((k+1):Int)).toNat) qf ⟨_,Xv,QM,Xu,(nextX (jZ s.qB.length (xn s t s.qA.length) (xx s t s.qA.length) i) ((xn s t s.qA.length)[i]!) ((xx s t s.qA.length)[i]!) k x),XK,Q8,k+1,uE6,?_,?_,rfl,N,H.pick [0,1] [2,3,4,5]⟩))))))))))))
   · exact nextX_end qf qf
   · omega
  refine zx4 (zg (sps [Sv a_next n_next c_next,Sv a_next n_next c_next] (zi (b_n (t_n (zg (sp (yI i) (sw (zL i 1 rfl rfl qf (sp (yI (i+1)) (zi (xq (m' :=(QA - ((i+1):Int)).toNat) qf ⟨_,a_next,n_next,c_next,(nextK (jZ s.qB.length (xn s t s.qA.length) (xx s t s.qA.length) i) ((xn s t s.qA.length)[i]!) ((xx s t s.qA.length)[i]!) k),x_next,F_next,i+1,uE4,?_,?_,rfl,(N.pick [0,1,3]),H.pick [0] [0,2,3]⟩))))))))))))
  · rw [show k=(jZ s.qB.length (xn s t s.qA.length) (xx s t s.qA.length) i).length by omega];rfl
  · omega
 refine zx4 (zcc (sp (yI 1) (zjn (xg ?_))))
 have on:0 < (jZ s.qB.length (xn s t s.qA.length) (xx s t s.qA.length) i).length:=by rw [Xy,show i=(xx s t s.qA.length).length by omega];exact prod_mono kn (Nat.zero_le _) (Nat.le_refl _)
 have on2:=G_le (n:=s.qB.length) (rs:=(xn s t s.qA.length)) (i:=i) kn kc qf
 refine zJ (fun m' ρ w189=>∃ (xY:Env) (i_1:Nat) (out_1:yLL) (VY:List Value) (Vq:yLN),ρ=upd (upd xY 9 (Sv vY zG vG)) 16 (yI i_1)∧((i_1:Int)≤zG)∧((jZ s.qB.length (xn s t s.qA.length) (xx s t s.qA.length) (xx s t s.qA.length).length).Perm out_1)∧(∀ a b,a < b→b < i_1→¬ ahead (out_1[b]!) (out_1[a]!))∧m' =(zG - (i_1:Int)).toNat∧Fresh w.heap.size [Vq]∧St w w189 [rr vY zG vG 24 1 VY] [xN true Vq VY out_1]) ((zG - (1:Int)).toNat) ⟨_,1,(jZ s.qB.length (xn s t s.qA.length) (xx s t s.qA.length) i),QQ,Qu,uE2,qf,(by rw [show i=(xx s t s.qA.length).length by omega]),(by exact fun a b h1 h2=>by omega),rfl,(N.pick [2]),H.pick [0] [0]⟩ ?_
 clear H N
 rintro m' ρ w190 ⟨xY,i_1,out_1,VY,Vq,rfl,i0,o1,o2,rfl,N,H⟩
 have hn_out:=H.x8 (α:=yLI) 0 rfl 0 rfl qj
 refine zcc (sps [yI i_1,Sv vY zG vG] (oN rfl (sp (Bv (decide ((i_1:Int) < zG))) (zjn (cD rfl (fun h191=>?_) (fun h191=>?_))))))
 ·skip
  refine xk (t_n (zf (xg (zcr (sps [yI i_1,yI i_1] (zjn (xg ?_)))))))
  refine zJ (fun m' ρ w192=>∃ (xY:Env) (k:Int) (out_51:yLL) (x_out_51:List Value) (F_out_51:yLN),ρ=upd (upd (upd xY 9 (Sv vY zG vG)) 16 (yI i_1)) 17 (yI k)∧((jZ s.qB.length (xn s t s.qA.length) (xx s t s.qA.length) (xx s t s.qA.length).length).Perm out_51)∧(InsTo out_51 i_1 k.toNat)∧(0≤k∧k≤i_1)∧m' =((k:Int)).toNat∧Fresh w.heap.size [F_out_51]∧St w w192 [rr vY zG vG 24 1 x_out_51] [xN true F_out_51 x_out_51 out_51]) (((i_1:Int)).toNat) ⟨_,i_1,out_1,VY,Vq,uE3,ql,(by exact InsTo.start o2),qf,rfl,N,H⟩ ?_
  clear H N
  rintro m' ρ w193 ⟨xY,k,out_51,x_out_51,F_out_51,rfl,o3,o4,o5,rfl,N,H⟩
  have hn_out:=H.x8 (α:=yLI) 0 rfl 0 rfl qj
  refine zf (zf ?_)
  refine yl rfl H fun H=>rtp 0 (yI k) H ?_
  refine rtp 1 (Bv (decide ((k:Int) > 0))) H ?_
  refine rtp 2 (Bv (decide ((k:Int) > 0))) H ?_
  cases h195:(decide ((k:Int) > 0))
  ·skip
   replace h195:=of_decide_eq_false h195
   refine zV [3,4,5,6,7,8,9,10,11,12] 10 (H) (rtp 13 (Bv false) H ?_)
   refine xJ qh (t_n (xK false rfl (fun h=>absurd h qj) (fun _=>c_exit (t_x (t_x (b_x (b_n (t_n (zg (sp (yI i_1) (sw (zL i_1 1 rfl rfl qf (sp (yI (i_1+1)) (zi (xq (m' :=(zG - ((i_1+1):Int)).toNat) qf ⟨_,i_1+1,out_51,x_out_51,F_out_51,uE2,?_,?_,?_,rfl,N,H⟩)))))))))))))))
   · omega
   · assumption
   · exact o4.stop (perm_rows o3) qf qf (by first | exact .inl qf | exact .inr (by rw [show k.toNat - 1=(k - 1).toNat by omega];assumption))
  replace h195:=of_decide_eq_true h195
  refine rgp 3 (Sv vY zG vG) 110 H ?_
  refine rgp 4 (yI k) 110 H ?_
  obtain ⟨b196,rfl⟩:=H.Qe 0 rfl qf
  refine gI 5 rfl rfl rfl H ?_
  obtain ⟨a197,c198,G199,s200,h201,hx202,hy203,H⟩:=H.rowElemX 0 rfl 0 rfl (iv:=k) k.toNat qf qf
  have S:=H.yj [0] [1]
  refine gL 6 rfl rfl (fun _ h=>h.rowGet 0 rfl hx202) S ?_
  refine rgp 7 (Sv (aa b196 0) zG vG) 110 S ?_
  refine rgp 8 (yI k) 110 S ?_
  refine rg 9 (yI (k - 1)) 110 (y_sub k 1 rfl rfl qf) S ?_
  refine gI 10 rfl rfl rfl S ?_
  obtain ⟨a204,c205,G206,s207,h208,hx209,hy210,H⟩:=H.rowElemX 0 rfl 1 rfl (iv:=k - 1) ((k - 1).toNat) qf qf
  refine gL 11 rfl rfl (fun _ h=>h.rowGet 0 rfl hx209) (H.pick [0] [2]) ?_
  refine jb [12] qh qm (Vh rfl (e:=110) rfl rfl ?_ jd)
  have g5:=perm_rows o3
  have g6:=g5 k.toNat qf
  have g7:=g5 (k - 1).toNat qf
  refine oq (l03Before_ok _ (out_51[k.toNat]!) (out_51[(k - 1).toNat]!) (H.get 1 rfl).1 (H.get 0 rfl).1 qg) H fun w212 H=>⟨H.pick [0] [2],(rtp 13 (Bv (dec (ahead (out_51[k.toNat]!) (out_51[(k - 1).toNat]!)))) (H.pick [0] [2]) ?_)⟩
  refine xJ qh (t_n (cP rfl (fun h214=>?_) (fun h214=>?_)))
  ·skip
   refine xk (t_n (zf (xg (zcr (sps [Sv (aa b196 0) zG vG,yI k] (oI rfl rfl ?_))))))
   obtain ⟨a215,c216,G217,s218,h219,hx220,hy221,H⟩:=H.rowElemX 0 rfl 2 rfl (iv:=k) k.toNat qf qf
   refine oL rfl (H.rowGet 0 rfl hx220) (sp (Sv a215 ((out_51[k.toNat]!).length) c216) (zjc (sps [Sv (aa b196 0) zG vG,yI k,Sv (aa b196 0) zG vG,yI k] (sw (o_sub k 1 rfl rfl qf (oI rfl rfl ?_))))))
   obtain ⟨a222,c223,G224,s225,h226,hx227,hy228,H⟩:=H.rowElemX 0 rfl 3 rfl (iv:=k - 1) ((k - 1).toNat) qf qf
   refine oL rfl (H.rowGet 0 rfl hx227) (oI rfl rfl (sw (o_storeRow1 H 0 rfl (Sv a222 ((out_51[(k - 1).toNat]!).length) c223) sizeOf24 rfl rfl rfl qf fun w229 H=>zjn (zg (sps [Sv (aa b196 0) zG vG,yI k] (sw (o_sub k 1 rfl rfl qf (sp (Sv a215 ((out_51[k.toNat]!).length) c216) (oI rfl rfl (sw (o_storeRow1 H 0 rfl (Sv a215 ((out_51[k.toNat]!).length) c216) sizeOf24 rfl rfl rfl qf fun w230 H=>?_)))))))))))
   obtain ⟨F231,hF232,H⟩:=H.swapR 4 rfl (k:=(k:Int).toNat) (i:=(k - 1:Int).toNat) qf qf qf hy228 hy221
   replace N:Fresh w.heap.size [F231]:=Fresh.perm N hF232
   refine zi (b_n (t_n (zg (sp (yI k) (sw (o_sub k 1 rfl rfl qf (sp (yI (k - 1)) (zi (xq (m' :=(((k - 1):Int)).toNat) qf ⟨_,k - 1,(swapAt out_51 k.toNat),((x_out_51.set (k:Int).toNat (Sv a222 ((out_51[(k - 1).toNat]!).length) c223)).set (k - 1:Int).toNat (Sv a215 ((out_51[k.toNat]!).length) c216)),F231,uE3,?_,?_,?_,rfl,N,H.pick [0] [0]⟩)))))))))
   · exact perm_swap o3 qf qf
   · rw [show (k - 1).toNat=k.toNat - 1 by omega];exact o4.down (perm_rows o3) qf qf qf (by rw [show k.toNat - 1=(k - 1).toNat by omega];assumption)
   · omega
  refine c_exit (t_x (t_x (b_x (b_n (t_n (zg (sp (yI i_1) (sw (zL i_1 1 rfl rfl qf (sp (yI (i_1+1)) (zi (xq (m' :=(zG - ((i_1+1):Int)).toNat) qf ⟨_,i_1+1,out_51,x_out_51,F_out_51,uE2,?_,?_,?_,rfl,N,H.pick [0] [2]⟩))))))))))))
  · omega
  · assumption
  · exact o4.stop (perm_rows o3) qf qf (by first | exact .inl qf | exact .inr (by rw [show k.toNat - 1=(k - 1).toNat by omega];assumption))
 refine zx4 (zcr (sps [Sv vY zG vG,Sv vY zG vG,yI 0] (zjr (ret2 (Sv vY zG vG) (yI 0) rfl rfl rfl ⟨_,rfl,?_,H.base⟩))))
 rw [cho_0 gp kc o1 (in_order qf o2)]
 exact ⟨vY,zG,vG,VY,Vq,rfl,N,H.pick [0] [0]⟩
theorem isBag_ok (w:World) (l:yLI) {al:yOA} {cl:Nat} {Fl:yLN} (hl:qX.rep w Fl [Sv al l.length cl] l):Calls Tryz.prog 157 #[Sv al l.length cl] w (Ret (fun v w' =>v=Bv (dec (Xt l))) w):=by
 refine en func157 ntmps157 ?_
 have H:=(St.start w).arg hl
 have nhl:=qV hl
 clear hl
 have N:=Fresh.nil w.heap.size
 refine zcr (sp (Bv false) (zjc (sp (Sv al l.length cl) (sw (oq (sizeI_ok _ l (H.get 0 rfl).1) H fun w1 H=>sp (Sv al l.length cl) (sw (oq (VZ _ (l.length:Int) l (H.get 0 rfl).1) H fun w3 H=>sp (Bv (dec (vS (l.length:Int) l))) (zjr (ret1 (Bv (dec (vS (l.length:Int) l))) rfl rfl ⟨_,rfl,?_,H.base⟩)))))))))
 rw [dec_congr bagAny_okH]

theorem isFull_ok (w:World) (rest:yLI) (parts:yLL) {arest:yOA} {crest:Nat} {Frest:yLN} {zt:yOA} {zn:Nat} {Fparts:yLN} (hrest:qX.rep w Frest [Sv arest rest.length crest] rest) (hparts:qX.rep w Fparts [Sv zt parts.length zn] parts) (p0:VQ parts rest):Calls Tryz.prog 212 #[Sv arest rest.length crest,Sv zt parts.length zn] w (Ret (fun v w' =>v=Bv (dec (FullOk parts rest))) w):=by
 refine en func212 ntmps212 ?_
 have H:=((St.start w).arg hparts).arg hrest
 have nhrest:=qV hrest
 have nhparts:=qV hparts
 clear hrest hparts
 have N:=Fresh.nil w.heap.size
 refine zcr (sw (zW H [Sv arest rest.length crest] fun b1 w2 H=>sp (Bv false) (zjc (sps [Sv zt parts.length zn,.func (.func 232) #[] #[pp b1 0]] (sw (vk #[Sv zt parts.length zn,.func (.func 232) #[] #[pp b1 0]] rfl rfl call140 (en func140 ntmps140 ?_)))))))
 refine zcr (sp (Bv false) (zjc (sps [Sv zt parts.length zn,.func (.func 232) #[] #[pp b1 0]] (sw (vk #[Sv zt parts.length zn,.func (.func 232) #[] #[pp b1 0]] rfl rfl call186 (en func186 ntmps186 ?_))))))
 refine zcr (sp (yI 0) (zjcc (sp (Sv zt parts.length zn) (oN rfl (sp (yI 0) (zjn (xg ?_)))))))
 refine zJ (fun m' ρ w3=>∃ (xY:Env) (i:Nat),ρ=upd (upd (upd (upd xY 0 (Sv zt parts.length zn)) 1 (.func (.func 232) #[] #[pp b1 0])) 7 (yI parts.length)) 8 (yI i)∧((i:Int)≤parts.length)∧(FullTo parts rest i)∧m' =(parts.length - (i:Int)).toNat∧Fresh w.heap.size []∧St w w3 [.box b1 [Sv arest rest.length crest] 24] [sF false Frest arest crest rest,sF false Fparts zt zn parts]) ((parts.length - (0:Int)).toNat) ⟨_,0,uE4,qf,(by first | trivial | exact fun j hj=>by omega),rfl,N,H⟩ ?_
 clear H N
 rintro m' ρ w4 ⟨xY,i,rfl,i0,i1,rfl,N,H⟩
 refine zcr (sp (Bv (decide ((i:Int) < parts.length))) (zjn (zf (cD rfl (fun h5=>?_) (fun h5=>?_)))))
 ·skip
  obtain ⟨t1,t2,t3,t4,t5⟩:=p0.times (k:=i) qf
  refine xk (t_n (zf (xg (zcr (sps [yI i,yI i] (zjc (sps [.func (.func 232) #[] #[pp b1 0],Sv zt parts.length zn,yI i] ?_)))))))
  obtain ⟨b6,o7,rfl⟩:=H.addr 1 rfl qf
  obtain ⟨ae9,ce9,Fe9,H⟩:=H.jq 1 rfl i i qf qf qf
  refine oI rfl rfl (oL rfl (H.x9 1 rfl 0 rfl) (sw (vk #[Sv ae9 ((parts[i]!).length) ce9,pp b1 0] rfl rfl call232 (en func232 ntmps232 ?_))))
  refine zcr (sp (Bv false) (zjc (sp (Sv ae9 ((parts[i]!).length) ce9) (oL rfl (H.cell 0 rfl rfl) (sw (oq (isWithin_ok _ (parts[i]!) rest (H.get 0 rfl).1 (H.get 2 rfl).1 qg qg) H fun w10 H=>sp (Bv (within (parts[i]!) rest)) (zjr (ret1 (Bv (within (parts[i]!) rest)) rfl rfl ⟨_,rfl,(zjn (xK (within (parts[i]!) rest) rfl (fun h12=>?_) (fun h12=>?_)))⟩))))))))
  ·skip
   refine zcr (sps [yI i,yI i] (zjr (zr5 (ret1 (yI i) rfl rfl ⟨_,rfl,(sw (o_pure (Bv true) (by show some (Value.bool (decide ((i:Int)≥0)))=some (Value.bool true);rw [decide_eq_true qf]) (sp (Bv true) (zjr (ret1 (Bv true) rfl rfl ⟨_,rfl,(sps [Bv false,Bv false] (zjr (ret1 (Bv false) rfl rfl ⟨_,rfl,?_,H.base⟩)))⟩)))))⟩))))
   rw [xy (fun h=>by have:=h i qf;simp_all)]
  refine xk (b_n (t_n (zg (sw (zL i 1 rfl rfl qf (sp (yI (i+1)) (zi (xq (m' :=(parts.length - ((i+1):Int)).toNat) qf ⟨_,i+1,uE4,?_,?_,rfl,N,H.pick [0] [2,3]⟩))))))))
  · omega
  · first | trivial | exact i1.succ ‹_›
 refine zx4 (zcr (sp (yI (-1)) (zjr (ret1 (yI (-1)) rfl rfl ⟨_,rfl,(sps [Bv false,Bv false] (zjr (ret1 (Bv false) rfl rfl ⟨_,rfl,(sps [Bv true,Bv true] (zjr (ret1 (Bv true) rfl rfl ⟨_,rfl,?_,H.base⟩)))⟩)))⟩))))
 rw [yh (show FullOk parts rest from fun j hj=>i1 j qf)]

theorem bagAndParts_ok (w:World) (b:yLI) (parts:yLL) {ab:yOA} {Fb:yLN} {zt:yOA} {zn:Nat} {Fparts:yLN} (hb:qX.rep w Fb [Sv ab b.length cb] b) (hparts:qX.rep w Fparts [Sv zt parts.length zn] parts) (p0:VQ parts b) (p1:1≤parts.length):Calls Tryz.prog 228 #[Sv ab b.length cb,Sv zt parts.length zn] w (Ret (fun v w' =>v=yI 0) w):=by
 refine en func228 ntmps228 ?_
 have H:=((St.start w).arg hparts).arg hb
 have nhb:=qV hb
 have nhparts:=qV hparts
 clear hb hparts
 have N:=Fresh.nil w.heap.size
 obtain ⟨pb,pl,pk⟩:=p0.bags p1
 refine zcr (sp (yI 0) (zjcc (sp (Sv ab b.length cb) (sw (oq (isBag_ok _ b (H.get 0 rfl).1) H fun w2 H=>sp (Bv (!(dec (Xt b)))) (zjn (cQ rfl (fun h4=>?_) (fun h4=>?_))))))))
 ·skip
  refine zcr (sp (yI 1) (zjr (t_r (ret1 (yI 1) rfl rfl ⟨_,rfl,?_,H.base⟩))))
  exfalso;first | omega | exact ‹¬ Xt _› pb
 refine xk (t_n (zcr (sp (Sv ab b.length cb) (oN rfl (sps [Sv zt parts.length zn,Sv zt parts.length zn] (oN rfl (sw (ji H underlying24 ti2 parts.length rfl rfl qf qf qf fun b5 w6 H=>sw (vk #[yI b.length,Sv zt parts.length zn,Sv (aa b5 0) parts.length parts.length] rfl rfl call237 (en func237 ntmps237 ?_))))))))))
 refine zcr (sp (yI 0) (zjcc (sp (Sv zt parts.length zn) (sw (vk #[Sv zt parts.length zn,.func (.func 239) #[] #[]] rfl rfl call140 (en func140 ntmps140 ?_))))))
 refine zcr (sp (Bv false) (zjc (sps [Sv zt parts.length zn,.func (.func 239) #[] #[]] (sw (vk #[Sv zt parts.length zn,.func (.func 239) #[] #[]] rfl rfl call186 (en func186 ntmps186 ?_))))))
 refine zcr (sp (yI 0) (zjcc (sp (Sv zt parts.length zn) (oN rfl (sp (yI 0) (zjn (xg ?_)))))))
 refine zJ (fun m' ρ w7=>∃ (xY:Env) (i:Nat),ρ=upd (upd (upd (upd xY 0 (Sv zt parts.length zn)) 1 (.func (.func 239) #[] #[])) 7 (yI parts.length)) 8 (yI i)∧((i:Int)≤parts.length)∧(True)∧m' =(parts.length - (i:Int)).toNat∧Fresh w.heap.size []∧St w w7 [rr (aa b5 0) parts.length parts.length 2 1 ((List.replicate parts.length (0:Int)).map (Value.int .i64))] [sF false Fb ab cb b,sF false Fparts zt zn parts]) ((parts.length - (0:Int)).toNat) ⟨_,0,uE4,qf,(by first | trivial | exact fun j hj=>by omega),rfl,N,H⟩ ?_
 clear H N
 rintro m' ρ w8 ⟨xY,i,rfl,i0,i1,rfl,N,H⟩
 refine zcr (sp (Bv (decide ((i:Int) < parts.length))) (zjn (zf (cD rfl (fun h9=>?_) (fun h9=>?_)))))
 ·skip
  refine xk (t_n (zf (xg (zcr (sps [yI i,yI i] (zjc (sps [.func (.func 239) #[] #[],Sv zt parts.length zn,yI i] ?_)))))))
  obtain ⟨b10,o11,rfl⟩:=H.addr 1 rfl qf
  obtain ⟨ae13,ce13,Fe13,H⟩:=H.jq 1 rfl i i qf qf qf
  refine oI rfl rfl (oL rfl (H.x9 1 rfl 0 rfl) (sw (vk #[Sv ae13 ((parts[i]!).length) ce13] rfl rfl call239 (en func239 ntmps239 ?_))))
  refine zcr (sp (Bv false) (zjc (sp (Sv ae13 ((parts[i]!).length) ce13) (sw (oq (isBag_ok _ (parts[i]!) (H.get 0 rfl).1) H fun w15 H=>sps [Bv (!(dec (Xt (parts[i]!)))),Bv (!(dec (Xt (parts[i]!))))] (zjr (ret1 (Bv (!(dec (Xt (parts[i]!))))) rfl rfl ⟨_,rfl,(zjn (cQ rfl (fun h17=>?_) (fun h17=>?_)))⟩)))))))
  ·skip
   exact absurd (pk i qf).1 h17
  refine xk (b_n (t_n (zg (sw (zL i 1 rfl rfl qf (sp (yI (i+1)) (zi (xq (m' :=(parts.length - ((i+1):Int)).toNat) qf ⟨_,i+1,uE4,?_,?_,rfl,N,H.pick [0] [2,3]⟩))))))))
  · omega
  · first | trivial | exact i1.succ ‹_›
 refine zx4 (zcr (sp (yI (-1)) (zjr (ret1 (yI (-1)) rfl rfl ⟨_,rfl,(sps [Bv false,Bv false] (zjr (ret1 (Bv false) rfl rfl ⟨_,rfl,(zjn (xK false rfl (fun h=>absurd h qj) (fun _=>xk (t_n (zcc (sp (Sv zt parts.length zn) (oN rfl (sps [Bv (decide ((parts.length:Int) > 8)),Bv (decide ((parts.length:Int) > 8))] ?_))))))))⟩)))⟩))))
 cases h18:(decide ((parts.length:Int) > 8))
 ·skip
  replace h18:=of_decide_eq_false h18
  refine qR 14 rfl rfl (sp (Sv (aa b5 0) parts.length parts.length) (qR 14 rfl rfl (oN rfl (qR 14 rfl rfl (sp (Sv zt parts.length zn) (qR 14 rfl rfl (oN rfl (qR 14 rfl rfl (sps [Bv ((parts.length:Int) != parts.length),Bv ((parts.length:Int) != parts.length)] (zjn (xK ((parts.length:Int) != parts.length) rfl (fun h=>absurd rfl (bne_iff_ne.1 h)) (fun h19=>?_))))))))))))
  replace h19:=xF h19
  refine xk (t_n (zcc (sp (Sv zt parts.length zn) (oN rfl (sp (yI 0) (zjn (xg ?_)))))))
  refine zJ (fun m' ρ w20=>∃ (xY:Env) (i_1:Nat),ρ=upd (upd (upd (upd (upd xY 0 (yI b.length)) 2 (Sv (aa b5 0) parts.length parts.length)) 21 (Sv zt parts.length zn)) 22 (yI parts.length)) 23 (yI i_1)∧((i_1:Int)≤parts.length)∧m' =(parts.length - (i_1:Int)).toNat∧Fresh w.heap.size []∧St w w20 [rr (aa b5 0) parts.length parts.length 2 1 ((List.replicate parts.length (0:Int)).map (Value.int .i64))] [sF false Fb ab cb b,sF false Fparts zt zn parts]) ((parts.length - (0:Int)).toNat) ⟨_,0,uE5,qf,rfl,N,H⟩ ?_
  clear H N
  rintro m' ρ w21 ⟨xY,i_1,rfl,i0,rfl,N,H⟩
  refine zcr (sp (Bv (decide ((i_1:Int) < parts.length))) (zjn (zf (cD rfl (fun h22=>?_) (fun h22=>?_)))))
  ·skip
   obtain ⟨r1,r2,r3⟩:=pk i_1 qf
   have r4:=Qa r1
   have r5:(List.replicate parts.length (0:Int))[i_1]! =0:=by rw [getElem!_pos _ i_1 qy];simp
   refine xk (t_n (zf (xg (zcr (sp (yI i_1) ?_)))))
   obtain ⟨b23,o24,rfl⟩:=H.addr 1 rfl qf
   obtain ⟨ae26,ce26,Fe26,H⟩:=H.jq 1 rfl i_1 i_1 qf qf qf
   refine oI rfl rfl (oL rfl (H.x9 1 rfl 0 rfl) (sps [yI i_1,Sv ae26 ((parts[i_1]!).length) ce26] (zjc (sp (Sv ae26 ((parts[i_1]!).length) ce26) (oN rfl (sps [yI b.length,Bv (((parts[i_1]!).length:Int) != b.length),Bv (((parts[i_1]!).length:Int) != b.length)] ?_))))))
   cases h27:(((parts[i_1]!).length:Int) != b.length)
   ·skip
    replace h27:=xF h27
    refine qR 32 rfl rfl (sp (Sv ae26 ((parts[i_1]!).length) ce26) (qR 32 rfl rfl (sw (oq (X6 _ (parts[i_1]!) (H.get 0 rfl).1 (by first | assumption | exact vz ql | exact Qa ql)) H fun w28 H=>qR 32 rfl rfl (sps [Bv ((Xh (parts[i_1]!):Int) == 0),Bv ((Xh (parts[i_1]!):Int) == 0),Bv ((Xh (parts[i_1]!):Int) == 0)] ?_)))))
    cases h30:((Xh (parts[i_1]!):Int) == 0)
    ·skip
     replace h30:=ne_of_beq_false h30
     refine qR 37 rfl rfl (sp (Sv (aa b5 0) parts.length parts.length) (qR 37 rfl rfl (sp (yI i_1) (qR 37 rfl rfl (oI rfl rfl (qR 37 rfl rfl (oL rfl (H.rowInt 0 rfl (iv:=i_1) (i:=i_1) qf qf) (qR 37 rfl rfl (sw (oq (X5 w28 ((List.replicate parts.length (0:Int))[i_1]!) 0 1000) H fun w31 H=>qR 37 rfl rfl (sps [Bv (!(inR ((List.replicate parts.length (0:Int))[i_1]!) 0 1000)),Bv (!(inR ((List.replicate parts.length (0:Int))[i_1]!) 0 1000))] (zjn (xK (!(inR ((List.replicate parts.length (0:Int))[i_1]!) 0 1000)) rfl (fun h33=>?_) (fun h33=>?_))))))))))))))
     ·skip
      replace h33:=xM h33
      replace h33:=XL h33
      refine zcr (sp (yI 2) (zjr (zr5 (ret1 (yI 2) rfl rfl ⟨_,rfl,(sp (yI 2) (zjr (ret1 (yI 2) rfl rfl ⟨_,rfl,?_,H.base⟩)))⟩))))
      exfalso;first | omega | exact ‹¬ Xt _› pb
     replace h33:=xG h33
     replace h33:=Xj.1 h33
     refine xk (b_n (t_n (zg (sw (zL i_1 1 rfl rfl qf (sp (yI (i_1+1)) (zi (xq (m' :=(parts.length - ((i_1+1):Int)).toNat) qf ⟨_,i_1+1,uE5,?_,rfl,N,H.pick [0] [2,3]⟩))))))))
     · omega
    replace h30:=eq_of_beq h30
    refine xW [38,39,40,41,42,43] (sp (Bv true) (zjn (xK true rfl (fun _=>zcr (sp (yI 2) (zjr (zr5 (ret1 (yI 2) rfl rfl ⟨_,rfl,(sp (yI 2) (zjr (ret1 (yI 2) rfl rfl ⟨_,rfl,?_,H.base⟩)))⟩))))) (fun h=>absurd h qj))))
    exfalso;first | omega | exact ‹¬ Xt _› pb
   replace h27:=bne_iff_ne.1 h27
   refine xW [33,34,35] (sps [Bv true,Bv true] (xW [38,39,40,41,42,43] (sp (Bv true) (zjn (xK true rfl (fun _=>zcr (sp (yI 2) (zjr (zr5 (ret1 (yI 2) rfl rfl ⟨_,rfl,(sp (yI 2) (zjr (ret1 (yI 2) rfl rfl ⟨_,rfl,?_,H.base⟩)))⟩))))) (fun h=>absurd h qj))))))
   exfalso;first | omega | exact ‹¬ Xt _› pb
  refine zx4 (zcr (sp (yI 0) (zjr (ret1 (yI 0) rfl rfl ⟨_,rfl,(sp (yI 0) (zjr (ret1 (yI 0) rfl rfl ⟨_,rfl,?_,H.base⟩)))⟩))))
  rfl
 replace h18:=of_decide_eq_true h18
 refine xW [15,16,17,18,19] (sp (Bv true) (zjn (xK true rfl (fun _=>zcr (sp (yI 2) (zjr (t_r (ret1 (yI 2) rfl rfl ⟨_,rfl,(sp (yI 2) (zjr (ret1 (yI 2) rfl rfl ⟨_,rfl,?_,H.base⟩)))⟩))))) (fun h=>absurd h qj))))
 exfalso;first | omega | exact ‹¬ Xt _› pb

def packFrom_ok_S (f:Nat):Prop:=∀ {W0 w:World} {ps:List Prv} {Γ:List Fact} {Ns:List yLN} (i:Nat) (rest:yLI) (parts:yLL) (out:yLL) (cs:yLI) (arest:yOA) (crest:Nat) (Frest:yLN) (zt:yOA) (zn:Nat) (Fparts:yLN) (bp:Nat) (bi:Nat) (bq:Nat) (bo:Nat) (bl:Nat) (bc:Nat) (bf:Nat) (raout:yOA) (rnout:Nat) (rcout:Nat) (rxout:List Value) (rFout:yLN) (racs:yOA) (rncs:Nat) (rccs:Nat) (H:St W0 w ((.box bp [Sv zt parts.length zn] 29) :: (.box bi [.func (.func 211) #[] #[pp bq 0]] 162) :: (.box bq [Sv zt parts.length zn] 29) :: (.box bo [pp bl 0] 234) :: (.box bl [Sv raout rnout rcout] 236) :: (.box bc [Sv racs rncs rccs] 24) :: (.box bf [.func (.func 229) #[] #[pp bp 0,pp bi 0,pp bo 0,pp bc 0,pp bf 0]] 237) :: (rr raout rnout rcout 24 1 rxout) :: (rr racs rncs rccs 2 1 (cs.map (Value.int .i64))) :: ps) ((sF false Frest arest crest rest) :: (sF false Fparts zt zn parts) :: (xN true rFout rxout out) :: Γ)) (N:Fresh W0.heap.size (rFout :: Ns)) (K0:Kept Ns Γ) (p0:i+f=parts.length) (p1:VQ parts rest) (p2:out.length≤2000) (p3:cs.length=parts.length),Calls Tryz.prog 229 #[yI i,Sv arest rest.length crest,pp bp 0,pp bi 0,pp bo 0,pp bc 0,pp bf 0] w (fun e w' =>∃ v,e=.returned v∧∃ (cs_:yLI) (raout_:yOA) (rnout_:Nat) (rcout_:Nat) (rxout_:List Value) (rFout_:yLN),(cs_.length=cs.length)∧(cs_.take i=cs.take i)∧v=Bv (dec ((gath out (begins (cs.take i) (packs parts (parts.length - i) i rest))).length≤2000))∧Fresh W0.heap.size (rFout_ :: Ns)∧St W0 w' ((.box bp [Sv zt parts.length zn] 29) :: (.box bi [.func (.func 211) #[] #[pp bq 0]] 162) :: (.box bq [Sv zt parts.length zn] 29) :: (.box bo [pp bl 0] 234) :: (.box bl [Sv raout_ rnout_ rcout_] 236) :: (.box bc [Sv racs rncs rccs] 24) :: (.box bf [.func (.func 229) #[] #[pp bp 0,pp bi 0,pp bo 0,pp bc 0,pp bf 0]] 237) :: (rr raout_ rnout_ rcout_ 24 1 rxout_) :: (rr racs rncs rccs 2 1 (cs_.map (Value.int .i64))) :: ps) ((sF false Frest arest crest rest) :: (sF false Fparts zt zn parts) :: (xN true rFout_ rxout_ (gath out (begins (cs.take i) (packs parts (parts.length - i) i rest)))) :: Γ))
theorem packFrom_ok_step (f:Nat) (IH:∀ k,k < f→packFrom_ok_S k) {W0 w:World} {ps:List Prv} {Γ:List Fact} {Ns:List yLN} (i:Nat) (rest:yLI) (parts:yLL) (out:yLL) (cs:yLI) (arest:yOA) (crest:Nat) (Frest:yLN) (zt:yOA) (zn:Nat) (Fparts:yLN) (bp:Nat) (bi:Nat) (bq:Nat) (bo:Nat) (bl:Nat) (bc:Nat) (bf:Nat) (raout:yOA) (rnout:Nat) (rcout:Nat) (rxout:List Value) (rFout:yLN) (racs:yOA) (rncs:Nat) (rccs:Nat) (H:St W0 w ((.box bp [Sv zt parts.length zn] 29) :: (.box bi [.func (.func 211) #[] #[pp bq 0]] 162) :: (.box bq [Sv zt parts.length zn] 29) :: (.box bo [pp bl 0] 234) :: (.box bl [Sv raout rnout rcout] 236) :: (.box bc [Sv racs rncs rccs] 24) :: (.box bf [.func (.func 229) #[] #[pp bp 0,pp bi 0,pp bo 0,pp bc 0,pp bf 0]] 237) :: (rr raout rnout rcout 24 1 rxout) :: (rr racs rncs rccs 2 1 (cs.map (Value.int .i64))) :: ps) ((sF false Frest arest crest rest) :: (sF false Fparts zt zn parts) :: (xN true rFout rxout out) :: Γ)) (N:Fresh W0.heap.size (rFout :: Ns)) (K0:Kept Ns Γ) (p0:i+f=parts.length) (p1:VQ parts rest) (p2:out.length≤2000) (p3:cs.length=parts.length):Calls Tryz.prog 229 #[yI i,Sv arest rest.length crest,pp bp 0,pp bi 0,pp bo 0,pp bc 0,pp bf 0] w (fun e w' =>∃ v,e=.returned v∧∃ (cs_:yLI) (raout_:yOA) (rnout_:Nat) (rcout_:Nat) (rxout_:List Value) (rFout_:yLN),(cs_.length=cs.length)∧(cs_.take i=cs.take i)∧v=Bv (dec ((gath out (begins (cs.take i) (packs parts (parts.length - i) i rest))).length≤2000))∧Fresh W0.heap.size (rFout_ :: Ns)∧St W0 w' ((.box bp [Sv zt parts.length zn] 29) :: (.box bi [.func (.func 211) #[] #[pp bq 0]] 162) :: (.box bq [Sv zt parts.length zn] 29) :: (.box bo [pp bl 0] 234) :: (.box bl [Sv raout_ rnout_ rcout_] 236) :: (.box bc [Sv racs rncs rccs] 24) :: (.box bf [.func (.func 229) #[] #[pp bp 0,pp bi 0,pp bo 0,pp bc 0,pp bf 0]] 237) :: (rr raout_ rnout_ rcout_ 24 1 rxout_) :: (rr racs rncs rccs 2 1 (cs_.map (Value.int .i64))) :: ps) ((sF false Frest arest crest rest) :: (sF false Fparts zt zn parts) :: (xN true rFout_ rxout_ (gath out (begins (cs.take i) (packs parts (parts.length - i) i rest)))) :: Γ)):=by
 refine en func229 ntmps229 ?_
 have nrest:=qV (H.get 0 rfl).1
 have nparts:=qV (H.get 1 rfl).1
 obtain rfl:=H.x8 (α:=yLI) 7 rfl 2 rfl qj
 obtain rfl:=H.yx 8 rfl
 have p4:=p1.small
 refine zcr (sp (Bv false) (zjcc (sp (yI i) (oL rfl (H.cell 0 rfl rfl) (oN rfl (sp (Bv ((i:Int) == parts.length)) (zjn (cE rfl (fun h1=>?_) (fun h1=>?_)))))))))
 ·skip
  refine zcr (oL rfl (H.cell 1 rfl rfl) (sp (Sv arest rest.length crest) (sw (vk #[Sv arest rest.length crest,pp bq 0] rfl rfl call211 (en func211 ntmps211 ?_)))))
  refine zcr (sp (Bv false) (zjc (sp (Sv arest rest.length crest) (oL rfl (H.cell 2 rfl rfl) (sw (oq (isFull_ok _ rest parts (H.get 0 rfl).1 (H.get 1 rfl).1 qg) H fun w3 H=>sp (Bv (dec (FullOk parts rest))) (zjr (ret1 (Bv (dec (FullOk parts rest))) rfl rfl ⟨_,rfl,(sps [Bv (!(dec (FullOk parts rest))),Bv (!(dec (FullOk parts rest)))] ?_)⟩))))))))
  cases h5:(!(dec (FullOk parts rest)))
  ·skip
   replace h5:=xG h5
   replace h5:=Qq h5
   refine qR 19 rfl rfl (oL rfl (H.cell 3 rfl rfl) (qR 19 rfl rfl (oL rfl (H.cell 5 rfl rfl) (qR 19 rfl rfl (sw (vk #[pp bl 0,Sv racs cs.length rccs] rfl rfl call230 (en func230 ntmps230 ?_)))))))
   refine zcr (sp (Bv false) (zjcc (sps [pp bl 0,pp bl 0] (oF rfl (oL rfl (H.cell 4 rfl rfl) (oN rfl (sp (Bv (decide ((out.length:Int) > 2000))) (zjn (cD rfl (fun h6=>?_) (fun h6=>?_))))))))))
   ·skip
    refine zcr (sp (Bv false) (zjr (t_r (ret1 (Bv false) rfl rfl ⟨_,rfl,(sps [Bv false,Bv false] (zjr (t_r (ret1 (Bv false) rfl rfl ⟨_,rfl,?_⟩))))⟩))))
    exfalso;omega
   refine xk (t_n (zf ?_))
   refine c_cut (fun ρ w12=>∃ (xY:Env) (a7:yOA) (c8:Nat) (a9:yOA) (c10:Nat) (G11:yLN),ρ=upd xY 0 (pp bl 0)∧Fresh W0.heap.size ((rFout++G11) :: Ns)∧St W0 w12 ((.box bp [Sv zt parts.length zn] 29) :: (.box bi [.func (.func 211) #[] #[pp bq 0]] 162) :: (.box bq [Sv zt parts.length zn] 29) :: (.box bo [pp bl 0] 234) :: (.box bl [Sv a7 (out.length+1) c8] 236) :: (.box bc [Sv racs cs.length rccs] 24) :: (.box bf [.func (.func 229) #[] #[pp bp 0,pp bi 0,pp bo 0,pp bc 0,pp bf 0]] 237) :: (rr a7 (out.length+1) c8 24 1 (rxout++[Sv a9 cs.length c10])) :: (rr racs cs.length rccs 2 1 (cs.map (Value.int .i64))) :: ps) ((xN true (rFout++G11) (rxout++[Sv a9 cs.length c10]) (out++[cs])) :: (sF true G11 a9 c10 cs) :: (sF false Frest arest crest rest) :: (sF false Fparts zt zn parts) :: Γ)) ?_ ?_
   ·skip
    refine VV rfl H [0,1,2,3,5,6,8] [0,1,2] fun H=>?_
    have S:=H.yj [0,1,2,3,5,6,8] [0,1,2]
    refine rtp 0 (pp bl 0) S ?_
    refine rtp 1 (pp bl 0) S ?_
    refine rtp 2 (pp bl 0) S ?_
    refine tF 3 rfl rfl S ?_
    refine rtp 5 (Sv racs cs.length rccs) S ?_
    refine jb [4,6] qh qm (jQ rfl ?_ (jQ rfl ?_ jd))
    ·skip
     refine zF (Sv raout out.length rcout) isAgg29 rfl (H.cell 4 rfl rfl) (⟨H.pick [0,1,2,3,5,6,8] [0,1,2],(ro 6 rfl ?_)⟩)
     obtain ⟨G14,hn15,h16⟩:=H.QW 8 rfl
     have sz17:=H.base.size
     have lt18:=all_two (H.ltN (L:=[rFout]) [2]) (H.ltK (K0.behind 3 rfl))
     refine oc (cloneI_ok _ cs h16 qg) ?_
     rintro v22 w20 r22 x21
     replace H:=H.zB x21 r22
     obtain ⟨a23,c24,rfl,hc25,hm26⟩:=H.jG 0 rfl
     refine ⟨H.pick [1,2,3,4,6,7,9] [0,1,2],(ro 7 rfl (zy H underlying29 ti24 [Sv a23 cs.length c24] fun b27 w28 H=>⟨H.pick [2,3,4,5,7,8,10] [0,1,2],(ro 8 rfl ?_)⟩))⟩
     obtain ⟨G32,N,hn33,H⟩:=H.zT 1 rfl N (fun F hF b hb=>(List.mem_append.1 (show F∈[rFout]++Ns from hF)).elim (fun h=>(H.jR (L:=[rFout]) [2]) F h b hb) fun h=>H.VC (K0.behind 3 rfl) F h b hb)
     try dsimp only [List.set] at H
     refine zC H 9 rfl 0 rfl underlying29 ti24 rfl qj rfl rfl rfl qw qp qf fun a29 c30 w31 H=>?_
     try dsimp only [List.set] at H
     replace H:=H.yt 3 rfl 0 rfl
     replace N:Fresh W0.heap.size ((rFout++G32) :: Ns):=(N.jg 2 [1,0] qo).join
     refine ⟨H.pick [2,3,4,5,7,8,10] [2,3,4],?_⟩
     have S:=H.yj [2,3,4,5,7,8,10] [2,3,4]
     refine rtp 9 (pp bl 0) S ?_
     refine tF 10 rfl rfl S ?_
     refine ro 11 rfl (zh H 6 [Sv a29 (out.length+1) c30] sizeOf29 fun w34 H=>?_)
     try dsimp only [List.set] at H
     refine ⟨H.pick [2,3,4,5,7,8,10] [2,3,4],(xJ qh ((meet ⟨_,a29,c30,a23,c24,G32,uE1,N,H.jg 11 5 [2,3,4,5,6,7,8,9,10] [0,1,2,3] qo qo⟩)))⟩
    obtain ⟨G35,hn36,h37⟩:=H.QW 8 rfl
    have sz38:=H.base.size
    have lt39:=all_two (H.ltN (L:=[rFout]) [2]) (H.ltK (K0.behind 3 rfl))
    refine oc (cloneI_ok _ cs h37 qg) ?_
    rintro v43 w41 r43 x42
    replace H:=H.zB x42 r43
    obtain ⟨a44,c45,rfl,hc46,hm47⟩:=H.jG 0 rfl
    refine ⟨H.pick [1,2,3,4,6,7,9] [0,1,2],(jb [4,7] qh qm (jQ rfl ?_ (jQ rfl ?_ jd)))⟩
    ·skip
     refine zF (Sv raout out.length rcout) isAgg29 rfl (H.cell 5 rfl rfl) (⟨H.pick [1,2,3,4,6,7,9] [0,1,2],(ro 7 rfl (zy H underlying29 ti24 [Sv a44 cs.length c45] fun b48 w49 H=>⟨H.pick [2,3,4,5,7,8,10] [0,1,2],(ro 8 rfl ?_)⟩))⟩)
     obtain ⟨G53,N,hn54,H⟩:=H.zT 1 rfl N (fun F hF b hb=>(List.mem_append.1 (show F∈[rFout]++Ns from hF)).elim (fun h=>(H.jR (L:=[rFout]) [2]) F h b hb) fun h=>H.VC (K0.behind 3 rfl) F h b hb)
     try dsimp only [List.set] at H
     refine zC H 9 rfl 0 rfl underlying29 ti24 rfl qj rfl rfl rfl qw qp qf fun a50 c51 w52 H=>?_
     try dsimp only [List.set] at H
     replace H:=H.yt 3 rfl 0 rfl
     replace N:Fresh W0.heap.size ((rFout++G53) :: Ns):=(N.jg 2 [1,0] qo).join
     refine ⟨H.pick [2,3,4,5,7,8,10] [2,3,4],?_⟩
     have S:=H.yj [2,3,4,5,7,8,10] [2,3,4]
     refine rtp 9 (pp bl 0) S ?_
     refine tF 10 rfl rfl S ?_
     refine ro 11 rfl (zh H 6 [Sv a50 (out.length+1) c51] sizeOf29 fun w55 H=>?_)
     try dsimp only [List.set] at H
     refine ⟨H.pick [2,3,4,5,7,8,10] [2,3,4],(xJ qh ((meet ⟨_,a50,c51,a44,c45,G53,uE1,N,H.jg 11 5 [2,3,4,5,6,7,8,9,10] [0,1,2,3] qo qo⟩)))⟩
    refine zy H underlying29 ti24 [Sv a44 cs.length c45] fun b56 w57 H=>⟨H.pick [2,3,4,5,7,8,10] [0,1,2],(ro 4 rfl (zF (Sv raout out.length rcout) isAgg29 rfl (H.cell 6 rfl rfl) (⟨H.pick [2,3,4,5,7,8,10] [0,1,2],(ro 8 rfl ?_)⟩)))⟩
    obtain ⟨G61,N,hn62,H⟩:=H.zT 1 rfl N (fun F hF b hb=>(List.mem_append.1 (show F∈[rFout]++Ns from hF)).elim (fun h=>(H.jR (L:=[rFout]) [2]) F h b hb) fun h=>H.VC (K0.behind 3 rfl) F h b hb)
    try dsimp only [List.set] at H
    refine zC H 9 rfl 0 rfl underlying29 ti24 rfl qj rfl rfl rfl qw qp qf fun a58 c59 w60 H=>?_
    try dsimp only [List.set] at H
    replace H:=H.yt 3 rfl 0 rfl
    replace N:Fresh W0.heap.size ((rFout++G61) :: Ns):=(N.jg 2 [1,0] qo).join
    refine ⟨H.pick [2,3,4,5,7,8,10] [2,3,4],?_⟩
    have S:=H.yj [2,3,4,5,7,8,10] [2,3,4]
    refine rtp 9 (pp bl 0) S ?_
    refine tF 10 rfl rfl S ?_
    refine ro 11 rfl (zh H 6 [Sv a58 (out.length+1) c59] sizeOf29 fun w63 H=>?_)
    try dsimp only [List.set] at H
    refine ⟨H.pick [2,3,4,5,7,8,10] [2,3,4],(xJ qh ((meet ⟨_,a58,c59,a44,c45,G61,uE1,N,H.jg 11 5 [2,3,4,5,6,7,8,9,10] [0,1,2,3] qo qo⟩)))⟩
   clear H N
   rintro ρ w64 ⟨xY,a7,c8,a9,c10,G11,rfl,N,H⟩
   refine t_n (zcr (sps [pp bl 0,pp bl 0] (oF rfl (oL rfl (H.cell 4 rfl rfl) (oN rfl (sps [Bv (decide ((out.length+1:Int)≤2000)),Bv (decide ((out.length+1:Int)≤2000))] (zjr (ret1 (Bv (decide ((out.length+1:Int)≤2000))) rfl rfl ⟨_,rfl,(sps [Bv (decide ((out.length+1:Int)≤2000)),Bv (decide ((out.length+1:Int)≤2000))] (zjr (t_r (ret1 (Bv (decide ((out.length+1:Int)≤2000))) rfl rfl ⟨_,rfl,?_⟩))))⟩))))))))
   rw [pack_fullI qf p3 ‹FullOk _ _› p2,show decide ((out.length+1:Int)≤2000)=dec ((out++[cs]).length≤2000) from dec_eq qy]
   exact ⟨cs,a7,out.length+1,c8,rxout++[Value.slice a9 cs.length c10],(rFout++G11),(by first | rfl | omega | (have:=‹_=(List.set _ _ _).length›;rw [List.length_set] at this;omega)),(by first | rfl | assumption | exact pack_keep ‹_› j2),rfl,N,H.jg 9 4 [0,1,2,3,4,5,6,7,8] [2,3,0] qo qo⟩
  replace h5:=xM h5
  replace h5:=ve h5
  refine xW [20,21,22] (sps [Bv true,Bv true] (zjr (t_r (ret1 (Bv true) rfl rfl ⟨_,rfl,?_⟩))))
  rw [pack_noneI qf ‹_› p2,yh p2]
  exact ⟨cs,raout,out.length,rcout,rxout,rFout,(by first | rfl | omega | (have:=‹_=(List.set _ _ _).length›;rw [List.length_set] at this;omega)),(by first | rfl | assumption | exact pack_keep ‹_› j2),rfl,N,H.jg 9 3 [0,1,2,3,4,5,6,7,8] [0,1,2] qo qo⟩
 refine xk (t_n (zcc (sp (yI 0) (zjn (xg ?_)))))
 obtain ⟨t1,t2,t3,t4,t5,t6⟩:=p1.times (k:=i) qf
 refine zJ (fun m' ρ w65=>∃ (xY:Env) (n:Nat) (a_out_lists:yOA) (n_out_lists:Nat) (c_out_lists:Nat) (out_lists:yLL) (x_out_lists:List Value) (XU:yLN) (cs_1:yLI),ρ=upd (upd (upd (upd (upd (upd xY 0 (yI i)) 1 (Sv arest rest.length crest)) 2 (pp bp 0)) 5 (pp bc 0)) 6 (pp bf 0)) 10 (yI n)∧out_lists=(gath out (begins (cs.take i) (yB parts (f - 1) i rest n)))∧((n:Int)≤jF (parts[i]!) rest+1)∧(cs_1.length=parts.length)∧(cs_1.take i=cs.take i)∧((gath out (begins (cs.take i) (yB parts (f - 1) i rest n))).length≤2000)∧m' =(jF (parts[i]!) rest+1 - (n:Int)).toNat∧Fresh W0.heap.size (XU :: Ns)∧St W0 w65 ((.box bp [Sv zt parts.length zn] 29) :: (.box bi [.func (.func 211) #[] #[pp bq 0]] 162) :: (.box bq [Sv zt parts.length zn] 29) :: (.box bo [pp bl 0] 234) :: (.box bl [Sv a_out_lists n_out_lists c_out_lists] 236) :: (.box bc [Sv racs cs.length rccs] 24) :: (.box bf [.func (.func 229) #[] #[pp bp 0,pp bi 0,pp bo 0,pp bc 0,pp bf 0]] 237) :: (rr a_out_lists n_out_lists c_out_lists 24 1 x_out_lists) :: (rr racs cs.length rccs 2 1 (cs_1.map (Value.int .i64))) :: ps) ((sF false Frest arest crest rest) :: (sF false Fparts zt zn parts) :: (xN true XU x_out_lists out_lists) :: Γ)) ((jF (parts[i]!) rest+1 - (0:Int)).toNat) ⟨_,0,raout,out.length,rcout,out,rxout,rFout,cs,uE6,(by exact pack_startI p2),qf,ql,(by rfl),(by rw [← pack_startI p2];exact p2),rfl,N,H⟩ ?_
 clear H N
 rintro m' ρ w66 ⟨xY,n,a_out_lists,n_out_lists,c_out_lists,out_lists,x_out_lists,XU,cs_1,rfl,rfl,i0,j1,j2,j3,rfl,N,H⟩
 have hn_out_lists:=H.x8 (α:=yLI) 7 rfl 2 rfl qj
 have hn_cs:=H.yx 8 rfl
 refine zcc (sp (yI n) (oL rfl (H.cell 0 rfl rfl) (sp (yI i) ?_)))
 obtain ⟨b67,o68,rfl⟩:=H.addr 1 rfl qf
 obtain ⟨ae70,ce70,Fe70,H⟩:=H.jq 1 rfl i i qf qf qf
 refine oI rfl rfl (oL rfl (H.x9 1 rfl 0 rfl) (sp (Sv arest rest.length crest) ?_))
 obtain ⟨t1,t2,t3,t4,t5,t6⟩:=p1.times (k:=i) qf
 refine sw (oq (timesIn_ok _ (parts[i]!) rest (H.get 0 rfl).1 (H.get 2 rfl).1 qg qg) H fun w72 H=>sp (Bv (decide ((n:Int)≤(jF (parts[i]!) rest)))) (zjn (cD rfl (fun h74=>?_) (fun h74=>?_))))
 ·skip
  refine xk (t_n (zf (xg (zcr (oL rfl (H.cell 5 rfl rfl) (sps [yI i,yI n] ?_))))))
  obtain ⟨b75,rfl⟩:=H.Qe 8 rfl qf
  refine oI rfl rfl (sw (X0 H 8 rfl n sizeOf2 rfl rfl (i:=i) qf qf fun w76 H=>?_))
  try dsimp only [List.set] at H
  refine zjn (zf ?_)
  refine VV rfl H [0,1,2,3,5,6] [0,1,2,3] fun H=>?_
  have S:=H.yj [0,1,2,3,5,6] [0,1,2,3]
  refine tL 0 rfl rfl (fun _ h=>h.cell 5 rfl rfl) S ?_
  refine rtp 1 (yI i) S ?_
  refine rt 2 (yI (i+1)) (y_add i 1 rfl rfl qf) S ?_
  refine rtp 3 (Sv arest rest.length crest) S ?_
  refine tL 4 rfl rfl (fun _ h=>h.cell 0 rfl rfl) S ?_
  refine rtp 5 (yI i) S ?_
  refine tI 6 rfl rfl rfl S ?_
  refine tL 7 rfl rfl (fun _ h=>h.x9 1 rfl 0 rfl) S ?_
  refine rtp 8 (yI n) S ?_
  refine rt 9 (yI (-n)) (y_neg n rfl qf) S ?_
  refine ro 10 rfl ?_
  obtain ⟨u1,u2,u3,u4⟩:=p1.plus (k:=i) qf (n:=(n:Int)) qf qf
  have sz78:=H.base.size
  have lt79:=all_two (H.ltN (L:=[XU]) [4]) (H.ltK (K0.behind 5 rfl))
  refine oc (V4 _ rest (parts[i]!) (-n) (H.get 2 rfl).1 (H.get 0 rfl).1 qg qg qg) ?_
  rintro v83 w81 r83 x82
  replace H:=H.zB x82 r83
  obtain ⟨a84,c85,rfl,hc86,hm87⟩:=H.jG 0 rfl
  refine ⟨H.pick [1,2,3,4,6,7] [0,1,2,3],(ro 11 rfl ?_)⟩
  obtain ⟨G88,N,hn89,H⟩:=H.zT 0 rfl N (fun F hF b hb=>(List.mem_append.1 (show F∈[XU]++Ns from hF)).elim (fun h=>(H.jR (L:=[XU]) [4]) F h b hb) fun h=>H.VC (K0.behind 5 rfl) F h b hb)
  try dsimp only [List.set] at H
  replace H:=H.unfreeI 0 rfl
  have H1:=H.QC 10 7 [1,2,3,4,5,6,7,8,9,0] [0,5,6,0,1,2,3,4] qo qo
  have N1:Fresh _ (XU :: G88 :: Ns):=(N.jg 2 [1,0] qo)
  have K1:Kept (Ns) ((sF false G88 a84 c85 (vZ rest (parts[i]!) (-n))) :: (sF true G88 a84 c85 (vZ rest (parts[i]!) (-n))) :: (sF false Fe70 ae70 ce70 (parts[i]!)) :: (atF b67 (o68+(i:Int).toNat * 1) [Sv ae70 ((parts[i]!).length) ce70]) :: (sF false Frest arest crest rest) :: Γ):=K0.behind 5 rfl
  replace K1:=K1.cons (F:=G88) 0 rfl rfl
  refine vK #[yI (i+1),Sv a84 ((vZ rest (parts[i]!) (-n)).length) c85,pp bp 0,pp bi 0,pp bo 0,pp bc 0,pp bf 0] rfl rfl call229 (IH (f - 1) qf (i+1) (vZ rest (parts[i]!) (-n)) parts (gath out (begins (cs.take i) (yB parts (f - 1) i rest n))) (cs_1.set i n) a84 c85 G88 (aa b67 o68) zn Fparts bp bi bq bo bl bc bf a_out_lists n_out_lists c_out_lists x_out_lists XU (aa b75 0) cs.length rccs H1 N1 K1 qf (by first | assumption | exact u4) (by first | assumption | exact j3 | (simp;done)) (by first | assumption | (rw [List.length_set];exact j1) | (simp;done))) ?_
  clear H H1 N1 K1
  rintro _ w90 ⟨zl94,ra95,rn96,rc97,rx98,rF99,hx92,hx93,rfl,N,H⟩
  obtain rfl:=H.x8 (α:=yLI) 7 rfl 2 rfl qj
  refine ⟨H.pick [0,1,2,3,5,6] [5,6,7,1],(rtp 12 (Bv (!(dec ((gath (gath out (begins (cs.take i) (yB parts (f - 1) i rest n))) (begins ((cs_1.set i n).take (i+1)) (packs parts (parts.length - (i+1)) (i+1) (vZ rest (parts[i]!) (-n))))).length≤2000)))) (H.pick [0,1,2,3,5,6] [5,6,7,1]) ?_)⟩
  refine xJ qh (t_n (cQ rfl (fun h100=>?_) (fun h100=>?_)))
  ·skip
   refine zcr (sp (Bv false) (zjr (zr5 (ret1 (Bv false) rfl rfl ⟨_,rfl,?_⟩))))
   have e1:=pack_stepI (out:=out) p0 qf j1 j2 j3
   have e2:=‹¬ (gath (gath _ _) _).length≤2000›
   rw [e1] at e2
   rw [pack_endI (n:=n+1) p0 qf qf qf (.inr e2),← e1,xy (by rw [e1];exact e2)]
   exact ⟨zl94,ra95,(gath (gath out (begins (cs.take i) (yB parts (f - 1) i rest n))) (begins ((cs_1.set i n).take (i+1)) (packs parts (parts.length - (i+1)) (i+1) (vZ rest (parts[i]!) (-n))))).length,rc97,rx98,rF99,(by first | rfl | omega | (have:=‹_=(List.set _ _ _).length›;rw [List.length_set] at this;omega)),(by first | rfl | assumption | exact pack_keep ‹_› j2),rfl,(N.jg 2 [0] qo),H.jg 10 8 [0,1,2,3,4,5,6,7,8] [7,1,2] qo qo⟩
  refine xk (b_n (t_n (zg (sp (yI n) (sw (zL n 1 rfl rfl qf (sp (yI (n+1)) (zi ?_))))))))
  refine xq (m' :=(jF (parts[i]!) rest+1 - ((n+1):Int)).toNat) qf ⟨_,n+1,ra95,(gath (gath out (begins (cs.take i) (yB parts (f - 1) i rest n))) (begins ((cs_1.set i n).take (i+1)) (packs parts (parts.length - (i+1)) (i+1) (vZ rest (parts[i]!) (-n))))).length,rc97,(gath (gath out (begins (cs.take i) (yB parts (f - 1) i rest n))) (begins ((cs_1.set i n).take (i+1)) (packs parts (parts.length - (i+1)) (i+1) (vZ rest (parts[i]!) (-n))))),rx98,rF99,zl94,uE6,?_,?_,?_,?_,?_,rfl,(N.jg 2 [0] qo),H.jg 10 8 [0,1,2,3,4,5,6,7,8] [7,1,2] qo qo⟩
  · exact pack_stepI p0 qf j1 j2 j3
  · omega
  · have:=‹_=(List.set _ _ _).length›;rw [List.length_set] at this;omega
  · exact pack_keep ‹_› j2
  · rw [← pack_stepI p0 qf j1 j2 j3];assumption
 refine zx4 (zcr (sp (Bv true) (zjr (ret1 (Bv true) rfl rfl ⟨_,rfl,?_⟩))))
 rw [pack_endI (f:=f) (n:=n) p0 qf i0 qf (.inl qf),yh j3]
 exact ⟨cs_1,a_out_lists,n_out_lists,c_out_lists,x_out_lists,XU,(by first | rfl | omega | (have:=‹_=(List.set _ _ _).length›;rw [List.length_set] at this;omega)),(by first | rfl | assumption | exact pack_keep ‹_› j2),rfl,N,H.jg 9 5 [0,1,2,3,4,5,6,7,8] [2,3,4] qo qo⟩

theorem packFrom_ok (f:Nat):packFrom_ok_S f:=Nat.strongRecOn (motive:=packFrom_ok_S) f fun f IH=>by unfold packFrom_ok_S;intros;apply packFrom_ok_step f IH <;> assumption

theorem maxPack_ok (w:World) (b:yLI) (parts:yLL) {ab:yOA} {Fb:yLN} {zt:yOA} {zn:Nat} {Fparts:yLN} (hb:qX.rep w Fb [Sv ab b.length cb] b) (hparts:qX.rep w Fparts [Sv zt parts.length zn] parts) (p0:VQ parts b) (p1:1≤parts.length):Calls Tryz.prog 189 #[Sv ab b.length cb,Sv zt parts.length zn] w (Ret (fun v w' =>∃ (ra0:yOA) (rn0:Nat) (rc0:Nat) (rx0:List Value) (rF0:yLN),v=.tuple #[Sv ra0 rn0 rc0,yI ((zk b parts).2)]∧Fresh w.heap.size [rF0]∧St w w' [rr ra0 rn0 rc0 24 1 rx0] [xN true rF0 rx0 ((zk b parts).1)]) w):=by
 refine en func189 ntmps189 ?_
 have H:=((St.start w).arg hparts).arg hb
 have nhb:=qV hb
 have nhparts:=qV hparts
 clear hb hparts
 have N:=Fresh.nil w.heap.size
 have p3:=p0.small
 have p4:=p0.smallB
 refine zcr (sw (zW H [Sv zt parts.length zn] fun b1 w2 H=>sps [yN,yI 0] (zjc (sp (Sv ab b.length cb) (oL rfl (H.cell 0 rfl rfl) (sp (.func (.func 211) #[] #[pp b1 0]) (sw (vk #[Sv ab b.length cb,Sv zt parts.length zn,.func (.func 211) #[] #[pp b1 0]] rfl rfl call210 (en func210 ntmps210 ?_)))))))))
 refine zcr (sw (zW H [Sv zt parts.length zn] fun b3 w4 H=>sw (zW H [.func (.func 211) #[] #[pp b1 0]] fun b5 w6 H=>sps [yN,yI 0] (zjcc (sp (Sv ab b.length cb) (oL rfl (H.cell 1 rfl rfl) (sw (oq (bagAndParts_ok _ b parts (H.get 0 rfl).1 (H.get 1 rfl).1 qg qg) H fun w8 H=>sp (yI 0) (zjc (sps [yI 0,Bv false] (zjn (xK false rfl (fun h=>absurd h qj) (fun _=>xk (t_n (zcc (sp (Sv ab b.length cb) ?_))))))))))))))))
 refine sw (oq (X6 _ b (H.get 0 rfl).1 (by first | assumption | exact vz ql | exact Qa ql)) H fun w10 H=>sp (Bv (decide ((Xh b:Int) > 16))) (zjn (cD rfl (fun h12=>?_) (fun h12=>?_))))
 ·skip
  refine zcr (sps [yN,yI 3] (zjr (t_r (ret2 yN (yI 3) rfl rfl rfl ⟨_,rfl,?_⟩))))
  replace H:=H.erases [1,0]
  dsimp only [vM,List.eraseIdx] at H
  refine sps [yN,yI 3,yN,yI 3] (zjr ?_)
  replace H:=H.nilRow 24 1
  replace H:=H.vT (α:=yLI)
  refine ret2 yN (yI 3) rfl rfl rfl ⟨_,rfl,?_,H.base⟩
  first | rw [all_a ql] | rw [all_bI (cs:=(List.replicate parts.length (0:Int))) ql qf]
  exact ⟨none,0,0,[],[],rfl,N.emp,H.pick [0] [0]⟩
 refine xk (t_n (zf ?_))
 refine c_cut (fun ρ w17=>∃ (xY:Env) (b13:Nat) (b14:Nat) (b15:Nat) (b16:Nat),ρ=upd (upd (upd (upd (upd xY 0 (Sv ab b.length cb)) 4 (pp b3 0)) 5 (pp b5 0)) 9 (pp b13 0)) 10 (pp b14 0)∧Fresh w.heap.size []∧St w w17 [.box b14 [Sv (aa b15 0) parts.length parts.length] 24,.box b13 [pp b16 0] 234,rr (aa b15 0) parts.length parts.length 2 1 ((List.replicate parts.length (0:Int)).map (Value.int .i64)),.box b16 [yN] 236,.box b5 [.func (.func 211) #[] #[pp b1 0]] 162,.box b3 [Sv zt parts.length zn] 29,.box b1 [Sv zt parts.length zn] 29] [sF false Fb ab cb b,sF false Fparts zt zn parts]) ?_ ?_
 ·skip
  refine yl rfl H fun H=>?_
  refine Xi (fun ρ w23=>∃ (xY:Env) (b19:Nat) (b20:Nat) (b21:Nat),ρ=upd (upd (upd (upd (upd (upd (upd xY 0 (Sv ab b.length cb)) 4 (pp b3 0)) 5 (pp b5 0)) 9 (pp b20 0)) 10 (pp b21 0)) 22 (pp b19 0)) 24 (yI parts.length)∧Fresh w.heap.size []∧St w w23 [.box b21 [yN] 24,.box b20 [.pointer none] 234,.box b19 [yN] 236,.box b5 [.func (.func 211) #[] #[pp b1 0]] 162,.box b3 [Sv zt parts.length zn] 29,.box b1 [Sv zt parts.length zn] 29] [sF false Fb ab cb b,sF false Fparts zt zn parts]) 3 #[true,true,true,true,false,true,true,false,false] ?_ fun L22=>?_
  ·skip
   rintro ρ w24 ⟨xY,b19,b20,b21,rfl,N,H⟩
   refine jb [4,7] qh qm (jQ rfl ?_ (jQ rfl ?_ jd))
   ·skip
    refine ji H underlying24 ti2 parts.length rfl rfl qf qf qf fun b25 w26 H=>⟨H.pick [4,5,6] [0,1],(ro 7 rfl (zh H 2 [pp b19 0] sizeOf234 fun w27 H=>⟨H.pick [4,5,6] [0,1],(ro 8 rfl (zh H 1 [Sv (aa b25 0) parts.length parts.length] sizeOf24 fun w28 H=>⟨H.pick [4,5,6] [0,1],(xJ qh ((meet ⟨_,b20,b21,b25,b19,uE5,N,H.pick [1,2,0,3,4,5,6] [0,1]⟩)))⟩))⟩))⟩
   refine zh H 1 [pp b19 0] sizeOf234 fun w29 H=>⟨H.pick [3,4,5] [0,1],(ro 4 rfl (ji H underlying24 ti2 parts.length rfl rfl qf qf qf fun b30 w31 H=>⟨H.pick [4,5,6] [0,1],(ro 8 rfl (zh H 1 [Sv (aa b30 0) parts.length parts.length] sizeOf24 fun w32 H=>⟨H.pick [4,5,6] [0,1],(xJ qh ((meet ⟨_,b20,b21,b30,b19,uE5,N,H.pick [1,2,0,3,4,5,6] [0,1]⟩)))⟩))⟩))⟩
  refine Xi (fun ρ w36=>∃ (xY:Env) (b33:Nat) (b34:Nat),ρ=upd (upd (upd (upd (upd xY 0 (Sv ab b.length cb)) 4 (pp b3 0)) 5 (pp b5 0)) 22 (pp b33 0)) 25 (Sv (aa b34 0) parts.length parts.length)∧Fresh w.heap.size []∧St w w36 [rr (aa b34 0) parts.length parts.length 2 1 ((List.replicate parts.length (0:Int)).map (Value.int .i64)),.box b33 [yN] 236,.box b5 [.func (.func 211) #[] #[pp b1 0]] 162,.box b3 [Sv zt parts.length zn] 29,.box b1 [Sv zt parts.length zn] 29] [sF false Fb ab cb b,sF false Fparts zt zn parts]) 4 #[true,true,true,true,true,false,false,false,false] ?_ fun L35=>?_
  ·skip
   rintro ρ w37 ⟨xY,b33,b34,rfl,N,H⟩
   refine jb [5,6] qh qm (jQ rfl ?_ (jQ rfl ?_ jd))
   ·skip
    refine xZ H ti234 [.pointer none] fun b38 w39 H=>⟨H.pick [3,4,5] [0,1],(ro 6 rfl (xZ H ti24 [yN] fun b40 w41 H=>⟨H.pick [4,5,6] [0,1],(ro 7 rfl (zh H 1 [pp b33 0] sizeOf234 fun w42 H=>⟨H.pick [4,5,6] [0,1],(ro 8 rfl (zh H 0 [Sv (aa b34 0) parts.length parts.length] sizeOf24 fun w43 H=>⟨H.pick [4,5,6] [0,1],(xJ qh ((meet ⟨_,b38,b40,b34,b33,uE5,N,H⟩)))⟩))⟩))⟩))⟩
   refine xZ H ti24 [yN] fun b44 w45 H=>⟨H.pick [3,4,5] [0,1],(ro 5 rfl (xZ H ti234 [.pointer none] fun b46 w47 H=>⟨H.pick [4,5,6] [0,1],(ro 7 rfl (zh H 0 [pp b33 0] sizeOf234 fun w48 H=>⟨H.pick [4,5,6] [0,1],(ro 8 rfl (zh H 1 [Sv (aa b34 0) parts.length parts.length] sizeOf24 fun w49 H=>⟨H.pick [4,5,6] [0,1],(xJ qh ((meet ⟨_,b46,b44,b34,b33,uE5,N,H.pick [1,0,2,3,4,5,6] [0,1]⟩)))⟩))⟩))⟩))⟩
  refine Xi (fun ρ w53=>∃ (xY:Env) (b50:Nat) (b51:Nat),ρ=upd (upd (upd (upd (upd (upd xY 0 (Sv ab b.length cb)) 4 (pp b3 0)) 5 (pp b5 0)) 9 (pp b51 0)) 22 (pp b50 0)) 24 (yI parts.length)∧Fresh w.heap.size []∧St w w53 [.box b51 [.pointer none] 234,.box b50 [yN] 236,.box b5 [.func (.func 211) #[] #[pp b1 0]] 162,.box b3 [Sv zt parts.length zn] 29,.box b1 [Sv zt parts.length zn] 29] [sF false Fb ab cb b,sF false Fparts zt zn parts]) 4 #[true,true,true,true,false,true,false,false,false] ?_ fun L52=>?_
  ·skip
   rintro ρ w54 ⟨xY,b50,b51,rfl,N,H⟩
   refine jb [4,6] qh qm (jQ rfl ?_ (jQ rfl ?_ jd))
   ·skip
    refine ji H underlying24 ti2 parts.length rfl rfl qf qf qf fun b55 w56 H=>⟨H.pick [3,4,5] [0,1],(ro 6 rfl (xZ H ti24 [yN] fun b57 w58 H=>⟨H.pick [4,5,6] [0,1],(ro 7 rfl (zh H 2 [pp b50 0] sizeOf234 fun w59 H=>⟨H.pick [4,5,6] [0,1],(ro 8 rfl (zh H 0 [Sv (aa b55 0) parts.length parts.length] sizeOf24 fun w60 H=>⟨H.pick [4,5,6] [0,1],(xJ qh ((meet ⟨_,b51,b57,b55,b50,uE5,N,H.pick [0,2,1,3,4,5,6] [0,1]⟩)))⟩))⟩))⟩))⟩
   refine xZ H ti24 [yN] fun b61 w62 H=>⟨H.pick [3,4,5] [0,1],(y8 L22 ⟨_,b50,b51,b61,uE7,N,H⟩)⟩
  refine Xi (fun ρ w66=>∃ (xY:Env) (b63:Nat) (b64:Nat),ρ=upd (upd (upd (upd (upd (upd xY 0 (Sv ab b.length cb)) 4 (pp b3 0)) 5 (pp b5 0)) 10 (pp b64 0)) 22 (pp b63 0)) 24 (yI parts.length)∧Fresh w.heap.size []∧St w w66 [.box b64 [yN] 24,.box b63 [yN] 236,.box b5 [.func (.func 211) #[] #[pp b1 0]] 162,.box b3 [Sv zt parts.length zn] 29,.box b1 [Sv zt parts.length zn] 29] [sF false Fb ab cb b,sF false Fparts zt zn parts]) 4 #[true,true,true,true,false,false,true,false,false] ?_ fun L65=>?_
  ·skip
   rintro ρ w67 ⟨xY,b63,b64,rfl,N,H⟩
   refine jb [4,5] qh qm (jQ rfl ?_ (jQ rfl ?_ jd))
   ·skip
    refine ji H underlying24 ti2 parts.length rfl rfl qf qf qf fun b68 w69 H=>⟨H.pick [3,4,5] [0,1],(ro 5 rfl (xZ H ti234 [.pointer none] fun b70 w71 H=>⟨H.pick [4,5,6] [0,1],(ro 7 rfl (zh H 0 [pp b63 0] sizeOf234 fun w72 H=>⟨H.pick [4,5,6] [0,1],(ro 8 rfl (zh H 2 [Sv (aa b68 0) parts.length parts.length] sizeOf24 fun w73 H=>⟨H.pick [4,5,6] [0,1],(xJ qh ((meet ⟨_,b70,b64,b68,b63,uE5,N,H.pick [2,0,1,3,4,5,6] [0,1]⟩)))⟩))⟩))⟩))⟩
   refine xZ H ti234 [.pointer none] fun b74 w75 H=>⟨H.pick [3,4,5] [0,1],(y8 L22 ⟨_,b63,b74,b64,uE7,N,H.pick [1,0,2,3,4,5] [0,1]⟩)⟩
  refine Xi (fun ρ w79=>∃ (xY:Env) (b76:Nat) (b77:Nat),ρ=upd (upd (upd (upd (upd (upd xY 0 (Sv ab b.length cb)) 4 (pp b3 0)) 5 (pp b5 0)) 9 (pp b77 0)) 21 (.agg #[yN])) 25 (Sv (aa b76 0) parts.length parts.length)∧Fresh w.heap.size []∧St w w79 [.box b77 [.pointer none] 234,rr (aa b76 0) parts.length parts.length 2 1 ((List.replicate parts.length (0:Int)).map (Value.int .i64)),.box b5 [.func (.func 211) #[] #[pp b1 0]] 162,.box b3 [Sv zt parts.length zn] 29,.box b1 [Sv zt parts.length zn] 29] [sF false Fb ab cb b,sF false Fparts zt zn parts]) 4 #[true,false,true,true,true,true,false,false,false] ?_ fun L78=>?_
  ·skip
   rintro ρ w80 ⟨xY,b76,b77,rfl,N,H⟩
   refine jb [1,6] qh qm (jQ rfl ?_ (jQ rfl ?_ jd))
   ·skip
    refine zW H [yN] fun b81 w82 H=>⟨H.pick [3,4,5] [0,1],(ro 6 rfl (xZ H ti24 [yN] fun b83 w84 H=>⟨H.pick [4,5,6] [0,1],(ro 7 rfl (zh H 2 [pp b81 0] sizeOf234 fun w85 H=>⟨H.pick [4,5,6] [0,1],(ro 8 rfl (zh H 0 [Sv (aa b76 0) parts.length parts.length] sizeOf24 fun w86 H=>⟨H.pick [4,5,6] [0,1],(xJ qh ((meet ⟨_,b77,b83,b76,b81,uE5,N,H.pick [0,2,3,1,4,5,6] [0,1]⟩)))⟩))⟩))⟩))⟩
   refine xZ H ti24 [yN] fun b87 w88 H=>⟨H.pick [3,4,5] [0,1],(ro 1 rfl (zW H [yN] fun b89 w90 H=>⟨H.pick [4,5,6] [0,1],(ro 7 rfl (zh H 2 [pp b89 0] sizeOf234 fun w91 H=>⟨H.pick [4,5,6] [0,1],(ro 8 rfl (zh H 1 [Sv (aa b76 0) parts.length parts.length] sizeOf24 fun w92 H=>⟨H.pick [4,5,6] [0,1],(xJ qh ((meet ⟨_,b77,b87,b76,b89,uE5,N,H.pick [1,2,3,0,4,5,6] [0,1]⟩)))⟩))⟩))⟩))⟩
  refine Xi (fun ρ w96=>∃ (xY:Env) (b93:Nat) (b94:Nat),ρ=upd (upd (upd (upd (upd (upd xY 0 (Sv ab b.length cb)) 4 (pp b3 0)) 5 (pp b5 0)) 10 (pp b94 0)) 21 (.agg #[yN])) 25 (Sv (aa b93 0) parts.length parts.length)∧Fresh w.heap.size []∧St w w96 [.box b94 [yN] 24,rr (aa b93 0) parts.length parts.length 2 1 ((List.replicate parts.length (0:Int)).map (Value.int .i64)),.box b5 [.func (.func 211) #[] #[pp b1 0]] 162,.box b3 [Sv zt parts.length zn] 29,.box b1 [Sv zt parts.length zn] 29] [sF false Fb ab cb b,sF false Fparts zt zn parts]) 4 #[true,false,true,true,true,false,true,false,false] ?_ fun L95=>?_
  ·skip
   rintro ρ w97 ⟨xY,b93,b94,rfl,N,H⟩
   refine jb [1,5] qh qm (jQ rfl ?_ (jQ rfl ?_ jd))
   ·skip
    refine zW H [yN] fun b98 w99 H=>⟨H.pick [3,4,5] [0,1],(ro 5 rfl (xZ H ti234 [.pointer none] fun b100 w101 H=>⟨H.pick [4,5,6] [0,1],(ro 7 rfl (zh H 0 [pp b98 0] sizeOf234 fun w102 H=>⟨H.pick [4,5,6] [0,1],(ro 8 rfl (zh H 2 [Sv (aa b93 0) parts.length parts.length] sizeOf24 fun w103 H=>⟨H.pick [4,5,6] [0,1],(xJ qh ((meet ⟨_,b100,b94,b93,b98,uE5,N,H.pick [2,0,3,1,4,5,6] [0,1]⟩)))⟩))⟩))⟩))⟩
   refine xZ H ti234 [.pointer none] fun b104 w105 H=>⟨H.pick [3,4,5] [0,1],(ro 1 rfl (zW H [yN] fun b106 w107 H=>⟨H.pick [4,5,6] [0,1],(ro 7 rfl (zh H 1 [pp b106 0] sizeOf234 fun w108 H=>⟨H.pick [4,5,6] [0,1],(ro 8 rfl (zh H 2 [Sv (aa b93 0) parts.length parts.length] sizeOf24 fun w109 H=>⟨H.pick [4,5,6] [0,1],(xJ qh ((meet ⟨_,b104,b94,b93,b106,uE5,N,H.pick [2,1,3,0,4,5,6] [0,1]⟩)))⟩))⟩))⟩))⟩
  refine Xi (fun ρ w113=>∃ (xY:Env) (b110:Nat) (b111:Nat),ρ=upd (upd (upd (upd (upd (upd (upd xY 0 (Sv ab b.length cb)) 4 (pp b3 0)) 5 (pp b5 0)) 9 (pp b110 0)) 10 (pp b111 0)) 21 (.agg #[yN])) 24 (yI parts.length)∧Fresh w.heap.size []∧St w w113 [.box b111 [yN] 24,.box b110 [.pointer none] 234,.box b5 [.func (.func 211) #[] #[pp b1 0]] 162,.box b3 [Sv zt parts.length zn] 29,.box b1 [Sv zt parts.length zn] 29] [sF false Fb ab cb b,sF false Fparts zt zn parts]) 4 #[true,false,true,true,false,true,true,false,false] ?_ fun L112=>?_
  ·skip
   rintro ρ w114 ⟨xY,b110,b111,rfl,N,H⟩
   refine jb [1,4] qh qm (jQ rfl ?_ (jQ rfl ?_ jd))
   ·skip
    refine zW H [yN] fun b115 w116 H=>⟨H.pick [3,4,5] [0,1],(y8 L22 ⟨_,b115,b110,b111,uE7,N,H.pick [1,2,0,3,4,5] [0,1]⟩)⟩
   refine ji H underlying24 ti2 parts.length rfl rfl qf qf qf fun b117 w118 H=>⟨H.pick [3,4,5] [0,1],(ro 1 rfl (zW H [yN] fun b119 w120 H=>⟨H.pick [4,5,6] [0,1],(ro 7 rfl (zh H 3 [pp b119 0] sizeOf234 fun w121 H=>⟨H.pick [4,5,6] [0,1],(ro 8 rfl (zh H 2 [Sv (aa b117 0) parts.length parts.length] sizeOf24 fun w122 H=>⟨H.pick [4,5,6] [0,1],(xJ qh ((meet ⟨_,b110,b111,b117,b119,uE5,N,H.pick [2,3,1,0,4,5,6] [0,1]⟩)))⟩))⟩))⟩))⟩
  refine Xi (fun ρ w125=>∃ (xY:Env) (b123:Nat),ρ=upd (upd (upd (upd (upd xY 0 (Sv ab b.length cb)) 4 (pp b3 0)) 5 (pp b5 0)) 21 (.agg #[yN])) 25 (Sv (aa b123 0) parts.length parts.length)∧Fresh w.heap.size []∧St w w125 [rr (aa b123 0) parts.length parts.length 2 1 ((List.replicate parts.length (0:Int)).map (Value.int .i64)),.box b5 [.func (.func 211) #[] #[pp b1 0]] 162,.box b3 [Sv zt parts.length zn] 29,.box b1 [Sv zt parts.length zn] 29] [sF false Fb ab cb b,sF false Fparts zt zn parts]) 5 #[true,false,true,true,true,false,false,false,false] ?_ fun L124=>?_
  ·skip
   rintro ρ w126 ⟨xY,b123,rfl,N,H⟩
   refine jb [1,5,6] qh qm (jQ rfl ?_ (jQ rfl ?_ (jQ rfl ?_ jd)))
   ·skip
    refine zW H [yN] fun b127 w128 H=>⟨H.pick [2,3,4] [0,1],(y8 L35 ⟨_,b127,b123,uE5,N,H.pick [1,0,2,3,4] [0,1]⟩)⟩
   ·skip
    refine xZ H ti234 [.pointer none] fun b129 w130 H=>⟨H.pick [2,3,4] [0,1],(y8 L78 ⟨_,b123,b129,uE6,N,H⟩)⟩
   refine xZ H ti24 [yN] fun b131 w132 H=>⟨H.pick [2,3,4] [0,1],(y8 L95 ⟨_,b123,b131,uE6,N,H⟩)⟩
  refine Xi (fun ρ w135=>∃ (xY:Env) (b133:Nat),ρ=upd (upd (upd (upd (upd (upd xY 0 (Sv ab b.length cb)) 4 (pp b3 0)) 5 (pp b5 0)) 9 (pp b133 0)) 21 (.agg #[yN])) 24 (yI parts.length)∧Fresh w.heap.size []∧St w w135 [.box b133 [.pointer none] 234,.box b5 [.func (.func 211) #[] #[pp b1 0]] 162,.box b3 [Sv zt parts.length zn] 29,.box b1 [Sv zt parts.length zn] 29] [sF false Fb ab cb b,sF false Fparts zt zn parts]) 5 #[true,false,true,true,false,true,false,false,false] ?_ fun L134=>?_
  ·skip
   rintro ρ w136 ⟨xY,b133,rfl,N,H⟩
   refine jb [1,4,6] qh qm (jQ rfl ?_ (jQ rfl ?_ (jQ rfl ?_ jd)))
   ·skip
    refine zW H [yN] fun b137 w138 H=>⟨H.pick [2,3,4] [0,1],(y8 L52 ⟨_,b137,b133,uE6,N,H.pick [1,0,2,3,4] [0,1]⟩)⟩
   ·skip
    refine ji H underlying24 ti2 parts.length rfl rfl qf qf qf fun b139 w140 H=>⟨H.pick [2,3,4] [0,1],(y8 L78 ⟨_,b139,b133,uE6,N,H.pick [1,0,2,3,4] [0,1]⟩)⟩
   refine xZ H ti24 [yN] fun b141 w142 H=>⟨H.pick [2,3,4] [0,1],(y8 L112 ⟨_,b133,b141,uE7,N,H⟩)⟩
  refine Xi (fun ρ w145=>∃ (xY:Env) (b143:Nat),ρ=upd (upd (upd (upd (upd (upd xY 0 (Sv ab b.length cb)) 4 (pp b3 0)) 5 (pp b5 0)) 10 (pp b143 0)) 21 (.agg #[yN])) 24 (yI parts.length)∧Fresh w.heap.size []∧St w w145 [.box b143 [yN] 24,.box b5 [.func (.func 211) #[] #[pp b1 0]] 162,.box b3 [Sv zt parts.length zn] 29,.box b1 [Sv zt parts.length zn] 29] [sF false Fb ab cb b,sF false Fparts zt zn parts]) 5 #[true,false,true,true,false,false,true,false,false] ?_ fun L144=>?_
  ·skip
   rintro ρ w146 ⟨xY,b143,rfl,N,H⟩
   refine jb [1,4,5] qh qm (jQ rfl ?_ (jQ rfl ?_ (jQ rfl ?_ jd)))
   ·skip
    refine zW H [yN] fun b147 w148 H=>⟨H.pick [2,3,4] [0,1],(y8 L65 ⟨_,b147,b143,uE6,N,H.pick [1,0,2,3,4] [0,1]⟩)⟩
   ·skip
    refine ji H underlying24 ti2 parts.length rfl rfl qf qf qf fun b149 w150 H=>⟨H.pick [2,3,4] [0,1],(y8 L95 ⟨_,b149,b143,uE6,N,H.pick [1,0,2,3,4] [0,1]⟩)⟩
   refine xZ H ti234 [.pointer none] fun b151 w152 H=>⟨H.pick [2,3,4] [0,1],(y8 L112 ⟨_,b151,b143,uE7,N,H.pick [1,0,2,3,4] [0,1]⟩)⟩
  refine Xi (fun ρ w156=>∃ (xY:Env) (b153:Nat) (b154:Nat),ρ=upd (upd (upd (upd (upd xY 0 (Sv ab b.length cb)) 4 (pp b3 0)) 5 (pp b5 0)) 9 (pp b154 0)) 25 (Sv (aa b153 0) parts.length parts.length)∧Fresh w.heap.size []∧St w w156 [.box b154 [.pointer none] 234,rr (aa b153 0) parts.length parts.length 2 1 ((List.replicate parts.length (0:Int)).map (Value.int .i64)),.box b5 [.func (.func 211) #[] #[pp b1 0]] 162,.box b3 [Sv zt parts.length zn] 29,.box b1 [Sv zt parts.length zn] 29] [sF false Fb ab cb b,sF false Fparts zt zn parts]) 5 #[false,false,true,true,true,true,false,false,false] ?_ fun L155=>?_
  ·skip
   rintro ρ w157 ⟨xY,b153,b154,rfl,N,H⟩
   refine jb [0,6] qh qm (jQ rfl ?_ (jQ rfl ?_ jd))
   ·skip
    refine vX [yN] [] (⟨H.pick [2,3,4] [0,1],(y8 L78 ⟨_,b153,b154,uE6,N,H⟩)⟩)
   refine xZ H ti24 [yN] fun b158 w159 H=>⟨H.pick [3,4,5] [0,1],(ro 0 rfl (vX [yN] [] (⟨H.pick [3,4,5] [0,1],(ro 1 rfl (zW H [yN] fun b160 w161 H=>⟨H.pick [4,5,6] [0,1],(ro 7 rfl (zh H 2 [pp b160 0] sizeOf234 fun w162 H=>⟨H.pick [4,5,6] [0,1],(ro 8 rfl (zh H 1 [Sv (aa b153 0) parts.length parts.length] sizeOf24 fun w163 H=>⟨H.pick [4,5,6] [0,1],(xJ qh ((meet ⟨_,b154,b158,b153,b160,uE5,N,H.pick [1,2,3,0,4,5,6] [0,1]⟩)))⟩))⟩))⟩))⟩)))⟩
  refine Xi (fun ρ w167=>∃ (xY:Env) (b164:Nat) (b165:Nat),ρ=upd (upd (upd (upd (upd xY 0 (Sv ab b.length cb)) 4 (pp b3 0)) 5 (pp b5 0)) 10 (pp b165 0)) 25 (Sv (aa b164 0) parts.length parts.length)∧Fresh w.heap.size []∧St w w167 [.box b165 [yN] 24,rr (aa b164 0) parts.length parts.length 2 1 ((List.replicate parts.length (0:Int)).map (Value.int .i64)),.box b5 [.func (.func 211) #[] #[pp b1 0]] 162,.box b3 [Sv zt parts.length zn] 29,.box b1 [Sv zt parts.length zn] 29] [sF false Fb ab cb b,sF false Fparts zt zn parts]) 5 #[false,false,true,true,true,false,true,false,false] ?_ fun L166=>?_
  ·skip
   rintro ρ w168 ⟨xY,b164,b165,rfl,N,H⟩
   refine jb [0,5] qh qm (jQ rfl ?_ (jQ rfl ?_ jd))
   ·skip
    refine vX [yN] [] (⟨H.pick [2,3,4] [0,1],(y8 L95 ⟨_,b164,b165,uE6,N,H⟩)⟩)
   refine xZ H ti234 [.pointer none] fun b169 w170 H=>⟨H.pick [3,4,5] [0,1],(ro 0 rfl (vX [yN] [] (⟨H.pick [3,4,5] [0,1],(ro 1 rfl (zW H [yN] fun b171 w172 H=>⟨H.pick [4,5,6] [0,1],(ro 7 rfl (zh H 1 [pp b171 0] sizeOf234 fun w173 H=>⟨H.pick [4,5,6] [0,1],(ro 8 rfl (zh H 2 [Sv (aa b164 0) parts.length parts.length] sizeOf24 fun w174 H=>⟨H.pick [4,5,6] [0,1],(xJ qh ((meet ⟨_,b169,b165,b164,b171,uE5,N,H.pick [2,1,3,0,4,5,6] [0,1]⟩)))⟩))⟩))⟩))⟩)))⟩
  refine Xi (fun ρ w178=>∃ (xY:Env) (b175:Nat) (b176:Nat),ρ=upd (upd (upd (upd (upd (upd xY 0 (Sv ab b.length cb)) 4 (pp b3 0)) 5 (pp b5 0)) 9 (pp b175 0)) 10 (pp b176 0)) 24 (yI parts.length)∧Fresh w.heap.size []∧St w w178 [.box b176 [yN] 24,.box b175 [.pointer none] 234,.box b5 [.func (.func 211) #[] #[pp b1 0]] 162,.box b3 [Sv zt parts.length zn] 29,.box b1 [Sv zt parts.length zn] 29] [sF false Fb ab cb b,sF false Fparts zt zn parts]) 5 #[false,false,true,true,false,true,true,false,false] ?_ fun L177=>?_
  ·skip
   rintro ρ w179 ⟨xY,b175,b176,rfl,N,H⟩
   refine jb [0,4] qh qm (jQ rfl ?_ (jQ rfl ?_ jd))
   ·skip
    refine vX [yN] [] (⟨H.pick [2,3,4] [0,1],(y8 L112 ⟨_,b175,b176,uE7,N,H⟩)⟩)
   refine ji H underlying24 ti2 parts.length rfl rfl qf qf qf fun b180 w181 H=>⟨H.pick [3,4,5] [0,1],(ro 0 rfl (vX [yN] [] (⟨H.pick [3,4,5] [0,1],(ro 1 rfl (zW H [yN] fun b182 w183 H=>⟨H.pick [4,5,6] [0,1],(ro 7 rfl (zh H 3 [pp b182 0] sizeOf234 fun w184 H=>⟨H.pick [4,5,6] [0,1],(ro 8 rfl (zh H 2 [Sv (aa b180 0) parts.length parts.length] sizeOf24 fun w185 H=>⟨H.pick [4,5,6] [0,1],(xJ qh ((meet ⟨_,b175,b176,b180,b182,uE5,N,H.pick [2,3,1,0,4,5,6] [0,1]⟩)))⟩))⟩))⟩))⟩)))⟩
  refine tL 2 rfl rfl (fun _ h=>h.cell 1 rfl rfl) H ?_
  refine tN 3 rfl rfl H ?_
  refine jb [0,4,5,6] qh qm (jQ rfl ?_ (jQ rfl ?_ (jQ rfl ?_ (jQ rfl ?_ jd))))
  ·skip
   refine vX [yN] [] (⟨H,(jb [1,4,5,6] qh qm (jQ rfl ?_ (jQ rfl ?_ (jQ rfl ?_ (jQ rfl ?_ jd)))))⟩)
   ·skip
    refine zW H [yN] fun b186 w187 H=>⟨H.pick [1,2,3] [0,1],(jb [4,5,6] qh qm (jQ rfl ?_ (jQ rfl ?_ (jQ rfl ?_ jd))))⟩
    ·skip
     refine ji H underlying24 ti2 parts.length rfl rfl qf qf qf fun b188 w189 H=>⟨H.pick [2,3,4] [0,1],(y8 L35 ⟨_,b186,b188,uE5,N,H⟩)⟩
    ·skip
     refine xZ H ti234 [.pointer none] fun b190 w191 H=>⟨H.pick [2,3,4] [0,1],(y8 L52 ⟨_,b186,b190,uE6,N,H⟩)⟩
    refine xZ H ti24 [yN] fun b192 w193 H=>⟨H.pick [2,3,4] [0,1],(y8 L65 ⟨_,b186,b192,uE6,N,H⟩)⟩
   ·skip
    refine ji H underlying24 ti2 parts.length rfl rfl qf qf qf fun b194 w195 H=>⟨H.pick [1,2,3] [0,1],(y8 L124 ⟨_,b194,uE5,N,H⟩)⟩
   ·skip
    refine xZ H ti234 [.pointer none] fun b196 w197 H=>⟨H.pick [1,2,3] [0,1],(y8 L134 ⟨_,b196,uE6,N,H⟩)⟩
   refine xZ H ti24 [yN] fun b198 w199 H=>⟨H.pick [1,2,3] [0,1],(y8 L144 ⟨_,b198,uE6,N,H⟩)⟩
  ·skip
   refine ji H underlying24 ti2 parts.length rfl rfl qf qf qf fun b200 w201 H=>⟨H.pick [1,2,3] [0,1],(jb [0,5,6] qh qm (jQ rfl ?_ (jQ rfl ?_ (jQ rfl ?_ jd))))⟩
   ·skip
    refine vX [yN] [] (⟨H.pick [1,2,3] [0,1],(y8 L124 ⟨_,b200,uE5,N,H⟩)⟩)
   ·skip
    refine xZ H ti234 [.pointer none] fun b202 w203 H=>⟨H.pick [2,3,4] [0,1],(y8 L155 ⟨_,b200,b202,uE5,N,H⟩)⟩
   refine xZ H ti24 [yN] fun b204 w205 H=>⟨H.pick [2,3,4] [0,1],(y8 L166 ⟨_,b200,b204,uE5,N,H⟩)⟩
  ·skip
   refine xZ H ti234 [.pointer none] fun b206 w207 H=>⟨H.pick [1,2,3] [0,1],(jb [0,4,6] qh qm (jQ rfl ?_ (jQ rfl ?_ (jQ rfl ?_ jd))))⟩
   ·skip
    refine vX [yN] [] (⟨H.pick [1,2,3] [0,1],(y8 L134 ⟨_,b206,uE6,N,H⟩)⟩)
   ·skip
    refine ji H underlying24 ti2 parts.length rfl rfl qf qf qf fun b208 w209 H=>⟨H.pick [2,3,4] [0,1],(y8 L155 ⟨_,b208,b206,uE5,N,H.pick [1,0,2,3,4] [0,1]⟩)⟩
   refine xZ H ti24 [yN] fun b210 w211 H=>⟨H.pick [2,3,4] [0,1],(y8 L177 ⟨_,b206,b210,uE6,N,H⟩)⟩
  refine xZ H ti24 [yN] fun b212 w213 H=>⟨H.pick [1,2,3] [0,1],(jb [0,4,5] qh qm (jQ rfl ?_ (jQ rfl ?_ (jQ rfl ?_ jd))))⟩
  ·skip
   refine vX [yN] [] (⟨H.pick [1,2,3] [0,1],(y8 L144 ⟨_,b212,uE6,N,H⟩)⟩)
  ·skip
   refine ji H underlying24 ti2 parts.length rfl rfl qf qf qf fun b214 w215 H=>⟨H.pick [2,3,4] [0,1],(y8 L166 ⟨_,b214,b212,uE5,N,H.pick [1,0,2,3,4] [0,1]⟩)⟩
  refine xZ H ti234 [.pointer none] fun b216 w217 H=>⟨H.pick [2,3,4] [0,1],(y8 L177 ⟨_,b216,b212,uE6,N,H.pick [1,0,2,3,4] [0,1]⟩)⟩
 clear H N
 rintro ρ w218 ⟨xY,b13,b14,b15,b16,rfl,N,H⟩
 refine t_n (zcr (sw (xZ H ti237 [.nilFunc] fun b219 w220 H=>zjc (sp (.func (.func 229) #[] #[pp b3 0,pp b5 0,pp b13 0,pp b14 0,pp b219 0]) (sw (zh H 0 [.func (.func 229) #[] #[pp b3 0,pp b5 0,pp b13 0,pp b14 0,pp b219 0]] sizeOf237 fun w221 H=>zjc (oL rfl (H.cell 0 rfl rfl) (sp (Sv ab b.length cb) ?_))))))))
 replace H:=H.nilRow 24 1
 replace H:=H.vT (α:=yLI)
 have H1:St w w221 [.box b3 [Sv zt parts.length zn] 29,.box b5 [.func (.func 211) #[] #[pp b1 0]] 162,.box b1 [Sv zt parts.length zn] 29,.box b13 [pp b16 0] 234,.box b16 [yN] 236,.box b14 [Sv (aa b15 0) parts.length parts.length] 24,.box b219 [.func (.func 229) #[] #[pp b3 0,pp b5 0,pp b13 0,pp b14 0,pp b219 0]] 237,rr none 0 0 24 1 [],rr (aa b15 0) parts.length parts.length 2 1 ((List.replicate parts.length (0:Int)).map (Value.int .i64))] [sF false Fb ab cb b,sF false Fparts zt zn parts,xN true [] [] ([]:yLL)]:=H.pick [7,6,8,3,5,2,1,0,4] [1,2,0]
 have N1:Fresh _ [[]]:=N.emp
 have K1:Kept [] []:=Kept.nil _
 refine sw (vK #[yI 0,Sv ab b.length cb,pp b3 0,pp b5 0,pp b13 0,pp b14 0,pp b219 0] rfl rfl call229 (packFrom_ok parts.length 0 b parts ([]:yLL) (List.replicate parts.length (0:Int)) ab cb Fb zt zn Fparts b3 b5 b1 b13 b16 b14 b219 none 0 0 [] [] (aa b15 0) parts.length parts.length H1 N1 K1 qf (by first | assumption | exact u4) (by first | assumption | exact j3 | (simp;done)) (by first | assumption | (rw [List.length_set];exact j1) | (simp;done))) ?_)
 clear H H1 N1 K1
 rintro _ w222 ⟨zl226,ra227,rn228,rc229,rx230,rF231,hx224,hx225,rfl,N,H⟩
 obtain rfl:=H.x8 (α:=yLI) 7 rfl 2 rfl qj
 refine zjc (oL rfl (H.cell 3 rfl rfl) (sw (vk #[pp b16 0] rfl rfl call231 (en func231 ntmps231 ?_))))
 refine zcr (sps [yN,yI 0] (zjcc (sps [pp b16 0,pp b16 0] (oF rfl (oL rfl (H.cell 4 rfl rfl) (oN rfl (sp (Bv (decide (((gath ([]:yLL) (begins ((List.replicate parts.length (0:Int)).take 0) (packs parts (parts.length - 0) 0 b))).length:Int) > 2000))) (zjn (cD rfl (fun h232=>?_) (fun h232=>?_))))))))))
 ·skip
  refine zcr (sps [yN,yI 3] (zjr (t_r (ret2 yN (yI 3) rfl rfl rfl ⟨_,rfl,(sps [yN,yI 3,yN,yI 3] (zjr (ret2 yN (yI 3) rfl rfl rfl ⟨_,rfl,?_⟩)))⟩))))
  replace H:=H.erases [8,7,6,5,4,3,1,0]
  dsimp only [vM,List.eraseIdx] at H
  refine sps [yN,yI 3,yN,yI 3] (zjr ?_)
  replace H:=H.nilRow 24 1
  replace H:=H.vT (α:=yLI)
  refine ret2 yN (yI 3) rfl rfl rfl ⟨_,rfl,?_,H.base⟩
  first | rw [all_a ql] | rw [all_bI (cs:=(List.replicate parts.length (0:Int))) ql qf]
  exact ⟨none,0,0,[],[],rfl,(N.emp.pick [0]),H.pick [0] [0]⟩
 refine xk (t_n (zcr (sps [pp b16 0,pp b16 0] (oF rfl (oL rfl (H.cell 4 rfl rfl) (sps [Sv ra227 ((gath ([]:yLL) (begins ((List.replicate parts.length (0:Int)).take 0) (packs parts (parts.length - 0) 0 b))).length) rc229,yI 0] (zjr (ret2 (Sv ra227 ((gath ([]:yLL) (begins ((List.replicate parts.length (0:Int)).take 0) (packs parts (parts.length - 0) 0 b))).length) rc229) (yI 0) rfl rfl rfl ⟨_,rfl,?_⟩))))))))
 refine sps [Sv ra227 ((gath ([]:yLL) (begins ((List.replicate parts.length (0:Int)).take 0) (packs parts (parts.length - 0) 0 b))).length) rc229,yI 0,Sv ra227 ((gath ([]:yLL) (begins ((List.replicate parts.length (0:Int)).take 0) (packs parts (parts.length - 0) 0 b))).length) rc229,yI 0] (zjr (ret2 (Sv ra227 ((gath ([]:yLL) (begins ((List.replicate parts.length (0:Int)).take 0) (packs parts (parts.length - 0) 0 b))).length) rc229) (yI 0) rfl rfl rfl ⟨_,rfl,?_⟩))
 replace H:=H.erases [8,6,5,4,3,1,0]
 dsimp only [vM,List.eraseIdx] at H
 refine sps [Sv ra227 ((gath ([]:yLL) (begins ((List.replicate parts.length (0:Int)).take 0) (packs parts (parts.length - 0) 0 b))).length) rc229,yI 0,Sv ra227 ((gath ([]:yLL) (begins ((List.replicate parts.length (0:Int)).take 0) (packs parts (parts.length - 0) 0 b))).length) rc229,yI 0] (zjr (ret2 (Sv ra227 ((gath ([]:yLL) (begins ((List.replicate parts.length (0:Int)).take 0) (packs parts (parts.length - 0) 0 b))).length) rc229) (yI 0) rfl rfl rfl ⟨_,rfl,?_,H.base⟩))
 rw [all_0I (cs:=(List.replicate parts.length (0:Int))) ql qf]
 exact ⟨ra227,(gath ([]:yLL) (begins ((List.replicate parts.length (0:Int)).take 0) (packs parts (parts.length - 0) 0 b))).length,rc229,rx230,rF231,rfl,N,H.pick [1] [2]⟩
theorem compareL_ok (w:World) (a:yLI) (b:yLI) (aa:yOA) (ca:Nat) (Fa:yLN) (ab:yOA) (cb:Nat) (Fb:yLN) (ha:qX.rep w Fa [Sv aa a.length ca] a) (hb:qX.rep w Fb [Sv ab b.length cb] b):Calls Tryz.prog 149 #[Sv aa a.length ca,Sv ab b.length cb] w (Ret (fun v w' =>v=yI (cmpL a b)∧w' =w) w):=by
 refine en func149 ntmps149 ?_
 have H:=((St.start w).arg hb).arg ha
 have nha:=qV ha
 have nhb:=qV hb
 clear ha hb
 have N:=Fresh.nil w.heap.size
 refine zcr (sp (yI 0) (zjcc (sp (Sv aa a.length ca) (oN rfl (sp (yI 0) (zjn (xg ?_)))))))
 refine zJ (fun m' ρ w1=>∃ (xY:Env) (i:Nat),ρ=upd (upd (upd (upd (upd xY 0 (Sv aa a.length ca)) 1 (Sv ab b.length cb)) 9 (Sv aa a.length ca)) 10 (yI a.length)) 11 (yI i)∧((i:Int)≤a.length)∧(w1=w)∧(cmpL a b=cmpL (a.drop i) (b.drop i))∧(i≤b.length)∧m' =(a.length - (i:Int)).toNat∧Fresh w.heap.size []∧St w w1 [] [sF false Fa aa ca a,sF false Fb ab cb b]) ((a.length - (0:Int)).toNat) ⟨_,0,uE5,qf,(by rfl),(by rfl),qf,rfl,N,H⟩ ?_
 clear H N
 rintro m' ρ w2 ⟨xY,i,rfl,i0,wk,i1,i2,rfl,N,H⟩
 refine zcr (sp (Bv (decide ((i:Int) < a.length))) (zjn (zf (cD rfl (fun h3=>?_) (fun h3=>?_)))))
 ·skip
  refine xk (t_n (zf (xg (zcr (sp (yI i) ?_)))))
  obtain ⟨b4,o5,rfl⟩:=H.addr 0 rfl qf
  refine oI rfl rfl (oL rfl (H.yF 0 rfl i qf qf) (sps [yI i,yI (a[i]!)] (zjcc (sps [yI i,Sv ab b.length cb] (oN rfl (sp (Bv (decide ((i:Int)≥b.length))) (zjn (cD rfl (fun h7=>?_) (fun h7=>?_)))))))))
  ·skip
   refine zcr (sp (yI 1) (zjr (t_r (zr5 (ret1 (yI 1) rfl rfl ⟨_,rfl,(⟨?_,wk⟩),H.base⟩)))))
   rw [i1,show cmpL (a.drop i) (b.drop i)=1 by first | exact cmp_a qf qf | exact cmp_e qf qf ‹_›]
  refine xk (t_n (zcr (sps [Sv ab b.length cb,yI i] ?_)))
  obtain ⟨b8,o9,rfl⟩:=H.addr 1 rfl qf
  refine oI rfl rfl (oL rfl (H.yF 1 rfl i qf qf) (sp (yI (b[i]!)) (zjc (sps [yI (a[i]!),yI (b[i]!)] (sw (vk #[yI (a[i]!),yI (b[i]!)] rfl rfl call191 (en func191 ntmps191 ?_)))))))
  refine zcr (sp (yI 0) (zjc (sp (yI (a[i]!)) (sw (vk #[yI (a[i]!)] rfl rfl call221 (en func221 ntmps221 ?_))))))
  refine zcr (sp (Bv false) (zjc (sps [yI (a[i]!),yI (a[i]!),Bv ((a[i]! :Int) != (a[i]!)),Bv ((a[i]! :Int) != (a[i]!))] (zjr (ret1 (Bv ((a[i]! :Int) != (a[i]!))) rfl rfl ⟨_,rfl,(sp (Bv ((a[i]! :Int) != (a[i]!))) (zjc (sp (yI (b[i]!)) (sw (vk #[yI (b[i]!)] rfl rfl call221 (en func221 ntmps221 ?_))))))⟩)))))
  refine zcr (sp (Bv false) (zjc (sps [yI (b[i]!),yI (b[i]!),Bv ((b[i]! :Int) != (b[i]!)),Bv ((b[i]! :Int) != (b[i]!))] (zjr (ret1 (Bv ((b[i]! :Int) != (b[i]!))) rfl rfl ⟨_,rfl,(sp (Bv ((b[i]! :Int) != (b[i]!))) (zjcc (sp (Bv ((a[i]! :Int) != (a[i]!))) (zjn (xK ((a[i]! :Int) != (a[i]!)) rfl (fun h=>absurd rfl (bne_iff_ne.1 h)) (fun h11=>?_))))))⟩)))))
  replace h11:=xF h11
  refine xk (t_n (zcc (sp (Bv ((b[i]! :Int) != (b[i]!))) (zjn (xK ((b[i]! :Int) != (b[i]!)) rfl (fun h=>absurd rfl (bne_iff_ne.1 h)) (fun h12=>?_))))))
  replace h12:=xF h12
  refine xk (t_n (zcc (sps [yI (a[i]!),yI (b[i]!),Bv (decide ((a[i]! :Int) < (b[i]!)))] (zjn (cD rfl (fun h13=>?_) (fun h13=>?_))))))
  ·skip
   refine zcr (sp (yI (-1)) (zjr (t_r (ret1 (yI (-1)) rfl rfl ⟨_,rfl,(sp (yI (-1)) (zjc (sps [yI (-1),Bv true] (zjn (xK true rfl (fun _=>zcr (sps [yI (-1),yI (-1)] (zjr (zr5 (ret1 (yI (-1)) rfl rfl ⟨_,rfl,(⟨?_,wk⟩),H.base⟩))))) (fun h=>absurd h qj))))))⟩))))
   rw [i1,show cmpL (a.drop i) (b.drop i)= -1 by first | exact cmp_b qf qf | exact cmp_d qf qf ‹_›]
  refine xk (t_n (zcc (sps [yI (a[i]!),yI (b[i]!),Bv (decide ((a[i]! :Int) > (b[i]!)))] (zjn (cD rfl (fun h14=>?_) (fun h14=>?_))))))
  ·skip
   refine zcr (sp (yI 1) (zjr (t_r (ret1 (yI 1) rfl rfl ⟨_,rfl,(sp (yI 1) (zjc (sps [yI 1,Bv true] (zjn (xK true rfl (fun _=>zcr (sps [yI 1,yI 1] (zjr (zr5 (ret1 (yI 1) rfl rfl ⟨_,rfl,(⟨?_,wk⟩),H.base⟩))))) (fun h=>absurd h qj))))))⟩))))
   rw [i1,show cmpL (a.drop i) (b.drop i)=1 by first | exact cmp_a qf qf | exact cmp_e qf qf ‹_›]
  refine xk (t_n (zcr (sp (yI 0) (zjr (ret1 (yI 0) rfl rfl ⟨_,rfl,(sp (yI 0) (zjc (sps [yI 0,Bv false] (zjn (xK false rfl (fun h=>absurd h qj) (fun _=>xk (b_n (t_n (zg (sw (zL i 1 rfl rfl qf (sp (yI (i+1)) (zi (xq (m' :=(a.length - ((i+1):Int)).toNat) qf ⟨_,i+1,uE5,?_,?_,?_,?_,rfl,N,H⟩))))))))))))))⟩)))))
  · omega
  · exact wk
  · exact i1.trans (cmp_f qf qf ‹_› ‹_›)
  · omega
 refine zx4 (zcc (sp (Sv aa a.length ca) (oN rfl (sp (Sv ab b.length cb) (oN rfl (sp (Bv (decide ((a.length:Int) < b.length))) (zjn (cD rfl (fun h15=>?_) (fun h15=>?_)))))))))
 ·skip
  refine zcr (sp (yI (-1)) (zjr (t_r (ret1 (yI (-1)) rfl rfl ⟨_,rfl,(⟨?_,wk⟩),H.base⟩))))
  rw [i1,show cmpL (a.drop i) (b.drop i)= -1 by first | exact cmp_b qf qf | exact cmp_d qf qf ‹_›]
 refine xk (t_n (zcr (sp (yI 0) (zjr (ret1 (yI 0) rfl rfl ⟨_,rfl,(⟨?_,wk⟩),H.base⟩)))))
 rw [i1,cmp_c qf qf]
def sortL_ren:Go.Shelf.Ren:=⟨fun | 6=>148 | 15=>182 | 14=>190 | 28=>208 | 29=>209 | 20=>213 | 21=>214 | 22=>215 | 23=>216 | 24=>217 | 25=>218 | 26=>219 | 27=>220 | 46=>233 | 47=>224 | 48=>225 | 49=>234 | 50=>235 | 57=>238 | n=>n,fun | 22=>29 | 24=>24 | 25=>172 | 3=>3 | 39=>195 | 0=>0 | 53=>218 | 55=>125 | 4=>4 | 46=>211 | 45=>210 | 50=>215 | 5=>5 | 9=>9 | 66=>227 | 70=>231 | 76=>241 | 77=>242 | n=>n,fun | n=>n⟩
theorem sortL:Go.Proofs.SlLaysF.n6 Tryz.prog sortL_ren:={
  mixed:=by kernel_rfl
  f6:=⟨Tryz.f148.name,by decide,Tryz.func148.trans (congrArg some (by kernel_rfl))⟩
  f14:=⟨Tryz.f190.name,by decide,Tryz.func190.trans (congrArg some (by kernel_rfl))⟩
  f15:=Tryz.func182.trans (congrArg some (by kernel_rfl))
  f20:=⟨Tryz.f213.name,by decide,Tryz.func213.trans (congrArg some (by kernel_rfl))⟩
  f21:=⟨Tryz.f214.name,by decide,Tryz.func214.trans (congrArg some (by kernel_rfl))⟩
  f22:=⟨Tryz.f215.name,by decide,Tryz.func215.trans (congrArg some (by kernel_rfl))⟩
  f23:=⟨Tryz.f216.name,by decide,Tryz.func216.trans (congrArg some (by kernel_rfl))⟩
  f24:=⟨Tryz.f217.name,by decide,Tryz.func217.trans (congrArg some (by kernel_rfl))⟩
  f25:=⟨Tryz.f218.name,by decide,Tryz.func218.trans (congrArg some (by kernel_rfl))⟩
  f26:=⟨Tryz.f219.name,by decide,Tryz.func219.trans (congrArg some (by kernel_rfl))⟩
  f27:=⟨Tryz.f220.name,by decide,Tryz.func220.trans (congrArg some (by kernel_rfl))⟩
  f28:=Tryz.func208.trans (congrArg some (by kernel_rfl))
  f29:=Tryz.func209.trans (congrArg some (by kernel_rfl))
  f46:=⟨Tryz.f233.name,by decide,Tryz.func233.trans (congrArg some (by kernel_rfl))⟩
  f47:=Tryz.func224.trans (congrArg some (by kernel_rfl))
  f48:=Tryz.func225.trans (congrArg some (by kernel_rfl))
  f49:=⟨Tryz.f234.name,by decide,Tryz.func234.trans (congrArg some (by kernel_rfl))⟩
  f50:=⟨Tryz.f235.name,by decide,Tryz.func235.trans (congrArg some (by kernel_rfl))⟩
  f57:=⟨Tryz.f238.name,by decide,Tryz.func238.trans (congrArg some (by kernel_rfl))⟩
  t0:=underlying0
  a0:=isAgg0
  z0:=sizeOf0
  v0:=zeroValue0
  t3:=underlying3
  a3:=isAgg3
  z3:=sizeOf3
  v3:=zeroValue3
  t4:=underlying4
  a4:=isAgg4
  z4:=sizeOf4
  v4:=zeroValue4
  t5:=underlying5
  a5:=isAgg5
  z5:=sizeOf5
  v5:=zeroValue5
  t9:=underlying9
  a9:=isAgg9
  z9:=sizeOf9
  v9:=zeroValue9
  t22:=underlying29
  a22:=isAgg29
  z22:=sizeOf29
  v22:=zeroValue29
  a24:=isAgg24
  z24:=sizeOf24
  t25:=underlying172
  a25:=isAgg172
  z25:=sizeOf172
  v25:=zeroValue172
  t39:=underlying195
  a39:=isAgg195
  z39:=sizeOf195
  v39:=zeroValue195
  t45:=underlying210
  a45:=isAgg210
  z45:=sizeOf210
  v45:=zeroValue210
  t46:=underlying211
  a46:=isAgg211
  z46:=sizeOf211
  v46:=zeroValue211
  t50:=underlying215
  a50:=isAgg215
  z50:=sizeOf215
  v50:=zeroValue215
  t53:=underlying218
  a53:=isAgg218
  z53:=sizeOf218
  v53:=zeroValue218
  t55:=underlying125
  a55:=isAgg125
  z55:=sizeOf125
  v55:=zeroValue125
  t66:=underlying227
  a66:=isAgg227
  z66:=sizeOf227
  v66:=zeroValue227
  t70:=underlying231
  a70:=isAgg231
  z70:=sizeOf231
  v70:=zeroValue231
  t76:=underlying241
  a76:=isAgg241
  z76:=sizeOf241
  v76:=zeroValue241
  t77:=underlying242
  a77:=isAgg242
  z77:=sizeOf242
  v77:=zeroValue242 }
theorem cmpSort (W:World) (x y:yLI) (a:yOA) (c:Nat) (F:yLN) (a' :yOA) (c' :Nat) (F' :yLN) (hx:qX.rep W F [Sv a x.length c] x) (hy:qX.rep W F' [Sv a' y.length c'] y):
    Calls Tryz.prog 149 #[Sv a x.length c,Sv a' y.length c'] W fun e w' =>e=.returned (yI (cmpL x y))∧w' =W:=
  (compareL_ok W x y a c F a' c' F' hx hy).mono fun _ _ ⟨_,he,⟨hv,hw⟩,_⟩=>⟨he.trans (by rw [hv]),hw⟩

theorem choices_ok (w:World) (s:qI) (t:qP) {qE:yOA} {xe:yLN} {qO:yOA} {xE:yLN} {qU:yOA} {xO:yLN} {xf:yOA} {zo:yLN} {qM:yOA} {xB:yLN} (qZ:qX.rep w xe [Sv qE s.qA.length qC] s.qA) (xC:qX.rep w xE [Sv qO s.qB.length qK] s.qB) (xQ:qX.rep w xO [Sv qU t.qG.length qQ] t.qG) (zA:qX.rep w zo [Sv xf t.qH.length qY] t.qH) (xH:qX.rep w xB [Sv qM t.qF.length qL] t.qF) (p0:zQ s) (p1:xI s t):Calls Tryz.prog 81 #[.agg #[yI s.xh,Sv qE s.qA.length qC,Sv qO s.qB.length qK],.agg #[Sv qU t.qG.length qQ,Sv xf t.qH.length qY,Sv qM t.qF.length qL]] w (Ret (fun v w' =>∃ (ra0:yOA) (rn0:Nat) (rc0:Nat) (rx0:List Value) (rF0:yLN),v=.tuple #[Sv ra0 rn0 rc0,yI ((vJ s t).2)]∧Fresh w.heap.size [rF0]∧St w w' [rr ra0 rn0 rc0 24 1 rx0] [xN true rF0 rx0 ((vJ s t).1)]) w):=by
 refine en func81 ntmps81 ?_
 have H:=(((((St.start w).arg xH).arg zA).arg xQ).arg xC).arg qZ
 have zX:=qV qZ
 have jo:=qV xC
 have yC:=qV xQ
 have Qm:=qV zA
 have jH:=qV xH
 clear qZ xC xQ zA xH
 have N:=Fresh.nil w.heap.size
 have A:=H.ltN (L:=[xe,xE,xO,zo,xB]) [0,1,2,3,4]
 have p2:=p0.2.1
 have p3:=p0.1.2.1
 have p4:=p1.1
 have p5:=p1.2.1
 refine zcr (sw (zW H (yS s qE qC qO qK) fun b1 w2 H=>sw (zW H (yT t qU qQ xf qY qM qL) fun b3 w4 H=>sps [yN,yI 0] (zjc (sw (xU (yS s qE qC qO qK) isAgg27 sizeOf27 rfl (qJ (H.cells 1 rfl) 0 3) ?_))))))
 refine sw (xU (yT t qU qQ xf qY qM qL) isAgg31 sizeOf31 rfl (qJ (H.cells 0 rfl) 0 3) (sw (vk #[.agg #[yI s.xh,Sv qE s.qA.length qC,Sv qO s.qB.length qK],.agg #[Sv qU t.qG.length qQ,Sv xf t.qH.length qY,Sv qM t.qF.length qL]] rfl rfl call147 (en func147 ntmps147 ?_))))
 refine zcr (sw (zW H (yS s qE qC qO qK) fun b5 w6 H=>sw (zW H (yT t qU qQ xf qY qM qL) fun b7 w8 H=>sps [yN,yI 0] (zjc (oF rfl (oL rfl (H.cell 1 rfl rfl) (oN rfl (sw (o_makeZ (⟨[]⟩:OwnI 2) H underlying29 ti24 qj (fun _=>⟨yN,rfl,Or.inl ⟨rfl,rfl,rfl⟩⟩) s.qA.length rfl rfl qf qf qf fun b9 w10 xs11 H=>?_)))))))))
 refine sp (Sv (aa b9 0) s.qA.length s.qA.length) (zjcc (sw (xU (yS s qE qC qO qK) isAgg27 sizeOf27 rfl (qJ (H.cells 2 rfl) 0 3) (sw (xU (yT t qU qQ xf qY qM qL) isAgg31 sizeOf31 rfl (qJ (H.cells 1 rfl) 0 3) ?_)))))
 have sz15:=H.base.size
 refine sw (oc (Xp _ s t (H.get 1 rfl).1 (H.get 2 rfl).1 (H.get 3 rfl).1 (H.get 4 rfl).1 (H.get 5 rfl).1 qg qg) ?_)
 rintro _ w13 ⟨ra12,rn12,rc12,rfl,M,K⟩ _
 replace H:=H.merge K M
 obtain rfl:=H.yx 0 rfl
 have al:(appls s t).length≤s.qB.length:=applL_le s t s.qB.length
 refine oN rfl (sp (yI 0) (zjn (xg ?_)))
 refine zJ (fun m' ρ w18=>∃ (xY:Env) (k:Nat) (own:List (OwnI 2)) (x_own:List Value) (Yg:yLN),ρ=upd (upd (upd (upd (upd (upd xY 2 (pp b5 0)) 3 (pp b7 0)) 6 (Sv (aa b9 0) s.qA.length s.qA.length)) 24 (Sv ra12 ((appls s t).length) rc12)) 25 (yI ((appls s t).length))) 26 (yI k)∧own=(ownL 2 s t s.qA.length k)∧((k:Int)≤((appls s t).length))∧m' =(((appls s t).length) - (k:Int)).toNat∧Fresh w.heap.size [Yg]∧St w w18 [rr ra12 ((appls s t).length) rc12 2 1 ((appls s t).map (Value.int .i64)),rr (aa b9 0) s.qA.length s.qA.length 24 1 x_own,.box b7 (yT t qU qQ xf qY qM qL) 31,.box b5 (yS s qE qC qO qK) 27,.box b3 (yT t qU qQ xf qY qM qL) 31,.box b1 (yS s qE qC qO qK) 27] [xN true Yg x_own own,sF false xe qE qC s.qA,sF false xE qO qK s.qB,sF false xO qU qQ t.qG,sF false zo xf qY t.qH,sF false xB qM qL t.qF]) ((((appls s t).length) - (0:Int)).toNat) ⟨_,0,(List.replicate s.qA.length (⟨[]⟩:OwnI 2)),xs11,[],uE6,(by exact ownL_zero 2 s t _),qf,rfl,N.emp,H⟩ ?_
 clear H N
 rintro m' ρ w19 ⟨xY,k,own,x_own,Yg,rfl,rfl,i0,rfl,N,H⟩
 have hn_own:=H.x8 (α:=OwnI 2) 1 rfl 0 rfl qj
 have ol:=ownL_len 2 s t s.qA.length k
 refine zcr (sp (Bv (decide ((k:Int) < ((appls s t).length)))) (zjn (zf (cD rfl (fun h20=>?_) (fun h20=>?_)))))
 ·skip
  obtain ⟨a0,a1,a2⟩:=appls_inH (s:=s) (t:=t) (q:=k) qf
  have q:=p0.rule (i:=((appls s t)[k]!).toNat) qf
  have qc:=q.1
  have qk:(s.qB[((appls s t)[k]!).toNat]!).qN.toNat < s.qA.length:=q.cell
  have le:=ownL_le (e:=2) (s:=s) (t:=t) (n:=s.qA.length) (q:=k) (c:=(s.qB[((appls s t)[k]!).toNat]!).qN.toNat) qf
  have sm:=vz (p1.2.2.2.2 (s.qB[((appls s t)[k]!).toNat]!).qN.toNat qf).1
  refine xk (t_n (zf (xg (zcr ?_))))
  obtain ⟨b21,rfl⟩:=H.Qe 0 rfl qf
  refine oI rfl rfl (oL rfl (H.rowInt 0 rfl (iv:=k) (i:=k) qf qf) (sp (yI ((appls s t)[k]!)) (zjc (oF rfl (oL rfl (H.cell 3 rfl rfl) (sp (yI ((appls s t)[k]!)) ?_))))))
  obtain ⟨b22,o23,rfl⟩:=H.addr 2 rfl qf
  obtain ⟨ae25Need,ce25Need,Fe25Need,ae25Have,ce25Have,Fe25Have,ae25Lack,ce25Lack,Fe25Lack,ae25Here,ce25Here,Fe25Here,ae25Out,ce25Out,Fe25Out,ae25Into,ce25Into,Fe25Into,H⟩:=H.yH 2 rfl ((appls s t)[k]!) (((appls s t)[k]!).toNat) qf qf qf
  refine oI rfl rfl (oF rfl (oL rfl (H.x9 6 rfl 0 rfl) (sp (yI ((s.qB[((appls s t)[k]!).toNat]!).qN)) (zjcc (oF rfl (oL rfl (H.cell 2 rfl rfl) (sp (yI ((s.qB[((appls s t)[k]!).toNat]!).qN)) ?_)))))))
  obtain ⟨b26,o27,rfl⟩:=H.addr 11 rfl qf
  obtain ⟨ae29,ce29,Fe29,H⟩:=H.jq 11 rfl ((s.qB[((appls s t)[k]!).toNat]!).qN) (((s.qB[((appls s t)[k]!).toNat]!).qN).toNat) qf qf qf
  refine oI rfl rfl (oL rfl (H.x9 1 rfl 0 rfl) (sw (oq (X6 _ (t.qH[((s.qB[((appls s t)[k]!).toNat]!).qN).toNat]!) (H.get 0 rfl).1 (by first | assumption | exact vz ql | exact Qa ql)) H fun w30 H=>sp (Bv (decide ((Xh (t.qH[((s.qB[((appls s t)[k]!).toNat]!).qN).toNat]!):Int) > 16))) (zjn (cD rfl (fun h32=>?_) (fun h32=>?_))))))
  ·skip
   refine zcr (sps [yN,yI 3] (zjr (t_r (zr5 (ret2 yN (yI 3) rfl rfl rfl ⟨_,rfl,?_⟩)))))
   replace H:=H.erases [3,2,1,0]
   dsimp only [vM,List.eraseIdx] at H
   refine sps [.tuple #[yN,yI 3],yN,yI 3,yN,yI 3] (zjcc (sps [yI 3,Bv true] (zjn (xK true rfl (fun _=>zcr (sps [yI 3,yN,yI 3] (zjr (t_r ?_)))) (fun h=>absurd h qj)))))
   replace H:=H.nilRow 24 1
   replace H:=H.vT (α:=yLI)
   refine ret2 yN (yI 3) rfl rfl rfl ⟨_,rfl,?_,H.base⟩
   first | rw [cho_3 (.inl (own_bad p0 (q:=k) qf qf))] | rw [cho_3 (.inr (prod_stop (G:=(jZ s.qB.length (xn s t s.qA.length) (xx s t s.qA.length) k_1)) (r:=((xn s t s.qA.length)[k_1]!)) (k:=k_51+1) (i:=k_1) kn qf (Xy _) qf (by rw [← nextX_end (x:=k_52) qf qf];omega)))]
   exact ⟨none,0,0,[],[],rfl,(N.emp.pick [0]),H.pick [0] [0]⟩
  refine xk (t_n (zg (sps [Sv (aa b9 0) s.qA.length s.qA.length,yI ((s.qB[((appls s t)[k]!).toNat]!).qN),Sv (aa b9 0) s.qA.length s.qA.length,yI ((s.qB[((appls s t)[k]!).toNat]!).qN)] (oI rfl rfl ?_))))
  replace N:Fresh w.heap.size [Yg]:=N
  obtain ⟨a33,c34,F35,h36,N,H⟩:=H.openI 1 rfl 9 rfl N (iv:=(s.qB[((appls s t)[k]!).toNat]!).qN) (((s.qB[((appls s t)[k]!).toNat]!).qN).toNat) qf qf [sF false xe qE qC s.qA,sF false xE (aa b22 o23) qK s.qB,sF false xO qU qQ t.qG,sF false zo (aa b26 o27) qY t.qH,sF false xB qM qL t.qF] (keepA A N [10,11,12,13,14] rfl rfl)
  refine oL rfl h36 (sp (yI ((appls s t)[k]!)) (sw (zy H underlying24 ti2 [yI ((appls s t)[k]!)] fun b37 w38 H=>sw (zC H 1 rfl 0 rfl underlying24 ti2 rfl qj rfl rfl rfl qw qp qf fun a39 c40 w41 H=>?_))))
  rw [snocI] at H
  refine oI rfl rfl (sw (o_closeI H 3 rfl 1 qj rfl 0 rfl (c:=(((s.qB[((appls s t)[k]!).toNat]!).qN).toNat)) (N:Fresh w.heap.size [F35]) (H.jR []) sizeOf24 rfl rfl qf qf fun w42 F43 N H=>zi (b_n (t_n (zg (sw (zL k 1 rfl rfl qf (sp (yI (k+1)) (zi ?_)))))))))
  refine xq (m' :=(((appls s t).length) - ((k+1):Int)).toNat) qf ⟨_,k+1,(((ownL 2 s t s.qA.length k).set (((s.qB[((appls s t)[k]!).toNat]!).qN).toNat) ⟨[]⟩).set (((s.qB[((appls s t)[k]!).toNat]!).qN).toNat) ⟨(((ownL 2 s t s.qA.length k)[((s.qB[((appls s t)[k]!).toNat]!).qN).toNat]!).l++[(appls s t)[k]!])⟩),(x_own.set (((s.qB[((appls s t)[k]!).toNat]!).qN).toNat) (Sv a39 ((((ownL 2 s t s.qA.length k)[((s.qB[((appls s t)[k]!).toNat]!).qN).toNat]!).l.length)+1) c40)),F43,uE6,?_,?_,rfl,N,H.pick [2,3,4,5,6,7] [0,2,3,4,5,6]⟩
  · exact ownL_set qf rfl qf qf (by rw [List.set_set])
  · omega
 refine zx4 (zcr (sw (je H underlying166 ti170 fun b44 w45 H=>sp (Sv (aa b44 0) 0 0) (zjcc (sp (Sv (aa b9 0) s.qA.length s.qA.length) (oN rfl (sp (yI 0) (zjn (xg ?_)))))))))
 replace H:=H.ofOwn 0 rfl
 rw [ownL_end qf] at H
 have cl:=cellsR_len s t s.qA.length
 replace H:=H.boxRow 0 rfl 2 0 rfl qj
 replace H:=H.vT (α:=XM)
 replace H:St _ _ [rr (aa b44 0) 0 0 170 2 [],rr ra12 ((appls s t).length) rc12 2 1 ((appls s t).map (Value.int .i64)),rr (aa b9 0) s.qA.length s.qA.length 24 1 x_own,.box b7 (yT t qU qQ xf qY qM qL) 31,.box b5 (yS s qE qC qO qK) 27,.box b3 (yT t qU qQ xf qY qM qL) 31,.box b1 (yS s qE qC qO qK) 27] [xN true [] [] ([]:List XM),xN true Yg x_own (cellsR s t s.qA.length),xN true Yg x_own (ownL 2 s t s.qA.length k),sF false xe qE qC s.qA,sF false xE qO qK s.qB,sF false xO qU qQ t.qG,sF false zo xf qY t.qH,sF false xB qM qL t.qF]:=H
 refine zJ (fun m' ρ w46=>∃ (xY:Env) (vY:yOA) (zG:Nat) (vG:Nat) (out:List XM) (QQ:List Value) (Qu:yLN) (c:Nat),ρ=upd (upd (upd (upd (upd (upd xY 2 (pp b5 0)) 3 (pp b7 0)) 10 (Sv vY zG vG)) 55 (Sv (aa b9 0) s.qA.length s.qA.length)) 56 (yI s.qA.length)) 57 (yI c)∧out=(Qb s t c)∧((c:Int)≤s.qA.length)∧(Yf s t c)∧m' =(s.qA.length - (c:Int)).toNat∧Fresh w.heap.size [Yg]∧St w w46 [rr vY zG vG 170 2 QQ,rr ra12 ((appls s t).length) rc12 2 1 ((appls s t).map (Value.int .i64)),rr (aa b9 0) s.qA.length s.qA.length 24 1 x_own,.box b7 (yT t qU qQ xf qY qM qL) 31,.box b5 (yS s qE qC qO qK) 27,.box b3 (yT t qU qQ xf qY qM qL) 31,.box b1 (yS s qE qC qO qK) 27] [xN true Qu QQ out,xN true Yg x_own (cellsR s t s.qA.length),xN true Yg x_own (ownL 2 s t s.qA.length k),sF false xe qE qC s.qA,sF false xE qO qK s.qB,sF false xO qU qQ t.qG,sF false zo xf qY t.qH,sF false xB qM qL t.qF]) ((s.qA.length - (0:Int)).toNat) ⟨_,(aa b44 0),0,0,([]:List XM),[],[],0,uE6,(by rfl),qf,qx,rfl,N,H⟩ ?_
 clear H N
 rintro m' ρ w47 ⟨xY,vY,zG,vG,out,QQ,Qu,c,rfl,rfl,i0,gp,rfl,N,H⟩
 have hn_out:=H.x8 (α:=XM) 0 rfl 0 rfl qj
 have ce:=cells_len s t c
 have rl:=rules_le s t c
 refine zcr (sp (Bv (decide ((c:Int) < s.qA.length))) (zjn (zf (cD rfl (fun h48=>?_) (fun h48=>?_)))))
 ·skip
  refine xk (t_n (zf (xg (zcr (sp (yI c) (oI rfl rfl ?_))))))
  obtain ⟨a49,c50,G51,s52,h53,H⟩:=H.jP 2 rfl 1 rfl (iv:=c) c qf qf
  refine oL rfl (h53) (sps [yI c,Sv a49 (((cellsR s t s.qA.length)[c]!).length) c50] (zjcc (sp (Sv a49 (((cellsR s t s.qA.length)[c]!).length) c50) (oN rfl (sp (Bv ((((cellsR s t s.qA.length)[c]!).length:Int) == 0)) (zjn (cE rfl (fun h54=>?_) (fun h54=>?_))))))))
  ·skip
   rw [cellsR_get (s:=s) (t:=t) (n:=s.qA.length) (c:=c) qf] at H h54 ⊢
   refine c_exit (t_x (b_x (t_n (zg (sw (zL c 1 rfl rfl qf (sp (yI (c+1)) (zi (xq (m' :=(s.qA.length - ((c+1):Int)).toNat) qf ⟨_,vY,zG,vG,(Qb s t c),QQ,Qu,c+1,uE6,?_,?_,?_,rfl,N,H.pick [0,1,2,3,4,5,6] [1,2,3,4,5,6,7,8]⟩)))))))))
   · first | exact cells_yes qf | exact cells_no qf
   · omega
   · exact gp.succ (by first | exact .inl qf | exact .inr (show (zk _ _).2=0 from ‹_›))
  rw [cellsR_get (s:=s) (t:=t) (n:=s.qA.length) (c:=c) qf] at H h54 ⊢
  refine xk (t_n (zcr (sw (je H underlying29 ti24 fun b55 w56 H=>sp (Sv (aa b55 0) 0 0) (zjcc (sp (Sv a49 ((xX s t c).length) c50) (oN rfl (sp (yI 0) (zjn (xg ?_))))))))))
  replace H:=H.boxRow 0 rfl 1 0 rfl qj
  replace H:=H.vT (α:=yLI)
  replace H:=H.unfree 0 rfl
  refine zJ (fun m' ρ w57=>∃ (xY:Env) (vC:yOA) (zO:Nat) (vw:Nat) (needs:yLL) (yJ:List Value) (Qn:yLN) (k_1:Nat),ρ=upd (upd (upd (upd (upd (upd (upd (upd (upd (upd (upd (upd xY 2 (pp b5 0)) 3 (pp b7 0)) 10 (Sv vY zG vG)) 11 (yI c)) 12 (Sv a49 ((xX s t c).length) c50)) 13 (Sv vC zO vw)) 55 (Sv (aa b9 0) s.qA.length s.qA.length)) 56 (yI s.qA.length)) 57 (yI c)) 66 (Sv a49 ((xX s t c).length) c50)) 67 (yI ((xX s t c).length))) 68 (yI k_1)∧needs=(xA s ((xX s t c).take k_1))∧((k_1:Int)≤((xX s t c).length))∧m' =(((xX s t c).length) - (k_1:Int)).toNat∧Fresh w.heap.size [Yg]∧St w w57 [rr vC zO vw 24 1 yJ,rr vY zG vG 170 2 QQ,rr ra12 ((appls s t).length) rc12 2 1 ((appls s t).map (Value.int .i64)),rr (aa b9 0) s.qA.length s.qA.length 24 1 x_own,.box b7 (yT t qU qQ xf qY qM qL) 31,.box b5 (yS s qE qC qO qK) 27,.box b3 (yT t qU qQ xf qY qM qL) 31,.box b1 (yS s qE qC qO qK) 27] [xN false Qn yJ needs,sF true G51 a49 c50 (xX s t c),xN true Qu QQ (Qb s t c),xN true Yg x_own (cellsR s t s.qA.length),xN true Yg x_own (ownL 2 s t s.qA.length k),sF false xe qE qC s.qA,sF false xE qO qK s.qB,sF false xO qU qQ t.qG,sF false zo xf qY t.qH,sF false xB qM qL t.qF]) ((((xX s t c).length) - (0:Int)).toNat) ⟨_,(aa b55 0),0,0,([]:yLL),[],[],0,uE12,(by rfl),qf,rfl,N,H.pick [0,1,2,3,4,5,6,7] [0,2,3,4,5,6,7,8,9,10]⟩ ?_
  clear H N
  rintro m' ρ w58 ⟨xY,vC,zO,vw,needs,yJ,Qn,k_1,rfl,rfl,i0,rfl,N,H⟩
  have hn_needs:=H.x8 (α:=yLI) 0 rfl 0 rfl qj
  have nl:=Xa s ((xX s t c).take k_1)
  have tl:=List.length_take_le k_1 (xX s t c)
  have cl8:=cellR_len (t:=t) p0 c
  refine zcr (sp (Bv (decide ((k_1:Int) < ((xX s t c).length)))) (zjn (zf (cD rfl (fun h59=>?_) (fun h59=>?_)))))
  ·skip
   obtain ⟨e1,e2,e3,e4⟩:=cellR_at (s:=s) (t:=t) (c:=c) (j:=k_1) qf
   refine xk (t_n (zf (xg (zcr ?_))))
   obtain ⟨b60,o61,rfl⟩:=H.addr 1 rfl qf
   refine oI rfl rfl (oL rfl (H.yF 1 rfl k_1 qf qf) (sp (yI ((xX s t c)[k_1]!)) (zjn (zg (sp (Sv vC zO vw) (oF rfl (oL rfl (H.cell 5 rfl rfl) (sp (yI ((xX s t c)[k_1]!)) ?_))))))))
   obtain ⟨b63,o64,rfl⟩:=H.addr 6 rfl qf
   obtain ⟨ae66Need,ce66Need,Fe66Need,ae66Have,ce66Have,Fe66Have,ae66Lack,ce66Lack,Fe66Lack,ae66Here,ce66Here,Fe66Here,ae66Out,ce66Out,Fe66Out,ae66Into,ce66Into,Fe66Into,H⟩:=H.yH 6 rfl ((xX s t c)[k_1]!) (((xX s t c)[k_1]!).toNat) qf qf qf
   refine oI rfl rfl (oF rfl (oL rfl (H.x9 6 rfl 2 rfl) (sw (zy H underlying29 ti24 [Sv ae66Need (((s.qB[((xX s t c)[k_1]!).toNat]!).xR).length) ce66Need] fun b67 w68 H=>sw (zC H 1 rfl 0 rfl underlying29 ti24 rfl qj rfl rfl rfl qw qp qf fun a69 c70 w71 H=>?_)))))
   replace H:=H.yt 7 rfl 0 rfl
   refine sp (Sv a69 (zO+1) c70) (zi (b_n (t_n (zg (sw (zL k_1 1 rfl rfl qf (sp (yI (k_1+1)) (zi (xq (m' :=(((xX s t c).length) - ((k_1+1):Int)).toNat) qf ⟨_,a69,zO+1,c70,((xA s ((xX s t c).take k_1))++[(s.qB[((xX s t c)[k_1]!).toNat]!).xR]),yJ++[Sv ae66Need (((s.qB[((xX s t c)[k_1]!).toNat]!).xR).length) ce66Need],(Qn++Fe66Need),k_1+1,uE12,?_,?_,rfl,N,H.pick [1,2,3,4,5,6,7,8] [0,9,10,11,12,13,14,15,16,17]⟩)))))))))
   · exact needs_take qf
   · omega
  rw [List.take_of_length_le (l:=xX s t c) (i:=k_1) qf] at H
  refine zx4 (zcr (oF rfl (oL rfl (H.cell 4 rfl rfl) (sp (yI c) ?_))))
  obtain ⟨b72,o73,rfl⟩:=H.addr 8 rfl qf
  obtain ⟨ae75,ce75,Fe75,H⟩:=H.jq 8 rfl c c qf qf qf
  refine oI rfl rfl (oL rfl (H.x9 1 rfl 0 rfl) (sp (Sv vC zO vw) ?_))
  obtain ⟨G76,hn77,h78⟩:=H.QK (α:=yLI) 0 rfl 2 rfl qj
  have cp:=cell_pack p0 p1 (c:=c) qf
  have nl2:=Xa s (xX s t c)
  have sz82:=H.base.size
  have lt83:=H.ltN (L:=[Yg]) [5]
  refine sw (oc (args_eq (by rw [← hn77]) (maxPack_ok _ (t.qH[c]!) (xA s (xX s t c)) (H.get 0 rfl).1 (hn77▸h78) qg qg)) ?_)
  rintro _ w80 ⟨ra79a,rn79a,rc79a,rx79a,rF79a,rfl,M,K⟩ _
  replace N:=N.merge sz82 lt83 M
  replace H:=H.merge K M
  obtain rfl:=H.x8 (α:=yLI) 0 rfl 0 rfl qj
  refine sps [.tuple #[Sv ra79a (((zk (t.qH[c]!) (xA s (xX s t c))).1).length) rc79a,yI ((zk (t.qH[c]!) (xA s (xX s t c))).2)],Sv ra79a (((zk (t.qH[c]!) (xA s (xX s t c))).1).length) rc79a,yI ((zk (t.qH[c]!) (xA s (xX s t c))).2),Sv ra79a (((zk (t.qH[c]!) (xA s (xX s t c))).1).length) rc79a,yI ((zk (t.qH[c]!) (xA s (xX s t c))).2)] (zjcc (sps [yI ((zk (t.qH[c]!) (xA s (xX s t c))).2),Bv (((zk (t.qH[c]!) (xA s (xX s t c))).2:Int) != 0)] (zjn ?_)))
  refine xK (((zk (t.qH[c]!) (xA s (xX s t c))).2:Int) != 0) rfl (fun h85=>?_) (fun h85=>?_)
  ·skip
   replace h85:=bne_iff_ne.1 h85
   refine zcr (sps [yI ((zk (t.qH[c]!) (xA s (xX s t c))).2),yN,yI ((zk (t.qH[c]!) (xA s (xX s t c))).2)] (zjr (t_r (zr5 (ret2 yN (yI ((zk (t.qH[c]!) (xA s (xX s t c))).2)) rfl rfl rfl ⟨_,rfl,?_⟩)))))
   replace H:=H.erases [6,5,4,3,2,1,0]
   dsimp only [vM,List.eraseIdx] at H
   refine sps [.tuple #[yN,yI ((zk (t.qH[c]!) (xA s (xX s t c))).2)],yN,yI ((zk (t.qH[c]!) (xA s (xX s t c))).2),yN,yI ((zk (t.qH[c]!) (xA s (xX s t c))).2)] (zjcc (sps [yI ((zk (t.qH[c]!) (xA s (xX s t c))).2),Bv (((zk (t.qH[c]!) (xA s (xX s t c))).2:Int) != 0)] (zjn (xK (((zk (t.qH[c]!) (xA s (xX s t c))).2:Int) != 0) rfl (fun h86=>?_) (fun h=>absurd (xF h) h85)))))
   replace h86:=bne_iff_ne.1 h86
   refine zcr (sps [yI ((zk (t.qH[c]!) (xA s (xX s t c))).2),yN,yI ((zk (t.qH[c]!) (xA s (xX s t c))).2)] (zjr (t_r ?_)))
   replace H:=H.nilRow 24 1
   replace H:=H.vT (α:=yLI)
   refine ret2 yN (yI ((zk (t.qH[c]!) (xA s (xX s t c))).2)) rfl rfl rfl ⟨_,rfl,?_,H.base⟩
   rw [cho_code (bad_code (c:=c) qf qf ‹_›) ‹_›]
   exact ⟨none,0,0,[],[],rfl,(N.emp.pick [0]),H.pick [0] [0]⟩
  replace h85:=xF h85
  refine xk (t_n (zg (sps [Sv vY zG vG,Sv a49 ((xX s t c).length) c50,Sv ra79a (((zk (t.qH[c]!) (xA s (xX s t c))).1).length) rc79a] (sw (vX [Sv a49 ((xX s t c).length) c50,Sv ra79a (((zk (t.qH[c]!) (xA s (xX s t c))).1).length) rc79a] [(0,Sv a49 ((xX s t c).length) c50),(1,Sv ra79a (((zk (t.qH[c]!) (xA s (xX s t c))).1).length) rc79a)] (sw (zy H underlying166 ti170 [Sv a49 ((xX s t c).length) c50,Sv ra79a (((zk (t.qH[c]!) (xA s (xX s t c))).1).length) rc79a] fun b87 w88 H=>?_)))))))
  have H0:=H
  obtain ⟨G92,hg94,hn93,H⟩:=H.Xz (α:=yLI) 1 rfl 0 rfl qj
  replace N:Fresh w.heap.size [G92,Yg]:=Fresh.ice N H0 1 hg94.1 hg94.2 (H0.jR [6])
  clear H0
  refine sw (zC H 3 rfl 0 rfl underlying166 ti170 rfl qj rfl rfl rfl qw qp qf fun a89 c90 w91 H=>?_)
  replace H:=H.snoc_inCellD 6 rfl 5 rfl 0 rfl
  refine sp (Sv a89 (zG+1) c90) (zi (b_n (t_n (zg (sw (zL c 1 rfl rfl qf (sp (yI (c+1)) (zi (xq (m' :=(s.qA.length - ((c+1):Int)).toNat) qf ⟨_,a89,zG+1,c90,((Qb s t c)++[⟨xX s t c,(zk (t.qH[c]!) (xA s (xX s t c))).1⟩]),QQ++[Sv a49 ((xX s t c).length) c50,Sv ra79a (((zk (t.qH[c]!) (xA s (xX s t c))).1).length) rc79a],(Qu++(G51++G92)),c+1,uE6,?_,?_,?_,rfl,(N.pick [1]),H.pick [3,4,5,6,7,8,9] [0,8,9,10,11,12,13,14]⟩)))))))))
  · first | exact cells_yes qf | exact cells_no qf
  · omega
  · exact gp.succ (by first | exact .inl qf | exact .inr (show (zk _ _).2=0 from ‹_›))
 refine zx4 (zcr (sps [Sv vY zG vG,Sv vY zG vG,yI 0] (zjr (ret2 (Sv vY zG vG) (yI 0) rfl rfl rfl ⟨_,rfl,?_⟩))))
 replace H:=H.erases [4,3,2,1]
 dsimp only [vM,List.eraseIdx] at H
 obtain rfl:c=s.qA.length:=by omega
 have kn:=packsL_ne p0 p1 (k:=s.qA.length) qf gp
 have kr:=rules_le s t s.qA.length
 have kl:=VL s t s.qA.length
 have ce:=cells_len s t s.qA.length
 refine sps [.tuple #[Sv vY zG vG,yI 0],Sv vY zG vG,yI 0,Sv vY zG vG,yI 0] (zjcc (sps [yI 0,Bv false] (zjn (xK false rfl (fun h=>absurd h qj) (fun _=>xk (t_n (zcr (oF rfl (oL rfl (H.cell 2 rfl rfl) (oN rfl (sw (ji H underlying24 ti2 s.qB.length rfl rfl qf qf qf fun b95 w96 H=>sw (zy H underlying29 ti24 [Sv (aa b95 0) s.qB.length s.qB.length] fun b97 w98 H=>sp (Sv (aa b97 0) 1 1) (zjcc ?_))))))))))))))
 refine sp (Sv vY zG vG) (oN rfl (sp (yI 0) (zjn (xg ?_))))
 obtain ⟨G99,hg101,hn100,H⟩:=H.Xz (α:=XM) 2 rfl 0 rfl qj
 replace H:=H.boxRow 0 rfl 1 1 rfl qj
 replace H:=H.vT (α:=yLI)
 obtain ⟨G102,N,hn103,H⟩:=H.zT 1 rfl N (H.jR [3])
 replace H:=H.VS true 0 rfl 1 rfl qm
 replace N:Fresh w.heap.size [(G102++[]),Yg]:=(N.emp.pick [1,0,2]).join
 refine zJ (fun m' ρ w104=>∃ (xY:Env) (a_out_1:yOA) (Q3:Nat) (VK:Nat) (out_1:yLL) (VY:List Value) (Vq:yLN) (k_1:Nat),ρ=upd (upd (upd (upd xY 8 (Sv a_out_1 Q3 VK)) 33 (Sv vY zG vG)) 34 (yI zG)) 35 (yI k_1)∧out_1=(jZ s.qB.length (xn s t s.qA.length) (xx s t s.qA.length) k_1)∧((k_1:Int)≤zG)∧((jZ s.qB.length (xn s t s.qA.length) (xx s t s.qA.length) k_1).length≤300)∧m' =(zG - (k_1:Int)).toNat∧Fresh w.heap.size [Vq]∧St w w104 [rr a_out_1 Q3 VK 24 1 VY,.box b3 (yT t qU qQ xf qY qM qL) 31,.box b1 (yS s qE qC qO qK) 27] [xN true Vq VY out_1,isF true G99 (Sv vY zG vG) (Qb s t s.qA.length),sF false xe qE qC s.qA,sF false xE qO qK s.qB,sF false xO qU qQ t.qG,sF false zo xf qY t.qH,sF false xB qM qL t.qF]) ((zG - (0:Int)).toNat) ⟨_,(aa b97 0),1,1,[(List.replicate s.qB.length (0:Int))],[Sv (aa b95 0) s.qB.length s.qB.length],(G102++[]),0,uE4,(by rfl),qf,(by rw [Xy];show 1≤300;omega),rfl,(N.pick [0]),H.pick [0,3,4] [0,3,7,8,9,10,11]⟩ ?_
 clear H N
 rintro m' ρ w105 ⟨xY,a_out_1,Q3,VK,out_1,VY,Vq,k_1,rfl,rfl,i0,g3,rfl,N,H⟩
 have hn_out:=H.x8 (α:=yLI) 0 rfl 0 rfl qj
 refine zcr (sp (Bv (decide ((k_1:Int) < zG))) (zjn (zf (cD rfl (fun h106=>?_) (fun h106=>?_)))))
 ·skip
  obtain ⟨gb,gc⟩:=cell_few (s:=s) (t:=t) (n:=s.qA.length) (i:=k_1) p0 qf
  refine xk (t_n (zf (xg (zcr ?_))))
  have hl109:=H.isLen 1 rfl
  obtain ⟨b107,o108,rfl⟩:=H.addr 1 rfl qf
  obtain ⟨ae110rules,ce110rules,Fe110rules,ae110packings,ce110packings,Fe110packings,H⟩:=H.elem_inCellD 1 rfl k_1 k_1 qf qf qf
  refine oI rfl rfl (sw (xU [Sv ae110rules ((((Qb s t s.qA.length)[k_1]!).frules).length) ce110rules,Sv ae110packings ((((Qb s t s.qA.length)[k_1]!).fpackings).length) ce110packings] isAgg170 sizeOf170 rfl (qJ (H.get 2 rfl) 0 2) (sw (xZ H ti170 [yN,yN] fun b111 w112 H=>sw (zu H 0 [Sv ae110rules ((((Qb s t s.qA.length)[k_1]!).frules).length) ce110rules,Sv ae110packings ((((Qb s t s.qA.length)[k_1]!).fpackings).length) ce110packings] sizeOf170 fun w113 H=>zjc (sw (je H underlying29 ti24 fun b114 w115 H=>?_)))))))
  refine sp (Sv (aa b114 0) 0 0) (zjcc (sp (Sv a_out_1 Q3 VK) (oN rfl (sp (yI 0) (zjn (xg ?_))))))
  obtain ⟨ce1,ce2⟩:=cells_at (s:=s) (t:=t) (k:=s.qA.length) (i:=k_1) qf
  rw [ce1,ce2] at H
  replace H:=H.boxRow 0 rfl 1 0 rfl qj
  replace H:=H.vT (α:=yLI)
  refine zJ (fun m' ρ w116=>∃ (xY:Env) (a_next:yOA) (n_next:Nat) (c_next:Nat) (next:yLL) (x_next:List Value) (F_next:yLN) (k_51:Nat),ρ=upd (upd (upd (upd (upd (upd (upd (upd xY 10 (pp b111 0)) 11 (Sv a_next n_next c_next)) 33 (Sv (aa b107 o108) zG vG)) 34 (yI zG)) 35 (yI k_1)) 40 (Sv a_out_1 Q3 VK)) 41 (yI Q3)) 42 (yI k_51)∧next=(nextK (jZ s.qB.length (xn s t s.qA.length) (xx s t s.qA.length) k_1) ((xn s t s.qA.length)[k_1]!) ((xx s t s.qA.length)[k_1]!) k_51)∧((k_51:Int)≤Q3)∧((nextK (jZ s.qB.length (xn s t s.qA.length) (xx s t s.qA.length) k_1) ((xn s t s.qA.length)[k_1]!) ((xx s t s.qA.length)[k_1]!) k_51).length≤300)∧m' =(Q3 - (k_51:Int)).toNat∧Fresh w.heap.size [Vq,F_next]∧St w w116 [rr a_next n_next c_next 24 1 x_next,.box b111 [Sv ae110rules (((xn s t s.qA.length)[k_1]!).length) ce110rules,Sv ae110packings (((xx s t s.qA.length)[k_1]!).length) ce110packings] 170,rr a_out_1 Q3 VK 24 1 VY,.box b3 (yT t qU qQ xf qY qM qL) 31,.box b1 (yS s qE qC qO qK) 27] [xN true F_next x_next next,sF true Fe110rules ae110rules ce110rules ((xn s t s.qA.length)[k_1]!),sF true Fe110packings ae110packings ce110packings ((xx s t s.qA.length)[k_1]!),atF b107 (o108+(k_1:Int).toNat * 2) [Sv ae110rules (((xn s t s.qA.length)[k_1]!).length) ce110rules,Sv ae110packings (((xx s t s.qA.length)[k_1]!).length) ce110packings],xN true Vq VY (jZ s.qB.length (xn s t s.qA.length) (xx s t s.qA.length) k_1),isF true G99 (Sv (aa b107 o108) zG vG) (Qb s t s.qA.length),sF false xe qE qC s.qA,sF false xE qO qK s.qB,sF false xO qU qQ t.qG,sF false zo xf qY t.qH,sF false xB qM qL t.qF]) ((Q3 - (0:Int)).toNat) ⟨_,(aa b114 0),0,0,([]:yLL),[],[],0,uE8,(by rfl),qf,(by show 0≤300;omega),rfl,(N.emp.pick [1,0]),H⟩ ?_
  clear H N
  rintro m' ρ w117 ⟨xY,a_next,n_next,c_next,next,x_next,F_next,k_51,rfl,rfl,i0,n3,rfl,N,H⟩
  have hn_next:=H.x8 (α:=yLI) 0 rfl 0 rfl qj
  refine zcr (sp (Bv (decide ((k_51:Int) < Q3))) (zjn (zf (cD rfl (fun h118=>?_) (fun h118=>?_)))))
  ·skip
   refine xk (t_n (zf (xg (zcr ?_))))
   obtain ⟨b119,rfl⟩:=H.Qe 2 rfl qf
   refine oI rfl rfl ?_
   obtain ⟨a120,c121,G122,s123,h124,H⟩:=H.jP 2 rfl 4 rfl (iv:=k_51) k_51 qf qf
   refine oL rfl (h124) (sp (Sv a120 (((jZ s.qB.length (xn s t s.qA.length) (xx s t s.qA.length) k_1)[k_51]!).length) c121) (zjcc (oF rfl (oL rfl (H.cell 1 rfl rfl) (oN rfl (sp (yI 0) (zjn (xg ?_))))))))
   refine zJ (fun m' ρ w125=>∃ (xY:Env) (Xv:yOA) (QM:Nat) (Xu:Nat) (next_1:yLL) (XK:List Value) (Q8:yLN) (k_52:Nat),ρ=upd (upd (upd (upd (upd (upd (upd (upd (upd (upd (upd (upd xY 10 (pp b111 0)) 11 (Sv Xv QM Xu)) 13 (Sv a120 (((jZ s.qB.length (xn s t s.qA.length) (xx s t s.qA.length) k_1)[k_51]!).length) c121)) 33 (Sv (aa b107 o108) zG vG)) 34 (yI zG)) 35 (yI k_1)) 40 (Sv (aa b119 0) Q3 VK)) 41 (yI Q3)) 42 (yI k_51)) 47 (Sv ae110packings (((xx s t s.qA.length)[k_1]!).length) ce110packings)) 48 (yI (((xx s t s.qA.length)[k_1]!).length))) 49 (yI k_52)∧next_1=(nextX (jZ s.qB.length (xn s t s.qA.length) (xx s t s.qA.length) k_1) ((xn s t s.qA.length)[k_1]!) ((xx s t s.qA.length)[k_1]!) k_51 k_52)∧((k_52:Int)≤(((xx s t s.qA.length)[k_1]!).length))∧m' =((((xx s t s.qA.length)[k_1]!).length) - (k_52:Int)).toNat∧Fresh w.heap.size [Vq,Q8]∧St w w125 [rr Xv QM Xu 24 1 XK,.box b111 [Sv ae110rules (((xn s t s.qA.length)[k_1]!).length) ce110rules,Sv ae110packings (((xx s t s.qA.length)[k_1]!).length) ce110packings] 170,rr (aa b119 0) Q3 VK 24 1 VY,.box b3 (yT t qU qQ xf qY qM qL) 31,.box b1 (yS s qE qC qO qK) 27] [sF true G122 a120 c121 ((jZ s.qB.length (xn s t s.qA.length) (xx s t s.qA.length) k_1)[k_51]!),xN true Q8 XK next_1,sF true Fe110rules ae110rules ce110rules ((xn s t s.qA.length)[k_1]!),sF true Fe110packings ae110packings ce110packings ((xx s t s.qA.length)[k_1]!),atF b107 (o108+(k_1:Int).toNat * 2) [Sv ae110rules (((xn s t s.qA.length)[k_1]!).length) ce110rules,Sv ae110packings (((xx s t s.qA.length)[k_1]!).length) ce110packings],xN true Vq VY (jZ s.qB.length (xn s t s.qA.length) (xx s t s.qA.length) k_1),isF true G99 (Sv (aa b107 o108) zG vG) (Qb s t s.qA.length),sF false xe qE qC s.qA,sF false xE qO qK s.qB,sF false xO qU qQ t.qG,sF false zo xf qY t.qH,sF false xB qM qL t.qF]) (((((xx s t s.qA.length)[k_1]!).length) - (0:Int)).toNat) ⟨_,a_next,n_next,c_next,(nextK (jZ s.qB.length (xn s t s.qA.length) (xx s t s.qA.length) k_1) ((xn s t s.qA.length)[k_1]!) ((xx s t s.qA.length)[k_1]!) k_51),x_next,F_next,0,uE12,(by exact nextX_zero _ _ _ _),qf,rfl,N,H⟩ ?_
   clear H N
   rintro m' ρ w126 ⟨xY,Xv,QM,Xu,next_1,XK,Q8,k_52,rfl,rfl,i0,rfl,N,H⟩
   have hn_next:=H.x8 (α:=yLI) 0 rfl 1 rfl qj
   refine zcr (sp (Bv (decide ((k_52:Int) < (((xx s t s.qA.length)[k_1]!).length)))) (zjn (zf (cD rfl (fun h127=>?_) (fun h127=>?_)))))
   ·skip
    have nx:=nextX_len (r:=((xn s t s.qA.length)[k_1]!)) (show k_51 < (jZ s.qB.length (xn s t s.qA.length) (xx s t s.qA.length) k_1).length by omega) (show k_52≤((xx s t s.qA.length)[k_1]!).length by omega)
    have nk:=nextK_len (r:=((xn s t s.qA.length)[k_1]!)) (P:=((xx s t s.qA.length)[k_1]!)) (show k_51≤(jZ s.qB.length (xn s t s.qA.length) (xx s t s.qA.length) k_1).length by omega)
    have g1:=prodG_at (n:=s.qB.length) (rs:=(xn s t s.qA.length)) (all:=(xx s t s.qA.length)) (i:=k_1) (k:=k_51) qf
    have g2:=pack_at (s:=s) (t:=t) (n:=s.qA.length) (i:=k_1) (x:=k_52) qf qf
    refine xk (t_n (zf (xg (zcr ?_))))
    obtain ⟨b128,o129,rfl⟩:=H.addr 3 rfl qf
    obtain ⟨ae131,ce131,Fe131,H⟩:=H.jq 3 rfl k_52 k_52 qf qf qf
    refine oI rfl rfl (oL rfl (H.x9 1 rfl 0 rfl) (sp (Sv ae131 ((((xx s t s.qA.length)[k_1]!)[k_52]!).length) ce131) (zjc (sp (Sv a120 (((jZ s.qB.length (xn s t s.qA.length) (xx s t s.qA.length) k_1)[k_51]!).length) c121) ?_))))
    have sz132:=H.base.size
    have lt133:=H.ltN (L:=[Vq,Q8]) [7,3]
    refine sw (oc (cloneI_ok _ ((jZ s.qB.length (xn s t s.qA.length) (xx s t s.qA.length) k_1)[k_51]!) (H.get 2 rfl).1 qg) ?_)
    rintro v137 w135 r137 x136
    replace H:=H.zB x136 r137
    obtain ⟨a138,c139,rfl,hc140,hm141⟩:=H.jG 0 rfl
    refine sp (Sv a138 (((jZ s.qB.length (xn s t s.qA.length) (xx s t s.qA.length) k_1)[k_51]!).length) c139) (zjcc (oF rfl (oL rfl (H.cell 2 rfl rfl) (oN rfl (sp (yI 0) (zjn (xg ?_)))))))
    refine zJ (fun m' ρ w142=>∃ (xY:Env) (k_53:Nat) (own_1:yLI),ρ=upd (upd (upd (upd (upd (upd (upd (upd (upd (upd (upd (upd (upd (upd (upd (upd (upd xY 10 (pp b111 0)) 11 (Sv Xv QM Xu)) 13 (Sv a120 (((jZ s.qB.length (xn s t s.qA.length) (xx s t s.qA.length) k_1)[k_51]!).length) c121)) 15 (Sv ae131 ((((xx s t s.qA.length)[k_1]!)[k_52]!).length) ce131)) 16 (Sv a138 (((jZ s.qB.length (xn s t s.qA.length) (xx s t s.qA.length) k_1)[k_51]!).length) c139)) 33 (Sv (aa b107 o108) zG vG)) 34 (yI zG)) 35 (yI k_1)) 40 (Sv (aa b119 0) Q3 VK)) 41 (yI Q3)) 42 (yI k_51)) 47 (Sv (aa b128 o129) (((xx s t s.qA.length)[k_1]!).length) ce110packings)) 48 (yI (((xx s t s.qA.length)[k_1]!).length))) 49 (yI k_52)) 56 (Sv ae110rules (((xn s t s.qA.length)[k_1]!).length) ce110rules)) 57 (yI (((xn s t s.qA.length)[k_1]!).length))) 58 (yI k_53)∧own_1=(setTo ((jZ s.qB.length (xn s t s.qA.length) (xx s t s.qA.length) k_1)[k_51]!) ((xn s t s.qA.length)[k_1]!) (((xx s t s.qA.length)[k_1]!)[k_52]!) k_53)∧((k_53:Int)≤(((xn s t s.qA.length)[k_1]!).length))∧m' =((((xn s t s.qA.length)[k_1]!).length) - (k_53:Int)).toNat∧Fresh w.heap.size [Vq,Q8]∧St w w142 [rr a138 (((jZ s.qB.length (xn s t s.qA.length) (xx s t s.qA.length) k_1)[k_51]!).length) c139 2 1 (own_1.map (Value.int .i64)),rr Xv QM Xu 24 1 XK,.box b111 [Sv ae110rules (((xn s t s.qA.length)[k_1]!).length) ce110rules,Sv (aa b128 o129) (((xx s t s.qA.length)[k_1]!).length) ce110packings] 170,rr (aa b119 0) Q3 VK 24 1 VY,.box b3 (yT t qU qQ xf qY qM qL) 31,.box b1 (yS s qE qC qO qK) 27] [sF true Fe131 ae131 ce131 (((xx s t s.qA.length)[k_1]!)[k_52]!),atF b128 (o129+(k_52:Int).toNat * 1) [Sv ae131 ((((xx s t s.qA.length)[k_1]!)[k_52]!).length) ce131],sF true G122 a120 c121 ((jZ s.qB.length (xn s t s.qA.length) (xx s t s.qA.length) k_1)[k_51]!),xN true Q8 XK (nextX (jZ s.qB.length (xn s t s.qA.length) (xx s t s.qA.length) k_1) ((xn s t s.qA.length)[k_1]!) ((xx s t s.qA.length)[k_1]!) k_51 k_52),sF true Fe110rules ae110rules ce110rules ((xn s t s.qA.length)[k_1]!),sF true Fe110packings (aa b128 o129) ce110packings ((xx s t s.qA.length)[k_1]!),atF b107 (o108+(k_1:Int).toNat * 2) [Sv ae110rules (((xn s t s.qA.length)[k_1]!).length) ce110rules,Sv (aa b128 o129) (((xx s t s.qA.length)[k_1]!).length) ce110packings],xN true Vq VY (jZ s.qB.length (xn s t s.qA.length) (xx s t s.qA.length) k_1),isF true G99 (Sv (aa b107 o108) zG vG) (Qb s t s.qA.length),sF false xe qE qC s.qA,sF false xE qO qK s.qB,sF false xO qU qQ t.qG,sF false zo xf qY t.qH,sF false xB qM qL t.qF]) (((((xn s t s.qA.length)[k_1]!).length) - (0:Int)).toNat) ⟨_,0,((jZ s.qB.length (xn s t s.qA.length) (xx s t s.qA.length) k_1)[k_51]!),uE17,(by rfl),qf,rfl,N,H⟩ ?_
    clear H N
    rintro m' ρ w143 ⟨xY,k_53,own_1,rfl,rfl,i0,rfl,N,H⟩
    have hn_own:=H.yx 0 rfl
    have sl:=setTo_len ((jZ s.qB.length (xn s t s.qA.length) (xx s t s.qA.length) k_1)[k_51]!) ((xn s t s.qA.length)[k_1]!) (((xx s t s.qA.length)[k_1]!)[k_52]!) k_53
    refine zcr (sp (Bv (decide ((k_53:Int) < (((xn s t s.qA.length)[k_1]!).length)))) (zjn (zf (cD rfl (fun h144=>?_) (fun h144=>?_)))))
    ·skip
     obtain ⟨g3',g4⟩:=choice_at (s:=s) (t:=t) (n:=s.qA.length) (i:=k_1) (r:=k_53) qf qf
     refine xk (t_n (zf (xg (zcr (sp (yI k_53) ?_)))))
     obtain ⟨b145,o146,rfl⟩:=H.addr 4 rfl qf
     refine oI rfl rfl (oL rfl (H.yF 4 rfl k_53 qf qf) (sps [yI k_53,yI (((xn s t s.qA.length)[k_1]!)[k_53]!)] (zjn (zg (sps [Sv a138 (((jZ s.qB.length (xn s t s.qA.length) (xx s t s.qA.length) k_1)[k_51]!).length) c139,yI (((xn s t s.qA.length)[k_1]!)[k_53]!),Sv ae131 ((((xx s t s.qA.length)[k_1]!)[k_52]!).length) ce131,yI k_53] ?_)))))
     obtain ⟨b148,o149,rfl⟩:=H.addr 0 rfl qf
     refine oI rfl rfl (oL rfl (H.yF 0 rfl k_53 qf qf) ?_)
     obtain ⟨b151,rfl⟩:=H.Qe 0 rfl qf
     refine oI rfl rfl (sw (X0 H 0 rfl ((((xx s t s.qA.length)[k_1]!)[k_52]!)[k_53]!) sizeOf2 rfl rfl (i:=((((xn s t s.qA.length)[k_1]!)[k_53]!).toNat)) qf qf fun w152 H=>zi (b_n (t_n (zg (sw (zL k_53 1 rfl rfl qf (sp (yI (k_53+1)) (zi ?_)))))))))
     refine xq (m' :=((((xn s t s.qA.length)[k_1]!).length) - ((k_53+1):Int)).toNat) qf ⟨_,k_53+1,((setTo ((jZ s.qB.length (xn s t s.qA.length) (xx s t s.qA.length) k_1)[k_51]!) ((xn s t s.qA.length)[k_1]!) (((xx s t s.qA.length)[k_1]!)[k_52]!) k_53).set ((((xn s t s.qA.length)[k_1]!)[k_53]!).toNat) ((((xx s t s.qA.length)[k_1]!)[k_52]!)[k_53]!)),uE17,?_,?_,rfl,N,H⟩
     · rfl
     · omega
    refine zx4 (zg (sps [Sv Xv QM Xu,Sv a138 (((jZ s.qB.length (xn s t s.qA.length) (xx s t s.qA.length) k_1)[k_51]!).length) c139] (sw (zy H underlying29 ti24 [Sv a138 (((jZ s.qB.length (xn s t s.qA.length) (xx s t s.qA.length) k_1)[k_51]!).length) c139] fun b153 w154 H=>?_))))
    obtain ⟨G158,N,hn159,H⟩:=H.zT 1 rfl N (H.jR [7,3])
    refine sw (zC H 2 rfl 0 rfl underlying29 ti24 rfl qj rfl rfl rfl qw qp qf fun a155 c156 w157 H=>?_)
    replace H:=H.yt 4 rfl 0 rfl
    replace N:Fresh w.heap.size [(Q8++G158),Vq]:=(N.pick [2,0,1]).join
    refine sp (Sv a155 (QM+1) c156) (zi (b_n (t_n (zg (sw (zL k_52 1 rfl rfl qf (sp (yI (k_52+1)) (zi ?_))))))))
    refine xq (m' :=((((xx s t s.qA.length)[k_1]!).length) - ((k_52+1):Int)).toNat) qf ⟨_,a155,QM+1,c156,((nextX (jZ s.qB.length (xn s t s.qA.length) (xx s t s.qA.length) k_1) ((xn s t s.qA.length)[k_1]!) ((xx s t s.qA.length)[k_1]!) k_51 k_52)++[(setTo ((jZ s.qB.length (xn s t s.qA.length) (xx s t s.qA.length) k_1)[k_51]!) ((xn s t s.qA.length)[k_1]!) (((xx s t s.qA.length)[k_1]!)[k_52]!) k_53)]),XK++[Sv a138 (((jZ s.qB.length (xn s t s.qA.length) (xx s t s.qA.length) k_1)[k_51]!).length) c139],(Q8++G158),k_52+1,uE12,?_,?_,rfl,(N.pick [1,0]),H.pick [2,3,4,5,6] [4,0,6,7,8,9,10,11,12,13,14,15]⟩
    · exact nextX_succ qf (by rw [show k_53=((xn s t s.qA.length)[k_1]!).length by omega];rfl)
    · omega
   refine zx4 (zcr (sp (Sv Xv QM Xu) (oN rfl (sp (Bv (decide ((QM:Int) > 300))) (zjn (cD rfl (fun h160=>?_) (fun h160=>?_)))))))
   ·skip
    refine zcr (sps [yN,yI 3] (zjr (zr5 (zr5 ?_))))
    replace H:=H.nilRow 24 1
    replace H:=H.vT (α:=yLI)
    refine ret2 yN (yI 3) rfl rfl rfl ⟨_,rfl,?_,H.base⟩
    first | rw [cho_3 (.inl (own_bad p0 (q:=k) qf qf))] | rw [cho_3 (.inr (prod_stop (G:=(jZ s.qB.length (xn s t s.qA.length) (xx s t s.qA.length) k_1)) (r:=((xn s t s.qA.length)[k_1]!)) (k:=k_51+1) (i:=k_1) kn qf (Xy _) qf (by rw [← nextX_end (x:=k_52) qf qf];omega)))]
    exact ⟨none,0,0,[],[],rfl,(N.emp.pick [0]),H.pick [0] [0]⟩
   refine xk (b_n (t_n (zg (sw (zL k_51 1 rfl rfl qf (sp (yI (k_51+1)) (zi (xq (m' :=(Q3 - ((k_51+1):Int)).toNat) qf ⟨_,Xv,QM,Xu,(nextX (jZ s.qB.length (xn s t s.qA.length) (xx s t s.qA.length) k_1) ((xn s t s.qA.length)[k_1]!) ((xx s t s.qA.length)[k_1]!) k_51 k_52),XK,Q8,k_51+1,uE8,?_,?_,?_,rfl,N,H.pick [0,1,2,3,4] [1,2,3,4,5,6,7,8,9,10,11]⟩))))))))
   · exact nextX_end qf qf
   · omega
   · rw [← nextX_end (x:=k_52) qf qf];omega
  refine zx4 (zg (sps [Sv a_next n_next c_next,Sv a_next n_next c_next] (zi (b_n (t_n (zg (sw (zL k_1 1 rfl rfl qf (sp (yI (k_1+1)) (zi (xq (m' :=(zG - ((k_1+1):Int)).toNat) qf ⟨_,a_next,n_next,c_next,(nextK (jZ s.qB.length (xn s t s.qA.length) (xx s t s.qA.length) k_1) ((xn s t s.qA.length)[k_1]!) ((xx s t s.qA.length)[k_1]!) k_51),x_next,F_next,k_1+1,uE4,?_,?_,?_,rfl,(N.pick [1]),H.pick [0,3,4] [0,5,6,7,8,9,10]⟩)))))))))))
  · rw [show k_51=(jZ s.qB.length (xn s t s.qA.length) (xx s t s.qA.length) k_1).length by omega];rfl
  · omega
  · show (nextK (jZ s.qB.length (xn s t s.qA.length) (xx s t s.qA.length) k_1) ((xn s t s.qA.length)[k_1]!) ((xx s t s.qA.length)[k_1]!) (jZ s.qB.length (xn s t s.qA.length) (xx s t s.qA.length) k_1).length).length≤300;rw [← show k_51=(jZ s.qB.length (xn s t s.qA.length) (xx s t s.qA.length) k_1).length by omega];exact n3
 obtain rfl:k_1=(xx s t s.qA.length).length:=by omega
 have on:0 < (jZ s.qB.length (xn s t s.qA.length) (xx s t s.qA.length) (xx s t s.qA.length).length).length:=by rw [Xy];exact prod_mono kn (Nat.zero_le _) (Nat.le_refl _)
 have kc:¬ yU (xx s t s.qA.length) (xx s t s.qA.length).length > 300:=by rw [Xy] at g3;omega
 refine zx4 (zcr (sp (Sv a_out_1 Q3 VK) ?_))
 obtain ⟨b161,rfl⟩:=H.Qe 0 rfl qf
 refine sw (vK #[Sv (aa b161 0) Q3 VK,.func (.func 149) #[] #[]] rfl rfl call148 (sortRow sortL call149 cmpSort H 0 rfl 0 rfl qf qf) ?_)
 rintro _ w162 ⟨xs163,F164,l165,rfl,hF166,hp167,hs168,H⟩
 replace N:Fresh w.heap.size [F164]:=Fresh.perm N hF166
 refine zjc (sps [Sv (aa b161 0) Q3 VK,Sv (aa b161 0) Q3 VK,yI 0] (zjr (ret2 (Sv (aa b161 0) Q3 VK) (yI 0) rfl rfl rfl ⟨_,rfl,?_,H.base⟩)))
 rw [cho_0 gp kc hp167 (in_order (Nat.le_refl _) fun a b h1 h2 h3=>hs168 a b h1 h2 ((cmpL_ahead ((perm_rows hp167 b qf).trans (perm_rows hp167 a qf).symm)).2 h3))]
 exact ⟨(aa b161 0),Q3,VK,xs163,F164,rfl,N,H.pick [0] [0]⟩
end
section
open Go.RowKit
set_option linter.unusedVariables false
set_option linter.unusedSimpArgs false
set_option maxRecDepth 100000
set_option maxHeartbeats 4000000
theorem dNext_ok {W0 w:World} {ps:List Prv} {Γ:List Fact} {Ns:List yLN} (code:List UInt8) (ip:Int) (sd:Int) (bs:Nat) (ac:yOA) (cc:Nat) (Fc:yLN) (H:St W0 w ((.box bs [Sv ac code.length cc,.int .i64 ip,.int .u64 sd] 127) :: ps) ((sF false Fc ac cc code) :: Γ)) (N:Fresh W0.heap.size (Ns)) (K0:Kept Ns Γ) (q0:0≤ip∧ip≤100000):Calls Tryz.prog 126 #[.pointer (some ⟨bs,0,none⟩)] w (fun e w' =>∃ v,e=.returned v∧∃ (ip_:Int) (sd_:Int) (v_:Int),(ip≤ip_∧ip_≤ip+1)∧(0≤v_∧v_≤255)∧v=.int .i64 v_∧Fresh W0.heap.size (Ns)∧St W0 w' ((.box bs [Sv ac code.length cc,.int .i64 ip_,.int .u64 sd_] 127) :: ps) ((sF false Fc ac cc code) :: Γ)):=by
 refine en Tryz.func126 Tryz.ntmps126 ?_
 have ncode:=qV (H.get 0 rfl).1
 refine zcr (sp (.int .i64 0) (zjc (sp (.int .i64 0) (zjn (zf (zf ?_))))))
 refine VV rfl H [0] [0] fun H=>?_
 have S:=H.yj [0] [0]
 refine rtp 0 (.pointer (some ⟨bs,0,none⟩)) S ?_
 refine rtp 1 (.pointer (some ⟨bs,0,none⟩)) S ?_
 refine tF 2 rfl rfl S ?_
 refine tL 3 rfl rfl (fun _ h=>h.cell 0 rfl rfl) S ?_
 refine rtp 4 (.pointer (some ⟨bs,0,none⟩)) S ?_
 refine rtp 5 (.pointer (some ⟨bs,0,none⟩)) S ?_
 refine tF 6 rfl rfl S ?_
 refine tL 7 rfl rfl (fun _ h=>h.cell 0 rfl rfl) S ?_
 refine tN 8 rfl rfl S ?_
 refine rtp 9 (Bv (decide ((ip:Int) < code.length))) S ?_
 refine xJ qh (t_n (cD rfl (fun h2=>?_) (fun h2=>?_)))
 ·skip
  refine VV rfl H [0] [0] fun H=>?_
  have S:=H.yj [0] [0]
  refine rtp 0 (.pointer (some ⟨bs,0,none⟩)) S ?_
  refine rtp 1 (.pointer (some ⟨bs,0,none⟩)) S ?_
  refine tF 2 rfl rfl S ?_
  refine tL 3 rfl rfl (fun _ h=>h.cell 0 rfl rfl) S ?_
  refine rtp 4 (.pointer (some ⟨bs,0,none⟩)) S ?_
  refine rtp 5 (.pointer (some ⟨bs,0,none⟩)) S ?_
  refine tF 6 rfl rfl S ?_
  refine tL 7 rfl rfl (fun _ h=>h.cell 0 rfl rfl) S ?_
  obtain ⟨b4,o5,rfl⟩:=H.addr 0 rfl qf
  refine tI 8 rfl rfl rfl (H.pick [0] [0]) ?_
  refine ro 9 rfl ?_
  have hb7:=byte_lt (code[ip.toNat]!)
  refine zF (.int .u8 (((code[ip.toNat]!).toNat:Nat):Int)) isAgg5 rfl (H.elemByte 0 rfl ip ip.toNat qf qf qf) (⟨H.pick [0] [0],(ro 10 rfl (o_convI (((code[ip.toNat]!).toNat:Nat):Int) underlying5 underlying3 rfl qf (⟨H.pick [0] [0],(rtp 11 (.int .i64 (((code[ip.toNat]!).toNat:Nat):Int)) (H.pick [0] [0]) ?_)⟩)))⟩)
  refine xJ qh (t_n (zcr (sps [.pointer (some ⟨bs,0,none⟩),.pointer (some ⟨bs,0,none⟩)] (oF rfl (oL rfl (H.cell 0 rfl rfl) (sw (zL ip 1 rfl rfl qf (sp (.pointer (some ⟨bs,0,none⟩)) (oF rfl (sw (zh H 0 [Sv (some ⟨b4,o5,none⟩) code.length cc,.int .i64 (ip+1),.int .u64 sd] sizeOf3 fun w8 H=>?_)))))))))))
  try dsimp only [List.set] at H
  refine zjc (sps [.pointer (some ⟨bs,0,none⟩),.pointer (some ⟨bs,0,none⟩),.pointer (some ⟨bs,0,none⟩)] (oF rfl (oL rfl (H.cell 0 rfl rfl) (sw (o_mulU sd 6364136223846793005 rfl rfl fun r9=>sp (.int .i64 (((code[ip.toNat]!).toNat:Nat):Int)) (sw (o_convU (((code[ip.toNat]!).toNat:Nat):Int) underlying3 underlying125 rfl fun r10=>sw (o_addU r9 r10 rfl rfl fun r11=>sw (o_addU r11 1442695040888963407 rfl rfl fun r12=>sp (.pointer (some ⟨bs,0,none⟩)) (oF rfl (sw (zh H 0 [Sv (some ⟨b4,o5,none⟩) code.length cc,.int .i64 (ip+1),.int .u64 r12] sizeOf125 fun w13 H=>?_))))))))))))
  try dsimp only [List.set] at H
  refine zjn (zf (zf ?_))
  refine VV rfl H [0] [0] fun H=>?_
  have S:=H.yj [0] [0]
  refine rtp 0 (.pointer (some ⟨bs,0,none⟩)) S ?_
  refine rtp 1 (.pointer (some ⟨bs,0,none⟩)) S ?_
  refine tF 2 rfl rfl S ?_
  refine tL 3 rfl rfl (fun _ h=>h.cell 0 rfl rfl) S ?_
  refine rtp 4 (.pointer (some ⟨bs,0,none⟩)) S ?_
  refine rtp 5 (.pointer (some ⟨bs,0,none⟩)) S ?_
  refine tF 6 rfl rfl S ?_
  refine tL 7 rfl rfl (fun _ h=>h.cell 0 rfl rfl) S ?_
  refine tN 8 rfl rfl S ?_
  refine rtp 9 (Bv (decide ((ip+1:Int)≤code.length))) S ?_
  refine xJ qh (t_n (cD rfl (fun h15=>?_) (fun h15=>?_)))
  ·skip
   refine zcr (sps [.int .i64 (((code[ip.toNat]!).toNat:Nat):Int),.int .i64 (((code[ip.toNat]!).toNat:Nat):Int)] (zjr (t_r (ret1 (.int .i64 (((code[ip.toNat]!).toNat:Nat):Int)) rfl rfl ⟨_,rfl,(⟨ip+1,r12,(((code[ip.toNat]!).toNat:Nat):Int),qf,qf,rfl,N,H.jg 1 1 [0] [0] qo qo⟩)⟩))))
  ·skip
   refine xk (t_n (zcr (sps [.pointer (some ⟨bs,0,none⟩),.pointer (some ⟨bs,0,none⟩)] (oF rfl (oL rfl (H.cell 0 rfl rfl) (sw (o_shrU r12 40 qj rfl rfl fun r16=>sw (o_andU r16 rfl rfl fun r17 hr17=>sw (o_convI r17 underlying125 underlying2 rfl qf (sp (.int .i64 r17) (zjr (ret1 (.int .i64 r17) rfl rfl ⟨_,rfl,(⟨ip+1,r12,r17,qf,qf,rfl,N,H.jg 1 1 [0] [0] qo qo⟩)⟩))))))))))))
 ·skip
  refine xk (t_n (zcr (sps [.pointer (some ⟨bs,0,none⟩),.pointer (some ⟨bs,0,none⟩)] (oF rfl (oL rfl (H.cell 0 rfl rfl) (sw (zL ip 1 rfl rfl qf (sp (.pointer (some ⟨bs,0,none⟩)) (oF rfl (sw (zh H 0 [Sv ac code.length cc,.int .i64 (ip+1),.int .u64 sd] sizeOf3 fun w18 H=>?_)))))))))))
  try dsimp only [List.set] at H
  refine zjc (sps [.pointer (some ⟨bs,0,none⟩),.pointer (some ⟨bs,0,none⟩),.pointer (some ⟨bs,0,none⟩)] (oF rfl (oL rfl (H.cell 0 rfl rfl) (sw (o_mulU sd 6364136223846793005 rfl rfl fun r19=>sp (.int .i64 0) (sw (o_convU 0 underlying3 underlying125 rfl fun r20=>sw (o_addU r19 r20 rfl rfl fun r21=>sw (o_addU r21 1442695040888963407 rfl rfl fun r22=>sp (.pointer (some ⟨bs,0,none⟩)) (oF rfl (sw (zh H 0 [Sv ac code.length cc,.int .i64 (ip+1),.int .u64 r22] sizeOf125 fun w23 H=>?_))))))))))))
  try dsimp only [List.set] at H
  refine zjn (zf (zf ?_))
  refine VV rfl H [0] [0] fun H=>?_
  have S:=H.yj [0] [0]
  refine rtp 0 (.pointer (some ⟨bs,0,none⟩)) S ?_
  refine rtp 1 (.pointer (some ⟨bs,0,none⟩)) S ?_
  refine tF 2 rfl rfl S ?_
  refine tL 3 rfl rfl (fun _ h=>h.cell 0 rfl rfl) S ?_
  refine rtp 4 (.pointer (some ⟨bs,0,none⟩)) S ?_
  refine rtp 5 (.pointer (some ⟨bs,0,none⟩)) S ?_
  refine tF 6 rfl rfl S ?_
  refine tL 7 rfl rfl (fun _ h=>h.cell 0 rfl rfl) S ?_
  refine tN 8 rfl rfl S ?_
  refine rtp 9 (Bv (decide ((ip+1:Int)≤code.length))) S ?_
  refine xJ qh (t_n (cD rfl (fun h25=>?_) (fun h25=>?_)))
  ·skip
   refine zcr (sps [.int .i64 0,.int .i64 0] (zjr (t_r (ret1 (.int .i64 0) rfl rfl ⟨_,rfl,(⟨ip+1,r22,0,qf,qf,rfl,N,H.jg 1 1 [0] [0] qo qo⟩)⟩))))
  ·skip
   refine xk (t_n (zcr (sps [.pointer (some ⟨bs,0,none⟩),.pointer (some ⟨bs,0,none⟩)] (oF rfl (oL rfl (H.cell 0 rfl rfl) (sw (o_shrU r22 40 qj rfl rfl fun r26=>sw (o_andU r26 rfl rfl fun r27 hr27=>sw (o_convI r27 underlying125 underlying2 rfl qf (sp (.int .i64 r27) (zjr (ret1 (.int .i64 r27) rfl rfl ⟨_,rfl,(⟨ip+1,r22,r27,qf,qf,rfl,N,H.jg 1 1 [0] [0] qo qo⟩)⟩))))))))))))

theorem QO {W0 w:World} {ps:List Prv} {Γ:List Fact} {Ns:List yLN} (code:List UInt8) (ip:Int) (sd:Int) (bs:Nat) (ac:yOA) (cc:Nat) (Fc:yLN) (nn:Int) (H:St W0 w ((.box bs [Sv ac code.length cc,.int .i64 ip,.int .u64 sd] 127) :: ps) ((sF false Fc ac cc code) :: Γ)) (N:Fresh W0.heap.size (Ns)) (K0:Kept Ns Γ) (q0:0≤ip∧ip≤90000):Calls Tryz.prog 68 #[.pointer (some ⟨bs,0,none⟩),.int .i64 nn] w (fun e w' =>∃ v,e=.returned v∧∃ (ip_:Int) (sd_:Int) (v_:Int),(ip≤ip_∧ip_≤ip+2)∧(0≤v_∧(v_ < nn∨v_=0))∧v=.int .i64 v_∧Fresh W0.heap.size (Ns)∧St W0 w' ((.box bs [Sv ac code.length cc,.int .i64 ip_,.int .u64 sd_] 127) :: ps) ((sF false Fc ac cc code) :: Γ)):=by
 refine en Tryz.func68 Tryz.ntmps68 ?_
 have ncode:=qV (H.get 0 rfl).1
 refine zcr (sp (.int .i64 0) (zjcc (sps [.int .i64 nn,Bv (decide ((nn:Int)≤1))] (zjn (cD rfl (fun h1=>?_) (fun h1=>?_))))))
 ·skip
  refine zcr (sp (.int .i64 0) (zjr (t_r (ret1 (.int .i64 0) rfl rfl ⟨_,rfl,(⟨ip,sd,0,qf,(by first | omega | exact ⟨hm _,.inl (hm2 _)⟩),rfl,N,H.jg 1 1 [0] [0] qo qo⟩)⟩))))
 ·skip
  refine xk (t_n (zcr (sp (.pointer (some ⟨bs,0,none⟩)) ?_)))
  have H1:=H.QC 1 1 [0] [0] qo qo
  have N1:Fresh _ (Ns):=N
  have K1:Kept (Ns) (Γ):=K0.behind 0 rfl
  refine sw (vK #[.pointer (some ⟨bs,0,none⟩)] rfl rfl call126 (dNext_ok code ip sd bs ac cc Fc H1 N1 K1 qg) ?_)
  clear H H1 N1 K1
  rintro _ w2 ⟨zi6,zi7,zi8,hx4,hx5,rfl,N,H⟩
  refine sp (.int .i64 zi8) (zjcc (sps [.int .i64 nn,Bv (decide ((nn:Int) > 200))] (zjn (cD rfl (fun h9=>?_) (fun h9=>?_)))))
  ·skip
   refine zg (sp (.int .i64 zi8) (sw (o_mul zi8 256 rfl rfl qf (sp (.pointer (some ⟨bs,0,none⟩)) ?_))))
   have H1:=H.QC 1 1 [0] [0] qo qo
   have N1:Fresh _ (Ns):=N
   have K1:Kept (Ns) (Γ):=K0.behind 0 rfl
   refine sw (vK #[.pointer (some ⟨bs,0,none⟩)] rfl rfl call126 (dNext_ok code zi6 zi7 bs ac cc Fc H1 N1 K1 qg) ?_)
   clear H H1 N1 K1
   rintro _ w10 ⟨zi14,zi15,zi16,hx12,hx13,rfl,N,H⟩
   refine sw (zL (zi8 * 256) zi16 rfl rfl qf (sp (.int .i64 ((zi8 * 256)+zi16)) (zjc (sps [.int .i64 ((zi8 * 256)+zi16),.int .i64 nn] (sw (o_rem ((zi8 * 256)+zi16) nn rfl rfl qf qf qf (sp (.int .i64 (((zi8 * 256)+zi16) % nn)) (zjr (ret1 (.int .i64 (((zi8 * 256)+zi16) % nn)) rfl rfl ⟨_,rfl,?_⟩)))))))))
   have hm:=fun (x:Int)=>Int.emod_nonneg x (show nn≠0 by omega)
   have hm2:=fun (x:Int)=>Int.emod_lt_of_pos x (show 0 < nn by omega)
   exact ⟨zi14,zi15,((zi8 * 256)+zi16) % nn,qf,(by first | omega | exact ⟨hm _,.inl (hm2 _)⟩),rfl,N,H.jg 1 1 [0] [0] qo qo⟩
  ·skip
   refine xk (t_n (zcr (sps [.int .i64 zi8,.int .i64 nn] (sw (o_rem zi8 nn rfl rfl qf qf qf (sp (.int .i64 (zi8 % nn)) (zjr (ret1 (.int .i64 (zi8 % nn)) rfl rfl ⟨_,rfl,?_⟩))))))))
   have hm:=fun (x:Int)=>Int.emod_nonneg x (show nn≠0 by omega)
   have hm2:=fun (x:Int)=>Int.emod_lt_of_pos x (show 0 < nn by omega)
   exact ⟨zi6,zi7,zi8 % nn,qf,(by first | omega | exact ⟨hm _,.inl (hm2 _)⟩),rfl,N,H.jg 1 1 [0] [0] qo qo⟩

theorem dOne_ok {W0 w:World} {ps:List Prv} {Γ:List Fact} {Ns:List yLN} (code:List UInt8) (ip:Int) (sd:Int) (bs:Nat) (ac:yOA) (cc:Nat) (Fc:yLN) (nn:Int) (H:St W0 w ((.box bs [Sv ac code.length cc,.int .i64 ip,.int .u64 sd] 127) :: ps) ((sF false Fc ac cc code) :: Γ)) (N:Fresh W0.heap.size (Ns)) (K0:Kept Ns Γ) (q0:0≤ip∧ip≤90000):Calls Tryz.prog 66 #[.pointer (some ⟨bs,0,none⟩),.int .i64 nn] w (fun e w' =>∃ v,e=.returned v∧∃ (ip_:Int) (sd_:Int) (v_:Bool),(ip≤ip_∧ip_≤ip+2)∧v=Bv v_∧Fresh W0.heap.size (Ns)∧St W0 w' ((.box bs [Sv ac code.length cc,.int .i64 ip_,.int .u64 sd_] 127) :: ps) ((sF false Fc ac cc code) :: Γ)):=by
 refine en Tryz.func66 Tryz.ntmps66 ?_
 have ncode:=qV (H.get 0 rfl).1
 refine zcr (sp (Bv false) (zjc (sps [.pointer (some ⟨bs,0,none⟩),.int .i64 nn] ?_)))
 have H1:=H.QC 1 1 [0] [0] qo qo
 have N1:Fresh _ (Ns):=N
 have K1:Kept (Ns) (Γ):=K0.behind 0 rfl
 refine sw (vK #[.pointer (some ⟨bs,0,none⟩),.int .i64 nn] rfl rfl call68 (QO code ip sd bs ac cc Fc nn H1 N1 K1 qg) ?_)
 clear H H1 N1 K1
 rintro _ w1 ⟨zi5,zi6,zi7,hx3,hx4,rfl,N,H⟩
 refine sps [Bv ((zi7:Int) == 0),Bv ((zi7:Int) == 0)] (zjr (ret1 (Bv ((zi7:Int) == 0)) rfl rfl ⟨_,rfl,(⟨zi5,zi6,(zi7:Int) == 0,qf,rfl,N,H.jg 1 1 [0] [0] qo qo⟩)⟩))

theorem dFew_ok {W0 w:World} {ps:List Prv} {Γ:List Fact} {Ns:List yLN} (code:List UInt8) (ip:Int) (sd:Int) (bs:Nat) (ac:yOA) (cc:Nat) (Fc:yLN) (kk:Int) (most:Int) (H:St W0 w ((.box bs [Sv ac code.length cc,.int .i64 ip,.int .u64 sd] 127) :: ps) ((sF false Fc ac cc code) :: Γ)) (N:Fresh W0.heap.size (Ns)) (K0:Kept Ns Γ) (q0:0≤ip∧ip≤80000) (q1:1≤kk∧kk≤8) (q2:1≤most∧most≤6):Calls Tryz.prog 145 #[.pointer (some ⟨bs,0,none⟩),.int .i64 kk,.int .i64 most] w (fun e w' =>∃ v,e=.returned v∧∃ (ip_:Int) (sd_:Int) (out_:yLI) (rao:yOA) (rno:Nat) (rco:Nat),(ip≤ip_∧ip_≤ip+20)∧(jf kk most out_)∧v=Sv rao rno rco∧Fresh W0.heap.size (Ns)∧St W0 w' ((.box bs [Sv ac code.length cc,.int .i64 ip_,.int .u64 sd_] 127) :: (rr rao rno rco 2 1 (out_.map (Value.int .i64))) :: ps) ((sF false Fc ac cc code) :: Γ)):=by
 refine en Tryz.func145 Tryz.ntmps145 ?_
 have ncode:=qV (H.get 0 rfl).1
 refine zcr (sp (Sv none 0 0) (zjc (sp (.int .i64 kk) (sw (ji H underlying24 ti2 kk.toNat rfl rfl qf qf qf fun b1 w2 H=>sp (Sv (some ⟨b1,0,none⟩) kk.toNat kk.toNat) (zjcc (sps [.pointer (some ⟨bs,0,none⟩),.int .i64 most] (sw (zL most 1 rfl rfl qf ?_)))))))))
 have H1:=H.QC 2 1 [1,0] [0] qo qo
 have N1:Fresh _ (Ns):=N
 have K1:Kept (Ns) (Γ):=K0.behind 0 rfl
 refine sw (vK #[.pointer (some ⟨bs,0,none⟩),.int .i64 (most+1)] rfl rfl call68 (QO code ip sd bs ac cc Fc (most+1) H1 N1 K1 qg) ?_)
 clear H H1 N1 K1
 rintro _ w3 ⟨zi7,zi8,zi9,hx5,hx6,rfl,N,H⟩
 refine sp (.int .i64 zi9) (zjn (xg ?_))
 refine zJ (fun m' ρ w10=>∃ (xY:Env) (k:Int) (s_at:Int) (s_seed:Int) (out:yLI),ρ=upd (upd (upd (upd xY 0 (.pointer (some ⟨bs,0,none⟩))) 1 (.int .i64 kk)) 7 (Sv (some ⟨b1,0,none⟩) kk.toNat kk.toNat)) 8 (.int .i64 k)∧(0≤k∧k≤most)∧(ip≤s_at∧s_at+2 * k≤ip+20)∧(jf kk (most - k) out)∧m' =k.toNat∧Fresh W0.heap.size (Ns)∧St W0 w10 ((.box bs [Sv ac code.length cc,.int .i64 s_at,.int .u64 s_seed] 127) :: (rr (some ⟨b1,0,none⟩) kk.toNat kk.toNat 2 1 (out.map (Value.int .i64))) :: ps) ((sF false Fc ac cc code) :: Γ)) (zi9.toNat) ⟨_,zi9,zi7,zi8,(List.replicate kk.toNat (0:Int)),uE4,qf,qf,(by exact jf.zero qf qf),rfl,N,H⟩ ?_
 clear H N
 rintro m' ρ w11 ⟨xY,k,s_at,s_seed,out,rfl,i1,i2,i3,rfl,N,H⟩
 have hn_out:=H.yx 1 rfl
 have i4:=i3.len qf
 refine zcc (sps [.int .i64 k,Bv (decide ((k:Int) > 0))] (zjn (cD rfl (fun h12=>?_) (fun h12=>?_))))
 ·skip
  refine xk (t_n (zf (xg (zg (sps [Sv (some ⟨b1,0,none⟩) kk.toNat kk.toNat,.pointer (some ⟨bs,0,none⟩),.int .i64 kk] ?_)))))
  have H1:=H.QC 2 1 [0,1] [0] qo qo
  have N1:Fresh _ (Ns):=N
  have K1:Kept (Ns) (Γ):=K0.behind 0 rfl
  refine sw (vK #[.pointer (some ⟨bs,0,none⟩),.int .i64 kk] rfl rfl call68 (QO code s_at s_seed bs ac cc Fc kk H1 N1 K1 qg) ?_)
  clear H H1 N1 K1
  rintro _ w13 ⟨zi17,zi18,zi19,hx15,hx16,rfl,N,H⟩
  have i5:=i3.2 zi19.toNat qf
  refine oI rfl rfl (oL rfl (H.rowInt 1 rfl (iv:=zi19) (i:=zi19.toNat) qf qf) (sw (zL (out[zi19.toNat]!) 1 rfl rfl qf (oI rfl rfl (sw (X0 H 1 rfl ((out[zi19.toNat]!)+1) sizeOf2 rfl rfl (i:=zi19.toNat) qf qf fun w20 H=>?_))))))
  try dsimp only [List.set] at H
  refine zi (b_n (t_n (zg (sp (.int .i64 k) (sw (o_sub k 1 rfl rfl qf (sp (.int .i64 (k - 1)) (zi (xq (m' :=(k - 1).toNat) qf ⟨_,k - 1,zi17,zi18,(out.set zi19.toNat ((out[zi19.toNat]!)+1)),uE4,?_,?_,?_,rfl,N,H⟩)))))))))
  · omega
  · omega
  · exact i3.up qf qf
 ·skip
  refine zx4 (zcr (sps [Sv (some ⟨b1,0,none⟩) kk.toNat kk.toNat,Sv (some ⟨b1,0,none⟩) kk.toNat kk.toNat] (zjr (ret1 (Sv (some ⟨b1,0,none⟩) kk.toNat kk.toNat) rfl rfl ⟨_,rfl,(⟨s_at,s_seed,out,(some ⟨b1,0,none⟩),kk.toNat,kk.toNat,qf,(by rw [show most=most - k by omega];exact i3),rfl,N,H.jg 2 1 [0,1] [0] qo qo⟩)⟩))))

theorem Xn {W0 w:World} {ps:List Prv} {Γ:List Fact} {Ns:List yLN} (code:List UInt8) (ip:Int) (sd:Int) (bs:Nat) (ac:yOA) (cc:Nat) (Fc:yLN) (kk:Int) (most:Int) (H:St W0 w ((.box bs [Sv ac code.length cc,.int .i64 ip,.int .u64 sd] 127) :: ps) ((sF false Fc ac cc code) :: Γ)) (N:Fresh W0.heap.size (Ns)) (K0:Kept Ns Γ) (q0:0≤ip∧ip≤70000) (q1:1≤kk∧kk≤8) (q2:1≤most∧most≤6):Calls Tryz.prog 188 #[.pointer (some ⟨bs,0,none⟩),.int .i64 kk,.int .i64 most] w (fun e w' =>∃ v,e=.returned v∧∃ (ip_:Int) (sd_:Int) (out_:yLI) (rao:yOA) (rno:Nat) (rco:Nat),(ip≤ip_∧ip_≤ip+24)∧(jf kk most out_∧Xh out_≠0)∧v=Sv rao rno rco∧Fresh W0.heap.size (Ns)∧St W0 w' ((.box bs [Sv ac code.length cc,.int .i64 ip_,.int .u64 sd_] 127) :: (rr rao rno rco 2 1 (out_.map (Value.int .i64))) :: ps) ((sF false Fc ac cc code) :: Γ)):=by
 refine en Tryz.func188 Tryz.ntmps188 ?_
 have ncode:=qV (H.get 0 rfl).1
 refine zcr (sp (Sv none 0 0) (zjc (sps [.pointer (some ⟨bs,0,none⟩),.int .i64 kk,.int .i64 most] ?_)))
 have H1:=H.QC 1 1 [0] [0] qo qo
 have N1:Fresh _ (Ns):=N
 have K1:Kept (Ns) (Γ):=K0.behind 0 rfl
 refine sw (vK #[.pointer (some ⟨bs,0,none⟩),.int .i64 kk,.int .i64 most] rfl rfl call145 (dFew_ok code ip sd bs ac cc Fc kk most H1 N1 K1 qg qg qg) ?_)
 clear H H1 N1 K1
 rintro _ w1 ⟨zi5,zi6,zl7,ra8,rn9,rc10,hx3,hx4,rfl,N,H⟩
 obtain rfl:=H.yx 1 rfl
 have j1:=(‹jf kk most _›:jf kk most zl7)
 have j2:=j1.small q1 qf
 have j3:=j1.len qf
 refine sp (Sv ra8 zl7.length rc10) (zjcc (sp (Sv ra8 zl7.length rc10) ?_))
 obtain ⟨G11,hn12,h13⟩:=H.QW 1 rfl
 refine sw (oq (X3 _ zl7 h13 (by first | assumption | exact vz ql | exact Qa ql)) H fun w14 H=>sp (Bv ((Xh zl7:Int) == 0)) (zjn (cE rfl (fun h16=>?_) (fun h16=>?_))))
 ·skip
  refine zg (sps [Sv ra8 zl7.length rc10,.pointer (some ⟨bs,0,none⟩),.int .i64 kk] ?_)
  have H1:=H.QC 2 1 [0,1] [0] qo qo
  have N1:Fresh _ (Ns):=N
  have K1:Kept (Ns) (Γ):=K0.behind 0 rfl
  refine sw (vK #[.pointer (some ⟨bs,0,none⟩),.int .i64 kk] rfl rfl call68 (QO code zi5 zi6 bs ac cc Fc kk H1 N1 K1 qg) ?_)
  clear H H1 N1 K1
  rintro _ w17 ⟨zi21,zi22,zi23,hx19,hx20,rfl,N,H⟩
  obtain ⟨b24,rfl⟩:=H.Qe 1 rfl qf
  refine oI rfl rfl (sw (X0 H 1 rfl 1 sizeOf2 rfl rfl (i:=zi23.toNat) qf qf fun w25 H=>?_))
  try dsimp only [List.set] at H
  refine zjc (sps [Sv (some ⟨b24,0,none⟩) zl7.length rc10,Sv (some ⟨b24,0,none⟩) zl7.length rc10] (zjr (ret1 (Sv (some ⟨b24,0,none⟩) zl7.length rc10) rfl rfl ⟨_,rfl,(⟨zi21,zi22,(zl7.set zi23.toNat 1),(some ⟨b24,0,none⟩),zl7.length,rc10,qf,(by first | exact ⟨j1,by assumption⟩ | exact ⟨j1.put qf,j1.one q1 qf ‹_› qf⟩),rfl,N,H.jg 2 1 [0,1] [0] qo qo⟩)⟩)))
 ·skip
  refine xk (t_n (zcr (sps [Sv ra8 zl7.length rc10,Sv ra8 zl7.length rc10] (zjr (ret1 (Sv ra8 zl7.length rc10) rfl rfl ⟨_,rfl,(⟨zi5,zi6,zl7,ra8,zl7.length,rc10,qf,(by first | exact ⟨j1,by assumption⟩ | exact ⟨j1.put qf,j1.one q1 qf ‹_› qf⟩),rfl,N,H.jg 2 1 [0,1] [0] qo qo⟩)⟩)))))
end
end Go.Proofs.YtcpnclokildllaaGreat
