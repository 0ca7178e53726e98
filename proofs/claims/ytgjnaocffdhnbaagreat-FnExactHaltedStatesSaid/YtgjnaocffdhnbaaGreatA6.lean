/- Walks and laws, printed by program and by hand: what each function comes to, for all arguments, part 6. -/
import Derived.Test.YtgjnaocffdhnbaaGreatA5
namespace Go.Proofs.YtgjnaocffdhnbaaGreat
set_option linter.unusedVariables false
set_option linter.unusedSimpArgs false
open Go.Proofs.YtgjnaocffdhnbaaGreat.Tot (tot)
open Go.Proofs.YtgjnaocffdhnbaaGreat.Mark (cnt mrk mkd mkd_mark cnt_mark)
section
open Go.Proofs.Tryz
open Go.RowKit
set_option linter.unusedVariables false
set_option linter.unusedSimpArgs false
set_option maxRecDepth 100000
set_option maxHeartbeats 4000000
variable {cl cb qB qJ qP xh qL : Nat}
theorem isBag_ok (w:World) (l:yLI) {al:yOA} {Fl:yLN} (hl:qO.rep w Fl [.slice al l.length cl] l):Calls Tryz.prog 209 #[.slice al l.length cl] w (Ret (fun v w' =>v=.bool (dec (VR l))) w):=by
 refine en func209 ntmps209 ?_
 have H:=(St.start w).arg hl
 have nhl:=qK hl
 clear hl
 have N:=Fresh.nil w.heap.size
 refine zcr (sp (.bool false) (zjc (sp (.slice al l.length cl) (sw (oq (sizeI_ok _ l (H.get 0 rfl).1) H fun w1 H=>sp (.slice al l.length cl) (sw (oq (YE _ (l.length:Int) l (H.get 0 rfl).1) H fun w3 H=>sp (.bool (dec (vg (l.length:Int) l))) (zjr (ret1 (.bool (dec (vg (l.length:Int) l))) rfl rfl ⟨_,rfl,?_,H.base⟩)))))))))
 rw [dec_congr bagAny_okH]

theorem isFull_ok (w:World) (rest:yLI) (parts:yLL) {arest:yOA} {crest:Nat} {Frest:yLN} {zf:yOA} {xW:Nat} {Fparts:yLN} (hrest:qO.rep w Frest [.slice arest rest.length crest] rest) (hparts:qO.rep w Fparts [.slice zf parts.length xW] parts) (p0:Yp parts rest):Calls Tryz.prog 178 #[.slice arest rest.length crest,.slice zf parts.length xW] w (Ret (fun v w' =>v=.bool (dec (FullOk parts rest))) w):=by
 refine en func178 ntmps178 ?_
 have H:=((St.start w).arg hparts).arg hrest
 have nhrest:=qK hrest
 have nhparts:=qK hparts
 clear hrest hparts
 have N:=Fresh.nil w.heap.size
 refine zcr (sw (vG H [.slice arest rest.length crest] fun b1 w2 H=>sp (.bool false) (zjc (sps [.slice zf parts.length xW,.func (.func 206) #[] #[pp b1 0]] (sw (vC #[.slice zf parts.length xW,.func (.func 206) #[] #[pp b1 0]] rfl rfl call205 (en func205 ntmps205 ?_)))))))
 refine zcr (sp (.bool false) (zjc (sps [.slice zf parts.length xW,.func (.func 206) #[] #[pp b1 0]] (sw (vC #[.slice zf parts.length xW,.func (.func 206) #[] #[pp b1 0]] rfl rfl call211 (en func211 ntmps211 ?_))))))
 refine zcr (sp (yI 0) (zjcc (sp (.slice zf parts.length xW) (oN rfl (sp (yI 0) (zjn (qW ?_)))))))
 refine zo (fun m' ρ w3=>∃ (xP:Env) (i:Nat),ρ=upd (upd (upd (upd xP 0 (.slice zf parts.length xW)) 1 (.func (.func 206) #[] #[pp b1 0])) 7 (yI parts.length)) 8 (yI i)∧((i:Int)≤parts.length)∧(FullTo parts rest i)∧m' =(parts.length - (i:Int)).toNat∧Fresh w.heap.size []∧St w w3 [.box b1 [.slice arest rest.length crest] 22] [sF false Frest arest crest rest,sF false Fparts zf xW parts]) ((parts.length - (0:Int)).toNat) ⟨_,0,uE4,qf,(by first | trivial | exact fun j hj=>by omega),rfl,N,H⟩ ?_
 clear H N
 rintro m' ρ w4 ⟨xP,i,rfl,i0,i1,rfl,N,H⟩
 refine zcr (sp (.bool (decide ((i:Int) < parts.length))) (zjn (xO (cD rfl (fun h5=>?_) (fun h5=>?_)))))
 ·skip
  obtain ⟨t1,t2,t3,t4,t5⟩:=p0.times (k:=i) qf
  refine qV (t_n (xO (qW (zcr (sps [yI i,yI i] (zjc (sps [.func (.func 206) #[] #[pp b1 0],.slice zf parts.length xW,yI i] ?_)))))))
  obtain ⟨b6,o7,rfl⟩:=H.addr 1 rfl qf
  obtain ⟨ae9,ce9,Fe9,H⟩:=H.vN 1 rfl i i qf qf qf
  refine oI rfl rfl (oL rfl (H.xQ 1 rfl 0 rfl) (sw (vC #[.slice ae9 ((parts[i]!).length) ce9,pp b1 0] rfl rfl call206 (en func206 ntmps206 ?_))))
  refine zcr (sp (.bool false) (zjc (sp (.slice ae9 ((parts[i]!).length) ce9) (oL rfl (H.cell 0 rfl rfl) (sw (oq (isWithin_ok _ (parts[i]!) rest (H.get 0 rfl).1 (H.get 2 rfl).1 qg qg) H fun w10 H=>sp (.bool (within (parts[i]!) rest)) (zjr (ret1 (.bool (within (parts[i]!) rest)) rfl rfl ⟨_,rfl,(zjn (xH (within (parts[i]!) rest) rfl (fun h12=>?_) (fun h12=>?_)))⟩))))))))
  ·skip
   refine zcr (sps [yI i,yI i] (zjr (zr5 (ret1 (yI i) rfl rfl ⟨_,rfl,(sw (o_pure (.bool true) (by show some (Value.bool (decide ((i:Int)≥0)))=some (Value.bool true);rw [decide_eq_true qf]) (sp (.bool true) (zjr (ret1 (.bool true) rfl rfl ⟨_,rfl,(sps [.bool false,.bool false] (zjr (ret1 (.bool false) rfl rfl ⟨_,rfl,?_,H.base⟩)))⟩)))))⟩))))
   rw [xw (fun h=>by have:=h i qf;simp_all)]
  refine qV (b_n (t_n (xR (sw (zu i 1 rfl rfl qf (sp (yI (i+1)) (xU (qZ (m' :=(parts.length - ((i+1):Int)).toNat) qf ⟨_,i+1,uE4,?_,?_,rfl,N,H.pick [0] [2,3]⟩))))))))
  · omega
  · first | trivial | exact i1.succ ‹_›
 refine zx4 (zcr (sp (yI (-1)) (zjr (ret1 (yI (-1)) rfl rfl ⟨_,rfl,(sps [.bool false,.bool false] (zjr (ret1 (.bool false) rfl rfl ⟨_,rfl,(sps [.bool true,.bool true] (zjr (ret1 (.bool true) rfl rfl ⟨_,rfl,?_,H.base⟩)))⟩)))⟩))))
 rw [yu (show FullOk parts rest from fun j hj=>i1 j qf)]

theorem bagAndParts_ok (w:World) (b:yLI) (parts:yLL) {ab:yOA} {Fb:yLN} {zf:yOA} {xW:Nat} {Fparts:yLN} (hb:qO.rep w Fb [.slice ab b.length cb] b) (hparts:qO.rep w Fparts [.slice zf parts.length xW] parts) (p0:Yp parts b) (p1:1≤parts.length):Calls Tryz.prog 200 #[.slice ab b.length cb,.slice zf parts.length xW] w (Ret (fun v w' =>v=yI 0) w):=by
 refine en func200 ntmps200 ?_
 have H:=((St.start w).arg hparts).arg hb
 have nhb:=qK hb
 have nhparts:=qK hparts
 clear hb hparts
 have N:=Fresh.nil w.heap.size
 obtain ⟨pb,pl,pk⟩:=p0.bags p1
 refine zcr (sp (yI 0) (zjcc (sp (.slice ab b.length cb) (sw (oq (isBag_ok _ b (H.get 0 rfl).1) H fun w2 H=>sp (.bool (!(dec (VR b)))) (zjn (cQ rfl (fun h4=>?_) (fun h4=>?_))))))))
 ·skip
  refine zcr (sp (yI 1) (zjr (t_r (ret1 (yI 1) rfl rfl ⟨_,rfl,?_,H.base⟩))))
  exfalso;first | omega | exact ‹¬ VR _› pb
 refine qV (t_n (zcr (sp (.slice ab b.length cb) (oN rfl (sps [.slice zf parts.length xW,.slice zf parts.length xW] (oN rfl (sw (XO H underlying22 ti2 parts.length rfl rfl qf qf qf fun b5 w6 H=>sw (vC #[yI b.length,.slice zf parts.length xW,.slice (aa b5 0) parts.length parts.length] rfl rfl call210 (en func210 ntmps210 ?_))))))))))
 refine zcr (sp (yI 0) (zjcc (sp (.slice zf parts.length xW) (sw (vC #[.slice zf parts.length xW,.func (.func 212) #[] #[]] rfl rfl call205 (en func205 ntmps205 ?_))))))
 refine zcr (sp (.bool false) (zjc (sps [.slice zf parts.length xW,.func (.func 212) #[] #[]] (sw (vC #[.slice zf parts.length xW,.func (.func 212) #[] #[]] rfl rfl call211 (en func211 ntmps211 ?_))))))
 refine zcr (sp (yI 0) (zjcc (sp (.slice zf parts.length xW) (oN rfl (sp (yI 0) (zjn (qW ?_)))))))
 refine zo (fun m' ρ w7=>∃ (xP:Env) (i:Nat),ρ=upd (upd (upd (upd xP 0 (.slice zf parts.length xW)) 1 (.func (.func 212) #[] #[])) 7 (yI parts.length)) 8 (yI i)∧((i:Int)≤parts.length)∧(True)∧m' =(parts.length - (i:Int)).toNat∧Fresh w.heap.size []∧St w w7 [rr (aa b5 0) parts.length parts.length 2 1 ((List.replicate parts.length (0:Int)).map (Value.int .i64))] [sF false Fb ab cb b,sF false Fparts zf xW parts]) ((parts.length - (0:Int)).toNat) ⟨_,0,uE4,qf,(by first | trivial | exact fun j hj=>by omega),rfl,N,H⟩ ?_
 clear H N
 rintro m' ρ w8 ⟨xP,i,rfl,i0,i1,rfl,N,H⟩
 refine zcr (sp (.bool (decide ((i:Int) < parts.length))) (zjn (xO (cD rfl (fun h9=>?_) (fun h9=>?_)))))
 ·skip
  refine qV (t_n (xO (qW (zcr (sps [yI i,yI i] (zjc (sps [.func (.func 212) #[] #[],.slice zf parts.length xW,yI i] ?_)))))))
  obtain ⟨b10,o11,rfl⟩:=H.addr 1 rfl qf
  obtain ⟨ae13,ce13,Fe13,H⟩:=H.vN 1 rfl i i qf qf qf
  refine oI rfl rfl (oL rfl (H.xQ 1 rfl 0 rfl) (sw (vC #[.slice ae13 ((parts[i]!).length) ce13] rfl rfl call212 (en func212 ntmps212 ?_))))
  refine zcr (sp (.bool false) (zjc (sp (.slice ae13 ((parts[i]!).length) ce13) (sw (oq (isBag_ok _ (parts[i]!) (H.get 0 rfl).1) H fun w15 H=>sps [.bool (!(dec (VR (parts[i]!)))),.bool (!(dec (VR (parts[i]!))))] (zjr (ret1 (.bool (!(dec (VR (parts[i]!))))) rfl rfl ⟨_,rfl,(zjn (cQ rfl (fun h17=>?_) (fun h17=>?_)))⟩)))))))
  ·skip
   exact absurd (pk i qf).1 h17
  refine qV (b_n (t_n (xR (sw (zu i 1 rfl rfl qf (sp (yI (i+1)) (xU (qZ (m' :=(parts.length - ((i+1):Int)).toNat) qf ⟨_,i+1,uE4,?_,?_,rfl,N,H.pick [0] [2,3]⟩))))))))
  · omega
  · first | trivial | exact i1.succ ‹_›
 refine zx4 (zcr (sp (yI (-1)) (zjr (ret1 (yI (-1)) rfl rfl ⟨_,rfl,(sps [.bool false,.bool false] (zjr (ret1 (.bool false) rfl rfl ⟨_,rfl,(zjn (xH false rfl (fun h=>absurd h qj) (fun _=>qV (t_n (zcc (sp (.slice zf parts.length xW) (oN rfl (sps [.bool (decide ((parts.length:Int) > 8)),.bool (decide ((parts.length:Int) > 8))] ?_))))))))⟩)))⟩))))
 cases h18:(decide ((parts.length:Int) > 8))
 ·skip
  replace h18:=of_decide_eq_false h18
  refine qQ 14 rfl rfl (sp (.slice (aa b5 0) parts.length parts.length) (qQ 14 rfl rfl (oN rfl (qQ 14 rfl rfl (sp (.slice zf parts.length xW) (qQ 14 rfl rfl (oN rfl (qQ 14 rfl rfl (sps [.bool ((parts.length:Int) != parts.length),.bool ((parts.length:Int) != parts.length)] (zjn (xH ((parts.length:Int) != parts.length) rfl (fun h=>absurd rfl (bne_iff_ne.1 h)) (fun h19=>?_))))))))))))
  replace h19:=xq h19
  refine qV (t_n (zcc (sp (.slice zf parts.length xW) (oN rfl (sp (yI 0) (zjn (qW ?_)))))))
  refine zo (fun m' ρ w20=>∃ (xP:Env) (i_1:Nat),ρ=upd (upd (upd (upd (upd xP 0 (yI b.length)) 2 (.slice (aa b5 0) parts.length parts.length)) 21 (.slice zf parts.length xW)) 22 (yI parts.length)) 23 (yI i_1)∧((i_1:Int)≤parts.length)∧m' =(parts.length - (i_1:Int)).toNat∧Fresh w.heap.size []∧St w w20 [rr (aa b5 0) parts.length parts.length 2 1 ((List.replicate parts.length (0:Int)).map (Value.int .i64))] [sF false Fb ab cb b,sF false Fparts zf xW parts]) ((parts.length - (0:Int)).toNat) ⟨_,0,uE5,qf,rfl,N,H⟩ ?_
  clear H N
  rintro m' ρ w21 ⟨xP,i_1,rfl,i0,rfl,N,H⟩
  refine zcr (sp (.bool (decide ((i_1:Int) < parts.length))) (zjn (xO (cD rfl (fun h22=>?_) (fun h22=>?_)))))
  ·skip
   obtain ⟨r1,r2,r3⟩:=pk i_1 qf
   have r4:=Qo r1
   have r5:(List.replicate parts.length (0:Int))[i_1]! =0:=by rw [getElem!_pos _ i_1 (by simp;omega)];simp
   refine qV (t_n (xO (qW (zcr (sp (yI i_1) ?_)))))
   obtain ⟨b23,o24,rfl⟩:=H.addr 1 rfl qf
   obtain ⟨ae26,ce26,Fe26,H⟩:=H.vN 1 rfl i_1 i_1 qf qf qf
   refine oI rfl rfl (oL rfl (H.xQ 1 rfl 0 rfl) (sps [yI i_1,.slice ae26 ((parts[i_1]!).length) ce26] (zjc (sp (.slice ae26 ((parts[i_1]!).length) ce26) (oN rfl (sps [yI b.length,.bool (((parts[i_1]!).length:Int) != b.length),.bool (((parts[i_1]!).length:Int) != b.length)] ?_))))))
   cases h27:(((parts[i_1]!).length:Int) != b.length)
   ·skip
    replace h27:=xq h27
    refine qQ 32 rfl rfl (sp (.slice ae26 ((parts[i_1]!).length) ce26) (qQ 32 rfl rfl (sw (oq (VI _ (parts[i_1]!) (H.get 0 rfl).1 (by first | assumption | exact vH ql | exact Qo ql)) H fun w28 H=>qQ 32 rfl rfl (sps [.bool ((VP (parts[i_1]!):Int) == 0),.bool ((VP (parts[i_1]!):Int) == 0),.bool ((VP (parts[i_1]!):Int) == 0)] ?_)))))
    cases h30:((VP (parts[i_1]!):Int) == 0)
    ·skip
     replace h30:=ne_of_beq_false h30
     refine qQ 37 rfl rfl (sp (.slice (aa b5 0) parts.length parts.length) (qQ 37 rfl rfl (sp (yI i_1) (qQ 37 rfl rfl (oI rfl rfl (qQ 37 rfl rfl (oL rfl (H.rowInt 0 rfl (iv:=i_1) (i:=i_1) qf qf) (qQ 37 rfl rfl (sw (oq (YQ w28 ((List.replicate parts.length (0:Int))[i_1]!) 0 1000) H fun w31 H=>qQ 37 rfl rfl (sps [.bool (!(inR ((List.replicate parts.length (0:Int))[i_1]!) 0 1000)),.bool (!(inR ((List.replicate parts.length (0:Int))[i_1]!) 0 1000))] (zjn (xH (!(inR ((List.replicate parts.length (0:Int))[i_1]!) 0 1000)) rfl (fun h33=>?_) (fun h33=>?_))))))))))))))
     ·skip
      replace h33:=xn h33
      replace h33:=Vs h33
      refine zcr (sp (yI 2) (zjr (zr5 (ret1 (yI 2) rfl rfl ⟨_,rfl,(sp (yI 2) (zjr (ret1 (yI 2) rfl rfl ⟨_,rfl,?_,H.base⟩)))⟩))))
      exfalso;first | omega | exact ‹¬ VR _› pb
     replace h33:=xg h33
     replace h33:=XG.1 h33
     refine qV (b_n (t_n (xR (sw (zu i_1 1 rfl rfl qf (sp (yI (i_1+1)) (xU (qZ (m' :=(parts.length - ((i_1+1):Int)).toNat) qf ⟨_,i_1+1,uE5,?_,rfl,N,H.pick [0] [2,3]⟩))))))))
     · omega
    replace h30:=eq_of_beq h30
    refine zk [38,39,40,41,42,43] (sp (.bool true) (zjn (xH true rfl (fun _=>zcr (sp (yI 2) (zjr (zr5 (ret1 (yI 2) rfl rfl ⟨_,rfl,(sp (yI 2) (zjr (ret1 (yI 2) rfl rfl ⟨_,rfl,?_,H.base⟩)))⟩))))) (fun h=>absurd h qj))))
    exfalso;first | omega | exact ‹¬ VR _› pb
   replace h27:=bne_iff_ne.1 h27
   refine zk [33,34,35] (sps [.bool true,.bool true] (zk [38,39,40,41,42,43] (sp (.bool true) (zjn (xH true rfl (fun _=>zcr (sp (yI 2) (zjr (zr5 (ret1 (yI 2) rfl rfl ⟨_,rfl,(sp (yI 2) (zjr (ret1 (yI 2) rfl rfl ⟨_,rfl,?_,H.base⟩)))⟩))))) (fun h=>absurd h qj))))))
   exfalso;first | omega | exact ‹¬ VR _› pb
  refine zx4 (zcr (sp (yI 0) (zjr (ret1 (yI 0) rfl rfl ⟨_,rfl,(sp (yI 0) (zjr (ret1 (yI 0) rfl rfl ⟨_,rfl,?_,H.base⟩)))⟩))))
  rfl
 replace h18:=of_decide_eq_true h18
 refine zk [15,16,17,18,19] (sp (.bool true) (zjn (xH true rfl (fun _=>zcr (sp (yI 2) (zjr (t_r (ret1 (yI 2) rfl rfl ⟨_,rfl,(sp (yI 2) (zjr (ret1 (yI 2) rfl rfl ⟨_,rfl,?_,H.base⟩)))⟩))))) (fun h=>absurd h qj))))
 exfalso;first | omega | exact ‹¬ VR _› pb

def packFrom_ok_S (f:Nat):Prop:=∀ {W0 w:World} {ps:List Prv} {Γ:List Fact} {Ns:List yLN} (i:Nat) (rest:yLI) (parts:yLL) (out:yLL) (cs:yLI) (arest:yOA) (crest:Nat) (Frest:yLN) (zf:yOA) (xW:Nat) (Fparts:yLN) (bp:Nat) (bi:Nat) (bq:Nat) (bo:Nat) (bl:Nat) (bc:Nat) (bf:Nat) (raout:yOA) (rnout:Nat) (rcout:Nat) (rxout:List Value) (rFout:yLN) (racs:yOA) (rncs:Nat) (rccs:Nat) (H:St W0 w ((.box bp [.slice zf parts.length xW] 27) :: (.box bi [.func (.func 177) #[] #[pp bq 0]] 170) :: (.box bq [.slice zf parts.length xW] 27) :: (.box bo [pp bl 0] 219) :: (.box bl [.slice raout rnout rcout] 221) :: (.box bc [.slice racs rncs rccs] 22) :: (.box bf [.func (.func 201) #[] #[pp bp 0,pp bi 0,pp bo 0,pp bc 0,pp bf 0]] 222) :: (rr raout rnout rcout 22 1 rxout) :: (rr racs rncs rccs 2 1 (cs.map (Value.int .i64))) :: ps) ((sF false Frest arest crest rest) :: (sF false Fparts zf xW parts) :: (zh true rFout rxout out) :: Γ)) (N:Fresh W0.heap.size (rFout :: Ns)) (K0:Kept Ns Γ) (p0:i+f=parts.length) (p1:Yp parts rest) (p2:out.length≤2000) (p3:cs.length=parts.length),Calls Tryz.prog 201 #[yI i,.slice arest rest.length crest,pp bp 0,pp bi 0,pp bo 0,pp bc 0,pp bf 0] w (fun e w' =>∃ v,e=.returned v∧∃ (cs_:yLI) (raout_:yOA) (rnout_:Nat) (rcout_:Nat) (rxout_:List Value) (rFout_:yLN),(cs_.length=cs.length)∧(cs_.take i=cs.take i)∧v=.bool (dec ((gath out (begins (cs.take i) (packs parts (parts.length - i) i rest))).length≤2000))∧Fresh W0.heap.size (rFout_ :: Ns)∧St W0 w' ((.box bp [.slice zf parts.length xW] 27) :: (.box bi [.func (.func 177) #[] #[pp bq 0]] 170) :: (.box bq [.slice zf parts.length xW] 27) :: (.box bo [pp bl 0] 219) :: (.box bl [.slice raout_ rnout_ rcout_] 221) :: (.box bc [.slice racs rncs rccs] 22) :: (.box bf [.func (.func 201) #[] #[pp bp 0,pp bi 0,pp bo 0,pp bc 0,pp bf 0]] 222) :: (rr raout_ rnout_ rcout_ 22 1 rxout_) :: (rr racs rncs rccs 2 1 (cs_.map (Value.int .i64))) :: ps) ((sF false Frest arest crest rest) :: (sF false Fparts zf xW parts) :: (zh true rFout_ rxout_ (gath out (begins (cs.take i) (packs parts (parts.length - i) i rest)))) :: Γ))
theorem packFrom_ok_step (f:Nat) (IH:∀ k,k < f→packFrom_ok_S k) {W0 w:World} {ps:List Prv} {Γ:List Fact} {Ns:List yLN} (i:Nat) (rest:yLI) (parts:yLL) (out:yLL) (cs:yLI) (arest:yOA) (crest:Nat) (Frest:yLN) (zf:yOA) (xW:Nat) (Fparts:yLN) (bp:Nat) (bi:Nat) (bq:Nat) (bo:Nat) (bl:Nat) (bc:Nat) (bf:Nat) (raout:yOA) (rnout:Nat) (rcout:Nat) (rxout:List Value) (rFout:yLN) (racs:yOA) (rncs:Nat) (rccs:Nat) (H:St W0 w ((.box bp [.slice zf parts.length xW] 27) :: (.box bi [.func (.func 177) #[] #[pp bq 0]] 170) :: (.box bq [.slice zf parts.length xW] 27) :: (.box bo [pp bl 0] 219) :: (.box bl [.slice raout rnout rcout] 221) :: (.box bc [.slice racs rncs rccs] 22) :: (.box bf [.func (.func 201) #[] #[pp bp 0,pp bi 0,pp bo 0,pp bc 0,pp bf 0]] 222) :: (rr raout rnout rcout 22 1 rxout) :: (rr racs rncs rccs 2 1 (cs.map (Value.int .i64))) :: ps) ((sF false Frest arest crest rest) :: (sF false Fparts zf xW parts) :: (zh true rFout rxout out) :: Γ)) (N:Fresh W0.heap.size (rFout :: Ns)) (K0:Kept Ns Γ) (p0:i+f=parts.length) (p1:Yp parts rest) (p2:out.length≤2000) (p3:cs.length=parts.length):Calls Tryz.prog 201 #[yI i,.slice arest rest.length crest,pp bp 0,pp bi 0,pp bo 0,pp bc 0,pp bf 0] w (fun e w' =>∃ v,e=.returned v∧∃ (cs_:yLI) (raout_:yOA) (rnout_:Nat) (rcout_:Nat) (rxout_:List Value) (rFout_:yLN),(cs_.length=cs.length)∧(cs_.take i=cs.take i)∧v=.bool (dec ((gath out (begins (cs.take i) (packs parts (parts.length - i) i rest))).length≤2000))∧Fresh W0.heap.size (rFout_ :: Ns)∧St W0 w' ((.box bp [.slice zf parts.length xW] 27) :: (.box bi [.func (.func 177) #[] #[pp bq 0]] 170) :: (.box bq [.slice zf parts.length xW] 27) :: (.box bo [pp bl 0] 219) :: (.box bl [.slice raout_ rnout_ rcout_] 221) :: (.box bc [.slice racs rncs rccs] 22) :: (.box bf [.func (.func 201) #[] #[pp bp 0,pp bi 0,pp bo 0,pp bc 0,pp bf 0]] 222) :: (rr raout_ rnout_ rcout_ 22 1 rxout_) :: (rr racs rncs rccs 2 1 (cs_.map (Value.int .i64))) :: ps) ((sF false Frest arest crest rest) :: (sF false Fparts zf xW parts) :: (zh true rFout_ rxout_ (gath out (begins (cs.take i) (packs parts (parts.length - i) i rest)))) :: Γ)):=by
 refine en func201 ntmps201 ?_
 have nrest:=qK (H.get 0 rfl).1
 have nparts:=qK (H.get 1 rfl).1
 obtain rfl:=H.zl (α:=yLI) 7 rfl 2 rfl qj
 obtain rfl:=H.YG 8 rfl
 have p4:=p1.small
 refine zcr (sp (.bool false) (zjcc (sp (yI i) (oL rfl (H.cell 0 rfl rfl) (oN rfl (sp (.bool ((i:Int) == parts.length)) (zjn (cE rfl (fun h1=>?_) (fun h1=>?_)))))))))
 ·skip
  refine zcr (oL rfl (H.cell 1 rfl rfl) (sp (.slice arest rest.length crest) (sw (vC #[.slice arest rest.length crest,pp bq 0] rfl rfl call177 (en func177 ntmps177 ?_)))))
  refine zcr (sp (.bool false) (zjc (sp (.slice arest rest.length crest) (oL rfl (H.cell 2 rfl rfl) (sw (oq (isFull_ok _ rest parts (H.get 0 rfl).1 (H.get 1 rfl).1 qg) H fun w3 H=>sp (.bool (dec (FullOk parts rest))) (zjr (ret1 (.bool (dec (FullOk parts rest))) rfl rfl ⟨_,rfl,(sps [.bool (!(dec (FullOk parts rest))),.bool (!(dec (FullOk parts rest)))] ?_)⟩))))))))
  cases h5:(!(dec (FullOk parts rest)))
  ·skip
   replace h5:=xg h5
   replace h5:=QG h5
   refine qQ 19 rfl rfl (oL rfl (H.cell 3 rfl rfl) (qQ 19 rfl rfl (oL rfl (H.cell 5 rfl rfl) (qQ 19 rfl rfl (sw (vC #[pp bl 0,.slice racs cs.length rccs] rfl rfl call202 (en func202 ntmps202 ?_)))))))
   refine zcr (sp (.bool false) (zjcc (sps [pp bl 0,pp bl 0] (oF rfl (oL rfl (H.cell 4 rfl rfl) (oN rfl (sp (.bool (decide ((out.length:Int) > 2000))) (zjn (cD rfl (fun h6=>?_) (fun h6=>?_))))))))))
   ·skip
    refine zcr (sp (.bool false) (zjr (t_r (ret1 (.bool false) rfl rfl ⟨_,rfl,(sps [.bool false,.bool false] (zjr (t_r (ret1 (.bool false) rfl rfl ⟨_,rfl,?_⟩))))⟩))))
    exfalso;omega
   refine qV (t_n (xO ?_))
   refine c_cut (fun ρ w12=>∃ (xP:Env) (a7:yOA) (c8:Nat) (a9:yOA) (c10:Nat) (G11:yLN),ρ=upd xP 0 (pp bl 0)∧Fresh W0.heap.size ((rFout++G11) :: Ns)∧St W0 w12 ((.box bp [.slice zf parts.length xW] 27) :: (.box bi [.func (.func 177) #[] #[pp bq 0]] 170) :: (.box bq [.slice zf parts.length xW] 27) :: (.box bo [pp bl 0] 219) :: (.box bl [.slice a7 (out.length+1) c8] 221) :: (.box bc [.slice racs cs.length rccs] 22) :: (.box bf [.func (.func 201) #[] #[pp bp 0,pp bi 0,pp bo 0,pp bc 0,pp bf 0]] 222) :: (rr a7 (out.length+1) c8 22 1 (rxout++[.slice a9 cs.length c10])) :: (rr racs cs.length rccs 2 1 (cs.map (Value.int .i64))) :: ps) ((zh true (rFout++G11) (rxout++[.slice a9 cs.length c10]) (out++[cs])) :: (sF true G11 a9 c10 cs) :: (sF false Frest arest crest rest) :: (sF false Fparts zf xW parts) :: Γ)) ?_ ?_
   ·skip
    refine c_drawK2 rfl H [0,1,2,3,5,6,8] [0,1,2] fun H=>?_
    have S:=H.yD [0,1,2,3,5,6,8] [0,1,2]
    refine rtp 0 (pp bl 0) S ?_
    refine rtp 1 (pp bl 0) S ?_
    refine rtp 2 (pp bl 0) S ?_
    refine tF 3 rfl rfl S ?_
    refine rtp 5 (.slice racs cs.length rccs) S ?_
    refine jo [4,6] qh qm (Qj rfl ?_ (Qj rfl ?_ jq))
    ·skip
     refine zK (.slice raout out.length rcout) isAgg27 rfl (H.cell 4 rfl rfl) (⟨H.pick [0,1,2,3,5,6,8] [0,1,2],(ro 6 rfl ?_)⟩)
     obtain ⟨G14,hn15,h16⟩:=H.rowIsI 8 rfl
     have sz17:=H.base.size
     have lt18:=all_two (H.ltN (L:=[rFout]) [2]) (H.ltK (K0.behind 3 rfl))
     refine oc (cloneI_ok _ cs h16 qg) ?_
     rintro v22 w20 r22 x21
     replace H:=H.zB x21 r22
     obtain ⟨a23,c24,rfl,hc25,hm26⟩:=H.jm 0 rfl
     refine ⟨H.pick [1,2,3,4,6,7,9] [0,1,2],(ro 7 rfl (zG H underlying27 ti22 [.slice a23 cs.length c24] fun b27 w28 H=>⟨H.pick [2,3,4,5,7,8,10] [0,1,2],(ro 8 rfl ?_)⟩))⟩
     obtain ⟨G32,N,hn33,H⟩:=H.vW 1 rfl N (fun F hF b hb=>(List.mem_append.1 (show F∈[rFout]++Ns from hF)).elim (fun h=>(H.jQ (L:=[rFout]) [2]) F h b hb) fun h=>H.awayK (K0.behind 3 rfl) F h b hb)
     try dsimp only [List.set] at H
     refine zN H 9 rfl 0 rfl underlying27 ti22 rfl qj rfl rfl rfl (by simp [Value.oneCell',Value.cells]) qp qf fun a29 c30 w31 H=>?_
     try dsimp only [List.set] at H
     replace H:=H.yB 3 rfl 0 rfl
     replace N:Fresh W0.heap.size ((rFout++G32) :: Ns):=(N.YU 2 [1,0] qo).join
     refine ⟨H.pick [2,3,4,5,7,8,10] [2,3,4],?_⟩
     have S:=H.yD [2,3,4,5,7,8,10] [2,3,4]
     refine rtp 9 (pp bl 0) S ?_
     refine tF 10 rfl rfl S ?_
     refine ro 11 rfl (zF H 6 [.slice a29 (out.length+1) c30] sizeOf27 fun w34 H=>?_)
     try dsimp only [List.set] at H
     refine ⟨H.pick [2,3,4,5,7,8,10] [2,3,4],(xM qh ((meet ⟨_,a29,c30,a23,c24,G32,uE1,N,H.YU 11 5 [2,3,4,5,6,7,8,9,10] [0,1,2,3] qo qo⟩)))⟩
    obtain ⟨G35,hn36,h37⟩:=H.rowIsI 8 rfl
    have sz38:=H.base.size
    have lt39:=all_two (H.ltN (L:=[rFout]) [2]) (H.ltK (K0.behind 3 rfl))
    refine oc (cloneI_ok _ cs h37 qg) ?_
    rintro v43 w41 r43 x42
    replace H:=H.zB x42 r43
    obtain ⟨a44,c45,rfl,hc46,hm47⟩:=H.jm 0 rfl
    refine ⟨H.pick [1,2,3,4,6,7,9] [0,1,2],(jo [4,7] qh qm (Qj rfl ?_ (Qj rfl ?_ jq)))⟩
    ·skip
     refine zK (.slice raout out.length rcout) isAgg27 rfl (H.cell 5 rfl rfl) (⟨H.pick [1,2,3,4,6,7,9] [0,1,2],(ro 7 rfl (zG H underlying27 ti22 [.slice a44 cs.length c45] fun b48 w49 H=>⟨H.pick [2,3,4,5,7,8,10] [0,1,2],(ro 8 rfl ?_)⟩))⟩)
     obtain ⟨G53,N,hn54,H⟩:=H.vW 1 rfl N (fun F hF b hb=>(List.mem_append.1 (show F∈[rFout]++Ns from hF)).elim (fun h=>(H.jQ (L:=[rFout]) [2]) F h b hb) fun h=>H.awayK (K0.behind 3 rfl) F h b hb)
     try dsimp only [List.set] at H
     refine zN H 9 rfl 0 rfl underlying27 ti22 rfl qj rfl rfl rfl (by simp [Value.oneCell',Value.cells]) qp qf fun a50 c51 w52 H=>?_
     try dsimp only [List.set] at H
     replace H:=H.yB 3 rfl 0 rfl
     replace N:Fresh W0.heap.size ((rFout++G53) :: Ns):=(N.YU 2 [1,0] qo).join
     refine ⟨H.pick [2,3,4,5,7,8,10] [2,3,4],?_⟩
     have S:=H.yD [2,3,4,5,7,8,10] [2,3,4]
     refine rtp 9 (pp bl 0) S ?_
     refine tF 10 rfl rfl S ?_
     refine ro 11 rfl (zF H 6 [.slice a50 (out.length+1) c51] sizeOf27 fun w55 H=>?_)
     try dsimp only [List.set] at H
     refine ⟨H.pick [2,3,4,5,7,8,10] [2,3,4],(xM qh ((meet ⟨_,a50,c51,a44,c45,G53,uE1,N,H.YU 11 5 [2,3,4,5,6,7,8,9,10] [0,1,2,3] qo qo⟩)))⟩
    refine zG H underlying27 ti22 [.slice a44 cs.length c45] fun b56 w57 H=>⟨H.pick [2,3,4,5,7,8,10] [0,1,2],(ro 4 rfl (zK (.slice raout out.length rcout) isAgg27 rfl (H.cell 6 rfl rfl) (⟨H.pick [2,3,4,5,7,8,10] [0,1,2],(ro 8 rfl ?_)⟩)))⟩
    obtain ⟨G61,N,hn62,H⟩:=H.vW 1 rfl N (fun F hF b hb=>(List.mem_append.1 (show F∈[rFout]++Ns from hF)).elim (fun h=>(H.jQ (L:=[rFout]) [2]) F h b hb) fun h=>H.awayK (K0.behind 3 rfl) F h b hb)
    try dsimp only [List.set] at H
    refine zN H 9 rfl 0 rfl underlying27 ti22 rfl qj rfl rfl rfl (by simp [Value.oneCell',Value.cells]) qp qf fun a58 c59 w60 H=>?_
    try dsimp only [List.set] at H
    replace H:=H.yB 3 rfl 0 rfl
    replace N:Fresh W0.heap.size ((rFout++G61) :: Ns):=(N.YU 2 [1,0] qo).join
    refine ⟨H.pick [2,3,4,5,7,8,10] [2,3,4],?_⟩
    have S:=H.yD [2,3,4,5,7,8,10] [2,3,4]
    refine rtp 9 (pp bl 0) S ?_
    refine tF 10 rfl rfl S ?_
    refine ro 11 rfl (zF H 6 [.slice a58 (out.length+1) c59] sizeOf27 fun w63 H=>?_)
    try dsimp only [List.set] at H
    refine ⟨H.pick [2,3,4,5,7,8,10] [2,3,4],(xM qh ((meet ⟨_,a58,c59,a44,c45,G61,uE1,N,H.YU 11 5 [2,3,4,5,6,7,8,9,10] [0,1,2,3] qo qo⟩)))⟩
   clear H N
   rintro ρ w64 ⟨xP,a7,c8,a9,c10,G11,rfl,N,H⟩
   refine t_n (zcr (sps [pp bl 0,pp bl 0] (oF rfl (oL rfl (H.cell 4 rfl rfl) (oN rfl (sps [.bool (decide ((out.length+1:Int)≤2000)),.bool (decide ((out.length+1:Int)≤2000))] (zjr (ret1 (.bool (decide ((out.length+1:Int)≤2000))) rfl rfl ⟨_,rfl,(sps [.bool (decide ((out.length+1:Int)≤2000)),.bool (decide ((out.length+1:Int)≤2000))] (zjr (t_r (ret1 (.bool (decide ((out.length+1:Int)≤2000))) rfl rfl ⟨_,rfl,?_⟩))))⟩))))))))
   rw [pack_fullI qf p3 ‹FullOk _ _› p2,show decide ((out.length+1:Int)≤2000)=dec ((out++[cs]).length≤2000) from dec_eq (by simp;omega)]
   exact ⟨cs,a7,out.length+1,c8,rxout++[Value.slice a9 cs.length c10],(rFout++G11),(by first | rfl | omega | (have:=‹_=(List.set _ _ _).length›;rw [List.length_set] at this;omega)),(by first | rfl | assumption | exact pack_keep ‹_› j2),rfl,N,H.YU 9 4 [0,1,2,3,4,5,6,7,8] [2,3,0] qo qo⟩
  replace h5:=xn h5
  replace h5:=zZ h5
  refine zk [20,21,22] (sps [.bool true,.bool true] (zjr (t_r (ret1 (.bool true) rfl rfl ⟨_,rfl,?_⟩))))
  rw [pack_noneI qf ‹_› p2,yu p2]
  exact ⟨cs,raout,out.length,rcout,rxout,rFout,(by first | rfl | omega | (have:=‹_=(List.set _ _ _).length›;rw [List.length_set] at this;omega)),(by first | rfl | assumption | exact pack_keep ‹_› j2),rfl,N,H.YU 9 3 [0,1,2,3,4,5,6,7,8] [0,1,2] qo qo⟩
 refine qV (t_n (zcc (sp (yI 0) (zjn (qW ?_)))))
 obtain ⟨t1,t2,t3,t4,t5,t6⟩:=p1.times (k:=i) qf
 refine zo (fun m' ρ w65=>∃ (xP:Env) (n:Nat) (YM:yOA) (YI:Nat) (YL:Nat) (out_lists:yLL) (YC:List Value) (Xw:yLN) (cs_1:yLI),ρ=upd (upd (upd (upd (upd (upd xP 0 (yI i)) 1 (.slice arest rest.length crest)) 2 (pp bp 0)) 5 (pp bc 0)) 6 (pp bf 0)) 10 (yI n)∧out_lists=(gath out (begins (cs.take i) (jy parts (f - 1) i rest n)))∧((n:Int)≤jk (parts[i]!) rest+1)∧(cs_1.length=parts.length)∧(cs_1.take i=cs.take i)∧((gath out (begins (cs.take i) (jy parts (f - 1) i rest n))).length≤2000)∧m' =(jk (parts[i]!) rest+1 - (n:Int)).toNat∧Fresh W0.heap.size (Xw :: Ns)∧St W0 w65 ((.box bp [.slice zf parts.length xW] 27) :: (.box bi [.func (.func 177) #[] #[pp bq 0]] 170) :: (.box bq [.slice zf parts.length xW] 27) :: (.box bo [pp bl 0] 219) :: (.box bl [.slice YM YI YL] 221) :: (.box bc [.slice racs cs.length rccs] 22) :: (.box bf [.func (.func 201) #[] #[pp bp 0,pp bi 0,pp bo 0,pp bc 0,pp bf 0]] 222) :: (rr YM YI YL 22 1 YC) :: (rr racs cs.length rccs 2 1 (cs_1.map (Value.int .i64))) :: ps) ((sF false Frest arest crest rest) :: (sF false Fparts zf xW parts) :: (zh true Xw YC out_lists) :: Γ)) ((jk (parts[i]!) rest+1 - (0:Int)).toNat) ⟨_,0,raout,out.length,rcout,out,rxout,rFout,cs,uE6,(by exact pack_startI p2),qf,ql,(by rfl),(by rw [← pack_startI p2];exact p2),rfl,N,H⟩ ?_
 clear H N
 rintro m' ρ w66 ⟨xP,n,YM,YI,YL,out_lists,YC,Xw,cs_1,rfl,rfl,i0,j1,j2,j3,rfl,N,H⟩
 have hn_out_lists:=H.zl (α:=yLI) 7 rfl 2 rfl qj
 have hn_cs:=H.YG 8 rfl
 refine zcc (sp (yI n) (oL rfl (H.cell 0 rfl rfl) (sp (yI i) ?_)))
 obtain ⟨b67,o68,rfl⟩:=H.addr 1 rfl qf
 obtain ⟨ae70,ce70,Fe70,H⟩:=H.vN 1 rfl i i qf qf qf
 refine oI rfl rfl (oL rfl (H.xQ 1 rfl 0 rfl) (sp (.slice arest rest.length crest) ?_))
 obtain ⟨t1,t2,t3,t4,t5,t6⟩:=p1.times (k:=i) qf
 refine sw (oq (timesIn_ok _ (parts[i]!) rest (H.get 0 rfl).1 (H.get 2 rfl).1 qg qg) H fun w72 H=>sp (.bool (decide ((n:Int)≤(jk (parts[i]!) rest)))) (zjn (cD rfl (fun h74=>?_) (fun h74=>?_))))
 ·skip
  refine qV (t_n (xO (qW (zcr (oL rfl (H.cell 5 rfl rfl) (sps [yI i,yI n] ?_))))))
  obtain ⟨b75,rfl⟩:=H.Qz 8 rfl qf
  refine oI rfl rfl (sw (o_storeInt H 8 rfl n sizeOf2 rfl rfl (i:=i) qf qf fun w76 H=>?_))
  try dsimp only [List.set] at H
  refine zjn (xO ?_)
  refine c_drawK2 rfl H [0,1,2,3,5,6] [0,1,2,3] fun H=>?_
  have S:=H.yD [0,1,2,3,5,6] [0,1,2,3]
  refine tL 0 rfl rfl (fun _ h=>h.cell 5 rfl rfl) S ?_
  refine rtp 1 (yI i) S ?_
  refine rt 2 (yI (i+1)) (y_add i 1 rfl rfl qf) S ?_
  refine rtp 3 (.slice arest rest.length crest) S ?_
  refine tL 4 rfl rfl (fun _ h=>h.cell 0 rfl rfl) S ?_
  refine rtp 5 (yI i) S ?_
  refine tI 6 rfl rfl rfl S ?_
  refine tL 7 rfl rfl (fun _ h=>h.xQ 1 rfl 0 rfl) S ?_
  refine rtp 8 (yI n) S ?_
  refine rt 9 (yI (-n)) (y_neg n rfl qf) S ?_
  refine ro 10 rfl ?_
  obtain ⟨u1,u2,u3,u4⟩:=p1.plus (k:=i) qf (n:=(n:Int)) qf qf
  have sz78:=H.base.size
  have lt79:=all_two (H.ltN (L:=[Xw]) [4]) (H.ltK (K0.behind 5 rfl))
  refine oc (plus_ok _ rest (parts[i]!) (-n) (H.get 2 rfl).1 (H.get 0 rfl).1 qg qg qg) ?_
  rintro v83 w81 r83 x82
  replace H:=H.zB x82 r83
  obtain ⟨a84,c85,rfl,hc86,hm87⟩:=H.jm 0 rfl
  refine ⟨H.pick [1,2,3,4,6,7] [0,1,2,3],(ro 11 rfl ?_)⟩
  obtain ⟨G88,N,hn89,H⟩:=H.vW 0 rfl N (fun F hF b hb=>(List.mem_append.1 (show F∈[Xw]++Ns from hF)).elim (fun h=>(H.jQ (L:=[Xw]) [4]) F h b hb) fun h=>H.awayK (K0.behind 5 rfl) F h b hb)
  try dsimp only [List.set] at H
  replace H:=H.unfreeI 0 rfl
  have H1:St W0 w81 ((.box bp [.slice (aa b67 o68) parts.length xW] 27) :: (.box bi [.func (.func 177) #[] #[pp bq 0]] 170) :: (.box bq [.slice (aa b67 o68) parts.length xW] 27) :: (.box bo [pp bl 0] 219) :: (.box bl [.slice YM YI YL] 221) :: (.box bc [.slice (aa b75 0) cs.length rccs] 22) :: (.box bf [.func (.func 201) #[] #[pp bp 0,pp bi 0,pp bo 0,pp bc 0,pp bf 0]] 222) :: (rr YM YI YL 22 1 YC) :: (rr (aa b75 0) cs.length rccs 2 1 ((cs_1.set i n).map (Value.int .i64))) :: (rr none 0 0 0 1 []) :: ps) ((sF false G88 a84 c85 (jb rest (parts[i]!) (-n))) :: (sF false Fparts (aa b67 o68) xW parts) :: (zh true Xw YC (gath out (begins (cs.take i) (jy parts (f - 1) i rest n)))) :: (sF false G88 a84 c85 (jb rest (parts[i]!) (-n))) :: (sF true G88 a84 c85 (jb rest (parts[i]!) (-n))) :: (sF false Fe70 ae70 ce70 (parts[i]!)) :: (atF b67 (o68+(i:Int).toNat * 1) [.slice ae70 ((parts[i]!).length) ce70]) :: (sF false Frest arest crest rest) :: (sF false Fparts (aa b67 o68) xW parts) :: Γ):=H.YU 10 7 [1,2,3,4,5,6,7,8,9,0] [0,5,6,0,1,2,3,4,5] qo qo
  have N1:Fresh _ (Xw :: G88 :: Ns):=(N.YU 2 [1,0] qo)
  have K1:Kept (Ns) ((sF false G88 a84 c85 (jb rest (parts[i]!) (-n))) :: (sF true G88 a84 c85 (jb rest (parts[i]!) (-n))) :: (sF false Fe70 ae70 ce70 (parts[i]!)) :: (atF b67 (o68+(i:Int).toNat * 1) [.slice ae70 ((parts[i]!).length) ce70]) :: (sF false Frest arest crest rest) :: (sF false Fparts (aa b67 o68) xW parts) :: Γ):=K0.behind 6 rfl
  replace K1:=K1.cons (F:=G88) 0 rfl rfl
  refine o_callF #[yI (i+1),.slice a84 ((jb rest (parts[i]!) (-n)).length) c85,pp bp 0,pp bi 0,pp bo 0,pp bc 0,pp bf 0] rfl rfl call201 (IH (f - 1) qf (i+1) (jb rest (parts[i]!) (-n)) parts (gath out (begins (cs.take i) (jy parts (f - 1) i rest n))) (cs_1.set i n) a84 c85 G88 (aa b67 o68) xW Fparts bp bi bq bo bl bc bf YM YI YL YC Xw (aa b75 0) cs.length rccs H1 N1 K1 qf (by first | assumption | exact u4) (by first | assumption | exact j3 | (simp;done)) (by first | assumption | (rw [List.length_set];exact j1) | (simp;done))) ?_
  clear H H1 N1 K1
  rintro _ w90 ⟨cs91,raout91,rnout91,rcout91,rxout91,rFout91,hx92,hx93,rfl,N,H⟩
  obtain rfl:=H.zl (α:=yLI) 7 rfl 2 rfl qj
  refine ⟨H.pick [0,1,2,3,5,6] [5,6,7,8],(rtp 12 (.bool (!(dec ((gath (gath out (begins (cs.take i) (jy parts (f - 1) i rest n))) (begins ((cs_1.set i n).take (i+1)) (packs parts (parts.length - (i+1)) (i+1) (jb rest (parts[i]!) (-n))))).length≤2000)))) (H.pick [0,1,2,3,5,6] [5,6,7,8]) ?_)⟩
  refine xM qh (t_n (cQ rfl (fun h94=>?_) (fun h94=>?_)))
  ·skip
   refine zcr (sp (.bool false) (zjr (zr5 (ret1 (.bool false) rfl rfl ⟨_,rfl,?_⟩))))
   have e1:=pack_stepI (out:=out) p0 qf j1 j2 j3
   have e2:=‹¬ (gath (gath _ _) _).length≤2000›
   rw [e1] at e2
   rw [pack_endI (n:=n+1) p0 qf qf qf (.inr e2),← e1,xw (by rw [e1];exact e2)]
   exact ⟨cs91,raout91,(gath (gath out (begins (cs.take i) (jy parts (f - 1) i rest n))) (begins ((cs_1.set i n).take (i+1)) (packs parts (parts.length - (i+1)) (i+1) (jb rest (parts[i]!) (-n))))).length,rcout91,rxout91,rFout91,(by first | rfl | omega | (have:=‹_=(List.set _ _ _).length›;rw [List.length_set] at this;omega)),(by first | rfl | assumption | exact pack_keep ‹_› j2),rfl,(N.YU 2 [0] qo),H.YU 10 9 [0,1,2,3,4,5,6,7,8] [7,1,2] qo qo⟩
  refine qV (b_n (t_n (xR (sp (yI n) (sw (zu n 1 rfl rfl qf (sp (yI (n+1)) (xU ?_))))))))
  refine qZ (m' :=(jk (parts[i]!) rest+1 - ((n+1):Int)).toNat) qf ⟨_,n+1,raout91,(gath (gath out (begins (cs.take i) (jy parts (f - 1) i rest n))) (begins ((cs_1.set i n).take (i+1)) (packs parts (parts.length - (i+1)) (i+1) (jb rest (parts[i]!) (-n))))).length,rcout91,(gath (gath out (begins (cs.take i) (jy parts (f - 1) i rest n))) (begins ((cs_1.set i n).take (i+1)) (packs parts (parts.length - (i+1)) (i+1) (jb rest (parts[i]!) (-n))))),rxout91,rFout91,cs91,uE6,?_,?_,?_,?_,?_,rfl,(N.YU 2 [0] qo),H.YU 10 9 [0,1,2,3,4,5,6,7,8] [7,8,2] qo qo⟩
  · exact pack_stepI p0 qf j1 j2 j3
  · omega
  · have:=‹_=(List.set _ _ _).length›;rw [List.length_set] at this;omega
  · exact pack_keep ‹_› j2
  · rw [← pack_stepI p0 qf j1 j2 j3];assumption
 refine zx4 (zcr (sp (.bool true) (zjr (ret1 (.bool true) rfl rfl ⟨_,rfl,?_⟩))))
 rw [pack_endI (f:=f) (n:=n) p0 qf i0 qf (.inl qf),yu j3]
 exact ⟨cs_1,YM,YI,YL,YC,Xw,(by first | rfl | omega | (have:=‹_=(List.set _ _ _).length›;rw [List.length_set] at this;omega)),(by first | rfl | assumption | exact pack_keep ‹_› j2),rfl,N,H.YU 9 5 [0,1,2,3,4,5,6,7,8] [2,3,4] qo qo⟩

theorem packFrom_ok (f:Nat):packFrom_ok_S f:=Nat.strongRecOn (motive:=packFrom_ok_S) f fun f IH=>by unfold packFrom_ok_S;intros;apply packFrom_ok_step f IH <;> assumption

theorem maxPack_ok (w:World) (b:yLI) (parts:yLL) {ab:yOA} {Fb:yLN} {zf:yOA} {xW:Nat} {Fparts:yLN} (hb:qO.rep w Fb [.slice ab b.length cb] b) (hparts:qO.rep w Fparts [.slice zf parts.length xW] parts) (p0:Yp parts b) (p1:1≤parts.length):Calls Tryz.prog 142 #[.slice ab b.length cb,.slice zf parts.length xW] w (Ret (fun v w' =>∃ (ra0:yOA) (rn0:Nat) (rc0:Nat) (rx0:List Value) (rF0:yLN),v=.tuple #[.slice ra0 rn0 rc0,yI ((zW b parts).2)]∧Fresh w.heap.size [rF0]∧St w w' [rr ra0 rn0 rc0 22 1 rx0] [zh true rF0 rx0 ((zW b parts).1)]) w):=by
 refine en func142 ntmps142 ?_
 have H:=((St.start w).arg hparts).arg hb
 have nhb:=qK hb
 have nhparts:=qK hparts
 clear hb hparts
 have N:=Fresh.nil w.heap.size
 have p3:=p0.small
 have p4:=p0.smallB
 refine zcr (sw (vG H [.slice zf parts.length xW] fun b1 w2 H=>sps [yN,yI 0] (zjc (sp (.slice ab b.length cb) (oL rfl (H.cell 0 rfl rfl) (sp (.func (.func 177) #[] #[pp b1 0]) (sw (vC #[.slice ab b.length cb,.slice zf parts.length xW,.func (.func 177) #[] #[pp b1 0]] rfl rfl call176 (en func176 ntmps176 ?_)))))))))
 refine zcr (sw (vG H [.slice zf parts.length xW] fun b3 w4 H=>sw (vG H [.func (.func 177) #[] #[pp b1 0]] fun b5 w6 H=>sps [yN,yI 0] (zjcc (sp (.slice ab b.length cb) (oL rfl (H.cell 1 rfl rfl) (sw (oq (bagAndParts_ok _ b parts (H.get 0 rfl).1 (H.get 1 rfl).1 qg qg) H fun w8 H=>sp (yI 0) (zjc (sps [yI 0,.bool false] (zjn (xH false rfl (fun h=>absurd h qj) (fun _=>qV (t_n (zcc (sp (.slice ab b.length cb) ?_))))))))))))))))
 refine sw (oq (VI _ b (H.get 0 rfl).1 (by first | assumption | exact vH ql | exact Qo ql)) H fun w10 H=>sp (.bool (decide ((VP b:Int) > 16))) (zjn (cD rfl (fun h12=>?_) (fun h12=>?_))))
 ·skip
  refine zcr (sps [yN,yI 3] (zjr (t_r (ret2 yN (yI 3) rfl rfl rfl ⟨_,rfl,?_⟩))))
  replace H:=H.erases [1,0]
  dsimp only [vX,List.eraseIdx] at H
  refine sps [yN,yI 3,yN,yI 3] (zjr ?_)
  replace H:=H.nilRow 22 1
  replace H:=H.vP (α:=yLI)
  refine ret2 yN (yI 3) rfl rfl rfl ⟨_,rfl,?_,H.base⟩
  first | rw [all_a ql] | rw [all_bI (cs:=(List.replicate parts.length (0:Int))) ql qf]
  exact ⟨none,0,0,[],[],rfl,N.emp,H.pick [0] [0]⟩
 refine qV (t_n (xO ?_))
 refine c_cut (fun ρ w17=>∃ (xP:Env) (b13:Nat) (b14:Nat) (b15:Nat) (b16:Nat),ρ=upd (upd (upd (upd (upd xP 0 (.slice ab b.length cb)) 4 (pp b3 0)) 5 (pp b5 0)) 9 (pp b13 0)) 10 (pp b14 0)∧Fresh w.heap.size []∧St w w17 [.box b14 [.slice (aa b15 0) parts.length parts.length] 22,.box b13 [pp b16 0] 219,rr (aa b15 0) parts.length parts.length 2 1 ((List.replicate parts.length (0:Int)).map (Value.int .i64)),.box b16 [yN] 221,.box b5 [.func (.func 177) #[] #[pp b1 0]] 170,.box b3 [.slice zf parts.length xW] 27,.box b1 [.slice zf parts.length xW] 27] [sF false Fb ab cb b,sF false Fparts zf xW parts]) ?_ ?_
 ·skip
  refine jd rfl H fun H=>?_
  refine r_have (fun ρ w23=>∃ (xP:Env) (b19:Nat) (b20:Nat) (b21:Nat),ρ=upd (upd (upd (upd (upd (upd (upd xP 0 (.slice ab b.length cb)) 4 (pp b3 0)) 5 (pp b5 0)) 9 (pp b20 0)) 10 (pp b21 0)) 22 (pp b19 0)) 24 (yI parts.length)∧Fresh w.heap.size []∧St w w23 [.box b21 [yN] 22,.box b20 [.pointer none] 219,.box b19 [yN] 221,.box b5 [.func (.func 177) #[] #[pp b1 0]] 170,.box b3 [.slice zf parts.length xW] 27,.box b1 [.slice zf parts.length xW] 27] [sF false Fb ab cb b,sF false Fparts zf xW parts]) 3 #[true,true,true,true,false,true,true,false,false] ?_ fun L22=>?_
  ·skip
   rintro ρ w24 ⟨xP,b19,b20,b21,rfl,N,H⟩
   refine jo [4,7] qh qm (Qj rfl ?_ (Qj rfl ?_ jq))
   ·skip
    refine XO H underlying22 ti2 parts.length rfl rfl qf qf qf fun b25 w26 H=>⟨H.pick [4,5,6] [0,1],(ro 7 rfl (zF H 2 [pp b19 0] sizeOf219 fun w27 H=>⟨H.pick [4,5,6] [0,1],(ro 8 rfl (zF H 1 [.slice (aa b25 0) parts.length parts.length] sizeOf22 fun w28 H=>⟨H.pick [4,5,6] [0,1],(xM qh ((meet ⟨_,b20,b21,b25,b19,uE5,N,H.pick [1,2,0,3,4,5,6] [0,1]⟩)))⟩))⟩))⟩
   refine zF H 1 [pp b19 0] sizeOf219 fun w29 H=>⟨H.pick [3,4,5] [0,1],(ro 4 rfl (XO H underlying22 ti2 parts.length rfl rfl qf qf qf fun b30 w31 H=>⟨H.pick [4,5,6] [0,1],(ro 8 rfl (zF H 1 [.slice (aa b30 0) parts.length parts.length] sizeOf22 fun w32 H=>⟨H.pick [4,5,6] [0,1],(xM qh ((meet ⟨_,b20,b21,b30,b19,uE5,N,H.pick [1,2,0,3,4,5,6] [0,1]⟩)))⟩))⟩))⟩
  refine r_have (fun ρ w36=>∃ (xP:Env) (b33:Nat) (b34:Nat),ρ=upd (upd (upd (upd (upd xP 0 (.slice ab b.length cb)) 4 (pp b3 0)) 5 (pp b5 0)) 22 (pp b33 0)) 25 (.slice (aa b34 0) parts.length parts.length)∧Fresh w.heap.size []∧St w w36 [rr (aa b34 0) parts.length parts.length 2 1 ((List.replicate parts.length (0:Int)).map (Value.int .i64)),.box b33 [yN] 221,.box b5 [.func (.func 177) #[] #[pp b1 0]] 170,.box b3 [.slice zf parts.length xW] 27,.box b1 [.slice zf parts.length xW] 27] [sF false Fb ab cb b,sF false Fparts zf xW parts]) 4 #[true,true,true,true,true,false,false,false,false] ?_ fun L35=>?_
  ·skip
   rintro ρ w37 ⟨xP,b33,b34,rfl,N,H⟩
   refine jo [5,6] qh qm (Qj rfl ?_ (Qj rfl ?_ jq))
   ·skip
    refine xX H ti219 [.pointer none] fun b38 w39 H=>⟨H.pick [3,4,5] [0,1],(ro 6 rfl (xX H ti22 [yN] fun b40 w41 H=>⟨H.pick [4,5,6] [0,1],(ro 7 rfl (zF H 1 [pp b33 0] sizeOf219 fun w42 H=>⟨H.pick [4,5,6] [0,1],(ro 8 rfl (zF H 0 [.slice (aa b34 0) parts.length parts.length] sizeOf22 fun w43 H=>⟨H.pick [4,5,6] [0,1],(xM qh ((meet ⟨_,b38,b40,b34,b33,uE5,N,H⟩)))⟩))⟩))⟩))⟩
   refine xX H ti22 [yN] fun b44 w45 H=>⟨H.pick [3,4,5] [0,1],(ro 5 rfl (xX H ti219 [.pointer none] fun b46 w47 H=>⟨H.pick [4,5,6] [0,1],(ro 7 rfl (zF H 0 [pp b33 0] sizeOf219 fun w48 H=>⟨H.pick [4,5,6] [0,1],(ro 8 rfl (zF H 1 [.slice (aa b34 0) parts.length parts.length] sizeOf22 fun w49 H=>⟨H.pick [4,5,6] [0,1],(xM qh ((meet ⟨_,b46,b44,b34,b33,uE5,N,H.pick [1,0,2,3,4,5,6] [0,1]⟩)))⟩))⟩))⟩))⟩
  refine r_have (fun ρ w53=>∃ (xP:Env) (b50:Nat) (b51:Nat),ρ=upd (upd (upd (upd (upd (upd xP 0 (.slice ab b.length cb)) 4 (pp b3 0)) 5 (pp b5 0)) 9 (pp b51 0)) 22 (pp b50 0)) 24 (yI parts.length)∧Fresh w.heap.size []∧St w w53 [.box b51 [.pointer none] 219,.box b50 [yN] 221,.box b5 [.func (.func 177) #[] #[pp b1 0]] 170,.box b3 [.slice zf parts.length xW] 27,.box b1 [.slice zf parts.length xW] 27] [sF false Fb ab cb b,sF false Fparts zf xW parts]) 4 #[true,true,true,true,false,true,false,false,false] ?_ fun L52=>?_
  ·skip
   rintro ρ w54 ⟨xP,b50,b51,rfl,N,H⟩
   refine jo [4,6] qh qm (Qj rfl ?_ (Qj rfl ?_ jq))
   ·skip
    refine XO H underlying22 ti2 parts.length rfl rfl qf qf qf fun b55 w56 H=>⟨H.pick [3,4,5] [0,1],(ro 6 rfl (xX H ti22 [yN] fun b57 w58 H=>⟨H.pick [4,5,6] [0,1],(ro 7 rfl (zF H 2 [pp b50 0] sizeOf219 fun w59 H=>⟨H.pick [4,5,6] [0,1],(ro 8 rfl (zF H 0 [.slice (aa b55 0) parts.length parts.length] sizeOf22 fun w60 H=>⟨H.pick [4,5,6] [0,1],(xM qh ((meet ⟨_,b51,b57,b55,b50,uE5,N,H.pick [0,2,1,3,4,5,6] [0,1]⟩)))⟩))⟩))⟩))⟩
   refine xX H ti22 [yN] fun b61 w62 H=>⟨H.pick [3,4,5] [0,1],(XZ L22 ⟨_,b50,b51,b61,uE7,N,H⟩)⟩
  refine r_have (fun ρ w66=>∃ (xP:Env) (b63:Nat) (b64:Nat),ρ=upd (upd (upd (upd (upd (upd xP 0 (.slice ab b.length cb)) 4 (pp b3 0)) 5 (pp b5 0)) 10 (pp b64 0)) 22 (pp b63 0)) 24 (yI parts.length)∧Fresh w.heap.size []∧St w w66 [.box b64 [yN] 22,.box b63 [yN] 221,.box b5 [.func (.func 177) #[] #[pp b1 0]] 170,.box b3 [.slice zf parts.length xW] 27,.box b1 [.slice zf parts.length xW] 27] [sF false Fb ab cb b,sF false Fparts zf xW parts]) 4 #[true,true,true,true,false,false,true,false,false] ?_ fun L65=>?_
  ·skip
   rintro ρ w67 ⟨xP,b63,b64,rfl,N,H⟩
   refine jo [4,5] qh qm (Qj rfl ?_ (Qj rfl ?_ jq))
   ·skip
    refine XO H underlying22 ti2 parts.length rfl rfl qf qf qf fun b68 w69 H=>⟨H.pick [3,4,5] [0,1],(ro 5 rfl (xX H ti219 [.pointer none] fun b70 w71 H=>⟨H.pick [4,5,6] [0,1],(ro 7 rfl (zF H 0 [pp b63 0] sizeOf219 fun w72 H=>⟨H.pick [4,5,6] [0,1],(ro 8 rfl (zF H 2 [.slice (aa b68 0) parts.length parts.length] sizeOf22 fun w73 H=>⟨H.pick [4,5,6] [0,1],(xM qh ((meet ⟨_,b70,b64,b68,b63,uE5,N,H.pick [2,0,1,3,4,5,6] [0,1]⟩)))⟩))⟩))⟩))⟩
   refine xX H ti219 [.pointer none] fun b74 w75 H=>⟨H.pick [3,4,5] [0,1],(XZ L22 ⟨_,b63,b74,b64,uE7,N,H.pick [1,0,2,3,4,5] [0,1]⟩)⟩
  refine r_have (fun ρ w79=>∃ (xP:Env) (b76:Nat) (b77:Nat),ρ=upd (upd (upd (upd (upd (upd xP 0 (.slice ab b.length cb)) 4 (pp b3 0)) 5 (pp b5 0)) 9 (pp b77 0)) 21 (.agg #[yN])) 25 (.slice (aa b76 0) parts.length parts.length)∧Fresh w.heap.size []∧St w w79 [.box b77 [.pointer none] 219,rr (aa b76 0) parts.length parts.length 2 1 ((List.replicate parts.length (0:Int)).map (Value.int .i64)),.box b5 [.func (.func 177) #[] #[pp b1 0]] 170,.box b3 [.slice zf parts.length xW] 27,.box b1 [.slice zf parts.length xW] 27] [sF false Fb ab cb b,sF false Fparts zf xW parts]) 4 #[true,false,true,true,true,true,false,false,false] ?_ fun L78=>?_
  ·skip
   rintro ρ w80 ⟨xP,b76,b77,rfl,N,H⟩
   refine jo [1,6] qh qm (Qj rfl ?_ (Qj rfl ?_ jq))
   ·skip
    refine vG H [yN] fun b81 w82 H=>⟨H.pick [3,4,5] [0,1],(ro 6 rfl (xX H ti22 [yN] fun b83 w84 H=>⟨H.pick [4,5,6] [0,1],(ro 7 rfl (zF H 2 [pp b81 0] sizeOf219 fun w85 H=>⟨H.pick [4,5,6] [0,1],(ro 8 rfl (zF H 0 [.slice (aa b76 0) parts.length parts.length] sizeOf22 fun w86 H=>⟨H.pick [4,5,6] [0,1],(xM qh ((meet ⟨_,b77,b83,b76,b81,uE5,N,H.pick [0,2,3,1,4,5,6] [0,1]⟩)))⟩))⟩))⟩))⟩
   refine xX H ti22 [yN] fun b87 w88 H=>⟨H.pick [3,4,5] [0,1],(ro 1 rfl (vG H [yN] fun b89 w90 H=>⟨H.pick [4,5,6] [0,1],(ro 7 rfl (zF H 2 [pp b89 0] sizeOf219 fun w91 H=>⟨H.pick [4,5,6] [0,1],(ro 8 rfl (zF H 1 [.slice (aa b76 0) parts.length parts.length] sizeOf22 fun w92 H=>⟨H.pick [4,5,6] [0,1],(xM qh ((meet ⟨_,b77,b87,b76,b89,uE5,N,H.pick [1,2,3,0,4,5,6] [0,1]⟩)))⟩))⟩))⟩))⟩
  refine r_have (fun ρ w96=>∃ (xP:Env) (b93:Nat) (b94:Nat),ρ=upd (upd (upd (upd (upd (upd xP 0 (.slice ab b.length cb)) 4 (pp b3 0)) 5 (pp b5 0)) 10 (pp b94 0)) 21 (.agg #[yN])) 25 (.slice (aa b93 0) parts.length parts.length)∧Fresh w.heap.size []∧St w w96 [.box b94 [yN] 22,rr (aa b93 0) parts.length parts.length 2 1 ((List.replicate parts.length (0:Int)).map (Value.int .i64)),.box b5 [.func (.func 177) #[] #[pp b1 0]] 170,.box b3 [.slice zf parts.length xW] 27,.box b1 [.slice zf parts.length xW] 27] [sF false Fb ab cb b,sF false Fparts zf xW parts]) 4 #[true,false,true,true,true,false,true,false,false] ?_ fun L95=>?_
  ·skip
   rintro ρ w97 ⟨xP,b93,b94,rfl,N,H⟩
   refine jo [1,5] qh qm (Qj rfl ?_ (Qj rfl ?_ jq))
   ·skip
    refine vG H [yN] fun b98 w99 H=>⟨H.pick [3,4,5] [0,1],(ro 5 rfl (xX H ti219 [.pointer none] fun b100 w101 H=>⟨H.pick [4,5,6] [0,1],(ro 7 rfl (zF H 0 [pp b98 0] sizeOf219 fun w102 H=>⟨H.pick [4,5,6] [0,1],(ro 8 rfl (zF H 2 [.slice (aa b93 0) parts.length parts.length] sizeOf22 fun w103 H=>⟨H.pick [4,5,6] [0,1],(xM qh ((meet ⟨_,b100,b94,b93,b98,uE5,N,H.pick [2,0,3,1,4,5,6] [0,1]⟩)))⟩))⟩))⟩))⟩
   refine xX H ti219 [.pointer none] fun b104 w105 H=>⟨H.pick [3,4,5] [0,1],(ro 1 rfl (vG H [yN] fun b106 w107 H=>⟨H.pick [4,5,6] [0,1],(ro 7 rfl (zF H 1 [pp b106 0] sizeOf219 fun w108 H=>⟨H.pick [4,5,6] [0,1],(ro 8 rfl (zF H 2 [.slice (aa b93 0) parts.length parts.length] sizeOf22 fun w109 H=>⟨H.pick [4,5,6] [0,1],(xM qh ((meet ⟨_,b104,b94,b93,b106,uE5,N,H.pick [2,1,3,0,4,5,6] [0,1]⟩)))⟩))⟩))⟩))⟩
  refine r_have (fun ρ w113=>∃ (xP:Env) (b110:Nat) (b111:Nat),ρ=upd (upd (upd (upd (upd (upd (upd xP 0 (.slice ab b.length cb)) 4 (pp b3 0)) 5 (pp b5 0)) 9 (pp b110 0)) 10 (pp b111 0)) 21 (.agg #[yN])) 24 (yI parts.length)∧Fresh w.heap.size []∧St w w113 [.box b111 [yN] 22,.box b110 [.pointer none] 219,.box b5 [.func (.func 177) #[] #[pp b1 0]] 170,.box b3 [.slice zf parts.length xW] 27,.box b1 [.slice zf parts.length xW] 27] [sF false Fb ab cb b,sF false Fparts zf xW parts]) 4 #[true,false,true,true,false,true,true,false,false] ?_ fun L112=>?_
  ·skip
   rintro ρ w114 ⟨xP,b110,b111,rfl,N,H⟩
   refine jo [1,4] qh qm (Qj rfl ?_ (Qj rfl ?_ jq))
   ·skip
    refine vG H [yN] fun b115 w116 H=>⟨H.pick [3,4,5] [0,1],(XZ L22 ⟨_,b115,b110,b111,uE7,N,H.pick [1,2,0,3,4,5] [0,1]⟩)⟩
   refine XO H underlying22 ti2 parts.length rfl rfl qf qf qf fun b117 w118 H=>⟨H.pick [3,4,5] [0,1],(ro 1 rfl (vG H [yN] fun b119 w120 H=>⟨H.pick [4,5,6] [0,1],(ro 7 rfl (zF H 3 [pp b119 0] sizeOf219 fun w121 H=>⟨H.pick [4,5,6] [0,1],(ro 8 rfl (zF H 2 [.slice (aa b117 0) parts.length parts.length] sizeOf22 fun w122 H=>⟨H.pick [4,5,6] [0,1],(xM qh ((meet ⟨_,b110,b111,b117,b119,uE5,N,H.pick [2,3,1,0,4,5,6] [0,1]⟩)))⟩))⟩))⟩))⟩
  refine r_have (fun ρ w125=>∃ (xP:Env) (b123:Nat),ρ=upd (upd (upd (upd (upd xP 0 (.slice ab b.length cb)) 4 (pp b3 0)) 5 (pp b5 0)) 21 (.agg #[yN])) 25 (.slice (aa b123 0) parts.length parts.length)∧Fresh w.heap.size []∧St w w125 [rr (aa b123 0) parts.length parts.length 2 1 ((List.replicate parts.length (0:Int)).map (Value.int .i64)),.box b5 [.func (.func 177) #[] #[pp b1 0]] 170,.box b3 [.slice zf parts.length xW] 27,.box b1 [.slice zf parts.length xW] 27] [sF false Fb ab cb b,sF false Fparts zf xW parts]) 5 #[true,false,true,true,true,false,false,false,false] ?_ fun L124=>?_
  ·skip
   rintro ρ w126 ⟨xP,b123,rfl,N,H⟩
   refine jo [1,5,6] qh qm (Qj rfl ?_ (Qj rfl ?_ (Qj rfl ?_ jq)))
   ·skip
    refine vG H [yN] fun b127 w128 H=>⟨H.pick [2,3,4] [0,1],(XZ L35 ⟨_,b127,b123,uE5,N,H.pick [1,0,2,3,4] [0,1]⟩)⟩
   ·skip
    refine xX H ti219 [.pointer none] fun b129 w130 H=>⟨H.pick [2,3,4] [0,1],(XZ L78 ⟨_,b123,b129,uE6,N,H⟩)⟩
   refine xX H ti22 [yN] fun b131 w132 H=>⟨H.pick [2,3,4] [0,1],(XZ L95 ⟨_,b123,b131,uE6,N,H⟩)⟩
  refine r_have (fun ρ w135=>∃ (xP:Env) (b133:Nat),ρ=upd (upd (upd (upd (upd (upd xP 0 (.slice ab b.length cb)) 4 (pp b3 0)) 5 (pp b5 0)) 9 (pp b133 0)) 21 (.agg #[yN])) 24 (yI parts.length)∧Fresh w.heap.size []∧St w w135 [.box b133 [.pointer none] 219,.box b5 [.func (.func 177) #[] #[pp b1 0]] 170,.box b3 [.slice zf parts.length xW] 27,.box b1 [.slice zf parts.length xW] 27] [sF false Fb ab cb b,sF false Fparts zf xW parts]) 5 #[true,false,true,true,false,true,false,false,false] ?_ fun L134=>?_
  ·skip
   rintro ρ w136 ⟨xP,b133,rfl,N,H⟩
   refine jo [1,4,6] qh qm (Qj rfl ?_ (Qj rfl ?_ (Qj rfl ?_ jq)))
   ·skip
    refine vG H [yN] fun b137 w138 H=>⟨H.pick [2,3,4] [0,1],(XZ L52 ⟨_,b137,b133,uE6,N,H.pick [1,0,2,3,4] [0,1]⟩)⟩
   ·skip
    refine XO H underlying22 ti2 parts.length rfl rfl qf qf qf fun b139 w140 H=>⟨H.pick [2,3,4] [0,1],(XZ L78 ⟨_,b139,b133,uE6,N,H.pick [1,0,2,3,4] [0,1]⟩)⟩
   refine xX H ti22 [yN] fun b141 w142 H=>⟨H.pick [2,3,4] [0,1],(XZ L112 ⟨_,b133,b141,uE7,N,H⟩)⟩
  refine r_have (fun ρ w145=>∃ (xP:Env) (b143:Nat),ρ=upd (upd (upd (upd (upd (upd xP 0 (.slice ab b.length cb)) 4 (pp b3 0)) 5 (pp b5 0)) 10 (pp b143 0)) 21 (.agg #[yN])) 24 (yI parts.length)∧Fresh w.heap.size []∧St w w145 [.box b143 [yN] 22,.box b5 [.func (.func 177) #[] #[pp b1 0]] 170,.box b3 [.slice zf parts.length xW] 27,.box b1 [.slice zf parts.length xW] 27] [sF false Fb ab cb b,sF false Fparts zf xW parts]) 5 #[true,false,true,true,false,false,true,false,false] ?_ fun L144=>?_
  ·skip
   rintro ρ w146 ⟨xP,b143,rfl,N,H⟩
   refine jo [1,4,5] qh qm (Qj rfl ?_ (Qj rfl ?_ (Qj rfl ?_ jq)))
   ·skip
    refine vG H [yN] fun b147 w148 H=>⟨H.pick [2,3,4] [0,1],(XZ L65 ⟨_,b147,b143,uE6,N,H.pick [1,0,2,3,4] [0,1]⟩)⟩
   ·skip
    refine XO H underlying22 ti2 parts.length rfl rfl qf qf qf fun b149 w150 H=>⟨H.pick [2,3,4] [0,1],(XZ L95 ⟨_,b149,b143,uE6,N,H.pick [1,0,2,3,4] [0,1]⟩)⟩
   refine xX H ti219 [.pointer none] fun b151 w152 H=>⟨H.pick [2,3,4] [0,1],(XZ L112 ⟨_,b151,b143,uE7,N,H.pick [1,0,2,3,4] [0,1]⟩)⟩
  refine r_have (fun ρ w156=>∃ (xP:Env) (b153:Nat) (b154:Nat),ρ=upd (upd (upd (upd (upd xP 0 (.slice ab b.length cb)) 4 (pp b3 0)) 5 (pp b5 0)) 9 (pp b154 0)) 25 (.slice (aa b153 0) parts.length parts.length)∧Fresh w.heap.size []∧St w w156 [.box b154 [.pointer none] 219,rr (aa b153 0) parts.length parts.length 2 1 ((List.replicate parts.length (0:Int)).map (Value.int .i64)),.box b5 [.func (.func 177) #[] #[pp b1 0]] 170,.box b3 [.slice zf parts.length xW] 27,.box b1 [.slice zf parts.length xW] 27] [sF false Fb ab cb b,sF false Fparts zf xW parts]) 5 #[false,false,true,true,true,true,false,false,false] ?_ fun L155=>?_
  ·skip
   rintro ρ w157 ⟨xP,b153,b154,rfl,N,H⟩
   refine jo [0,6] qh qm (Qj rfl ?_ (Qj rfl ?_ jq))
   ·skip
    refine jr [yN] [] (⟨H.pick [2,3,4] [0,1],(XZ L78 ⟨_,b153,b154,uE6,N,H⟩)⟩)
   refine xX H ti22 [yN] fun b158 w159 H=>⟨H.pick [3,4,5] [0,1],(ro 0 rfl (jr [yN] [] (⟨H.pick [3,4,5] [0,1],(ro 1 rfl (vG H [yN] fun b160 w161 H=>⟨H.pick [4,5,6] [0,1],(ro 7 rfl (zF H 2 [pp b160 0] sizeOf219 fun w162 H=>⟨H.pick [4,5,6] [0,1],(ro 8 rfl (zF H 1 [.slice (aa b153 0) parts.length parts.length] sizeOf22 fun w163 H=>⟨H.pick [4,5,6] [0,1],(xM qh ((meet ⟨_,b154,b158,b153,b160,uE5,N,H.pick [1,2,3,0,4,5,6] [0,1]⟩)))⟩))⟩))⟩))⟩)))⟩
  refine r_have (fun ρ w167=>∃ (xP:Env) (b164:Nat) (b165:Nat),ρ=upd (upd (upd (upd (upd xP 0 (.slice ab b.length cb)) 4 (pp b3 0)) 5 (pp b5 0)) 10 (pp b165 0)) 25 (.slice (aa b164 0) parts.length parts.length)∧Fresh w.heap.size []∧St w w167 [.box b165 [yN] 22,rr (aa b164 0) parts.length parts.length 2 1 ((List.replicate parts.length (0:Int)).map (Value.int .i64)),.box b5 [.func (.func 177) #[] #[pp b1 0]] 170,.box b3 [.slice zf parts.length xW] 27,.box b1 [.slice zf parts.length xW] 27] [sF false Fb ab cb b,sF false Fparts zf xW parts]) 5 #[false,false,true,true,true,false,true,false,false] ?_ fun L166=>?_
  ·skip
   rintro ρ w168 ⟨xP,b164,b165,rfl,N,H⟩
   refine jo [0,5] qh qm (Qj rfl ?_ (Qj rfl ?_ jq))
   ·skip
    refine jr [yN] [] (⟨H.pick [2,3,4] [0,1],(XZ L95 ⟨_,b164,b165,uE6,N,H⟩)⟩)
   refine xX H ti219 [.pointer none] fun b169 w170 H=>⟨H.pick [3,4,5] [0,1],(ro 0 rfl (jr [yN] [] (⟨H.pick [3,4,5] [0,1],(ro 1 rfl (vG H [yN] fun b171 w172 H=>⟨H.pick [4,5,6] [0,1],(ro 7 rfl (zF H 1 [pp b171 0] sizeOf219 fun w173 H=>⟨H.pick [4,5,6] [0,1],(ro 8 rfl (zF H 2 [.slice (aa b164 0) parts.length parts.length] sizeOf22 fun w174 H=>⟨H.pick [4,5,6] [0,1],(xM qh ((meet ⟨_,b169,b165,b164,b171,uE5,N,H.pick [2,1,3,0,4,5,6] [0,1]⟩)))⟩))⟩))⟩))⟩)))⟩
  refine r_have (fun ρ w178=>∃ (xP:Env) (b175:Nat) (b176:Nat),ρ=upd (upd (upd (upd (upd (upd xP 0 (.slice ab b.length cb)) 4 (pp b3 0)) 5 (pp b5 0)) 9 (pp b175 0)) 10 (pp b176 0)) 24 (yI parts.length)∧Fresh w.heap.size []∧St w w178 [.box b176 [yN] 22,.box b175 [.pointer none] 219,.box b5 [.func (.func 177) #[] #[pp b1 0]] 170,.box b3 [.slice zf parts.length xW] 27,.box b1 [.slice zf parts.length xW] 27] [sF false Fb ab cb b,sF false Fparts zf xW parts]) 5 #[false,false,true,true,false,true,true,false,false] ?_ fun L177=>?_
  ·skip
   rintro ρ w179 ⟨xP,b175,b176,rfl,N,H⟩
   refine jo [0,4] qh qm (Qj rfl ?_ (Qj rfl ?_ jq))
   ·skip
    refine jr [yN] [] (⟨H.pick [2,3,4] [0,1],(XZ L112 ⟨_,b175,b176,uE7,N,H⟩)⟩)
   refine XO H underlying22 ti2 parts.length rfl rfl qf qf qf fun b180 w181 H=>⟨H.pick [3,4,5] [0,1],(ro 0 rfl (jr [yN] [] (⟨H.pick [3,4,5] [0,1],(ro 1 rfl (vG H [yN] fun b182 w183 H=>⟨H.pick [4,5,6] [0,1],(ro 7 rfl (zF H 3 [pp b182 0] sizeOf219 fun w184 H=>⟨H.pick [4,5,6] [0,1],(ro 8 rfl (zF H 2 [.slice (aa b180 0) parts.length parts.length] sizeOf22 fun w185 H=>⟨H.pick [4,5,6] [0,1],(xM qh ((meet ⟨_,b175,b176,b180,b182,uE5,N,H.pick [2,3,1,0,4,5,6] [0,1]⟩)))⟩))⟩))⟩))⟩)))⟩
  refine tL 2 rfl rfl (fun _ h=>h.cell 1 rfl rfl) H ?_
  refine tN 3 rfl rfl H ?_
  refine jo [0,4,5,6] qh qm (Qj rfl ?_ (Qj rfl ?_ (Qj rfl ?_ (Qj rfl ?_ jq))))
  ·skip
   refine jr [yN] [] (⟨H,(jo [1,4,5,6] qh qm (Qj rfl ?_ (Qj rfl ?_ (Qj rfl ?_ (Qj rfl ?_ jq)))))⟩)
   ·skip
    refine vG H [yN] fun b186 w187 H=>⟨H.pick [1,2,3] [0,1],(jo [4,5,6] qh qm (Qj rfl ?_ (Qj rfl ?_ (Qj rfl ?_ jq))))⟩
    ·skip
     refine XO H underlying22 ti2 parts.length rfl rfl qf qf qf fun b188 w189 H=>⟨H.pick [2,3,4] [0,1],(XZ L35 ⟨_,b186,b188,uE5,N,H⟩)⟩
    ·skip
     refine xX H ti219 [.pointer none] fun b190 w191 H=>⟨H.pick [2,3,4] [0,1],(XZ L52 ⟨_,b186,b190,uE6,N,H⟩)⟩
    refine xX H ti22 [yN] fun b192 w193 H=>⟨H.pick [2,3,4] [0,1],(XZ L65 ⟨_,b186,b192,uE6,N,H⟩)⟩
   ·skip
    refine XO H underlying22 ti2 parts.length rfl rfl qf qf qf fun b194 w195 H=>⟨H.pick [1,2,3] [0,1],(XZ L124 ⟨_,b194,uE5,N,H⟩)⟩
   ·skip
    refine xX H ti219 [.pointer none] fun b196 w197 H=>⟨H.pick [1,2,3] [0,1],(XZ L134 ⟨_,b196,uE6,N,H⟩)⟩
   refine xX H ti22 [yN] fun b198 w199 H=>⟨H.pick [1,2,3] [0,1],(XZ L144 ⟨_,b198,uE6,N,H⟩)⟩
  ·skip
   refine XO H underlying22 ti2 parts.length rfl rfl qf qf qf fun b200 w201 H=>⟨H.pick [1,2,3] [0,1],(jo [0,5,6] qh qm (Qj rfl ?_ (Qj rfl ?_ (Qj rfl ?_ jq))))⟩
   ·skip
    refine jr [yN] [] (⟨H.pick [1,2,3] [0,1],(XZ L124 ⟨_,b200,uE5,N,H⟩)⟩)
   ·skip
    refine xX H ti219 [.pointer none] fun b202 w203 H=>⟨H.pick [2,3,4] [0,1],(XZ L155 ⟨_,b200,b202,uE5,N,H⟩)⟩
   refine xX H ti22 [yN] fun b204 w205 H=>⟨H.pick [2,3,4] [0,1],(XZ L166 ⟨_,b200,b204,uE5,N,H⟩)⟩
  ·skip
   refine xX H ti219 [.pointer none] fun b206 w207 H=>⟨H.pick [1,2,3] [0,1],(jo [0,4,6] qh qm (Qj rfl ?_ (Qj rfl ?_ (Qj rfl ?_ jq))))⟩
   ·skip
    refine jr [yN] [] (⟨H.pick [1,2,3] [0,1],(XZ L134 ⟨_,b206,uE6,N,H⟩)⟩)
   ·skip
    refine XO H underlying22 ti2 parts.length rfl rfl qf qf qf fun b208 w209 H=>⟨H.pick [2,3,4] [0,1],(XZ L155 ⟨_,b208,b206,uE5,N,H.pick [1,0,2,3,4] [0,1]⟩)⟩
   refine xX H ti22 [yN] fun b210 w211 H=>⟨H.pick [2,3,4] [0,1],(XZ L177 ⟨_,b206,b210,uE6,N,H⟩)⟩
  refine xX H ti22 [yN] fun b212 w213 H=>⟨H.pick [1,2,3] [0,1],(jo [0,4,5] qh qm (Qj rfl ?_ (Qj rfl ?_ (Qj rfl ?_ jq))))⟩
  ·skip
   refine jr [yN] [] (⟨H.pick [1,2,3] [0,1],(XZ L144 ⟨_,b212,uE6,N,H⟩)⟩)
  ·skip
   refine XO H underlying22 ti2 parts.length rfl rfl qf qf qf fun b214 w215 H=>⟨H.pick [2,3,4] [0,1],(XZ L166 ⟨_,b214,b212,uE5,N,H.pick [1,0,2,3,4] [0,1]⟩)⟩
  refine xX H ti219 [.pointer none] fun b216 w217 H=>⟨H.pick [2,3,4] [0,1],(XZ L177 ⟨_,b216,b212,uE6,N,H.pick [1,0,2,3,4] [0,1]⟩)⟩
 clear H N
 rintro ρ w218 ⟨xP,b13,b14,b15,b16,rfl,N,H⟩
 refine t_n (zcr (sw (xX H ti222 [.nilFunc] fun b219 w220 H=>zjc (sp (.func (.func 201) #[] #[pp b3 0,pp b5 0,pp b13 0,pp b14 0,pp b219 0]) (sw (zF H 0 [.func (.func 201) #[] #[pp b3 0,pp b5 0,pp b13 0,pp b14 0,pp b219 0]] sizeOf222 fun w221 H=>zjc (oL rfl (H.cell 0 rfl rfl) (sp (.slice ab b.length cb) ?_))))))))
 replace H:=H.nilRow 22 1
 replace H:=H.vP (α:=yLI)
 have H1:St w w221 [.box b3 [.slice zf parts.length xW] 27,.box b5 [.func (.func 177) #[] #[pp b1 0]] 170,.box b1 [.slice zf parts.length xW] 27,.box b13 [pp b16 0] 219,.box b16 [yN] 221,.box b14 [.slice (aa b15 0) parts.length parts.length] 22,.box b219 [.func (.func 201) #[] #[pp b3 0,pp b5 0,pp b13 0,pp b14 0,pp b219 0]] 222,rr none 0 0 22 1 [],rr (aa b15 0) parts.length parts.length 2 1 ((List.replicate parts.length (0:Int)).map (Value.int .i64))] [sF false Fb ab cb b,sF false Fparts zf xW parts,zh true [] [] ([]:yLL),sF false Fb ab cb b,sF false Fparts zf xW parts]:=H.pick [7,6,8,3,5,2,1,0,4] [1,2,0,1,2]
 have N1:Fresh _ [[]]:=N.emp
 have K1:Kept [] [sF false Fb ab cb b,sF false Fparts zf xW parts]:=Kept.nil _
 refine sw (o_callF #[yI 0,.slice ab b.length cb,pp b3 0,pp b5 0,pp b13 0,pp b14 0,pp b219 0] rfl rfl call201 (packFrom_ok parts.length 0 b parts ([]:yLL) (List.replicate parts.length (0:Int)) ab cb Fb zf xW Fparts b3 b5 b1 b13 b16 b14 b219 none 0 0 [] [] (aa b15 0) parts.length parts.length H1 N1 K1 qf (by first | assumption | exact u4) (by first | assumption | exact j3 | (simp;done)) (by first | assumption | (rw [List.length_set];exact j1) | (simp;done))) ?_)
 clear H H1 N1 K1
 rintro _ w222 ⟨cs223,raout223,rnout223,rcout223,rxout223,rFout223,hx224,hx225,rfl,N,H⟩
 obtain rfl:=H.zl (α:=yLI) 7 rfl 2 rfl qj
 refine zjc (oL rfl (H.cell 3 rfl rfl) (sw (vC #[pp b16 0] rfl rfl call204 (en func204 ntmps204 ?_))))
 refine zcr (sps [yN,yI 0] (zjcc (sps [pp b16 0,pp b16 0] (oF rfl (oL rfl (H.cell 4 rfl rfl) (oN rfl (sp (.bool (decide (((gath ([]:yLL) (begins ((List.replicate parts.length (0:Int)).take 0) (packs parts (parts.length - 0) 0 b))).length:Int) > 2000))) (zjn (cD rfl (fun h226=>?_) (fun h226=>?_))))))))))
 ·skip
  refine zcr (sps [yN,yI 3] (zjr (t_r (ret2 yN (yI 3) rfl rfl rfl ⟨_,rfl,(sps [yN,yI 3,yN,yI 3] (zjr (ret2 yN (yI 3) rfl rfl rfl ⟨_,rfl,?_⟩)))⟩))))
  replace H:=H.erases [8,7,6,5,4,3,1,0]
  dsimp only [vX,List.eraseIdx] at H
  refine sps [yN,yI 3,yN,yI 3] (zjr ?_)
  replace H:=H.nilRow 22 1
  replace H:=H.vP (α:=yLI)
  refine ret2 yN (yI 3) rfl rfl rfl ⟨_,rfl,?_,H.base⟩
  first | rw [all_a ql] | rw [all_bI (cs:=(List.replicate parts.length (0:Int))) ql qf]
  exact ⟨none,0,0,[],[],rfl,(N.emp.pick [0]),H.pick [0] [0]⟩
 refine qV (t_n (zcr (sps [pp b16 0,pp b16 0] (oF rfl (oL rfl (H.cell 4 rfl rfl) (sps [.slice raout223 ((gath ([]:yLL) (begins ((List.replicate parts.length (0:Int)).take 0) (packs parts (parts.length - 0) 0 b))).length) rcout223,yI 0] (zjr (ret2 (.slice raout223 ((gath ([]:yLL) (begins ((List.replicate parts.length (0:Int)).take 0) (packs parts (parts.length - 0) 0 b))).length) rcout223) (yI 0) rfl rfl rfl ⟨_,rfl,?_⟩))))))))
 refine sps [.slice raout223 ((gath ([]:yLL) (begins ((List.replicate parts.length (0:Int)).take 0) (packs parts (parts.length - 0) 0 b))).length) rcout223,yI 0,.slice raout223 ((gath ([]:yLL) (begins ((List.replicate parts.length (0:Int)).take 0) (packs parts (parts.length - 0) 0 b))).length) rcout223,yI 0] (zjr (ret2 (.slice raout223 ((gath ([]:yLL) (begins ((List.replicate parts.length (0:Int)).take 0) (packs parts (parts.length - 0) 0 b))).length) rcout223) (yI 0) rfl rfl rfl ⟨_,rfl,?_⟩))
 replace H:=H.erases [8,6,5,4,3,1,0]
 dsimp only [vX,List.eraseIdx] at H
 refine sps [.slice raout223 ((gath ([]:yLL) (begins ((List.replicate parts.length (0:Int)).take 0) (packs parts (parts.length - 0) 0 b))).length) rcout223,yI 0,.slice raout223 ((gath ([]:yLL) (begins ((List.replicate parts.length (0:Int)).take 0) (packs parts (parts.length - 0) 0 b))).length) rcout223,yI 0] (zjr (ret2 (.slice raout223 ((gath ([]:yLL) (begins ((List.replicate parts.length (0:Int)).take 0) (packs parts (parts.length - 0) 0 b))).length) rcout223) (yI 0) rfl rfl rfl ⟨_,rfl,?_,H.base⟩))
 rw [all_0I (cs:=(List.replicate parts.length (0:Int))) ql qf]
 exact ⟨raout223,(gath ([]:yLL) (begins ((List.replicate parts.length (0:Int)).take 0) (packs parts (parts.length - 0) 0 b))).length,rcout223,rxout223,rFout223,rfl,N,H.pick [1] [2]⟩
theorem compareL_ok (w:World) (a:yLI) (b:yLI) (aa:yOA) (ca:Nat) (Fa:yLN) (ab:yOA) (cb:Nat) (Fb:yLN) (ha:qO.rep w Fa [.slice aa a.length ca] a) (hb:qO.rep w Fb [.slice ab b.length cb] b):Calls Tryz.prog 94 #[.slice aa a.length ca,.slice ab b.length cb] w (Ret (fun v w' =>v=yI (cmpL a b)∧w' =w) w):=by
 refine en func94 ntmps94 ?_
 have H:=((St.start w).arg hb).arg ha
 have nha:=qK ha
 have nhb:=qK hb
 clear ha hb
 have N:=Fresh.nil w.heap.size
 refine zcr (sp (yI 0) (zjcc (sp (.slice aa a.length ca) (oN rfl (sp (yI 0) (zjn (qW ?_)))))))
 refine zo (fun m' ρ w1=>∃ (xP:Env) (i:Nat),ρ=upd (upd (upd (upd (upd xP 0 (.slice aa a.length ca)) 1 (.slice ab b.length cb)) 9 (.slice aa a.length ca)) 10 (yI a.length)) 11 (yI i)∧((i:Int)≤a.length)∧(w1=w)∧(cmpL a b=cmpL (a.drop i) (b.drop i))∧(i≤b.length)∧m' =(a.length - (i:Int)).toNat∧Fresh w.heap.size []∧St w w1 [] [sF false Fa aa ca a,sF false Fb ab cb b]) ((a.length - (0:Int)).toNat) ⟨_,0,uE5,qf,(by rfl),(by rfl),qf,rfl,N,H⟩ ?_
 clear H N
 rintro m' ρ w2 ⟨xP,i,rfl,i0,wk,i1,i2,rfl,N,H⟩
 refine zcr (sp (.bool (decide ((i:Int) < a.length))) (zjn (xO (cD rfl (fun h3=>?_) (fun h3=>?_)))))
 ·skip
  refine qV (t_n (xO (qW (zcr (sp (yI i) ?_)))))
  obtain ⟨b4,o5,rfl⟩:=H.addr 0 rfl qf
  refine oI rfl rfl (oL rfl (H.jI 0 rfl i qf qf) (sps [yI i,yI (a[i]!)] (zjcc (sps [yI i,.slice ab b.length cb] (oN rfl (sp (.bool (decide ((i:Int)≥b.length))) (zjn (cD rfl (fun h7=>?_) (fun h7=>?_)))))))))
  ·skip
   refine zcr (sp (yI 1) (zjr (t_r (zr5 (ret1 (yI 1) rfl rfl ⟨_,rfl,(⟨?_,wk⟩),H.base⟩)))))
   rw [i1,show cmpL (a.drop i) (b.drop i)=1 by first | exact cmp_a qf qf | exact cmp_e qf qf ‹_›]
  refine qV (t_n (zcr (sps [.slice ab b.length cb,yI i] ?_)))
  obtain ⟨b8,o9,rfl⟩:=H.addr 1 rfl qf
  refine oI rfl rfl (oL rfl (H.jI 1 rfl i qf qf) (sp (yI (b[i]!)) (zjc (sps [yI (a[i]!),yI (b[i]!)] (sw (vC #[yI (a[i]!),yI (b[i]!)] rfl rfl call131 (en func131 ntmps131 ?_)))))))
  refine zcr (sp (yI 0) (zjc (sp (yI (a[i]!)) (sw (vC #[yI (a[i]!)] rfl rfl call168 (en func168 ntmps168 ?_))))))
  refine zcr (sp (.bool false) (zjc (sps [yI (a[i]!),yI (a[i]!),.bool ((a[i]! :Int) != (a[i]!)),.bool ((a[i]! :Int) != (a[i]!))] (zjr (ret1 (.bool ((a[i]! :Int) != (a[i]!))) rfl rfl ⟨_,rfl,(sp (.bool ((a[i]! :Int) != (a[i]!))) (zjc (sp (yI (b[i]!)) (sw (vC #[yI (b[i]!)] rfl rfl call168 (en func168 ntmps168 ?_))))))⟩)))))
  refine zcr (sp (.bool false) (zjc (sps [yI (b[i]!),yI (b[i]!),.bool ((b[i]! :Int) != (b[i]!)),.bool ((b[i]! :Int) != (b[i]!))] (zjr (ret1 (.bool ((b[i]! :Int) != (b[i]!))) rfl rfl ⟨_,rfl,(sp (.bool ((b[i]! :Int) != (b[i]!))) (zjcc (sp (.bool ((a[i]! :Int) != (a[i]!))) (zjn (xH ((a[i]! :Int) != (a[i]!)) rfl (fun h=>absurd rfl (bne_iff_ne.1 h)) (fun h11=>?_))))))⟩)))))
  replace h11:=xq h11
  refine qV (t_n (zcc (sp (.bool ((b[i]! :Int) != (b[i]!))) (zjn (xH ((b[i]! :Int) != (b[i]!)) rfl (fun h=>absurd rfl (bne_iff_ne.1 h)) (fun h12=>?_))))))
  replace h12:=xq h12
  refine qV (t_n (zcc (sps [yI (a[i]!),yI (b[i]!),.bool (decide ((a[i]! :Int) < (b[i]!)))] (zjn (cD rfl (fun h13=>?_) (fun h13=>?_))))))
  ·skip
   refine zcr (sp (yI (-1)) (zjr (t_r (ret1 (yI (-1)) rfl rfl ⟨_,rfl,(sp (yI (-1)) (zjc (sps [yI (-1),.bool true] (zjn (xH true rfl (fun _=>zcr (sps [yI (-1),yI (-1)] (zjr (zr5 (ret1 (yI (-1)) rfl rfl ⟨_,rfl,(⟨?_,wk⟩),H.base⟩))))) (fun h=>absurd h qj))))))⟩))))
   rw [i1,show cmpL (a.drop i) (b.drop i)= -1 by first | exact cmp_b qf qf | exact cmp_d qf qf ‹_›]
  refine qV (t_n (zcc (sps [yI (a[i]!),yI (b[i]!),.bool (decide ((a[i]! :Int) > (b[i]!)))] (zjn (cD rfl (fun h14=>?_) (fun h14=>?_))))))
  ·skip
   refine zcr (sp (yI 1) (zjr (t_r (ret1 (yI 1) rfl rfl ⟨_,rfl,(sp (yI 1) (zjc (sps [yI 1,.bool true] (zjn (xH true rfl (fun _=>zcr (sps [yI 1,yI 1] (zjr (zr5 (ret1 (yI 1) rfl rfl ⟨_,rfl,(⟨?_,wk⟩),H.base⟩))))) (fun h=>absurd h qj))))))⟩))))
   rw [i1,show cmpL (a.drop i) (b.drop i)=1 by first | exact cmp_a qf qf | exact cmp_e qf qf ‹_›]
  refine qV (t_n (zcr (sp (yI 0) (zjr (ret1 (yI 0) rfl rfl ⟨_,rfl,(sp (yI 0) (zjc (sps [yI 0,.bool false] (zjn (xH false rfl (fun h=>absurd h qj) (fun _=>qV (b_n (t_n (xR (sw (zu i 1 rfl rfl qf (sp (yI (i+1)) (xU (qZ (m' :=(a.length - ((i+1):Int)).toNat) qf ⟨_,i+1,uE5,?_,?_,?_,?_,rfl,N,H⟩))))))))))))))⟩)))))
  · omega
  · exact wk
  · exact i1.trans (cmp_f qf qf ‹_› ‹_›)
  · omega
 refine zx4 (zcc (sp (.slice aa a.length ca) (oN rfl (sp (.slice ab b.length cb) (oN rfl (sp (.bool (decide ((a.length:Int) < b.length))) (zjn (cD rfl (fun h15=>?_) (fun h15=>?_)))))))))
 ·skip
  refine zcr (sp (yI (-1)) (zjr (t_r (ret1 (yI (-1)) rfl rfl ⟨_,rfl,(⟨?_,wk⟩),H.base⟩))))
  rw [i1,show cmpL (a.drop i) (b.drop i)= -1 by first | exact cmp_b qf qf | exact cmp_d qf qf ‹_›]
 refine qV (t_n (zcr (sp (yI 0) (zjr (ret1 (yI 0) rfl rfl ⟨_,rfl,(⟨?_,wk⟩),H.base⟩)))))
 rw [i1,cmp_c qf qf]
def sortL_ren:Go.Shelf.Ren:=⟨fun | 6=>93 | 15=>130 | 14=>129 | 28=>166 | 29=>167 | 20=>158 | 21=>159 | 22=>160 | 23=>161 | 24=>162 | 25=>163 | 26=>164 | 27=>165 | 46=>193 | 47=>194 | 48=>195 | 49=>196 | 50=>197 | 57=>208 | n=>n,fun | 22=>27 | 24=>22 | 25=>106 | 3=>3 | 39=>149 | 0=>0 | 53=>186 | 55=>188 | 4=>4 | 46=>179 | 45=>178 | 50=>183 | 5=>5 | 9=>9 | 66=>211 | 70=>215 | 76=>226 | 77=>227 | n=>n,fun | n=>n⟩
theorem sortL:Go.Proofs.SlLaysF.n6 Tryz.prog sortL_ren:={
  mixed:=by kernel_rfl
  f6:=⟨Tryz.f93.name,by decide,Tryz.func93.trans (congrArg some (by kernel_rfl))⟩
  f14:=⟨Tryz.f129.name,by decide,Tryz.func129.trans (congrArg some (by kernel_rfl))⟩
  f15:=Tryz.func130.trans (congrArg some (by kernel_rfl))
  f20:=⟨Tryz.f158.name,by decide,Tryz.func158.trans (congrArg some (by kernel_rfl))⟩
  f21:=⟨Tryz.f159.name,by decide,Tryz.func159.trans (congrArg some (by kernel_rfl))⟩
  f22:=⟨Tryz.f160.name,by decide,Tryz.func160.trans (congrArg some (by kernel_rfl))⟩
  f23:=⟨Tryz.f161.name,by decide,Tryz.func161.trans (congrArg some (by kernel_rfl))⟩
  f24:=⟨Tryz.f162.name,by decide,Tryz.func162.trans (congrArg some (by kernel_rfl))⟩
  f25:=⟨Tryz.f163.name,by decide,Tryz.func163.trans (congrArg some (by kernel_rfl))⟩
  f26:=⟨Tryz.f164.name,by decide,Tryz.func164.trans (congrArg some (by kernel_rfl))⟩
  f27:=⟨Tryz.f165.name,by decide,Tryz.func165.trans (congrArg some (by kernel_rfl))⟩
  f28:=Tryz.func166.trans (congrArg some (by kernel_rfl))
  f29:=Tryz.func167.trans (congrArg some (by kernel_rfl))
  f46:=⟨Tryz.f193.name,by decide,Tryz.func193.trans (congrArg some (by kernel_rfl))⟩
  f47:=Tryz.func194.trans (congrArg some (by kernel_rfl))
  f48:=Tryz.func195.trans (congrArg some (by kernel_rfl))
  f49:=⟨Tryz.f196.name,by decide,Tryz.func196.trans (congrArg some (by kernel_rfl))⟩
  f50:=⟨Tryz.f197.name,by decide,Tryz.func197.trans (congrArg some (by kernel_rfl))⟩
  f57:=⟨Tryz.f208.name,by decide,Tryz.func208.trans (congrArg some (by kernel_rfl))⟩
  t0:=Tryz.underlying0
  a0:=Tryz.isAgg0
  z0:=Tryz.sizeOf0
  v0:=Tryz.zeroValue0
  t3:=Tryz.underlying3
  a3:=Tryz.isAgg3
  z3:=Tryz.sizeOf3
  v3:=Tryz.zeroValue3
  t4:=Tryz.underlying4
  a4:=Tryz.isAgg4
  z4:=Tryz.sizeOf4
  v4:=Tryz.zeroValue4
  t5:=Tryz.underlying5
  a5:=Tryz.isAgg5
  z5:=Tryz.sizeOf5
  v5:=Tryz.zeroValue5
  t9:=Tryz.underlying9
  a9:=Tryz.isAgg9
  z9:=Tryz.sizeOf9
  v9:=Tryz.zeroValue9
  t22:=Tryz.underlying27
  a22:=Tryz.isAgg27
  z22:=Tryz.sizeOf27
  v22:=Tryz.zeroValue27
  a24:=Tryz.isAgg22
  z24:=Tryz.sizeOf22
  t25:=Tryz.underlying106
  a25:=Tryz.isAgg106
  z25:=Tryz.sizeOf106
  v25:=Tryz.zeroValue106
  t39:=Tryz.underlying149
  a39:=Tryz.isAgg149
  z39:=Tryz.sizeOf149
  v39:=Tryz.zeroValue149
  t45:=Tryz.underlying178
  a45:=Tryz.isAgg178
  z45:=Tryz.sizeOf178
  v45:=Tryz.zeroValue178
  t46:=Tryz.underlying179
  a46:=Tryz.isAgg179
  z46:=Tryz.sizeOf179
  v46:=Tryz.zeroValue179
  t50:=Tryz.underlying183
  a50:=Tryz.isAgg183
  z50:=Tryz.sizeOf183
  v50:=Tryz.zeroValue183
  t53:=Tryz.underlying186
  a53:=Tryz.isAgg186
  z53:=Tryz.sizeOf186
  v53:=Tryz.zeroValue186
  t55:=Tryz.underlying188
  a55:=Tryz.isAgg188
  z55:=Tryz.sizeOf188
  v55:=Tryz.zeroValue188
  t66:=Tryz.underlying211
  a66:=Tryz.isAgg211
  z66:=Tryz.sizeOf211
  v66:=Tryz.zeroValue211
  t70:=Tryz.underlying215
  a70:=Tryz.isAgg215
  z70:=Tryz.sizeOf215
  v70:=Tryz.zeroValue215
  t76:=Tryz.underlying226
  a76:=Tryz.isAgg226
  z76:=Tryz.sizeOf226
  v76:=Tryz.zeroValue226
  t77:=Tryz.underlying227
  a77:=Tryz.isAgg227
  z77:=Tryz.sizeOf227
  v77:=Tryz.zeroValue227 }
theorem cmpSort (W:World) (x y:yLI) (a:yOA) (c:Nat) (F:yLN) (a' :yOA) (c' :Nat) (F' :yLN) (hx:qO.rep W F [.slice a x.length c] x) (hy:qO.rep W F' [.slice a' y.length c'] y):
    Calls Tryz.prog 94 #[.slice a x.length c,.slice a' y.length c'] W fun e w' =>e=.returned (yI (cmpL x y))∧w' =W:=
  (compareL_ok W x y a c F a' c' F' hx hy).mono fun _ _ ⟨_,he,⟨hv,hw⟩,_⟩=>⟨he.trans (by rw [hv]),hw⟩

theorem choices_ok (w:World) (s:qI) (t:qH) {qC:yOA} {qY:yLN} {qN:yOA} {xF:yLN} {qU:yOA} {xN:yLN} {xm:yOA} {zq:yLN} {qM:yOA} {xE:yLN} (xf:qO.rep w qY [.slice qC s.qw.length qB] s.qw) (xI:qO.rep w xF [.slice qN s.qx.length qJ] s.qx) (zg:qO.rep w xN [.slice qU t.qy.length qP] t.qy) (zI:qO.rep w zq [.slice xm t.qE.length xh] t.qE) (xK:qO.rep w xE [.slice qM t.qA.length qL] t.qA) (p0:yj s) (p1:zH s t):Calls Tryz.prog 64 #[.agg #[yI s.xA,.slice qC s.qw.length qB,.slice qN s.qx.length qJ],.agg #[.slice qU t.qy.length qP,.slice xm t.qE.length xh,.slice qM t.qA.length qL]] w (Ret (fun v w' =>∃ (ra0:yOA) (rn0:Nat) (rc0:Nat) (rx0:List Value) (rF0:yLN),v=.tuple #[.slice ra0 rn0 rc0,yI ((zX s t).2)]∧Fresh w.heap.size [rF0]∧St w w' [rr ra0 rn0 rc0 22 1 rx0] [zh true rF0 rx0 ((zX s t).1)]) w):=by
 refine en func64 ntmps64 ?_
 have H:=(((((St.start w).arg xK).arg zI).arg zg).arg xI).arg xf
 have vk:=qK xf
 have jl:=qK xI
 have Qh:=qK zg
 have QW:=qK zI
 have jL:=qK xK
 clear xf xI zg zI xK
 have N:=Fresh.nil w.heap.size
 have A:=H.ltN (L:=[qY,xF,xN,zq,xE]) [0,1,2,3,4]
 have p2:=p0.2.1
 have p3:=p0.1.2.1
 have p4:=p1.1
 have p5:=p1.2.1
 refine zcr (sw (vG H (yS s qC qB qN qJ) fun b1 w2 H=>sw (vG H (yT t qU qP xm xh qM qL) fun b3 w4 H=>sps [yN,yI 0] (zjc (sw (xY (yS s qC qB qN qJ) isAgg36 sizeOf36 rfl (qF (H.cells 1 rfl) 0 3) ?_))))))
 refine sw (xY (yT t qU qP xm xh qM qL) isAgg38 sizeOf38 rfl (qF (H.cells 0 rfl) 0 3) (sw (vC #[.agg #[yI s.xA,.slice qC s.qw.length qB,.slice qN s.qx.length qJ],.agg #[.slice qU t.qy.length qP,.slice xm t.qE.length xh,.slice qM t.qA.length qL]] rfl rfl call107 (en func107 ntmps107 ?_))))
 refine zcr (sw (vG H (yS s qC qB qN qJ) fun b5 w6 H=>sw (vG H (yT t qU qP xm xh qM qL) fun b7 w8 H=>sps [yN,yI 0] (zjc (oF rfl (oL rfl (H.cell 1 rfl rfl) (oN rfl (sw (o_makeZ (⟨[]⟩:OwnI 2) H underlying27 ti22 qj (fun _=>⟨yN,rfl,Or.inl ⟨rfl,rfl,rfl⟩⟩) s.qw.length rfl rfl qf qf qf fun b9 w10 xs11 H=>?_)))))))))
 refine sp (.slice (aa b9 0) s.qw.length s.qw.length) (zjcc (sw (xY (yS s qC qB qN qJ) isAgg36 sizeOf36 rfl (qF (H.cells 2 rfl) 0 3) (sw (xY (yT t qU qP xm xh qM qL) isAgg38 sizeOf38 rfl (qF (H.cells 1 rfl) 0 3) ?_)))))
 have sz15:=H.base.size
 refine sw (oc (applicable_ok _ s t (H.get 1 rfl).1 (H.get 2 rfl).1 (H.get 3 rfl).1 (H.get 4 rfl).1 (H.get 5 rfl).1 qg qg) ?_)
 rintro _ w13 ⟨ra12,rn12,rc12,rfl,M,K⟩ _
 replace H:=H.merge K M
 obtain rfl:=H.YG 0 rfl
 have al:(appls s t).length≤s.qx.length:=applL_le s t s.qx.length
 refine oN rfl (sp (yI 0) (zjn (qW ?_)))
 refine zo (fun m' ρ w18=>∃ (xP:Env) (k:Nat) (own:List (OwnI 2)) (x_own:List Value) (F_own:yLN),ρ=upd (upd (upd (upd (upd (upd xP 2 (pp b5 0)) 3 (pp b7 0)) 6 (.slice (aa b9 0) s.qw.length s.qw.length)) 24 (.slice ra12 ((appls s t).length) rc12)) 25 (yI ((appls s t).length))) 26 (yI k)∧own=(ownL 2 s t s.qw.length k)∧((k:Int)≤((appls s t).length))∧m' =(((appls s t).length) - (k:Int)).toNat∧Fresh w.heap.size [F_own]∧St w w18 [rr ra12 ((appls s t).length) rc12 2 1 ((appls s t).map (Value.int .i64)),rr (aa b9 0) s.qw.length s.qw.length 22 1 x_own,.box b7 (yT t qU qP xm xh qM qL) 38,.box b5 (yS s qC qB qN qJ) 36,.box b3 (yT t qU qP xm xh qM qL) 38,.box b1 (yS s qC qB qN qJ) 36] [zh true F_own x_own own,sF false qY qC qB s.qw,sF false xF qN qJ s.qx,sF false xN qU qP t.qy,sF false zq xm xh t.qE,sF false xE qM qL t.qA]) ((((appls s t).length) - (0:Int)).toNat) ⟨_,0,(List.replicate s.qw.length (⟨[]⟩:OwnI 2)),xs11,[],uE6,(by exact ownL_zero 2 s t _),qf,rfl,N.emp,H⟩ ?_
 clear H N
 rintro m' ρ w19 ⟨xP,k,own,x_own,F_own,rfl,rfl,i0,rfl,N,H⟩
 have hn_own:=H.zl (α:=OwnI 2) 1 rfl 0 rfl qj
 have ol:=ownL_len 2 s t s.qw.length k
 refine zcr (sp (.bool (decide ((k:Int) < ((appls s t).length)))) (zjn (xO (cD rfl (fun h20=>?_) (fun h20=>?_)))))
 ·skip
  obtain ⟨a0,a1,a2⟩:=appls_inH (s:=s) (t:=t) (q:=k) qf
  have q:=p0.rule (i:=((appls s t)[k]!).toNat) qf
  have qc:=q.1
  have qk:(s.qx[((appls s t)[k]!).toNat]!).qG.toNat < s.qw.length:=q.cell
  have le:=ownL_le (e:=2) (s:=s) (t:=t) (n:=s.qw.length) (q:=k) (c:=(s.qx[((appls s t)[k]!).toNat]!).qG.toNat) qf
  have sm:=vH (p1.2.2.2.2 (s.qx[((appls s t)[k]!).toNat]!).qG.toNat qf).1
  refine qV (t_n (xO (qW (zcr ?_))))
  obtain ⟨b21,rfl⟩:=H.Qz 0 rfl qf
  refine oI rfl rfl (oL rfl (H.rowInt 0 rfl (iv:=k) (i:=k) qf qf) (sp (yI ((appls s t)[k]!)) (zjc (oF rfl (oL rfl (H.cell 3 rfl rfl) (sp (yI ((appls s t)[k]!)) ?_))))))
  obtain ⟨b22,o23,rfl⟩:=H.addr 2 rfl qf
  obtain ⟨ae25Need,ce25Need,Fe25Need,ae25Have,ce25Have,Fe25Have,ae25Lack,ce25Lack,Fe25Lack,ae25Here,ce25Here,Fe25Here,ae25Out,ce25Out,Fe25Out,ae25Into,ce25Into,Fe25Into,H⟩:=H.yl 2 rfl ((appls s t)[k]!) (((appls s t)[k]!).toNat) qf qf qf
  refine oI rfl rfl (oF rfl (oL rfl (H.xQ 6 rfl 0 rfl) (sp (yI ((s.qx[((appls s t)[k]!).toNat]!).qG)) (zjcc (oF rfl (oL rfl (H.cell 2 rfl rfl) (sp (yI ((s.qx[((appls s t)[k]!).toNat]!).qG)) ?_)))))))
  obtain ⟨b26,o27,rfl⟩:=H.addr 11 rfl qf
  obtain ⟨ae29,ce29,Fe29,H⟩:=H.vN 11 rfl ((s.qx[((appls s t)[k]!).toNat]!).qG) (((s.qx[((appls s t)[k]!).toNat]!).qG).toNat) qf qf qf
  refine oI rfl rfl (oL rfl (H.xQ 1 rfl 0 rfl) (sw (oq (VI _ (t.qE[((s.qx[((appls s t)[k]!).toNat]!).qG).toNat]!) (H.get 0 rfl).1 (by first | assumption | exact vH ql | exact Qo ql)) H fun w30 H=>sp (.bool (decide ((VP (t.qE[((s.qx[((appls s t)[k]!).toNat]!).qG).toNat]!):Int) > 16))) (zjn (cD rfl (fun h32=>?_) (fun h32=>?_))))))
  ·skip
   refine zcr (sps [yN,yI 3] (zjr (t_r (zr5 (ret2 yN (yI 3) rfl rfl rfl ⟨_,rfl,?_⟩)))))
   replace H:=H.erases [3,2,1,0]
   dsimp only [vX,List.eraseIdx] at H
   refine sps [.tuple #[yN,yI 3],yN,yI 3,yN,yI 3] (zjcc (sps [yI 3,.bool true] (zjn (xH true rfl (fun _=>zcr (sps [yI 3,yN,yI 3] (zjr (t_r ?_)))) (fun h=>absurd h qj)))))
   replace H:=H.nilRow 22 1
   replace H:=H.vP (α:=yLI)
   refine ret2 yN (yI 3) rfl rfl rfl ⟨_,rfl,?_,H.base⟩
   first | rw [cho_3 (.inl (own_bad p0 (q:=k) qf qf))] | rw [cho_3 (.inr (prod_stop (G:=(jh s.qx.length (xe s t s.qw.length) (xC s t s.qw.length) k_1)) (r:=((xe s t s.qw.length)[k_1]!)) (k:=k_51+1) (i:=k_1) kn qf (XD _) qf (by rw [← nextX_end (x:=k_52) qf qf];omega)))]
   exact ⟨none,0,0,[],[],rfl,(N.emp.pick [0]),H.pick [0] [0]⟩
  refine qV (t_n (xR (sps [.slice (aa b9 0) s.qw.length s.qw.length,yI ((s.qx[((appls s t)[k]!).toNat]!).qG),.slice (aa b9 0) s.qw.length s.qw.length,yI ((s.qx[((appls s t)[k]!).toNat]!).qG)] (oI rfl rfl ?_))))
  replace N:Fresh w.heap.size [F_own]:=N
  obtain ⟨a33,c34,F35,h36,N,H⟩:=H.openI 1 rfl 9 rfl N (iv:=(s.qx[((appls s t)[k]!).toNat]!).qG) (((s.qx[((appls s t)[k]!).toNat]!).qG).toNat) qf qf [sF false qY qC qB s.qw,sF false xF (aa b22 o23) qJ s.qx,sF false xN qU qP t.qy,sF false zq (aa b26 o27) xh t.qE,sF false xE qM qL t.qA] (keepA A N [10,11,12,13,14] rfl rfl)
  refine oL rfl h36 (sp (yI ((appls s t)[k]!)) (sw (zG H underlying22 ti2 [yI ((appls s t)[k]!)] fun b37 w38 H=>sw (zN H 1 rfl 0 rfl underlying22 ti2 rfl qj rfl rfl rfl (by simp [Value.oneCell',Value.cells]) qp qf fun a39 c40 w41 H=>?_))))
  rw [snocI] at H
  refine oI rfl rfl (sw (o_closeI H 3 rfl 1 qj rfl 0 rfl (c:=(((s.qx[((appls s t)[k]!).toNat]!).qG).toNat)) (N:Fresh w.heap.size [F35]) (H.jQ []) sizeOf22 rfl rfl qf qf fun w42 F43 N H=>xU (b_n (t_n (xR (sw (zu k 1 rfl rfl qf (sp (yI (k+1)) (xU ?_)))))))))
  refine qZ (m' :=(((appls s t).length) - ((k+1):Int)).toNat) qf ⟨_,k+1,(((ownL 2 s t s.qw.length k).set (((s.qx[((appls s t)[k]!).toNat]!).qG).toNat) ⟨[]⟩).set (((s.qx[((appls s t)[k]!).toNat]!).qG).toNat) ⟨(((ownL 2 s t s.qw.length k)[((s.qx[((appls s t)[k]!).toNat]!).qG).toNat]!).l++[(appls s t)[k]!])⟩),(x_own.set (((s.qx[((appls s t)[k]!).toNat]!).qG).toNat) (.slice a39 ((((ownL 2 s t s.qw.length k)[((s.qx[((appls s t)[k]!).toNat]!).qG).toNat]!).l.length)+1) c40)),F43,uE6,?_,?_,rfl,N,H.pick [2,3,4,5,6,7] [0,2,3,4,5,6]⟩
  · exact ownL_set qf rfl qf qf (by rw [List.set_set])
  · omega
 refine zx4 (zcr (sw (vT H underlying125 ti129 fun b44 w45 H=>sp (.slice (aa b44 0) 0 0) (zjcc (sp (.slice (aa b9 0) s.qw.length s.qw.length) (oN rfl (sp (yI 0) (zjn (qW ?_)))))))))
 replace H:=H.ofOwn 0 rfl
 rw [ownL_end qf] at H
 have cl:=cellsR_len s t s.qw.length
 replace H:=H.boxRow 0 rfl 2 0 rfl qj
 replace H:=H.vP (α:=inCellD)
 replace H:St _ _ [rr (aa b44 0) 0 0 129 2 [],rr ra12 ((appls s t).length) rc12 2 1 ((appls s t).map (Value.int .i64)),rr (aa b9 0) s.qw.length s.qw.length 22 1 x_own,.box b7 (yT t qU qP xm xh qM qL) 38,.box b5 (yS s qC qB qN qJ) 36,.box b3 (yT t qU qP xm xh qM qL) 38,.box b1 (yS s qC qB qN qJ) 36] [zh true [] [] ([]:List inCellD),zh true F_own x_own (cellsR s t s.qw.length),zh true F_own x_own (ownL 2 s t s.qw.length k),sF false qY qC qB s.qw,sF false xF qN qJ s.qx,sF false xN qU qP t.qy,sF false zq xm xh t.qE,sF false xE qM qL t.qA]:=H
 refine zo (fun m' ρ w46=>∃ (xP:Env) (zY:yOA) (zn:Nat) (zO:Nat) (out:List inCellD) (Qv:List Value) (jV:yLN) (c:Nat),ρ=upd (upd (upd (upd (upd (upd xP 2 (pp b5 0)) 3 (pp b7 0)) 10 (.slice zY zn zO)) 55 (.slice (aa b9 0) s.qw.length s.qw.length)) 56 (yI s.qw.length)) 57 (yI c)∧out=(QY s t c)∧((c:Int)≤s.qw.length)∧(GoodP s t c)∧m' =(s.qw.length - (c:Int)).toNat∧Fresh w.heap.size [F_own]∧St w w46 [rr zY zn zO 129 2 Qv,rr ra12 ((appls s t).length) rc12 2 1 ((appls s t).map (Value.int .i64)),rr (aa b9 0) s.qw.length s.qw.length 22 1 x_own,.box b7 (yT t qU qP xm xh qM qL) 38,.box b5 (yS s qC qB qN qJ) 36,.box b3 (yT t qU qP xm xh qM qL) 38,.box b1 (yS s qC qB qN qJ) 36] [zh true jV Qv out,zh true F_own x_own (cellsR s t s.qw.length),zh true F_own x_own (ownL 2 s t s.qw.length k),sF false qY qC qB s.qw,sF false xF qN qJ s.qx,sF false xN qU qP t.qy,sF false zq xm xh t.qE,sF false xE qM qL t.qA]) ((s.qw.length - (0:Int)).toNat) ⟨_,(aa b44 0),0,0,([]:List inCellD),[],[],0,uE6,(by rfl),qf,(by exact fun j hj=>by omega),rfl,N,H⟩ ?_
 clear H N
 rintro m' ρ w47 ⟨xP,zY,zn,zO,out,Qv,jV,c,rfl,rfl,i0,gp,rfl,N,H⟩
 have hn_out:=H.zl (α:=inCellD) 0 rfl 0 rfl qj
 have ce:=cells_len s t c
 have rl:=rules_le s t c
 refine zcr (sp (.bool (decide ((c:Int) < s.qw.length))) (zjn (xO (cD rfl (fun h48=>?_) (fun h48=>?_)))))
 ·skip
  refine qV (t_n (xO (qW (zcr (sp (yI c) (oI rfl rfl ?_))))))
  obtain ⟨a49,c50,G51,s52,h53,H⟩:=H.jW 2 rfl 1 rfl (iv:=c) c qf qf
  refine oL rfl (h53) (sps [yI c,.slice a49 (((cellsR s t s.qw.length)[c]!).length) c50] (zjcc (sp (.slice a49 (((cellsR s t s.qw.length)[c]!).length) c50) (oN rfl (sp (.bool ((((cellsR s t s.qw.length)[c]!).length:Int) == 0)) (zjn (cE rfl (fun h54=>?_) (fun h54=>?_))))))))
  ·skip
   rw [cellsR_get (s:=s) (t:=t) (n:=s.qw.length) (c:=c) qf] at H h54 ⊢
   refine c_exit (t_x (b_x (t_n (xR (sw (zu c 1 rfl rfl qf (sp (yI (c+1)) (xU (qZ (m' :=(s.qw.length - ((c+1):Int)).toNat) qf ⟨_,zY,zn,zO,(QY s t c),Qv,jV,c+1,uE6,?_,?_,?_,rfl,N,H.pick [0,1,2,3,4,5,6] [1,2,3,4,5,6,7,8]⟩)))))))))
   · first | exact cells_yes qf | exact cells_no qf
   · omega
   · exact gp.succ (by first | exact .inl qf | exact .inr (show (zW _ _).2=0 from ‹_›))
  rw [cellsR_get (s:=s) (t:=t) (n:=s.qw.length) (c:=c) qf] at H h54 ⊢
  refine qV (t_n (zcr (sw (vT H underlying27 ti22 fun b55 w56 H=>sp (.slice (aa b55 0) 0 0) (zjcc (sp (.slice a49 ((zD s t c).length) c50) (oN rfl (sp (yI 0) (zjn (qW ?_))))))))))
  replace H:=H.boxRow 0 rfl 1 0 rfl qj
  replace H:=H.vP (α:=yLI)
  replace H:=H.unfree 0 rfl
  refine zo (fun m' ρ w57=>∃ (xP:Env) (yQ:yOA) (jG:Nat) (yK:Nat) (needs:yLL) (X6:List Value) (YN:yLN) (k_1:Nat),ρ=upd (upd (upd (upd (upd (upd (upd (upd (upd (upd (upd (upd xP 2 (pp b5 0)) 3 (pp b7 0)) 10 (.slice zY zn zO)) 11 (yI c)) 12 (.slice a49 ((zD s t c).length) c50)) 13 (.slice yQ jG yK)) 55 (.slice (aa b9 0) s.qw.length s.qw.length)) 56 (yI s.qw.length)) 57 (yI c)) 66 (.slice a49 ((zD s t c).length) c50)) 67 (yI ((zD s t c).length))) 68 (yI k_1)∧needs=(zi s ((zD s t c).take k_1))∧((k_1:Int)≤((zD s t c).length))∧m' =(((zD s t c).length) - (k_1:Int)).toNat∧Fresh w.heap.size [F_own]∧St w w57 [rr yQ jG yK 22 1 X6,rr zY zn zO 129 2 Qv,rr ra12 ((appls s t).length) rc12 2 1 ((appls s t).map (Value.int .i64)),rr (aa b9 0) s.qw.length s.qw.length 22 1 x_own,.box b7 (yT t qU qP xm xh qM qL) 38,.box b5 (yS s qC qB qN qJ) 36,.box b3 (yT t qU qP xm xh qM qL) 38,.box b1 (yS s qC qB qN qJ) 36] [zh false YN X6 needs,sF true G51 a49 c50 (zD s t c),zh true jV Qv (QY s t c),zh true F_own x_own (cellsR s t s.qw.length),zh true F_own x_own (ownL 2 s t s.qw.length k),sF false qY qC qB s.qw,sF false xF qN qJ s.qx,sF false xN qU qP t.qy,sF false zq xm xh t.qE,sF false xE qM qL t.qA]) ((((zD s t c).length) - (0:Int)).toNat) ⟨_,(aa b55 0),0,0,([]:yLL),[],[],0,uE12,(by rfl),qf,rfl,N,H.pick [0,1,2,3,4,5,6,7] [0,2,3,4,5,6,7,8,9,10]⟩ ?_
  clear H N
  rintro m' ρ w58 ⟨xP,yQ,jG,yK,needs,X6,YN,k_1,rfl,rfl,i0,rfl,N,H⟩
  have hn_needs:=H.zl (α:=yLI) 0 rfl 0 rfl qj
  have nl:=Vr s ((zD s t c).take k_1)
  have tl:=List.length_take_le k_1 (zD s t c)
  have cl8:=cellR_len (t:=t) p0 c
  refine zcr (sp (.bool (decide ((k_1:Int) < ((zD s t c).length)))) (zjn (xO (cD rfl (fun h59=>?_) (fun h59=>?_)))))
  ·skip
   obtain ⟨e1,e2,e3,e4⟩:=cellR_at (s:=s) (t:=t) (c:=c) (j:=k_1) qf
   refine qV (t_n (xO (qW (zcr ?_))))
   obtain ⟨b60,o61,rfl⟩:=H.addr 1 rfl qf
   refine oI rfl rfl (oL rfl (H.jI 1 rfl k_1 qf qf) (sp (yI ((zD s t c)[k_1]!)) (zjn (xR (sp (.slice yQ jG yK) (oF rfl (oL rfl (H.cell 5 rfl rfl) (sp (yI ((zD s t c)[k_1]!)) ?_))))))))
   obtain ⟨b63,o64,rfl⟩:=H.addr 6 rfl qf
   obtain ⟨ae66Need,ce66Need,Fe66Need,ae66Have,ce66Have,Fe66Have,ae66Lack,ce66Lack,Fe66Lack,ae66Here,ce66Here,Fe66Here,ae66Out,ce66Out,Fe66Out,ae66Into,ce66Into,Fe66Into,H⟩:=H.yl 6 rfl ((zD s t c)[k_1]!) (((zD s t c)[k_1]!).toNat) qf qf qf
   refine oI rfl rfl (oF rfl (oL rfl (H.xQ 6 rfl 2 rfl) (sw (zG H underlying27 ti22 [.slice ae66Need (((s.qx[((zD s t c)[k_1]!).toNat]!).xk).length) ce66Need] fun b67 w68 H=>sw (zN H 1 rfl 0 rfl underlying27 ti22 rfl qj rfl rfl rfl (by simp [Value.oneCell',Value.cells]) qp qf fun a69 c70 w71 H=>?_)))))
   replace H:=H.yB 7 rfl 0 rfl
   refine sp (.slice a69 (jG+1) c70) (xU (b_n (t_n (xR (sw (zu k_1 1 rfl rfl qf (sp (yI (k_1+1)) (xU (qZ (m' :=(((zD s t c).length) - ((k_1+1):Int)).toNat) qf ⟨_,a69,jG+1,c70,((zi s ((zD s t c).take k_1))++[(s.qx[((zD s t c)[k_1]!).toNat]!).xk]),X6++[.slice ae66Need (((s.qx[((zD s t c)[k_1]!).toNat]!).xk).length) ce66Need],(YN++Fe66Need),k_1+1,uE12,?_,?_,rfl,N,H.pick [1,2,3,4,5,6,7,8] [0,9,10,11,12,13,14,15,16,17]⟩)))))))))
   · exact needs_take qf
   · omega
  rw [List.take_of_length_le (l:=zD s t c) (i:=k_1) qf] at H
  refine zx4 (zcr (oF rfl (oL rfl (H.cell 4 rfl rfl) (sp (yI c) ?_))))
  obtain ⟨b72,o73,rfl⟩:=H.addr 8 rfl qf
  obtain ⟨ae75,ce75,Fe75,H⟩:=H.vN 8 rfl c c qf qf qf
  refine oI rfl rfl (oL rfl (H.xQ 1 rfl 0 rfl) (sp (.slice yQ jG yK) ?_))
  obtain ⟨G76,hn77,h78⟩:=H.rowIsR (α:=yLI) 0 rfl 2 rfl qj
  have cp:=cell_pack p0 p1 (c:=c) qf
  have nl2:=Vr s (zD s t c)
  have sz82:=H.base.size
  have lt83:=H.ltN (L:=[F_own]) [5]
  refine sw (oc (args_eq (by rw [← hn77]) (maxPack_ok _ (t.qE[c]!) (zi s (zD s t c)) (H.get 0 rfl).1 (hn77▸h78) qg qg)) ?_)
  rintro _ w80 ⟨ra79a,rn79a,rc79a,rx79a,rF79a,rfl,M,K⟩ _
  replace N:=N.merge sz82 lt83 M
  replace H:=H.merge K M
  obtain rfl:=H.zl (α:=yLI) 0 rfl 0 rfl qj
  refine sps [.tuple #[.slice ra79a (((zW (t.qE[c]!) (zi s (zD s t c))).1).length) rc79a,yI ((zW (t.qE[c]!) (zi s (zD s t c))).2)],.slice ra79a (((zW (t.qE[c]!) (zi s (zD s t c))).1).length) rc79a,yI ((zW (t.qE[c]!) (zi s (zD s t c))).2),.slice ra79a (((zW (t.qE[c]!) (zi s (zD s t c))).1).length) rc79a,yI ((zW (t.qE[c]!) (zi s (zD s t c))).2)] (zjcc (sps [yI ((zW (t.qE[c]!) (zi s (zD s t c))).2),.bool (((zW (t.qE[c]!) (zi s (zD s t c))).2:Int) != 0)] (zjn ?_)))
  refine xH (((zW (t.qE[c]!) (zi s (zD s t c))).2:Int) != 0) rfl (fun h85=>?_) (fun h85=>?_)
  ·skip
   replace h85:=bne_iff_ne.1 h85
   refine zcr (sps [yI ((zW (t.qE[c]!) (zi s (zD s t c))).2),yN,yI ((zW (t.qE[c]!) (zi s (zD s t c))).2)] (zjr (t_r (zr5 (ret2 yN (yI ((zW (t.qE[c]!) (zi s (zD s t c))).2)) rfl rfl rfl ⟨_,rfl,?_⟩)))))
   replace H:=H.erases [6,5,4,3,2,1,0]
   dsimp only [vX,List.eraseIdx] at H
   refine sps [.tuple #[yN,yI ((zW (t.qE[c]!) (zi s (zD s t c))).2)],yN,yI ((zW (t.qE[c]!) (zi s (zD s t c))).2),yN,yI ((zW (t.qE[c]!) (zi s (zD s t c))).2)] (zjcc (sps [yI ((zW (t.qE[c]!) (zi s (zD s t c))).2),.bool (((zW (t.qE[c]!) (zi s (zD s t c))).2:Int) != 0)] (zjn (xH (((zW (t.qE[c]!) (zi s (zD s t c))).2:Int) != 0) rfl (fun h86=>?_) (fun h=>absurd (xq h) h85)))))
   replace h86:=bne_iff_ne.1 h86
   refine zcr (sps [yI ((zW (t.qE[c]!) (zi s (zD s t c))).2),yN,yI ((zW (t.qE[c]!) (zi s (zD s t c))).2)] (zjr (t_r ?_)))
   replace H:=H.nilRow 22 1
   replace H:=H.vP (α:=yLI)
   refine ret2 yN (yI ((zW (t.qE[c]!) (zi s (zD s t c))).2)) rfl rfl rfl ⟨_,rfl,?_,H.base⟩
   rw [cho_code (bad_code (c:=c) qf qf ‹_›) ‹_›]
   exact ⟨none,0,0,[],[],rfl,(N.emp.pick [0]),H.pick [0] [0]⟩
  replace h85:=xq h85
  refine qV (t_n (xR (sps [.slice zY zn zO,.slice a49 ((zD s t c).length) c50,.slice ra79a (((zW (t.qE[c]!) (zi s (zD s t c))).1).length) rc79a] (sw (jr [.slice a49 ((zD s t c).length) c50,.slice ra79a (((zW (t.qE[c]!) (zi s (zD s t c))).1).length) rc79a] [(0,.slice a49 ((zD s t c).length) c50),(1,.slice ra79a (((zW (t.qE[c]!) (zi s (zD s t c))).1).length) rc79a)] (sw (zG H underlying125 ti129 [.slice a49 ((zD s t c).length) c50,.slice ra79a (((zW (t.qE[c]!) (zi s (zD s t c))).1).length) rc79a] fun b87 w88 H=>?_)))))))
  have H0:=H
  obtain ⟨G92,hg94,hn93,H⟩:=H.QI (α:=yLI) 1 rfl 0 rfl qj
  replace N:Fresh w.heap.size [G92,F_own]:=Fresh.ice N H0 1 hg94.1 hg94.2 (H0.jQ [6])
  clear H0
  refine sw (zN H 3 rfl 0 rfl underlying125 ti129 rfl qj rfl rfl rfl (by simp [Value.oneCell',Value.cells]) qp qf fun a89 c90 w91 H=>?_)
  replace H:=H.snoc_inCellD 6 rfl 5 rfl 0 rfl
  refine sp (.slice a89 (zn+1) c90) (xU (b_n (t_n (xR (sw (zu c 1 rfl rfl qf (sp (yI (c+1)) (xU (qZ (m' :=(s.qw.length - ((c+1):Int)).toNat) qf ⟨_,a89,zn+1,c90,((QY s t c)++[⟨zD s t c,(zW (t.qE[c]!) (zi s (zD s t c))).1⟩]),Qv++[.slice a49 ((zD s t c).length) c50,.slice ra79a (((zW (t.qE[c]!) (zi s (zD s t c))).1).length) rc79a],(jV++(G51++G92)),c+1,uE6,?_,?_,?_,rfl,(N.pick [1]),H.pick [3,4,5,6,7,8,9] [0,8,9,10,11,12,13,14]⟩)))))))))
  · first | exact cells_yes qf | exact cells_no qf
  · omega
  · exact gp.succ (by first | exact .inl qf | exact .inr (show (zW _ _).2=0 from ‹_›))
 refine zx4 (zcr (sps [.slice zY zn zO,.slice zY zn zO,yI 0] (zjr (ret2 (.slice zY zn zO) (yI 0) rfl rfl rfl ⟨_,rfl,?_⟩))))
 replace H:=H.erases [4,3,2,1]
 dsimp only [vX,List.eraseIdx] at H
 obtain rfl:c=s.qw.length:=by omega
 have kn:=packsL_ne p0 p1 (k:=s.qw.length) qf gp
 have kr:=rules_le s t s.qw.length
 have kl:=packsL_le s t s.qw.length
 have ce:=cells_len s t s.qw.length
 refine sps [.tuple #[.slice zY zn zO,yI 0],.slice zY zn zO,yI 0,.slice zY zn zO,yI 0] (zjcc (sps [yI 0,.bool false] (zjn (xH false rfl (fun h=>absurd h qj) (fun _=>qV (t_n (zcr (oF rfl (oL rfl (H.cell 2 rfl rfl) (oN rfl (sw (XO H underlying22 ti2 s.qx.length rfl rfl qf qf qf fun b95 w96 H=>sw (zG H underlying27 ti22 [.slice (aa b95 0) s.qx.length s.qx.length] fun b97 w98 H=>sp (.slice (aa b97 0) 1 1) (zjcc ?_))))))))))))))
 refine sp (.slice zY zn zO) (oN rfl (sp (yI 0) (zjn (qW ?_))))
 obtain ⟨G99,hg101,hn100,H⟩:=H.QI (α:=inCellD) 2 rfl 0 rfl qj
 replace H:=H.boxRow 0 rfl 1 1 rfl qj
 replace H:=H.vP (α:=yLI)
 obtain ⟨G102,N,hn103,H⟩:=H.vW 1 rfl N (H.jQ [3])
 replace H:=H.Yy true 0 rfl 1 rfl qm
 replace N:Fresh w.heap.size [(G102++[]),F_own]:=(N.emp.pick [1,0,2]).join
 refine zo (fun m' ρ w104=>∃ (xP:Env) (VW:yOA) (yA:Nat) (QQ:Nat) (out_1:yLL) (YD:List Value) (Vy:yLN) (k_1:Nat),ρ=upd (upd (upd (upd xP 8 (.slice VW yA QQ)) 33 (.slice zY zn zO)) 34 (yI zn)) 35 (yI k_1)∧out_1=(jh s.qx.length (xe s t s.qw.length) (xC s t s.qw.length) k_1)∧((k_1:Int)≤zn)∧((jh s.qx.length (xe s t s.qw.length) (xC s t s.qw.length) k_1).length≤300)∧m' =(zn - (k_1:Int)).toNat∧Fresh w.heap.size [Vy]∧St w w104 [rr VW yA QQ 22 1 YD,.box b3 (yT t qU qP xm xh qM qL) 38,.box b1 (yS s qC qB qN qJ) 36] [zh true Vy YD out_1,isF true G99 (.slice zY zn zO) (QY s t s.qw.length),sF false qY qC qB s.qw,sF false xF qN qJ s.qx,sF false xN qU qP t.qy,sF false zq xm xh t.qE,sF false xE qM qL t.qA]) ((zn - (0:Int)).toNat) ⟨_,(aa b97 0),1,1,[(List.replicate s.qx.length (0:Int))],[.slice (aa b95 0) s.qx.length s.qx.length],(G102++[]),0,uE4,(by rfl),qf,(by rw [XD];show 1≤300;omega),rfl,(N.pick [0]),H.pick [0,3,4] [0,3,7,8,9,10,11]⟩ ?_
 clear H N
 rintro m' ρ w105 ⟨xP,VW,yA,QQ,out_1,YD,Vy,k_1,rfl,rfl,i0,g3,rfl,N,H⟩
 have hn_out:=H.zl (α:=yLI) 0 rfl 0 rfl qj
 refine zcr (sp (.bool (decide ((k_1:Int) < zn))) (zjn (xO (cD rfl (fun h106=>?_) (fun h106=>?_)))))
 ·skip
  obtain ⟨gb,gc⟩:=cell_few (s:=s) (t:=t) (n:=s.qw.length) (i:=k_1) p0 qf
  refine qV (t_n (xO (qW (zcr ?_))))
  have hl109:=H.isLen 1 rfl
  obtain ⟨b107,o108,rfl⟩:=H.addr 1 rfl qf
  obtain ⟨ae110rules,ce110rules,Fe110rules,ae110packings,ce110packings,Fe110packings,H⟩:=H.elem_inCellD 1 rfl k_1 k_1 qf qf qf
  refine oI rfl rfl (sw (xY [.slice ae110rules ((((QY s t s.qw.length)[k_1]!).frules).length) ce110rules,.slice ae110packings ((((QY s t s.qw.length)[k_1]!).fpackings).length) ce110packings] isAgg129 sizeOf129 rfl (qF (H.get 2 rfl) 0 2) (sw (xX H ti129 [yN,yN] fun b111 w112 H=>sw (zt H 0 [.slice ae110rules ((((QY s t s.qw.length)[k_1]!).frules).length) ce110rules,.slice ae110packings ((((QY s t s.qw.length)[k_1]!).fpackings).length) ce110packings] sizeOf129 fun w113 H=>zjc (sw (vT H underlying27 ti22 fun b114 w115 H=>?_)))))))
  refine sp (.slice (aa b114 0) 0 0) (zjcc (sp (.slice VW yA QQ) (oN rfl (sp (yI 0) (zjn (qW ?_))))))
  obtain ⟨ce1,ce2⟩:=cells_at (s:=s) (t:=t) (k:=s.qw.length) (i:=k_1) qf
  rw [ce1,ce2] at H
  replace H:=H.boxRow 0 rfl 1 0 rfl qj
  replace H:=H.vP (α:=yLI)
  refine zo (fun m' ρ w116=>∃ (xP:Env) (a_next:yOA) (n_next:Nat) (c_next:Nat) (next:yLL) (x_next:List Value) (F_next:yLN) (k_51:Nat),ρ=upd (upd (upd (upd (upd (upd (upd (upd xP 10 (pp b111 0)) 11 (.slice a_next n_next c_next)) 33 (.slice (aa b107 o108) zn zO)) 34 (yI zn)) 35 (yI k_1)) 40 (.slice VW yA QQ)) 41 (yI yA)) 42 (yI k_51)∧next=(nextK (jh s.qx.length (xe s t s.qw.length) (xC s t s.qw.length) k_1) ((xe s t s.qw.length)[k_1]!) ((xC s t s.qw.length)[k_1]!) k_51)∧((k_51:Int)≤yA)∧((nextK (jh s.qx.length (xe s t s.qw.length) (xC s t s.qw.length) k_1) ((xe s t s.qw.length)[k_1]!) ((xC s t s.qw.length)[k_1]!) k_51).length≤300)∧m' =(yA - (k_51:Int)).toNat∧Fresh w.heap.size [Vy,F_next]∧St w w116 [rr a_next n_next c_next 22 1 x_next,.box b111 [.slice ae110rules (((xe s t s.qw.length)[k_1]!).length) ce110rules,.slice ae110packings (((xC s t s.qw.length)[k_1]!).length) ce110packings] 129,rr VW yA QQ 22 1 YD,.box b3 (yT t qU qP xm xh qM qL) 38,.box b1 (yS s qC qB qN qJ) 36] [zh true F_next x_next next,sF true Fe110rules ae110rules ce110rules ((xe s t s.qw.length)[k_1]!),sF true Fe110packings ae110packings ce110packings ((xC s t s.qw.length)[k_1]!),atF b107 (o108+(k_1:Int).toNat * 2) [.slice ae110rules (((xe s t s.qw.length)[k_1]!).length) ce110rules,.slice ae110packings (((xC s t s.qw.length)[k_1]!).length) ce110packings],zh true Vy YD (jh s.qx.length (xe s t s.qw.length) (xC s t s.qw.length) k_1),isF true G99 (.slice (aa b107 o108) zn zO) (QY s t s.qw.length),sF false qY qC qB s.qw,sF false xF qN qJ s.qx,sF false xN qU qP t.qy,sF false zq xm xh t.qE,sF false xE qM qL t.qA]) ((yA - (0:Int)).toNat) ⟨_,(aa b114 0),0,0,([]:yLL),[],[],0,uE8,(by rfl),qf,(by show 0≤300;omega),rfl,(N.emp.pick [1,0]),H⟩ ?_
  clear H N
  rintro m' ρ w117 ⟨xP,a_next,n_next,c_next,next,x_next,F_next,k_51,rfl,rfl,i0,n3,rfl,N,H⟩
  have hn_next:=H.zl (α:=yLI) 0 rfl 0 rfl qj
  refine zcr (sp (.bool (decide ((k_51:Int) < yA))) (zjn (xO (cD rfl (fun h118=>?_) (fun h118=>?_)))))
  ·skip
   refine qV (t_n (xO (qW (zcr ?_))))
   obtain ⟨b119,rfl⟩:=H.Qz 2 rfl qf
   refine oI rfl rfl ?_
   obtain ⟨a120,c121,G122,s123,h124,H⟩:=H.jW 2 rfl 4 rfl (iv:=k_51) k_51 qf qf
   refine oL rfl (h124) (sp (.slice a120 (((jh s.qx.length (xe s t s.qw.length) (xC s t s.qw.length) k_1)[k_51]!).length) c121) (zjcc (oF rfl (oL rfl (H.cell 1 rfl rfl) (oN rfl (sp (yI 0) (zjn (qW ?_))))))))
   refine zo (fun m' ρ w125=>∃ (xP:Env) (XA:yOA) (QE:Nat) (Xz:Nat) (next_1:yLL) (XJ:List Value) (Q3:yLN) (k_52:Nat),ρ=upd (upd (upd (upd (upd (upd (upd (upd (upd (upd (upd (upd xP 10 (pp b111 0)) 11 (.slice XA QE Xz)) 13 (.slice a120 (((jh s.qx.length (xe s t s.qw.length) (xC s t s.qw.length) k_1)[k_51]!).length) c121)) 33 (.slice (aa b107 o108) zn zO)) 34 (yI zn)) 35 (yI k_1)) 40 (.slice (aa b119 0) yA QQ)) 41 (yI yA)) 42 (yI k_51)) 47 (.slice ae110packings (((xC s t s.qw.length)[k_1]!).length) ce110packings)) 48 (yI (((xC s t s.qw.length)[k_1]!).length))) 49 (yI k_52)∧next_1=(nextX (jh s.qx.length (xe s t s.qw.length) (xC s t s.qw.length) k_1) ((xe s t s.qw.length)[k_1]!) ((xC s t s.qw.length)[k_1]!) k_51 k_52)∧((k_52:Int)≤(((xC s t s.qw.length)[k_1]!).length))∧m' =((((xC s t s.qw.length)[k_1]!).length) - (k_52:Int)).toNat∧Fresh w.heap.size [Vy,Q3]∧St w w125 [rr XA QE Xz 22 1 XJ,.box b111 [.slice ae110rules (((xe s t s.qw.length)[k_1]!).length) ce110rules,.slice ae110packings (((xC s t s.qw.length)[k_1]!).length) ce110packings] 129,rr (aa b119 0) yA QQ 22 1 YD,.box b3 (yT t qU qP xm xh qM qL) 38,.box b1 (yS s qC qB qN qJ) 36] [sF true G122 a120 c121 ((jh s.qx.length (xe s t s.qw.length) (xC s t s.qw.length) k_1)[k_51]!),zh true Q3 XJ next_1,sF true Fe110rules ae110rules ce110rules ((xe s t s.qw.length)[k_1]!),sF true Fe110packings ae110packings ce110packings ((xC s t s.qw.length)[k_1]!),atF b107 (o108+(k_1:Int).toNat * 2) [.slice ae110rules (((xe s t s.qw.length)[k_1]!).length) ce110rules,.slice ae110packings (((xC s t s.qw.length)[k_1]!).length) ce110packings],zh true Vy YD (jh s.qx.length (xe s t s.qw.length) (xC s t s.qw.length) k_1),isF true G99 (.slice (aa b107 o108) zn zO) (QY s t s.qw.length),sF false qY qC qB s.qw,sF false xF qN qJ s.qx,sF false xN qU qP t.qy,sF false zq xm xh t.qE,sF false xE qM qL t.qA]) (((((xC s t s.qw.length)[k_1]!).length) - (0:Int)).toNat) ⟨_,a_next,n_next,c_next,(nextK (jh s.qx.length (xe s t s.qw.length) (xC s t s.qw.length) k_1) ((xe s t s.qw.length)[k_1]!) ((xC s t s.qw.length)[k_1]!) k_51),x_next,F_next,0,uE12,(by exact nextX_zero _ _ _ _),qf,rfl,N,H⟩ ?_
   clear H N
   rintro m' ρ w126 ⟨xP,XA,QE,Xz,next_1,XJ,Q3,k_52,rfl,rfl,i0,rfl,N,H⟩
   have hn_next:=H.zl (α:=yLI) 0 rfl 1 rfl qj
   refine zcr (sp (.bool (decide ((k_52:Int) < (((xC s t s.qw.length)[k_1]!).length)))) (zjn (xO (cD rfl (fun h127=>?_) (fun h127=>?_)))))
   ·skip
    have nx:=nextX_len (r:=((xe s t s.qw.length)[k_1]!)) (show k_51 < (jh s.qx.length (xe s t s.qw.length) (xC s t s.qw.length) k_1).length by omega) (show k_52≤((xC s t s.qw.length)[k_1]!).length by omega)
    have nk:=nextK_len (r:=((xe s t s.qw.length)[k_1]!)) (P:=((xC s t s.qw.length)[k_1]!)) (show k_51≤(jh s.qx.length (xe s t s.qw.length) (xC s t s.qw.length) k_1).length by omega)
    have g1:=prodG_at (n:=s.qx.length) (rs:=(xe s t s.qw.length)) (all:=(xC s t s.qw.length)) (i:=k_1) (k:=k_51) qf
    have g2:=pack_at (s:=s) (t:=t) (n:=s.qw.length) (i:=k_1) (x:=k_52) qf qf
    refine qV (t_n (xO (qW (zcr ?_))))
    obtain ⟨b128,o129,rfl⟩:=H.addr 3 rfl qf
    obtain ⟨ae131,ce131,Fe131,H⟩:=H.vN 3 rfl k_52 k_52 qf qf qf
    refine oI rfl rfl (oL rfl (H.xQ 1 rfl 0 rfl) (sp (.slice ae131 ((((xC s t s.qw.length)[k_1]!)[k_52]!).length) ce131) (zjc (sp (.slice a120 (((jh s.qx.length (xe s t s.qw.length) (xC s t s.qw.length) k_1)[k_51]!).length) c121) ?_))))
    have sz132:=H.base.size
    have lt133:=H.ltN (L:=[Vy,Q3]) [7,3]
    refine sw (oc (cloneI_ok _ ((jh s.qx.length (xe s t s.qw.length) (xC s t s.qw.length) k_1)[k_51]!) (H.get 2 rfl).1 qg) ?_)
    rintro v137 w135 r137 x136
    replace H:=H.zB x136 r137
    obtain ⟨a138,c139,rfl,hc140,hm141⟩:=H.jm 0 rfl
    refine sp (.slice a138 (((jh s.qx.length (xe s t s.qw.length) (xC s t s.qw.length) k_1)[k_51]!).length) c139) (zjcc (oF rfl (oL rfl (H.cell 2 rfl rfl) (oN rfl (sp (yI 0) (zjn (qW ?_)))))))
    refine zo (fun m' ρ w142=>∃ (xP:Env) (k_53:Nat) (own_1:yLI),ρ=upd (upd (upd (upd (upd (upd (upd (upd (upd (upd (upd (upd (upd (upd (upd (upd (upd xP 10 (pp b111 0)) 11 (.slice XA QE Xz)) 13 (.slice a120 (((jh s.qx.length (xe s t s.qw.length) (xC s t s.qw.length) k_1)[k_51]!).length) c121)) 15 (.slice ae131 ((((xC s t s.qw.length)[k_1]!)[k_52]!).length) ce131)) 16 (.slice a138 (((jh s.qx.length (xe s t s.qw.length) (xC s t s.qw.length) k_1)[k_51]!).length) c139)) 33 (.slice (aa b107 o108) zn zO)) 34 (yI zn)) 35 (yI k_1)) 40 (.slice (aa b119 0) yA QQ)) 41 (yI yA)) 42 (yI k_51)) 47 (.slice (aa b128 o129) (((xC s t s.qw.length)[k_1]!).length) ce110packings)) 48 (yI (((xC s t s.qw.length)[k_1]!).length))) 49 (yI k_52)) 56 (.slice ae110rules (((xe s t s.qw.length)[k_1]!).length) ce110rules)) 57 (yI (((xe s t s.qw.length)[k_1]!).length))) 58 (yI k_53)∧own_1=(setTo ((jh s.qx.length (xe s t s.qw.length) (xC s t s.qw.length) k_1)[k_51]!) ((xe s t s.qw.length)[k_1]!) (((xC s t s.qw.length)[k_1]!)[k_52]!) k_53)∧((k_53:Int)≤(((xe s t s.qw.length)[k_1]!).length))∧m' =((((xe s t s.qw.length)[k_1]!).length) - (k_53:Int)).toNat∧Fresh w.heap.size [Vy,Q3]∧St w w142 [rr a138 (((jh s.qx.length (xe s t s.qw.length) (xC s t s.qw.length) k_1)[k_51]!).length) c139 2 1 (own_1.map (Value.int .i64)),rr XA QE Xz 22 1 XJ,.box b111 [.slice ae110rules (((xe s t s.qw.length)[k_1]!).length) ce110rules,.slice (aa b128 o129) (((xC s t s.qw.length)[k_1]!).length) ce110packings] 129,rr (aa b119 0) yA QQ 22 1 YD,.box b3 (yT t qU qP xm xh qM qL) 38,.box b1 (yS s qC qB qN qJ) 36] [sF true Fe131 ae131 ce131 (((xC s t s.qw.length)[k_1]!)[k_52]!),atF b128 (o129+(k_52:Int).toNat * 1) [.slice ae131 ((((xC s t s.qw.length)[k_1]!)[k_52]!).length) ce131],sF true G122 a120 c121 ((jh s.qx.length (xe s t s.qw.length) (xC s t s.qw.length) k_1)[k_51]!),zh true Q3 XJ (nextX (jh s.qx.length (xe s t s.qw.length) (xC s t s.qw.length) k_1) ((xe s t s.qw.length)[k_1]!) ((xC s t s.qw.length)[k_1]!) k_51 k_52),sF true Fe110rules ae110rules ce110rules ((xe s t s.qw.length)[k_1]!),sF true Fe110packings (aa b128 o129) ce110packings ((xC s t s.qw.length)[k_1]!),atF b107 (o108+(k_1:Int).toNat * 2) [.slice ae110rules (((xe s t s.qw.length)[k_1]!).length) ce110rules,.slice (aa b128 o129) (((xC s t s.qw.length)[k_1]!).length) ce110packings],zh true Vy YD (jh s.qx.length (xe s t s.qw.length) (xC s t s.qw.length) k_1),isF true G99 (.slice (aa b107 o108) zn zO) (QY s t s.qw.length),sF false qY qC qB s.qw,sF false xF qN qJ s.qx,sF false xN qU qP t.qy,sF false zq xm xh t.qE,sF false xE qM qL t.qA]) (((((xe s t s.qw.length)[k_1]!).length) - (0:Int)).toNat) ⟨_,0,((jh s.qx.length (xe s t s.qw.length) (xC s t s.qw.length) k_1)[k_51]!),uE17,(by rfl),qf,rfl,N,H⟩ ?_
    clear H N
    rintro m' ρ w143 ⟨xP,k_53,own_1,rfl,rfl,i0,rfl,N,H⟩
    have hn_own:=H.YG 0 rfl
    have sl:=setTo_len ((jh s.qx.length (xe s t s.qw.length) (xC s t s.qw.length) k_1)[k_51]!) ((xe s t s.qw.length)[k_1]!) (((xC s t s.qw.length)[k_1]!)[k_52]!) k_53
    refine zcr (sp (.bool (decide ((k_53:Int) < (((xe s t s.qw.length)[k_1]!).length)))) (zjn (xO (cD rfl (fun h144=>?_) (fun h144=>?_)))))
    ·skip
     obtain ⟨g3',g4⟩:=choice_at (s:=s) (t:=t) (n:=s.qw.length) (i:=k_1) (r:=k_53) qf qf
     refine qV (t_n (xO (qW (zcr (sp (yI k_53) ?_)))))
     obtain ⟨b145,o146,rfl⟩:=H.addr 4 rfl qf
     refine oI rfl rfl (oL rfl (H.jI 4 rfl k_53 qf qf) (sps [yI k_53,yI (((xe s t s.qw.length)[k_1]!)[k_53]!)] (zjn (xR (sps [.slice a138 (((jh s.qx.length (xe s t s.qw.length) (xC s t s.qw.length) k_1)[k_51]!).length) c139,yI (((xe s t s.qw.length)[k_1]!)[k_53]!),.slice ae131 ((((xC s t s.qw.length)[k_1]!)[k_52]!).length) ce131,yI k_53] ?_)))))
     obtain ⟨b148,o149,rfl⟩:=H.addr 0 rfl qf
     refine oI rfl rfl (oL rfl (H.jI 0 rfl k_53 qf qf) ?_)
     obtain ⟨b151,rfl⟩:=H.Qz 0 rfl qf
     refine oI rfl rfl (sw (o_storeInt H 0 rfl ((((xC s t s.qw.length)[k_1]!)[k_52]!)[k_53]!) sizeOf2 rfl rfl (i:=((((xe s t s.qw.length)[k_1]!)[k_53]!).toNat)) qf qf fun w152 H=>xU (b_n (t_n (xR (sw (zu k_53 1 rfl rfl qf (sp (yI (k_53+1)) (xU ?_)))))))))
     refine qZ (m' :=((((xe s t s.qw.length)[k_1]!).length) - ((k_53+1):Int)).toNat) qf ⟨_,k_53+1,((setTo ((jh s.qx.length (xe s t s.qw.length) (xC s t s.qw.length) k_1)[k_51]!) ((xe s t s.qw.length)[k_1]!) (((xC s t s.qw.length)[k_1]!)[k_52]!) k_53).set ((((xe s t s.qw.length)[k_1]!)[k_53]!).toNat) ((((xC s t s.qw.length)[k_1]!)[k_52]!)[k_53]!)),uE17,?_,?_,rfl,N,H⟩
     · rfl
     · omega
    refine zx4 (xR (sps [.slice XA QE Xz,.slice a138 (((jh s.qx.length (xe s t s.qw.length) (xC s t s.qw.length) k_1)[k_51]!).length) c139] (sw (zG H underlying27 ti22 [.slice a138 (((jh s.qx.length (xe s t s.qw.length) (xC s t s.qw.length) k_1)[k_51]!).length) c139] fun b153 w154 H=>?_))))
    obtain ⟨G158,N,hn159,H⟩:=H.vW 1 rfl N (H.jQ [7,3])
    refine sw (zN H 2 rfl 0 rfl underlying27 ti22 rfl qj rfl rfl rfl (by simp [Value.oneCell',Value.cells]) qp qf fun a155 c156 w157 H=>?_)
    replace H:=H.yB 4 rfl 0 rfl
    replace N:Fresh w.heap.size [(Q3++G158),Vy]:=(N.pick [2,0,1]).join
    refine sp (.slice a155 (QE+1) c156) (xU (b_n (t_n (xR (sw (zu k_52 1 rfl rfl qf (sp (yI (k_52+1)) (xU ?_))))))))
    refine qZ (m' :=((((xC s t s.qw.length)[k_1]!).length) - ((k_52+1):Int)).toNat) qf ⟨_,a155,QE+1,c156,((nextX (jh s.qx.length (xe s t s.qw.length) (xC s t s.qw.length) k_1) ((xe s t s.qw.length)[k_1]!) ((xC s t s.qw.length)[k_1]!) k_51 k_52)++[(setTo ((jh s.qx.length (xe s t s.qw.length) (xC s t s.qw.length) k_1)[k_51]!) ((xe s t s.qw.length)[k_1]!) (((xC s t s.qw.length)[k_1]!)[k_52]!) k_53)]),XJ++[.slice a138 (((jh s.qx.length (xe s t s.qw.length) (xC s t s.qw.length) k_1)[k_51]!).length) c139],(Q3++G158),k_52+1,uE12,?_,?_,rfl,(N.pick [1,0]),H.pick [2,3,4,5,6] [4,0,6,7,8,9,10,11,12,13,14,15]⟩
    · exact nextX_succ qf (by rw [show k_53=((xe s t s.qw.length)[k_1]!).length by omega];rfl)
    · omega
   refine zx4 (zcr (sp (.slice XA QE Xz) (oN rfl (sp (.bool (decide ((QE:Int) > 300))) (zjn (cD rfl (fun h160=>?_) (fun h160=>?_)))))))
   ·skip
    refine zcr (sps [yN,yI 3] (zjr (zr5 (zr5 ?_))))
    replace H:=H.nilRow 22 1
    replace H:=H.vP (α:=yLI)
    refine ret2 yN (yI 3) rfl rfl rfl ⟨_,rfl,?_,H.base⟩
    first | rw [cho_3 (.inl (own_bad p0 (q:=k) qf qf))] | rw [cho_3 (.inr (prod_stop (G:=(jh s.qx.length (xe s t s.qw.length) (xC s t s.qw.length) k_1)) (r:=((xe s t s.qw.length)[k_1]!)) (k:=k_51+1) (i:=k_1) kn qf (XD _) qf (by rw [← nextX_end (x:=k_52) qf qf];omega)))]
    exact ⟨none,0,0,[],[],rfl,(N.emp.pick [0]),H.pick [0] [0]⟩
   refine qV (b_n (t_n (xR (sw (zu k_51 1 rfl rfl qf (sp (yI (k_51+1)) (xU (qZ (m' :=(yA - ((k_51+1):Int)).toNat) qf ⟨_,XA,QE,Xz,(nextX (jh s.qx.length (xe s t s.qw.length) (xC s t s.qw.length) k_1) ((xe s t s.qw.length)[k_1]!) ((xC s t s.qw.length)[k_1]!) k_51 k_52),XJ,Q3,k_51+1,uE8,?_,?_,?_,rfl,N,H.pick [0,1,2,3,4] [1,2,3,4,5,6,7,8,9,10,11]⟩))))))))
   · exact nextX_end qf qf
   · omega
   · rw [← nextX_end (x:=k_52) qf qf];omega
  refine zx4 (xR (sps [.slice a_next n_next c_next,.slice a_next n_next c_next] (xU (b_n (t_n (xR (sw (zu k_1 1 rfl rfl qf (sp (yI (k_1+1)) (xU (qZ (m' :=(zn - ((k_1+1):Int)).toNat) qf ⟨_,a_next,n_next,c_next,(nextK (jh s.qx.length (xe s t s.qw.length) (xC s t s.qw.length) k_1) ((xe s t s.qw.length)[k_1]!) ((xC s t s.qw.length)[k_1]!) k_51),x_next,F_next,k_1+1,uE4,?_,?_,?_,rfl,(N.pick [1]),H.pick [0,3,4] [0,5,6,7,8,9,10]⟩)))))))))))
  · rw [show k_51=(jh s.qx.length (xe s t s.qw.length) (xC s t s.qw.length) k_1).length by omega];rfl
  · omega
  · show (nextK (jh s.qx.length (xe s t s.qw.length) (xC s t s.qw.length) k_1) ((xe s t s.qw.length)[k_1]!) ((xC s t s.qw.length)[k_1]!) (jh s.qx.length (xe s t s.qw.length) (xC s t s.qw.length) k_1).length).length≤300;rw [← show k_51=(jh s.qx.length (xe s t s.qw.length) (xC s t s.qw.length) k_1).length by omega];exact n3
 obtain rfl:k_1=(xC s t s.qw.length).length:=by omega
 have on:0 < (jh s.qx.length (xe s t s.qw.length) (xC s t s.qw.length) (xC s t s.qw.length).length).length:=by rw [XD];exact prod_mono kn (Nat.zero_le _) (Nat.le_refl _)
 have kc:¬ Xh (xC s t s.qw.length) (xC s t s.qw.length).length > 300:=by rw [XD] at g3;omega
 refine zx4 (zcr (sp (.slice VW yA QQ) ?_))
 obtain ⟨b161,rfl⟩:=H.Qz 0 rfl qf
 refine sw (o_callF #[.slice (aa b161 0) yA QQ,.func (.func 94) #[] #[]] rfl rfl call93 (sortRow sortL call94 cmpSort H 0 rfl 0 rfl qf qf) ?_)
 rintro _ w162 ⟨xs163,F164,l165,rfl,hF166,hp167,hs168,H⟩
 replace N:Fresh w.heap.size [F164]:=Fresh.perm N hF166
 refine zjc (sps [.slice (aa b161 0) yA QQ,.slice (aa b161 0) yA QQ,yI 0] (zjr (ret2 (.slice (aa b161 0) yA QQ) (yI 0) rfl rfl rfl ⟨_,rfl,?_,H.base⟩)))
 rw [cho_0 gp kc hp167 (in_order (Nat.le_refl _) fun a b h1 h2 h3=>hs168 a b h1 h2 ((cmpL_ahead ((perm_rows hp167 b qf).trans (perm_rows hp167 a qf).symm)).2 h3))]
 exact ⟨(aa b161 0),yA,QQ,xs163,F164,rfl,N,H.pick [0] [0]⟩
theorem l03Succ_ok (w:World) (s:qI) (t:qH) {bs os:Nat} {qC:yOA} {qY:yLN} {qN:yOA} {xF:yLN} {bt ot:Nat} {qU:yOA} {xN:yLN} {xm:yOA} {zq:yLN} {qM:yOA} {xE:yLN} (hs:vz w bs os (yS s qC qB qN qJ)) (xf:qO.rep w qY [.slice qC s.qw.length qB] s.qw) (xI:qO.rep w xF [.slice qN s.qx.length qJ] s.qx) (ht:vz w bt ot (yT t qU qP xm xh qM qL)) (zg:qO.rep w xN [.slice qU t.qy.length qP] t.qy) (zI:qO.rep w zq [.slice xm t.qE.length xh] t.qE) (xK:qO.rep w xE [.slice qM t.qA.length qL] t.qA) (p0:yj s) (p1:zH s t):Calls Tryz.prog 72 #[pp bs os,pp bt ot] w (Ret (fun v w' =>∃ (ra0:yOA) (rn0:Nat) (rc0:Nat) (rx0:List Value) (rF0:yLN),v=.tuple #[.slice ra0 rn0 rc0,yI ((qX s t).2)]∧Fresh w.heap.size [rF0]∧St w w' [rr ra0 rn0 rc0 38 3 rx0] [zh true rF0 rx0 ((qX s t).1)]) w):=by
 refine en func72 ntmps72 ?_
 have H:=(((((((St.start w).arg xK).arg zI).arg zg).VJ ht).arg xI).arg xf).VJ hs
 have vk:=qK xf
 have jl:=qK xI
 have Qh:=qK zg
 have QW:=qK zI
 have jL:=qK xK
 clear hs xf xI ht zg zI xK
 have N:=Fresh.nil w.heap.size
 refine zcr (sps [yN,yI 0] (zjcc (sps [pp bs os,pp bt ot] (sw (oq (l03Halted_ok _ s t (qF (H.get 0 rfl) 0 3) (H.get 1 rfl).1 (H.get 2 rfl).1 (qF (H.get 3 rfl) 0 3) (H.get 4 rfl).1 (H.get 5 rfl).1 (H.get 6 rfl).1 qg qg) H fun w2 H=>zjn (cP rfl (fun h4=>?_) (fun h4=>?_)))))))
 ·skip
  refine zcr (sw (vT H underlying47 ti38 fun b5 w6 H=>sps [.slice (aa b5 0) 0 0,yI 0] (zjr (t_r ?_))))
  replace H:=H.boxRow 0 rfl 3 0 rfl qj
  replace H:=H.vP (α:=qH)
  replace H:St _ _ [rr (aa b5 0) 0 0 38 3 []] [zh true [] [] ([]:List qH),atF bs os (yS s qC qB qN qJ),sF false qY qC qB s.qw,sF false xF qN qJ s.qx,atF bt ot (yT t qU qP xm xh qM qL),sF false xN qU qP t.qy,sF false zq xm xh t.qE,sF false xE qM qL t.qA]:=H
  refine ret2 (.slice (aa b5 0) 0 0) (yI 0) rfl rfl rfl ⟨_,rfl,?_,H.base⟩
  rw [succ_h (by first | assumption | exact appls_halt.1 qf)]
  exact ⟨(aa b5 0),0,0,[],[],rfl,N.emp,H.pick [0] [0]⟩
 refine qV (t_n (zcr (sps [pp bs os,pp bt ot] ?_)))
 have sz10:=H.base.size
 refine sw (oc (l03Choices_ok _ s t (qF (H.get 0 rfl) 0 3) (H.get 1 rfl).1 (H.get 2 rfl).1 (qF (H.get 3 rfl) 0 3) (H.get 4 rfl).1 (H.get 5 rfl).1 (H.get 6 rfl).1 qg qg) ?_)
 rintro _ w8 ⟨ra7a,rn7a,rc7a,rx7a,rF7a,rfl,M,K⟩ _
 replace N:=N.merge sz10 qm M
 replace H:=H.merge K M
 obtain rfl:=H.zl (α:=yLI) 0 rfl 0 rfl qj
 refine sps [.tuple #[.slice ra7a (((zX s t).1).length) rc7a,yI ((zX s t).2)],.slice ra7a (((zX s t).1).length) rc7a,yI ((zX s t).2),.slice ra7a (((zX s t).1).length) rc7a,yI ((zX s t).2)] (zjcc (sps [yI ((zX s t).2),.bool (((zX s t).2:Int) != 0)] (zjn (xH (((zX s t).2:Int) != 0) rfl (fun h13=>?_) (fun h13=>?_)))))
 ·skip
  replace h13:=bne_iff_ne.1 h13
  refine zcr (sw (vT H underlying47 ti38 fun b14 w15 H=>sps [yI ((zX s t).2),.slice (aa b14 0) 0 0,yI ((zX s t).2)] (zjr (t_r ?_))))
  replace H:=H.boxRow 0 rfl 3 0 rfl qj
  replace H:=H.vP (α:=qH)
  replace H:St _ _ [rr (aa b14 0) 0 0 38 3 [],rr ra7a (((zX s t).1).length) rc7a 22 1 rx7a] [zh true [] [] ([]:List qH),zh true rF7a rx7a ((zX s t).1),atF bs os (yS s qC qB qN qJ),sF false qY qC qB s.qw,sF false xF qN qJ s.qx,atF bt ot (yT t qU qP xm xh qM qL),sF false xN qU qP t.qy,sF false zq xm xh t.qE,sF false xE qM qL t.qA]:=H
  refine ret2 (.slice (aa b14 0) 0 0) (yI ((zX s t).2)) rfl rfl rfl ⟨_,rfl,?_,H.base⟩
  rw [succ_c ‹_›]
  exact ⟨(aa b14 0),0,0,[],[],rfl,(N.emp.pick [0]),H.pick [0] [0]⟩
 replace h13:=xq h13
 refine qV (t_n (zcr (sps [pp bs os,pp bt ot,.slice ra7a (((zX s t).1).length) rc7a] ?_)))
 obtain ⟨G16,hn17,h18⟩:=H.rowIsR (α:=yLI) 0 rfl 0 rfl qj
 have ln:=cho_len s t
 have cc:=fun q (hq:q < (zX s t).1.length)=>(cho_ok p0 p1 hq).1
 have ci:=fun q (hq:q < (zX s t).1.length)=>(cho_ok p0 p1 hq).2
 have sz22:=H.base.size
 have lt23:=H.ltN (L:=[rF7a]) [0]
 refine sw (oc (l03Next_ok _ s t ((zX s t).1) (qF (H.get 1 rfl) 0 3) (H.get 2 rfl).1 (H.get 3 rfl).1 (qF (H.get 4 rfl) 0 3) (H.get 5 rfl).1 (H.get 6 rfl).1 (H.get 7 rfl).1 h18 qg qg qg qg) ?_)
 rintro _ w20 ⟨ra19a,rn19a,rc19a,rx19a,rF19a,rfl,M,K⟩ _
 replace N:=N.merge sz22 lt23 M
 replace H:=H.merge K M
 obtain rfl:=H.zl (α:=qH) 0 rfl 0 rfl qj
 refine sps [.slice ra19a (((Qs s t ((zX s t).1)).1).length) rc19a,yI ((Qs s t ((zX s t).1)).2),.slice ra19a (((Qs s t ((zX s t).1)).1).length) rc19a,yI ((Qs s t ((zX s t).1)).2)] (zjr (ret2 (.slice ra19a (((Qs s t ((zX s t).1)).1).length) rc19a) (yI ((Qs s t ((zX s t).1)).2)) rfl rfl rfl ⟨_,rfl,?_,H.base⟩))
 rw [succ_0 (by first | assumption | exact fun h=>by have:=appls_halt.2 h;omega) ql]
 exact ⟨ra19a,((Qs s t ((zX s t).1)).1).length,rc19a,rx19a,rF19a,rfl,(N.pick [0]),H.pick [0] [0]⟩

theorem nextStates_ok (w:World) (s:qI) (t:qH) {qC:yOA} {qY:yLN} {qN:yOA} {xF:yLN} {qU:yOA} {xN:yLN} {xm:yOA} {zq:yLN} {qM:yOA} {xE:yLN} (xf:qO.rep w qY [.slice qC s.qw.length qB] s.qw) (xI:qO.rep w xF [.slice qN s.qx.length qJ] s.qx) (zg:qO.rep w xN [.slice qU t.qy.length qP] t.qy) (zI:qO.rep w zq [.slice xm t.qE.length xh] t.qE) (xK:qO.rep w xE [.slice qM t.qA.length qL] t.qA) (p0:yj s) (p1:zH s t):Calls Tryz.prog 73 #[.agg #[yI s.xA,.slice qC s.qw.length qB,.slice qN s.qx.length qJ],.agg #[.slice qU t.qy.length qP,.slice xm t.qE.length xh,.slice qM t.qA.length qL]] w (Ret (fun v w' =>∃ (ra0:yOA) (rn0:Nat) (rc0:Nat) (rx0:List Value) (rF0:yLN),v=.tuple #[.slice ra0 rn0 rc0,yI ((qX s t).2)]∧Fresh w.heap.size [rF0]∧St w w' [rr ra0 rn0 rc0 38 3 rx0] [zh true rF0 rx0 ((qX s t).1)]) w):=by
 refine en func73 ntmps73 ?_
 have H:=(((((St.start w).arg xK).arg zI).arg zg).arg xI).arg xf
 have vk:=qK xf
 have jl:=qK xI
 have Qh:=qK zg
 have QW:=qK zI
 have jL:=qK xK
 clear xf xI zg zI xK
 have N:=Fresh.nil w.heap.size
 refine zcr (sw (vG H (yS s qC qB qN qJ) fun b1 w2 H=>sw (vG H (yT t qU qP xm xh qM qL) fun b3 w4 H=>sps [yN,yI 0] (zjc (sw (xY (yS s qC qB qN qJ) isAgg36 sizeOf36 rfl (qF (H.cells 1 rfl) 0 3) ?_))))))
 refine sw (xY (yT t qU qP xm xh qM qL) isAgg38 sizeOf38 rfl (qF (H.cells 0 rfl) 0 3) ?_)
 have sz8:=H.base.size
 refine sw (oc (choices_ok _ s t (H.get 0 rfl).1 (H.get 1 rfl).1 (H.get 2 rfl).1 (H.get 3 rfl).1 (H.get 4 rfl).1 qg qg) ?_)
 rintro _ w6 ⟨ra5a,rn5a,rc5a,rx5a,rF5a,rfl,M,K⟩ _
 replace N:=N.merge sz8 qm M
 replace H:=H.merge K M
 obtain rfl:=H.zl (α:=yLI) 0 rfl 0 rfl qj
 refine sps [.tuple #[.slice ra5a (((zX s t).1).length) rc5a,yI ((zX s t).2)],.slice ra5a (((zX s t).1).length) rc5a,yI ((zX s t).2),.slice ra5a (((zX s t).1).length) rc5a,yI ((zX s t).2)] (zjcc (sps [yI ((zX s t).2),.bool (((zX s t).2:Int) != 0)] (zjn (xH (((zX s t).2:Int) != 0) rfl (fun h11=>?_) (fun h11=>?_)))))
 ·skip
  replace h11:=bne_iff_ne.1 h11
  refine zcr (sps [yI ((zX s t).2),yN,yI ((zX s t).2)] (zjr (t_r ?_)))
  replace H:=H.nilRow 38 3
  replace H:=H.vP (α:=qH)
  refine ret2 yN (yI ((zX s t).2)) rfl rfl rfl ⟨_,rfl,?_,H.base⟩
  rw [succ_c ‹_›]
  exact ⟨none,0,0,[],[],rfl,(N.emp.pick [0]),H.pick [0] [0]⟩
 replace h11:=xq h11
 refine qV (t_n (zcc (sw (xY (yS s qC qB qN qJ) isAgg36 sizeOf36 rfl (qF (H.cells 2 rfl) 0 3) (sw (xY (yT t qU qP xm xh qM qL) isAgg38 sizeOf38 rfl (qF (H.cells 1 rfl) 0 3) ?_))))))
 have sz15:=H.base.size
 refine sw (oc (applicable_ok _ s t (H.get 1 rfl).1 (H.get 2 rfl).1 (H.get 3 rfl).1 (H.get 4 rfl).1 (H.get 5 rfl).1 qg qg) ?_)
 rintro _ w13 ⟨ra12,rn12,rc12,rfl,M,K⟩ _
 replace H:=H.merge K M
 obtain rfl:=H.YG 0 rfl
 refine oN rfl (sp (.bool (((appls s t).length:Int) == 0)) (zjn (cE rfl (fun h18=>?_) (fun h18=>?_))))
 ·skip
  refine zcr (sps [yN,yI 0] (zjr (t_r ?_)))
  replace H:=H.nilRow 38 3
  replace H:=H.vP (α:=qH)
  refine ret2 yN (yI 0) rfl rfl rfl ⟨_,rfl,?_,H.base⟩
  rw [succ_h (by first | assumption | exact appls_halt.1 qf)]
  exact ⟨none,0,0,[],[],rfl,(N.emp.pick [0]),H.pick [0] [0]⟩
 refine qV (t_n (zcr (sw (xY (yS s qC qB qN qJ) isAgg36 sizeOf36 rfl (qF (H.cells 3 rfl) 0 3) (sw (xY (yT t qU qP xm xh qM qL) isAgg38 sizeOf38 rfl (qF (H.cells 2 rfl) 0 3) (sp (.slice ra5a (((zX s t).1).length) rc5a) ?_)))))))
 obtain ⟨G19,hn20,h21⟩:=H.rowIsR (α:=yLI) 1 rfl 0 rfl qj
 have ln:=cho_len s t
 have cc:=fun q (hq:q < (zX s t).1.length)=>(cho_ok p0 p1 hq).1
 have ci:=fun q (hq:q < (zX s t).1.length)=>(cho_ok p0 p1 hq).2
 have sz25:=H.base.size
 have lt26:=H.ltN (L:=[rF5a]) [0]
 refine sw (oc (behind_ok _ s t ((zX s t).1) (H.get 1 rfl).1 (H.get 2 rfl).1 (H.get 3 rfl).1 (H.get 4 rfl).1 (H.get 5 rfl).1 h21 qg qg qg qg qg) ?_)
 rintro _ w23 ⟨ra22a,rn22a,rc22a,rx22a,rF22a,rfl,M,K⟩ _
 replace N:=N.merge sz25 lt26 M
 replace H:=H.merge K M
 obtain rfl:=H.zl (α:=qH) 0 rfl 0 rfl qj
 refine sps [.slice ra22a (((Qs s t ((zX s t).1)).1).length) rc22a,yI ((Qs s t ((zX s t).1)).2),.slice ra22a (((Qs s t ((zX s t).1)).1).length) rc22a,yI ((Qs s t ((zX s t).1)).2)] (zjr (ret2 (.slice ra22a (((Qs s t ((zX s t).1)).1).length) rc22a) (yI ((Qs s t ((zX s t).1)).2)) rfl rfl rfl ⟨_,rfl,?_,H.base⟩))
 rw [succ_0 (by first | assumption | exact fun h=>by have:=appls_halt.2 h;omega) ql]
 exact ⟨ra22a,((Qs s t ((zX s t).1)).1).length,rc22a,rx22a,rF22a,rfl,(N.pick [0]),H.pick [0] [0]⟩
theorem find_ok (w:World) (l:List qH) (u:qH) {al:yOA} {Fl:yLN} {auAlive:yOA} {cuAlive:Nat} {FuAlive:yLN} {auBags:yOA} {cuBags:Nat} {FuBags:yLN} {auAround:yOA} {cuAround:Nat} {FuAround:yLN} (hl:qO.rep w Fl [.slice al l.length cl] l) (huAlive:qO.rep w FuAlive [.slice auAlive u.qy.length cuAlive] u.qy) (huBags:qO.rep w FuBags [.slice auBags u.qE.length cuBags] u.qE) (huAround:qO.rep w FuAround [.slice auAround u.qA.length cuAround] u.qA):Calls Tryz.prog 80 #[.slice al l.length cl,.agg #[.slice auAlive u.qy.length cuAlive,.slice auBags u.qE.length cuBags,.slice auAround u.qA.length cuAround]] w (Ret (fun v w' =>v=yI (firstIdx (fun zz=>decide (l[zz]! =u)) l.length)) w):=by
 refine en func80 ntmps80 ?_
 have H:=((((St.start w).arg huAround).arg huBags).arg huAlive).arg hl
 have nhl:=qK hl
 have nhuAlive:=qK huAlive
 have nhuBags:=qK huBags
 have nhuAround:=qK huAround
 clear hl huAlive huBags huAround
 have N:=Fresh.nil w.heap.size
 refine zcr (sw (vG H (yT u auAlive cuAlive auBags cuBags auAround cuAround) fun b1 w2 H=>sp (yI 0) (zjc (sps [.slice al l.length cl,.func (.func 117) #[] #[pp b1 0]] (sw (vC #[.slice al l.length cl,.func (.func 117) #[] #[pp b1 0]] rfl rfl call116 (en func116 ntmps116 ?_)))))))
 refine zcr (sp (yI 0) (zjcc (sp (.slice al l.length cl) (oN rfl (sp (yI 0) (zjn (qW ?_)))))))
 refine zo (fun m' ρ w3=>∃ (xP:Env) (i:Nat),ρ=upd (upd (upd (upd xP 0 (.slice al l.length cl)) 1 (.func (.func 117) #[] #[pp b1 0])) 7 (yI l.length)) 8 (yI i)∧((i:Int)≤l.length)∧(noneTo (fun zz=>decide (l[zz]! =u)) i)∧m' =(l.length - (i:Int)).toNat∧Fresh w.heap.size []∧St w w3 [.box b1 (yT u auAlive cuAlive auBags cuBags auAround cuAround) 38] [sF false Fl al cl l,sF false FuAlive auAlive cuAlive u.qy,sF false FuBags auBags cuBags u.qE,sF false FuAround auAround cuAround u.qA]) ((l.length - (0:Int)).toNat) ⟨_,0,uE4,qf,(by exact fun j hj=>by omega),rfl,N,H⟩ ?_
 clear H N
 rintro m' ρ w4 ⟨xP,i,rfl,i0,i1,rfl,N,H⟩
 refine zcr (sp (.bool (decide ((i:Int) < l.length))) (zjn (xO (cD rfl (fun h5=>?_) (fun h5=>?_)))))
 ·skip
  refine qV (t_n (xO (qW (zcr (sps [yI i,yI i] (zjc (sps [.func (.func 117) #[] #[pp b1 0],.slice al l.length cl,yI i] ?_)))))))
  obtain ⟨b6,o7,rfl⟩:=H.addr 0 rfl qf
  obtain ⟨ae9Alive,ce9Alive,Fe9Alive,ae9Bags,ce9Bags,Fe9Bags,ae9Around,ce9Around,Fe9Around,H⟩:=H.elem_StateD 0 rfl i i qf qf qf
  refine oI rfl rfl (sw (xY [.slice ae9Alive (((l[i]!).qy).length) ce9Alive,.slice ae9Bags (((l[i]!).qE).length) ce9Bags,.slice ae9Around (((l[i]!).qA).length) ce9Around] isAgg38 sizeOf38 rfl (qF (H.get 3 rfl) 0 3) (sw (vC #[.agg #[.slice ae9Alive (((l[i]!).qy).length) ce9Alive,.slice ae9Bags (((l[i]!).qE).length) ce9Bags,.slice ae9Around (((l[i]!).qA).length) ce9Around],pp b1 0] rfl rfl call117 (en func117 ntmps117 ?_)))))
  refine zcr (sw (vG H [.slice ae9Alive (((l[i]!).qy).length) ce9Alive,.slice ae9Bags (((l[i]!).qE).length) ce9Bags,.slice ae9Around (((l[i]!).qA).length) ce9Around] fun b10 w11 H=>sp (.bool false) (zjc (sw (xY [.slice ae9Alive (((l[i]!).qy).length) ce9Alive,.slice ae9Bags (((l[i]!).qE).length) ce9Bags,.slice ae9Around (((l[i]!).qA).length) ce9Around] isAgg38 sizeOf38 rfl (qF (H.cells 0 rfl) 0 3) ?_)))))
  refine sw (xY (yT u auAlive cuAlive auBags cuBags auAround cuAround) isAgg38 sizeOf38 rfl (qF (H.cells 1 rfl) 0 3) (sw (oq (sameState_ok _ (l[i]!) u (H.get 0 rfl).1 (H.get 1 rfl).1 (H.get 2 rfl).1 (H.get 5 rfl).1 (H.get 6 rfl).1 (H.get 7 rfl).1) H fun w13 H=>sp (.bool (decide ((l[i]!)=u))) (zjr (ret1 (.bool (decide ((l[i]!)=u))) rfl rfl ⟨_,rfl,?_⟩)))))
  replace H:=H.erases [0]
  dsimp only [vX,List.eraseIdx] at H
  refine zjn (cD rfl (fun h15=>?_) (fun h15=>?_))
  ·skip
   refine zcr (sps [yI i,yI i] (zjr (zr5 (ret1 (yI i) rfl rfl ⟨_,rfl,(sp (yI i) (zjr (ret1 (yI i) rfl rfl ⟨_,rfl,?_,H.base⟩)))⟩))))
   rw [firstIdx_some (k:=i) qf i1 (decide_eq_true ‹_›)]
  refine qV (b_n (t_n (xR (sw (zu i 1 rfl rfl qf (sp (yI (i+1)) (xU (qZ (m' :=(l.length - ((i+1):Int)).toNat) qf ⟨_,i+1,uE4,?_,?_,rfl,N,H.pick [0] [4,5,6,7]⟩))))))))
  · omega
  · exact noneTo_succ i1 (decide_eq_false ‹_›)
 refine zx4 (zcr (sp (yI (-1)) (zjr (ret1 (yI (-1)) rfl rfl ⟨_,rfl,(sp (yI (-1)) (zjr (ret1 (yI (-1)) rfl rfl ⟨_,rfl,?_,H.base⟩)))⟩))))
 rw [firstIdx_none (fun j hj=>i1 j qf)]

theorem sizeS_ok (w:World) (l:List qH) {al:yOA} {Fl:yLN} (hl:qO.rep w Fl [.slice al l.length cl] l):Calls Tryz.prog 121 #[.slice al l.length cl] w (Ret (fun v w' =>v=yI l.length) w):=by
 refine en func121 ntmps121 ?_
 have H:=(St.start w).arg hl
 have nhl:=qK hl
 clear hl
 have N:=Fresh.nil w.heap.size
 refine zcr (sp (yI 0) (zjc (sp (.slice al l.length cl) (oN rfl (sp (yI l.length) (zjr (ret1 (yI l.length) rfl rfl ⟨_,rfl,?_,H.base⟩)))))))
 rfl
theorem specEx_ok (w:World) (s:qI) (t:qH) {qC:yOA} {qY:yLN} {qN:yOA} {xF:yLN} {qU:yOA} {xN:yLN} {xm:yOA} {zq:yLN} {qM:yOA} {xE:yLN} (xf:qO.rep w qY [.slice qC s.qw.length qB] s.qw) (xI:qO.rep w xF [.slice qN s.qx.length qJ] s.qx) (zg:qO.rep w xN [.slice qU t.qy.length qP] t.qy) (zI:qO.rep w zq [.slice xm t.qE.length xh] t.qE) (xK:qO.rep w xE [.slice qM t.qA.length qL] t.qA):Calls Tryz.prog 40 #[.agg #[yI s.xA,.slice qC s.qw.length qB,.slice qN s.qx.length qJ],.agg #[.slice qU t.qy.length qP,.slice xm t.qE.length xh,.slice qM t.qA.length qL]] w (Ret (fun v w' =>∃ (ra0States:yOA) (rc0States:Nat) (rF0States:yLN) (ra0Next:yOA) (rc0Next:Nat) (rF0Next:yLN),v=.tuple #[.agg #[.slice ra0States (((exG s t).zC).length) rc0States,.slice ra0Next (((exG s t).fNext).length) rc0Next],yI ((XQ s t).2)]∧Fresh w.heap.size [rF0States,rF0Next]∧St w w' [] [sF true rF0States ra0States rc0States ((exG s t).zC),sF true rF0Next ra0Next rc0Next ((exG s t).fNext)]) w):=by
 refine en func40 ntmps40 ?_
 have H:=(((((St.start w).arg xK).arg zI).arg zg).arg xI).arg xf
 have vk:=qK xf
 have jl:=qK xI
 have Qh:=qK zg
 have QW:=qK zI
 have jL:=qK xK
 clear xf xI zg zI xK
 have N:=Fresh.nil w.heap.size
 refine zcr (sw (vG H (yS s qC qB qN qJ) fun b1 w2 H=>sw (vG H (yT t qU qP xm xh qM qL) fun b3 w4 H=>sw (xX H ti59 [yN,yN] fun b5 w6 H=>sp (yI 0) (zjcc (sw (oq (l03Both_ok _ s t (qF (H.cells 2 rfl) 0 3) (H.get 0 rfl).1 (H.get 1 rfl).1 (qF (H.cells 1 rfl) 0 3) (H.get 2 rfl).1 (H.get 3 rfl).1 (H.get 4 rfl).1) H fun w8 H=>sp (.bool (!(dec (yj s∧zH s t)))) (zjn ?_))))))))
 refine cQ rfl (fun h10=>?_) (fun h10=>?_)
 ·skip
  refine zcr (sw (jr [yN,yN] [] (sw (zt H 0 [yN,yN] sizeOf59 fun w11 H=>sp (yI 1) (zjr (t_r ?_))))))
  replace H:=H.addNil (α:=qH)
  replace H:=H.addNil (α:=yLI)
  refine retC2 H 0 rfl (yI 1) rfl isAgg59 sizeOf59 rfl rfl ⟨_,rfl,?_,H.base⟩
  obtain ⟨z1,z2⟩:=exG_of (ex_1 ‹_›)
  rw [z1,z2]
  exact ⟨none,0,[],none,0,[],rfl,N.emp.emp,H.pick [] [1,0]⟩
 have k0:=(‹yj s∧zH s t›:yj s∧zH s t)
 have k1:=k0.1
 have k2:=k0.2
 obtain ⟨q7,q8,q9,q10⟩:=k2.sizes k1.1
 have q13:=fun k hk=>Nat.le_trans (q10 k hk) (by decide:8≤1000000)
 refine qV (t_n (zcr (sw (vC #[pp b1 0,pp b3 0] rfl rfl call85 (en func85 ntmps85 ?_)))))
 refine zcr (sw (xX H ti59 [yN,yN] fun b12 w13 H=>sps [yN,yI 0] (zjc (sp (pp b3 0) ?_))))
 have sz17:=H.base.size
 refine sw (oc (l02Own_ok _ t (qF (H.cells 2 rfl) 0 3) (H.get 2 rfl).1 (H.get 3 rfl).1 (H.get 4 rfl).1 qg qg qg qg) ?_)
 rintro _ w15 ⟨ra14Alive,rn14Alive,rc14Alive,ra14Bags,rn14Bags,rc14Bags,rx14Bags,rF14Bags,ra14Around,rn14Around,rc14Around,rfl,M,K⟩ _
 replace N:=N.merge sz17 qm M
 replace H:=H.merge K M
 obtain rfl:=H.rowNB 0 rfl
 obtain rfl:=H.zl (α:=yLI) 1 rfl 0 rfl qj
 obtain rfl:=H.YG 2 rfl
 refine sw (zG H underlying47 ti38 (yT t ra14Alive rc14Alive ra14Bags rc14Bags ra14Around rc14Around) fun b22 w23 H=>sw (jr [.slice (aa b22 0) 1 1,yN] [(0,.slice (aa b22 0) 1 1)] (sw (xX H ti59 [yN,yN] fun b24 w25 H=>sw (zt H 0 [.slice (aa b22 0) 1 1,yN] sizeOf59 fun w26 H=>zjc (sw (zG H underlying22 ti2 [yI (-1)] fun b27 w28 H=>sp (.slice (aa b27 0) 1 1) (zjcc (sp (yI 0) ?_)))))))))
 refine zjn (qW ?_)
 replace H:=H.boxRowI 0 [(-1)] 1
 replace H:=H.boxRow 2 rfl 3 1 rfl qj
 replace H:=H.vP (α:=qH)
 obtain ⟨G29,N,hn30,H⟩:=H.freezeB 3 rfl N (H.jQ [1])
 have H0:=H
 obtain ⟨G31,hg33,hn32,H⟩:=H.QI (α:=yLI) 4 rfl 2 rfl qj
 replace N:Fresh w.heap.size [G31,G29]:=Fresh.ice (N.pick [1,0]) H0 4 hg33.1 hg33.2 (H0.jQ [0])
 clear H0
 obtain ⟨G34,N,hn35,H⟩:=H.vW 5 rfl N (H.jQ [0,1])
 replace H:=H.XN 3 rfl 2 rfl 1 rfl 0 rfl
 replace N:Fresh w.heap.size [([]++(G29++G31++G34))]:=(N.emp.pick [3,2,1,0]).join.join.swap.join
 replace H:St _ _ [rr (aa b27 0) 1 1 2 1 ([(-1)].map (Value.int .i64)),.box b24 [.slice (aa b22 0) 1 1,yN] 59,rr (aa b22 0) 1 1 38 3 (yT t ra14Alive rc14Alive ra14Bags rc14Bags ra14Around rc14Around),rr none 0 0 0 1 [],rr none 0 0 0 1 [],rr none 0 0 0 1 [],.box b12 [yN,yN] 59,.box b5 [yN,yN] 59,.box b3 (yT t qU qP xm xh qM qL) 38,.box b1 (yS s qC qB qN qJ) 36] [zh true ([]++(G29++G31++G34)) (yT t ra14Alive rc14Alive ra14Bags rc14Bags ra14Around rc14Around) [t],sF true G34 ra14Around rc14Around t.qA,sF true G31 ra14Bags rc14Bags t.qE,sF true G29 ra14Alive rc14Alive t.qy,zh true [] [] ([]:List qH),zh true rF14Bags rx14Bags t.qE,sF false qY qC qB s.qw,sF false xF qN qJ s.qx,sF false xN qU qP t.qy,sF false zq xm xh t.qE,sF false xE qM qL t.qA]:=H
 replace H:=H.nilRow 22 1
 replace H:=H.vP (α:=yLI)
 refine zo (fun m' ρ w36=>∃ (xP:Env) (a_from:yOA) (n_from:Nat) (c_from:Nat) (from_:yLI) (i:Nat) (jU:yOA) (jA:Nat) (jB:Nat) (g_States:List qH) (Vz:List Value) (Q7:yLN) (jP:yOA) (jC:Nat) (jO:Nat) (g_Next:yLL) (XK:List Value) (jX:yLN),ρ=upd (upd (upd (upd (upd xP 0 (pp b1 0)) 4 (pp b12 0)) 7 (pp b24 0)) 8 (.slice a_from n_from c_from)) 9 (yI i)∧(grRes s t=grGo s (302 - i) i g_States g_Next)∧(∀ u∈g_States,zH s u)∧(0 < g_States.length∧g_States.length≤300)∧(g_Next.length=i)∧(i≤g_States.length)∧(GrOk g_States g_Next)∧(from_.length=g_States.length)∧m' =(301 - i)∧Fresh w.heap.size [Q7,jX]∧St w w36 [rr jP jC jO 22 1 XK,rr a_from n_from c_from 2 1 (from_.map (Value.int .i64)),.box b24 [.slice jU jA jB,.slice jP jC jO] 59,rr jU jA jB 38 3 Vz,.box b12 [yN,yN] 59,.box b5 [yN,yN] 59,.box b3 (yT t qU qP xm xh qM qL) 38,.box b1 (yS s qC qB qN qJ) 36] [zh true jX XK g_Next,zh true Q7 Vz g_States,sF false qY qC qB s.qw,sF false xF qN qJ s.qx,sF false xN qU qP t.qy,sF false zq xm xh t.qE,sF false xE qM qL t.qA]) ((301 - 0)) ⟨_,(aa b27 0),1,1,[(-1)],0,(aa b22 0),1,1,[t],(yT t ra14Alive rc14Alive ra14Bags rc14Bags ra14Around rc14Around),([]++(G29++G31++G34)),none,0,0,([]:yLL),[],[],uE5,(by rfl),(by exact fun u hu=>by obtain rfl:=List.mem_singleton.1 hu;exact k2),qm,(by rfl),qm,(by exact GrOk.start t),(by rfl),rfl,(N.emp.pick [1,0]),H.pick [0,1,2,3,7,8,9,10] [0,1,7,8,9,10,11]⟩ ?_
 clear H N
 rintro m' ρ w37 ⟨xP,a_from,n_from,c_from,from_,i,jU,jA,jB,g_States,Vz,Q7,jP,jC,jO,g_Next,XK,jX,rfl,kr,ka,kl,kn,ki,ko,kf,rfl,N,H⟩
 have hn_from:=H.YG 1 rfl
 have hn_g_States:=H.zl (α:=qH) 3 rfl 1 rfl qj
 have hn_g_Next:=H.zl (α:=yLI) 0 rfl 0 rfl qj
 refine zcc (sp (yI i) (oF rfl (oL rfl (H.cell 2 rfl rfl) (oN rfl (sp (.bool (decide ((i:Int) < jA))) (zjn (cD rfl (fun h38=>?_) (fun h38=>?_))))))))
 ·skip
  refine qV (t_n (xO (qW (zcr (oF rfl (oL rfl (H.cell 2 rfl rfl) (sp (yI i) ?_)))))))
  obtain ⟨b39,rfl⟩:=H.Qz 3 rfl qf
  obtain ⟨ae40Alive,ce40Alive,Fe40Alive,ae40Bags,ce40Bags,Fe40Bags,ae40Around,ce40Around,Fe40Around,hx41,H⟩:=H.rowel_StateD 3 rfl 1 rfl (iv:=i) i qf qf
  refine oI rfl rfl (sw (xY [.slice ae40Alive (((g_States[i]!).qy).length) ce40Alive,.slice ae40Bags (((g_States[i]!).qE).length) ce40Bags,.slice ae40Around (((g_States[i]!).qA).length) ce40Around] isAgg38 sizeOf38 rfl (qF (fun j v hj=>H.rowGet 3 rfl (hx41 j v hj)) 0 3) (sw (xX H ti38 [yN,yN,yN] fun b42 w43 H=>sw (zt H 0 [.slice ae40Alive (((g_States[i]!).qy).length) ce40Alive,.slice ae40Bags (((g_States[i]!).qE).length) ce40Bags,.slice ae40Around (((g_States[i]!).qA).length) ce40Around] sizeOf38 fun w44 H=>zjc ?_)))))
  refine sp (pp b1 0) ?_
  have ks:=ka (g_States[i]!) (mem_at (k:=i) qf rfl)
  have nl:=succ_len s (g_States[i]!)
  have sz48:=H.base.size
  have lt49:=H.ltN (L:=[Q7,jX]) [4,3]
  refine sw (oc (l03Succ_ok _ s (g_States[i]!) (qF (H.cells 8 rfl) 0 3) (H.get 5 rfl).1 (H.get 6 rfl).1 (qF (H.cells 0 rfl) 0 3) (H.get 0 rfl).1 (H.get 1 rfl).1 (H.get 2 rfl).1 qg qg) ?_)
  rintro _ w46 ⟨ra45a,rn45a,rc45a,rx45a,rF45a,rfl,M,K⟩ _
  replace N:=N.merge sz48 lt49 M
  replace H:=H.merge K M
  obtain rfl:=H.zl (α:=qH) 0 rfl 0 rfl qj
  refine sps [.tuple #[.slice ra45a (((qX s (g_States[i]!)).1).length) rc45a,yI ((qX s (g_States[i]!)).2)],.slice ra45a (((qX s (g_States[i]!)).1).length) rc45a,yI ((qX s (g_States[i]!)).2),.slice ra45a (((qX s (g_States[i]!)).1).length) rc45a,yI ((qX s (g_States[i]!)).2)] (zjcc (sps [yI ((qX s (g_States[i]!)).2),.bool (((qX s (g_States[i]!)).2:Int) != 0)] (zjn (xH (((qX s (g_States[i]!)).2:Int) != 0) rfl (fun h51=>?_) (fun h51=>?_)))))
  ·skip
   replace h51:=bne_iff_ne.1 h51
   refine zcr (sw (jr [yN,yN] [] (sps [.slice a_from n_from c_from,yI ((qX s (g_States[i]!)).2)] (sw (zt H 6 [yN,yN] sizeOf59 fun w52 H=>sps [.slice a_from n_from c_from,yI ((qX s (g_States[i]!)).2)] (zjr (t_r (zr5 (retC3 H 6 rfl (.slice a_from n_from c_from) (yI ((qX s (g_States[i]!)).2)) rfl isAgg59 sizeOf59 rfl rfl rfl ⟨_,rfl,?_⟩)))))))))
   replace H:=H.erases [6,5,4,2,1,0]
   dsimp only [vX,List.eraseIdx] at H
   refine sps [.tuple #[.agg #[yN,yN],.slice a_from n_from c_from,yI ((qX s (g_States[i]!)).2)],.agg #[yN,yN],.slice a_from n_from c_from,yI ((qX s (g_States[i]!)).2)] (sw (xX H ti59 [yN,yN] fun b53 w54 H=>sw (zt H 0 [yN,yN] sizeOf59 fun w55 H=>sps [.slice a_from n_from c_from,yI ((qX s (g_States[i]!)).2)] (zjc (sw (xY [yN,yN] isAgg59 sizeOf59 rfl (qF (H.cells 0 rfl) 0 2) (sp (yI ((qX s (g_States[i]!)).2)) ?_)))))))
   refine sw (zt H 2 [yN,yN] sizeOf59 fun w56 H=>sp (yI ((qX s (g_States[i]!)).2)) (zjr ?_))
   replace H:=H.addNil (α:=qH)
   replace H:=H.addNil (α:=yLI)
   refine retC2 H 2 rfl (yI ((qX s (g_States[i]!)).2)) rfl isAgg59 sizeOf59 rfl rfl ⟨_,rfl,?_,H.base⟩
   obtain ⟨z1,z2⟩:=exG_of (ex_0 k0 (kr.trans (gr_code qf qf ql)))
   rw [z1,z2]
   exact ⟨none,0,[],none,0,[],rfl,(N.emp.emp.pick [0,1]),H.pick [] [1,0]⟩
  replace h51:=xq h51
  refine qV (t_n (zcr (sw (vT H underlying22 ti2 fun b57 w58 H=>sp (.slice (aa b57 0) 0 0) (zjcc (sp (yI 0) (zjn (qW ?_))))))))
  have H0:=H
  obtain ⟨G59,hg61,hn60,H⟩:=H.QI (α:=qH) 1 rfl 0 rfl qj
  replace N:Fresh w.heap.size [G59,Q7,jX]:=Fresh.ice N H0 1 hg61.1 hg61.2 (H0.jQ [5,4])
  clear H0
  obtain ⟨xs62,B63,P64,N,H⟩:=H.pool (α:=qH) 0 rfl N
  replace H:=H.boxRowI 0 [] 0
  refine zo (fun m' ρ w65=>∃ (xP:Env) (Vm:yOA) (Xx:Nat) (Vf:Nat) (from__1:yLI) (a_row:yOA) (n_row:Nat) (c_row:Nat) (row:yLI) (k:Nat) (yh:yOA) (zQ:Nat) (yf:Nat) (g_States_1:List qH) (jY:List Value) (vM:yLN) (P_k:yLN),ρ=upd (upd (upd (upd (upd (upd (upd (upd xP 0 (pp b1 0)) 4 (pp b12 0)) 7 (pp b24 0)) 8 (.slice Vm Xx Vf)) 9 (yI i)) 11 (.slice ra45a (((qX s (g_States[i]!)).1).length) rc45a)) 13 (.slice a_row n_row c_row)) 14 (yI k)∧row=(zV g_States (qX s (g_States[i]!)).1 k).2∧g_States_1=(zV g_States (qX s (g_States[i]!)).1 k).1∧((k:Int)≤(((qX s (g_States[i]!)).1).length))∧(from__1.length=(zV g_States (qX s (g_States[i]!)).1 k).1.length)∧m' =((((qX s (g_States[i]!)).1).length) - (k:Int)).toNat∧Fresh w.heap.size [jX,vM,P_k]∧St w w65 [rr a_row n_row c_row 2 1 (row.map (Value.int .i64)),.box b42 [.slice ae40Alive (((g_States[i]!).qy).length) ce40Alive,.slice ae40Bags (((g_States[i]!).qE).length) ce40Bags,.slice ae40Around (((g_States[i]!).qA).length) ce40Around] 38,rr jP jC jO 22 1 XK,rr Vm Xx Vf 2 1 (from__1.map (Value.int .i64)),.box b24 [.slice yh zQ yf,.slice jP jC jO] 59,rr yh zQ yf 38 3 jY,.box b12 [yN,yN] 59,.box b5 [yN,yN] 59,.box b3 (yT t qU qP xm xh qM qL) 38,.box b1 (yS s qC qB qN qJ) 36] [zh true P_k (xs62.drop (k * 3)) (((qX s (g_States[i]!)).1).drop k),cellsF B63 (.slice ra45a (((qX s (g_States[i]!)).1).length) rc45a) xs62,sF true G59 ra45a rc45a ((qX s (g_States[i]!)).1),sF true Fe40Alive ae40Alive ce40Alive ((g_States[i]!).qy),sF true Fe40Bags ae40Bags ce40Bags ((g_States[i]!).qE),sF true Fe40Around ae40Around ce40Around ((g_States[i]!).qA),zh true jX XK g_Next,zh true vM jY g_States_1,sF false qY qC qB s.qw,sF false xF qN qJ s.qx,sF false xN qU qP t.qy,sF false zq xm xh t.qE,sF false xE qM qL t.qA]) (((((qX s (g_States[i]!)).1).length) - (0:Int)).toNat) ⟨_,a_from,n_from,c_from,from_,(aa b57 0),0,0,([]:yLI),0,(aa b39 0),jA,jB,g_States,Vz,Q7,P64,uE8,(by rfl),(by rfl),qf,ql,rfl,(N.pick [2,1,0]),H.pick [0,2,3,4,5,6,7,8,9,10] [0,1,2,4,5,6,7,8,9,10,11,12,13]⟩ ?_
  clear H N
  rintro m' ρ w66 ⟨xP,Vm,Xx,Vf,from__1,a_row,n_row,c_row,row,k,yh,zQ,yf,g_States_1,jY,vM,P_k,rfl,rfl,rfl,i0,kf2,rfl,N,H⟩
  have hn_from:=H.YG 3 rfl
  have hn_row:=H.YG 0 rfl
  have hn_g_States:=H.zl (α:=qH) 5 rfl 7 rfl qj
  obtain ⟨al1,al2,al3⟩:=addSt_len (S:=g_States) (nx:=(qX s (g_States[i]!)).1) k
  refine zcc (sps [yI k,.slice ra45a (((qX s (g_States[i]!)).1).length) rc45a] (oN rfl (sp (.bool (decide ((k:Int) < (((qX s (g_States[i]!)).1).length)))) (zjn (cD rfl (fun h67=>?_) (fun h67=>?_))))))
  ·skip
   obtain ⟨b68,o69,rfl⟩:=H.addr 2 rfl qf
   obtain ⟨ae71Alive,ce71Alive,Fe71Alive,ae71Bags,ce71Bags,Fe71Bags,VK,VE,Fe71Around,P72,N,H⟩:=H.drain_StateD 1 rfl 0 rfl ((N.pick [2,0,1]):Fresh w.heap.size [P_k,jX,vM]) k k qf qf qf
   refine qV (t_n (xO (qW (xO ?_))))
   refine jd rfl H fun H=>tF 0 rfl rfl H ?_
   refine tL 1 rfl rfl (fun _ h=>h.cell 4 rfl rfl) H ?_
   refine rtp 2 (.slice (aa b68 o69) (((qX s (g_States[i]!)).1).length) rc45a) H ?_
   refine rtp 3 (yI k) H ?_
   refine tI 4 rfl rfl rfl H ?_
   refine ro 5 rfl ?_
   obtain ⟨G74,hn75,h76⟩:=H.rowIsR (α:=qH) 5 rfl 12 rfl qj
   refine oq (args_eq (by rw [← hn75]) (l03Find_ok _ ((zV g_States (qX s (g_States[i]!)).1 k).1) (((qX s (g_States[i]!)).1)[k]!) (hn75▸h76) (qF (H.get 3 rfl) 0 3) (H.get 0 rfl).1 (H.get 1 rfl).1 (H.get 2 rfl).1)) H fun w78 H=>⟨H,(rtp 6 (yI (firstIdx (fun zz=>decide (((zV g_States (qX s (g_States[i]!)).1 k).1)[zz]! =(((qX s (g_States[i]!)).1)[k]!))) ((zV g_States (qX s (g_States[i]!)).1 k).1).length)) H ?_)⟩
   refine xM qh (t_n (zcc (sps [yI (firstIdx (fun zz=>decide (((zV g_States (qX s (g_States[i]!)).1 k).1)[zz]! =(((qX s (g_States[i]!)).1)[k]!))) ((zV g_States (qX s (g_States[i]!)).1 k).1).length),.bool (decide ((firstIdx (fun zz=>decide (((zV g_States (qX s (g_States[i]!)).1 k).1)[zz]! =(((qX s (g_States[i]!)).1)[k]!))) ((zV g_States (qX s (g_States[i]!)).1 k).1).length:Int) < 0))] (zjn (cD rfl (fun h80=>?_) (fun h80=>?_))))))
   ·skip
    refine zcr (oF rfl (oL rfl (H.cell 4 rfl rfl) (oN rfl (sp (yI zQ) (zjn (xO ?_))))))
    refine c_cut (fun ρ w83=>∃ (xP:Env) (a81:yOA) (c82:Nat),ρ=upd (upd (upd (upd (upd (upd (upd (upd (upd xP 0 (pp b1 0)) 4 (pp b12 0)) 7 (pp b24 0)) 8 (.slice Vm Xx Vf)) 9 (yI i)) 11 (.slice (aa b68 o69) (((qX s (g_States[i]!)).1).length) rc45a)) 13 (.slice a_row n_row c_row)) 14 (yI k)) 15 (yI zQ)∧Fresh w.heap.size [(vM++(Fe71Alive++Fe71Bags++Fe71Around)),P72,jX]∧St w w83 [rr a_row n_row c_row 2 1 (((zV g_States (qX s (g_States[i]!)).1 k).2).map (Value.int .i64)),.box b42 [.slice ae40Alive (((g_States[i]!).qy).length) ce40Alive,.slice ae40Bags (((g_States[i]!).qE).length) ce40Bags,.slice ae40Around (((g_States[i]!).qA).length) ce40Around] 38,rr jP jC jO 22 1 XK,rr Vm Xx Vf 2 1 (from__1.map (Value.int .i64)),.box b24 [.slice a81 (zQ+1) c82,.slice jP jC jO] 59,rr a81 (zQ+1) c82 38 3 (jY++[.slice ae71Alive (((((qX s (g_States[i]!)).1)[k]!).qy).length) ce71Alive,.slice ae71Bags (((((qX s (g_States[i]!)).1)[k]!).qE).length) ce71Bags,.slice VK (((((qX s (g_States[i]!)).1)[k]!).qA).length) VE]),.box b12 [yN,yN] 59,.box b5 [yN,yN] 59,.box b3 (yT t qU qP xm xh qM qL) 38,.box b1 (yS s qC qB qN qJ) 36] [zh true (vM++(Fe71Alive++Fe71Bags++Fe71Around)) (jY++[.slice ae71Alive (((((qX s (g_States[i]!)).1)[k]!).qy).length) ce71Alive,.slice ae71Bags (((((qX s (g_States[i]!)).1)[k]!).qE).length) ce71Bags,.slice VK (((((qX s (g_States[i]!)).1)[k]!).qA).length) VE]) (((zV g_States (qX s (g_States[i]!)).1 k).1)++[⟨(((qX s (g_States[i]!)).1)[k]!).qy,(((qX s (g_States[i]!)).1)[k]!).qE,(((qX s (g_States[i]!)).1)[k]!).qA⟩]),sF true Fe71Alive ae71Alive ce71Alive ((((qX s (g_States[i]!)).1)[k]!).qy),sF true Fe71Bags ae71Bags ce71Bags ((((qX s (g_States[i]!)).1)[k]!).qE),sF true Fe71Around VK VE ((((qX s (g_States[i]!)).1)[k]!).qA),atF b68 (o69+(k:Int).toNat * 3) [.slice ae71Alive (((((qX s (g_States[i]!)).1)[k]!).qy).length) ce71Alive,.slice ae71Bags (((((qX s (g_States[i]!)).1)[k]!).qE).length) ce71Bags,.slice VK (((((qX s (g_States[i]!)).1)[k]!).qA).length) VE],zh true P72 (xs62.drop ((k+1) * 3)) (((qX s (g_States[i]!)).1).drop (k+1)),zh true P_k (xs62.drop (k * 3)) (((qX s (g_States[i]!)).1).drop k),cellsF B63 (.slice (aa b68 o69) (((qX s (g_States[i]!)).1).length) rc45a) xs62,sF true G59 (aa b68 o69) rc45a ((qX s (g_States[i]!)).1),sF true Fe40Alive ae40Alive ce40Alive ((g_States[i]!).qy),sF true Fe40Bags ae40Bags ce40Bags ((g_States[i]!).qE),sF true Fe40Around ae40Around ce40Around ((g_States[i]!).qA),zh true jX XK g_Next,sF false qY qC qB s.qw,sF false xF qN qJ s.qx,sF false xN qU qP t.qy,sF false zq xm xh t.qE,sF false xE qM qL t.qA]) ?_ ?_
    ·skip
     refine Qu rfl H [0,1,2,3,6,7,8,9] fun H=>?_
     have S:=H.yD [0,1,2,3,6,7,8,9] [0,1,2,3,4,5,6,7,8,9,10,11,12,13,14,15,16,17]
     refine tF 0 rfl rfl S ?_
     refine rtp 2 (.slice (aa b68 o69) (((qX s (g_States[i]!)).1).length) rc45a) S ?_
     refine rtp 3 (yI k) S ?_
     refine tI 4 rfl rfl rfl S ?_
     refine rt 5 (.agg #[.slice ae71Alive (((((qX s (g_States[i]!)).1)[k]!).qy).length) ce71Alive,.slice ae71Bags (((((qX s (g_States[i]!)).1)[k]!).qE).length) ce71Bags,.slice VK (((((qX s (g_States[i]!)).1)[k]!).qA).length) VE]) (Qy (cs:=[.slice ae71Alive (((((qX s (g_States[i]!)).1)[k]!).qy).length) ce71Alive,.slice ae71Bags (((((qX s (g_States[i]!)).1)[k]!).qE).length) ce71Bags,.slice VK (((((qX s (g_States[i]!)).1)[k]!).qA).length) VE]) isAgg38 sizeOf38 rfl (fun _ h=>qF (h.get 3 rfl) 0 3)) S ?_
     refine jo [1,6] qh qm (Qj rfl ?_ (Qj rfl ?_ jq))
     ·skip
      refine zK (.slice yh zQ yf) isAgg47 rfl (H.cell 4 rfl rfl) (⟨H.pick [0,1,2,3,6,7,8,9] [0,1,2,3,4,5,6,7,8,9,10,11,12,13,14,15,16,17],(ro 6 rfl (zG H underlying47 ti38 [.slice ae71Alive (((((qX s (g_States[i]!)).1)[k]!).qy).length) ce71Alive,.slice ae71Bags (((((qX s (g_States[i]!)).1)[k]!).qE).length) ce71Bags,.slice VK (((((qX s (g_States[i]!)).1)[k]!).qA).length) VE] fun b85 w86 H=>⟨H.pick [1,2,3,4,7,8,9,10] [0,1,2,3,4,5,6,7,8,9,10,11,12,13,14,15,16,17],(ro 7 rfl ?_)⟩))⟩)
      refine zN H 6 rfl 0 rfl underlying47 ti38 rfl qj rfl rfl rfl (by simp [Value.oneCell',Value.cells]) qp qf fun a87 c88 w89 H=>?_
      replace H:=H.XN 12 rfl 0 rfl 1 rfl 2 rfl
      replace N:Fresh w.heap.size [(vM++(Fe71Alive++Fe71Bags++Fe71Around)),P72,jX]:=(N.pick [0,1,2,5,3,4]).join.join.swap.join
      refine ⟨H.pick [1,2,3,4,7,8,9,10] [1,2,3,4,5,6,7,8,9,10,11,12,13,14,15,16,17,18],(tF 8 rfl rfl (H.pick [1,2,3,4,7,8,9,10] [1,2,3,4,5,6,7,8,9,10,11,12,13,14,15,16,17,18]) ?_)⟩
      refine ro 9 rfl (zF H 5 [.slice a87 (zQ+1) c88,.slice jP jC jO] sizeOf47 fun w90 H=>⟨H.pick [1,2,3,4,7,8,9,10] [1,2,3,4,5,6,7,8,9,10,11,12,13,14,15,16,17,18],(xM qh ((meet ⟨_,a87,c88,uE9,N,H.pick [1,2,3,4,5,6,7,8,9,10] [0,1,2,3,4,5,6,7,8,9,10,11,12,14,15,16,17,18]⟩)))⟩)
     refine zG H underlying47 ti38 [.slice ae71Alive (((((qX s (g_States[i]!)).1)[k]!).qy).length) ce71Alive,.slice ae71Bags (((((qX s (g_States[i]!)).1)[k]!).qE).length) ce71Bags,.slice VK (((((qX s (g_States[i]!)).1)[k]!).qA).length) VE] fun b91 w92 H=>⟨H.pick [1,2,3,4,7,8,9,10] [0,1,2,3,4,5,6,7,8,9,10,11,12,13,14,15,16,17],(ro 1 rfl (zK (.slice yh zQ yf) isAgg47 rfl (H.cell 5 rfl rfl) (⟨H.pick [1,2,3,4,7,8,9,10] [0,1,2,3,4,5,6,7,8,9,10,11,12,13,14,15,16,17],(ro 7 rfl ?_)⟩)))⟩
     refine zN H 6 rfl 0 rfl underlying47 ti38 rfl qj rfl rfl rfl (by simp [Value.oneCell',Value.cells]) qp qf fun a93 c94 w95 H=>?_
     replace H:=H.XN 12 rfl 0 rfl 1 rfl 2 rfl
     replace N:Fresh w.heap.size [(vM++(Fe71Alive++Fe71Bags++Fe71Around)),P72,jX]:=(N.pick [0,1,2,5,3,4]).join.join.swap.join
     refine ⟨H.pick [1,2,3,4,7,8,9,10] [1,2,3,4,5,6,7,8,9,10,11,12,13,14,15,16,17,18],(tF 8 rfl rfl (H.pick [1,2,3,4,7,8,9,10] [1,2,3,4,5,6,7,8,9,10,11,12,13,14,15,16,17,18]) ?_)⟩
     refine ro 9 rfl (zF H 5 [.slice a93 (zQ+1) c94,.slice jP jC jO] sizeOf47 fun w96 H=>⟨H.pick [1,2,3,4,7,8,9,10] [1,2,3,4,5,6,7,8,9,10,11,12,13,14,15,16,17,18],(xM qh ((meet ⟨_,a93,c94,uE9,N,H.pick [1,2,3,4,5,6,7,8,9,10] [0,1,2,3,4,5,6,7,8,9,10,11,12,14,15,16,17,18]⟩)))⟩)
    clear H N
    rintro ρ w97 ⟨xP,a81,c82,rfl,N,H⟩
    refine t_n (xR (sps [.slice Vm Xx Vf,yI i] (sw (zG H underlying22 ti2 [yI i] fun b98 w99 H=>sw (zN H 4 rfl 0 rfl underlying22 ti2 rfl qj rfl rfl rfl (by simp [Value.oneCell',Value.cells]) qp qf fun a100 c101 w102 H=>?_)))))
    rw [snocI] at H
    refine sp (.slice a100 (Xx+1) c101) (zjn (xR (sps [.slice a_row n_row c_row,yI zQ] (sw (zG H underlying22 ti2 [yI zQ] fun b103 w104 H=>sw (zN H 2 rfl 0 rfl underlying22 ti2 rfl qj rfl rfl rfl (by simp [Value.oneCell',Value.cells]) qp qf fun a105 c106 w107 H=>?_))))))
    rw [snocI] at H
    refine sp (.slice a105 (n_row+1) c106) (xU (b_n (t_n (xR (sp (yI k) (sw (zu k 1 rfl rfl qf (sp (yI (k+1)) (xU ?_)))))))))
    refine qZ (m' :=((((qX s (g_States[i]!)).1).length) - ((k+1):Int)).toNat) qf ⟨_,a100,Xx+1,c101,(from__1++[(i:Int)]),a105,n_row+1,c106,(((zV g_States (qX s (g_States[i]!)).1 k).2)++[(zQ:Int)]),k+1,a81,zQ+1,c82,(((zV g_States (qX s (g_States[i]!)).1 k).1)++[⟨(((qX s (g_States[i]!)).1)[k]!).qy,(((qX s (g_States[i]!)).1)[k]!).qE,(((qX s (g_States[i]!)).1)[k]!).qA⟩]),jY++[.slice ae71Alive (((((qX s (g_States[i]!)).1)[k]!).qy).length) ce71Alive,.slice ae71Bags (((((qX s (g_States[i]!)).1)[k]!).qE).length) ce71Bags,.slice VK (((((qX s (g_States[i]!)).1)[k]!).qA).length) VE],(vM++(Fe71Alive++Fe71Bags++Fe71Around)),P72,uE8,?_,?_,?_,?_,rfl,(N.pick [2,0,1]),H.pick [2,3,4,5,6,7,8,9,10,11] [5,7,8,9,10,11,12,0,13,14,15,16,17]⟩
    · first | exact (Yn (k:=k) ‹_›).2 | (refine Eq.trans ?_ (Yo (k:=k) ‹_›).2;congr 2 <;> omega)
    · first | exact (Yo (k:=k) ‹_›).1 | exact (Yn (k:=k) ‹_›).1
    · omega
    · first | (rw [← (Yo (k:=k) ‹_›).1,List.length_append,List.length_append];exact congrArg (·+1) kf2) | (rw [← (Yn (k:=k) ‹_›).1];omega)
   refine qV (t_n (xR (sps [.slice a_row n_row c_row,yI (firstIdx (fun zz=>decide (((zV g_States (qX s (g_States[i]!)).1 k).1)[zz]! =(((qX s (g_States[i]!)).1)[k]!))) ((zV g_States (qX s (g_States[i]!)).1 k).1).length)] (sw (zG H underlying22 ti2 [yI (firstIdx (fun zz=>decide (((zV g_States (qX s (g_States[i]!)).1 k).1)[zz]! =(((qX s (g_States[i]!)).1)[k]!))) ((zV g_States (qX s (g_States[i]!)).1 k).1).length)] fun b108 w109 H=>?_)))))
   refine sw (zN H 1 rfl 0 rfl underlying22 ti2 rfl qj rfl rfl rfl (by simp [Value.oneCell',Value.cells]) qp qf fun a110 c111 w112 H=>?_)
   rw [snocI] at H
   refine sp (.slice a110 (n_row+1) c111) (xU (b_n (t_n (xR (sp (yI k) (sw (zu k 1 rfl rfl qf (sp (yI (k+1)) (xU ?_)))))))))
   refine qZ (m' :=((((qX s (g_States[i]!)).1).length) - ((k+1):Int)).toNat) qf ⟨_,Vm,Xx,Vf,from__1,a110,n_row+1,c111,(((zV g_States (qX s (g_States[i]!)).1 k).2)++[firstIdx (fun zz=>decide (((zV g_States (qX s (g_States[i]!)).1 k).1)[zz]! =(((qX s (g_States[i]!)).1)[k]!))) ((zV g_States (qX s (g_States[i]!)).1 k).1).length]),k+1,yh,zQ,yf,((zV g_States (qX s (g_States[i]!)).1 k).1),jY,vM,P72,uE8,?_,?_,?_,?_,rfl,(N.pick [4,5,3]),H.pick [1,2,3,4,5,6,7,8,9,10] [4,6,7,8,9,10,11,12,13,14,15,16,17]⟩
   · first | exact (Yn (k:=k) ‹_›).2 | (refine Eq.trans ?_ (Yo (k:=k) ‹_›).2;congr 2 <;> omega)
   · first | exact (Yo (k:=k) ‹_›).1 | exact (Yn (k:=k) ‹_›).1
   · omega
   · first | (rw [← (Yo (k:=k) ‹_›).1,List.length_append,List.length_append];exact congrArg (·+1) kf2) | (rw [← (Yn (k:=k) ‹_›).1];omega)
  refine zx4 (zcr (oF rfl (oL rfl (H.cell 4 rfl rfl) (sp (.slice a_row n_row c_row) (sw (zG H underlying27 ti22 [.slice a_row n_row c_row] fun b113 w114 H=>?_))))))
  obtain ⟨G118,N,hn119,H⟩:=H.vW 1 rfl N (H.jQ [6,7,0])
  refine sw (zN H 3 rfl 0 rfl underlying27 ti22 rfl qj rfl rfl rfl (by simp [Value.oneCell',Value.cells]) qp qf fun a115 c116 w117 H=>?_)
  replace H:=H.yB 7 rfl 0 rfl
  replace N:Fresh w.heap.size [(jX++G118),vM,P_k]:=(N.pick [1,0,2,3]).join
  refine oF rfl (sw (zF H 5 [.slice yh zQ yf,.slice a115 (jC+1) c116] sizeOf27 fun w120 H=>zjc (oF rfl (oL rfl (H.cell 5 rfl rfl) (oN rfl (sp (.bool (decide ((zQ:Int) > 300))) (zjn (cD rfl (fun h121=>?_) (fun h121=>?_)))))))))
  ·skip
   refine zcr (sw (jr [yN,yN] [] (sp (.slice Vm Xx Vf) (sw (zt H 7 [yN,yN] sizeOf59 fun w122 H=>sps [.slice Vm Xx Vf,yI 3] (zjr (zr5 (retC3 H 7 rfl (.slice Vm Xx Vf) (yI 3) rfl isAgg59 sizeOf59 rfl rfl rfl ⟨_,rfl,?_⟩))))))))
   replace H:=H.erases [7,6,5,3,2,1,0]
   dsimp only [vX,List.eraseIdx] at H
   refine sps [.tuple #[.agg #[yN,yN],.slice Vm Xx Vf,yI 3],.agg #[yN,yN],.slice Vm Xx Vf,yI 3] (sw (xX H ti59 [yN,yN] fun b123 w124 H=>sw (zt H 0 [yN,yN] sizeOf59 fun w125 H=>sps [.slice Vm Xx Vf,yI 3] (zjc (sw (xY [yN,yN] isAgg59 sizeOf59 rfl (qF (H.cells 0 rfl) 0 2) (sp (yI 3) (sw (zt H 2 [yN,yN] sizeOf59 fun w126 H=>sp (yI 3) ?_)))))))))
   refine zjr ?_
   replace H:=H.addNil (α:=qH)
   replace H:=H.addNil (α:=yLI)
   refine retC2 H 2 rfl (yI 3) rfl isAgg59 sizeOf59 rfl rfl ⟨_,rfl,?_,H.base⟩
   obtain ⟨z1,z2⟩:=exG_of (ex_0 k0 (kr.trans (gr_many qf qf qf (k:=k) qf qf)))
   rw [z1,z2]
   exact ⟨none,0,[],none,0,[],rfl,(N.emp.emp.pick [0,1]),H.pick [] [1,0]⟩
  refine qV (b_n (t_n (xR (sp (yI i) (sw (zu i 1 rfl rfl qf (sp (yI (i+1)) (xU (qZ (m' :=(301 - (i+1))) qf ⟨_,Vm,Xx,Vf,from__1,i+1,yh,zQ,yf,((zV g_States (qX s (g_States[i]!)).1 k).1),jY,vM,a115,jC+1,c116,(g_Next++[((zV g_States (qX s (g_States[i]!)).1 k).2)]),XK++[.slice a_row n_row c_row],(jX++G118),uE5,?_,?_,?_,?_,?_,?_,?_,rfl,(N.pick [1,0]),H.pick [3,4,5,6,7,8,9,10] [0,9,10,11,12,13,14]⟩)))))))))
  · exact kr.trans (gr_go qf qf qf (k:=k) qf qf)
  · exact addSt_mem ka succ_ok k qf
  · omega
  · simp;omega
  · omega
  · exact ko.next qf qf
  · omega
 refine zx4 (zcr (sw (xY [.slice jU jA jB,.slice jP jC jO] isAgg59 sizeOf59 rfl (qF (H.cells 2 rfl) 0 2) (sp (.slice a_from n_from c_from) (sw (zt H 4 [.slice jU jA jB,.slice jP jC jO] sizeOf59 fun w127 H=>sps [.slice a_from n_from c_from,yI 0] (zjr (retC3 H 4 rfl (.slice a_from n_from c_from) (yI 0) rfl isAgg59 sizeOf59 rfl rfl rfl ⟨_,rfl,?_⟩))))))))
 replace H:=H.erases [4,2]
 dsimp only [vX,List.eraseIdx] at H
 refine sps [.tuple #[.agg #[.slice jU jA jB,.slice jP jC jO],.slice a_from n_from c_from,yI 0],.agg #[.slice jU jA jB,.slice jP jC jO],.slice a_from n_from c_from,yI 0] (sw (xX H ti59 [yN,yN] fun b128 w129 H=>sw (zt H 0 [.slice jU jA jB,.slice jP jC jO] sizeOf59 fun w130 H=>sps [.slice a_from n_from c_from,yI 0] (zjc ?_))))
 refine sw (xY [.slice jU jA jB,.slice jP jC jO] isAgg59 sizeOf59 rfl (qF (H.cells 0 rfl) 0 2) (sp (yI 0) (sw (zt H 4 [.slice jU jA jB,.slice jP jC jO] sizeOf59 fun w131 H=>sp (yI 0) (zjr ?_)))))
 have H0:=H
 obtain ⟨G132,hg134,hn133,H⟩:=H.QI (α:=qH) 3 rfl 1 rfl qj
 replace N:Fresh w.heap.size [G132,jX]:=Fresh.ice N H0 3 hg134.1 hg134.2 (H0.jQ [0])
 clear H0
 obtain rfl:=H.isLen 0 rfl
 have H0:=H
 obtain ⟨G135,hg137,hn136,H⟩:=H.QI (α:=yLI) 1 rfl 1 rfl qj
 replace N:Fresh w.heap.size [G135,G132]:=Fresh.ice (N.pick [1,0]) H0 1 hg137.1 hg137.2 (H0.jQ [0])
 clear H0
 obtain rfl:=H.isLen 0 rfl
 refine retC2 H 4 rfl (yI 0) rfl isAgg59 sizeOf59 rfl rfl ⟨_,rfl,?_,H.base⟩
 obtain ⟨z1,z2⟩:=exG_of (ex_0 k0 (kr.trans (gr_end qf)))
 rw [z1,z2]
 exact ⟨jU,jB,G132,jP,jO,G135,rfl,(N.pick [1,0]),H.pick [] [1,0]⟩

theorem implEx_ok (w:World) (s:qI) (t:qH) {qC:yOA} {qY:yLN} {qN:yOA} {xF:yLN} {qU:yOA} {xN:yLN} {xm:yOA} {zq:yLN} {qM:yOA} {xE:yLN} (xf:qO.rep w qY [.slice qC s.qw.length qB] s.qw) (xI:qO.rep w xF [.slice qN s.qx.length qJ] s.qx) (zg:qO.rep w xN [.slice qU t.qy.length qP] t.qy) (zI:qO.rep w zq [.slice xm t.qE.length xh] t.qE) (xK:qO.rep w xE [.slice qM t.qA.length qL] t.qA):Calls Tryz.prog 41 #[.agg #[yI s.xA,.slice qC s.qw.length qB,.slice qN s.qx.length qJ],.agg #[.slice qU t.qy.length qP,.slice xm t.qE.length xh,.slice qM t.qA.length qL]] w (Ret (fun v w' =>∃ (ra0States:yOA) (rc0States:Nat) (rF0States:yLN) (ra0Next:yOA) (rc0Next:Nat) (rF0Next:yLN),v=.tuple #[.agg #[.slice ra0States (((exG s t).zC).length) rc0States,.slice ra0Next (((exG s t).fNext).length) rc0Next],yI ((XQ s t).2)]∧Fresh w.heap.size [rF0States,rF0Next]∧St w w' [] [sF true rF0States ra0States rc0States ((exG s t).zC),sF true rF0Next ra0Next rc0Next ((exG s t).fNext)]) w):=by
 refine en func41 ntmps41 ?_
 have H:=(((((St.start w).arg xK).arg zI).arg zg).arg xI).arg xf
 have vk:=qK xf
 have jl:=qK xI
 have Qh:=qK zg
 have QW:=qK zI
 have jL:=qK xK
 clear xf xI zg zI xK
 have N:=Fresh.nil w.heap.size
 refine zcr (sw (vG H (yS s qC qB qN qJ) fun b1 w2 H=>sw (vG H (yT t qU qP xm xh qM qL) fun b3 w4 H=>sw (xX H ti59 [yN,yN] fun b5 w6 H=>sp (yI 0) (zjcc (sw (xY (yS s qC qB qN qJ) isAgg36 sizeOf36 rfl (qF (H.cells 2 rfl) 0 3) ?_)))))))
 refine sw (xY (yT t qU qP xm xh qM qL) isAgg38 sizeOf38 rfl (qF (H.cells 1 rfl) 0 3) (sw (oq (validState_ok _ s t (H.get 0 rfl).1 (H.get 1 rfl).1 (H.get 2 rfl).1 (H.get 3 rfl).1 (H.get 4 rfl).1) H fun w8 H=>sp (.bool (!(dec (yj s∧zH s t)))) (zjn (cQ rfl (fun h10=>?_) (fun h10=>?_))))))
 ·skip
  refine zcr (sw (jr [yN,yN] [] (sw (zt H 0 [yN,yN] sizeOf59 fun w11 H=>sp (yI 1) (zjr (t_r ?_))))))
  replace H:=H.addNil (α:=qH)
  replace H:=H.addNil (α:=yLI)
  refine retC2 H 0 rfl (yI 1) rfl isAgg59 sizeOf59 rfl rfl ⟨_,rfl,?_,H.base⟩
  obtain ⟨z1,z2⟩:=exG_of (ex_1 ‹_›)
  rw [z1,z2]
  exact ⟨none,0,[],none,0,[],rfl,N.emp.emp,H.pick [] [1,0]⟩
 have k0:=(‹yj s∧zH s t›:yj s∧zH s t)
 have k1:=k0.1
 have k2:=k0.2
 obtain ⟨q7,q8,q9,q10⟩:=k2.sizes k1.1
 have q13:=fun k hk=>Nat.le_trans (q10 k hk) (by decide:8≤1000000)
 refine qV (t_n (zcr (sw (xY (yS s qC qB qN qJ) isAgg36 sizeOf36 rfl (qF (H.cells 2 rfl) 0 3) (sw (xY (yT t qU qP xm xh qM qL) isAgg38 sizeOf38 rfl (qF (H.cells 1 rfl) 0 3) ?_))))))
 refine sw (vC #[.agg #[yI s.xA,.slice qC s.qw.length qB,.slice qN s.qx.length qJ],.agg #[.slice qU t.qy.length qP,.slice xm t.qE.length xh,.slice qM t.qA.length qL]] rfl rfl call86 (en func86 ntmps86 ?_))
 refine zcr (sw (vG H (yS s qC qB qN qJ) fun b12 w13 H=>sw (vG H (yT t qU qP xm xh qM qL) fun b14 w15 H=>sw (xX H ti59 [yN,yN] fun b16 w17 H=>sp (yI 0) (zjc (sw (xY (yT t qU qP xm xh qM qL) isAgg38 sizeOf38 rfl (qF (H.cells 1 rfl) 0 3) ?_)))))))
 have sz21:=H.base.size
 refine sw (oc (Yc _ t (H.get 2 rfl).1 (H.get 3 rfl).1 (H.get 4 rfl).1 qg qg qg qg) ?_)
 rintro _ w19 ⟨ra18Alive,rn18Alive,rc18Alive,ra18Bags,rn18Bags,rc18Bags,rx18Bags,rF18Bags,ra18Around,rn18Around,rc18Around,rfl,M,K⟩ _
 replace N:=N.merge sz21 qm M
 replace H:=H.merge K M
 obtain rfl:=H.rowNB 0 rfl
 obtain rfl:=H.zl (α:=yLI) 1 rfl 0 rfl qj
 obtain rfl:=H.YG 2 rfl
 refine sw (zG H underlying47 ti38 (yT t ra18Alive rc18Alive ra18Bags rc18Bags ra18Around rc18Around) fun b26 w27 H=>sw (jr [.slice (aa b26 0) 1 1,yN] [(0,.slice (aa b26 0) 1 1)] (sw (xX H ti59 [yN,yN] fun b28 w29 H=>sw (zt H 0 [.slice (aa b26 0) 1 1,yN] sizeOf59 fun w30 H=>zjcc (sp (yI 0) (zjn (qW ?_))))))))
 replace H:=H.boxRow 1 rfl 3 1 rfl qj
 replace H:=H.vP (α:=qH)
 obtain ⟨G31,N,hn32,H⟩:=H.freezeB 2 rfl N (H.jQ [1])
 have H0:=H
 obtain ⟨G33,hg35,hn34,H⟩:=H.QI (α:=yLI) 3 rfl 2 rfl qj
 replace N:Fresh w.heap.size [G33,G31]:=Fresh.ice (N.pick [1,0]) H0 3 hg35.1 hg35.2 (H0.jQ [0])
 clear H0
 obtain ⟨G36,N,hn37,H⟩:=H.vW 4 rfl N (H.jQ [0,1])
 replace H:=H.XN 3 rfl 2 rfl 1 rfl 0 rfl
 replace N:Fresh w.heap.size [([]++(G31++G33++G36))]:=(N.emp.pick [3,2,1,0]).join.join.swap.join
 replace H:St _ _ [.box b28 [.slice (aa b26 0) 1 1,yN] 59,rr (aa b26 0) 1 1 38 3 (yT t ra18Alive rc18Alive ra18Bags rc18Bags ra18Around rc18Around),rr none 0 0 0 1 [],rr none 0 0 0 1 [],rr none 0 0 0 1 [],.box b16 [yN,yN] 59,.box b14 (yT t qU qP xm xh qM qL) 38,.box b12 (yS s qC qB qN qJ) 36,.box b5 [yN,yN] 59,.box b3 (yT t qU qP xm xh qM qL) 38,.box b1 (yS s qC qB qN qJ) 36] [zh true ([]++(G31++G33++G36)) (yT t ra18Alive rc18Alive ra18Bags rc18Bags ra18Around rc18Around) [t],sF true G36 ra18Around rc18Around t.qA,sF true G33 ra18Bags rc18Bags t.qE,sF true G31 ra18Alive rc18Alive t.qy,zh true [] [] ([]:List qH),zh true rF18Bags rx18Bags t.qE,sF false qY qC qB s.qw,sF false xF qN qJ s.qx,sF false xN qU qP t.qy,sF false zq xm xh t.qE,sF false xE qM qL t.qA]:=H
 replace H:=H.nilRow 22 1
 replace H:=H.vP (α:=yLI)
 refine zo (fun m' ρ w38=>∃ (xP:Env) (i:Nat) (jU:yOA) (jA:Nat) (jB:Nat) (g_States:List qH) (Vz:List Value) (Q7:yLN) (jP:yOA) (jC:Nat) (jO:Nat) (g_Next:yLL) (XK:List Value) (jX:yLN),ρ=upd (upd (upd (upd xP 2 (pp b12 0)) 4 (pp b16 0)) 6 (pp b28 0)) 7 (yI i)∧(grRes s t=grGo s (302 - i) i g_States g_Next)∧(∀ u∈g_States,zH s u)∧(0 < g_States.length∧g_States.length≤300)∧(g_Next.length=i)∧(i≤g_States.length)∧(GrOk g_States g_Next)∧m' =(301 - i)∧Fresh w.heap.size [Q7,jX]∧St w w38 [rr jP jC jO 22 1 XK,.box b28 [.slice jU jA jB,.slice jP jC jO] 59,rr jU jA jB 38 3 Vz,.box b16 [yN,yN] 59,.box b14 (yT t qU qP xm xh qM qL) 38,.box b12 (yS s qC qB qN qJ) 36,.box b5 [yN,yN] 59,.box b3 (yT t qU qP xm xh qM qL) 38,.box b1 (yS s qC qB qN qJ) 36] [zh true jX XK g_Next,zh true Q7 Vz g_States,sF false qY qC qB s.qw,sF false xF qN qJ s.qx,sF false xN qU qP t.qy,sF false zq xm xh t.qE,sF false xE qM qL t.qA]) ((301 - 0)) ⟨_,0,(aa b26 0),1,1,[t],(yT t ra18Alive rc18Alive ra18Bags rc18Bags ra18Around rc18Around),([]++(G31++G33++G36)),none,0,0,([]:yLL),[],[],uE4,(by rfl),(by exact fun u hu=>by obtain rfl:=List.mem_singleton.1 hu;exact k2),qm,(by rfl),qm,(by exact GrOk.start t),rfl,(N.emp.pick [1,0]),H.pick [0,1,2,6,7,8,9,10,11] [0,1,7,8,9,10,11]⟩ ?_
 clear H N
 rintro m' ρ w39 ⟨xP,i,jU,jA,jB,g_States,Vz,Q7,jP,jC,jO,g_Next,XK,jX,rfl,kr,ka,kl,kn,ki,ko,rfl,N,H⟩
 have hn_g_States:=H.zl (α:=qH) 2 rfl 1 rfl qj
 have hn_g_Next:=H.zl (α:=yLI) 0 rfl 0 rfl qj
 refine zcc (sp (yI i) (oF rfl (oL rfl (H.cell 1 rfl rfl) (oN rfl (sp (.bool (decide ((i:Int) < jA))) (zjn (cD rfl (fun h40=>?_) (fun h40=>?_))))))))
 ·skip
  have ks:=ka (g_States[i]!) (mem_at (k:=i) qf rfl)
  have nl:=succ_len s (g_States[i]!)
  refine qV (t_n (xO (qW (xO ?_))))
  refine jd rfl H fun H=>rt 0 (.agg #[yI s.xA,.slice qC s.qw.length qB,.slice qN s.qx.length qJ]) (Qy (cs:=(yS s qC qB qN qJ)) isAgg36 sizeOf36 rfl (fun _ h=>qF (h.cells 5 rfl) 0 3)) H ?_
  refine tF 1 rfl rfl H ?_
  refine tL 2 rfl rfl (fun _ h=>h.cell 1 rfl rfl) H ?_
  refine rtp 3 (yI i) H ?_
  obtain ⟨b42,rfl⟩:=H.Qz 2 rfl qf
  obtain ⟨ae43Alive,ce43Alive,Fe43Alive,ae43Bags,ce43Bags,Fe43Bags,ae43Around,ce43Around,Fe43Around,hx44,H⟩:=H.rowel_StateD 2 rfl 1 rfl (iv:=i) i qf qf
  have S:=H.yD [0,1,2,3,4,5,6,7,8] [3,4,5,6,7,8,9]
  refine tI 4 rfl rfl rfl S ?_
  refine rt 5 (.agg #[.slice ae43Alive (((g_States[i]!).qy).length) ce43Alive,.slice ae43Bags (((g_States[i]!).qE).length) ce43Bags,.slice ae43Around (((g_States[i]!).qA).length) ce43Around]) (Qy (cs:=[.slice ae43Alive (((g_States[i]!).qy).length) ce43Alive,.slice ae43Bags (((g_States[i]!).qE).length) ce43Bags,.slice ae43Around (((g_States[i]!).qA).length) ce43Around]) isAgg38 sizeOf38 rfl (fun _ h=>qF (fun j v hj=>h.rowGet 2 rfl (hx44 j v hj)) 0 3)) S ?_
  refine ro 6 rfl ?_
  have sz48:=H.base.size
  have lt49:=H.ltN (L:=[Q7,jX]) [4,3]
  refine oc (nextStates_ok _ s (g_States[i]!) (H.get 5 rfl).1 (H.get 6 rfl).1 (H.get 0 rfl).1 (H.get 1 rfl).1 (H.get 2 rfl).1 qg qg) ?_
  rintro _ w46 ⟨ra45a,rn45a,rc45a,rx45a,rF45a,rfl,M,K⟩ _
  replace N:=N.merge sz48 lt49 M
  replace H:=H.merge K M
  obtain rfl:=H.zl (α:=qH) 0 rfl 0 rfl qj
  refine ⟨H.pick [1,2,3,4,5,6,7,8,9] [4,5,6,7,8,9,10],?_⟩
  have S:=H.yD [1,2,3,4,5,6,7,8,9] [4,5,6,7,8,9,10]
  refine rtp 7 (.tuple #[.slice ra45a (((qX s (g_States[i]!)).1).length) rc45a,yI ((qX s (g_States[i]!)).2)]) S ?_
  refine rtp 8 (.slice ra45a (((qX s (g_States[i]!)).1).length) rc45a) S ?_
  refine rtp 9 (yI ((qX s (g_States[i]!)).2)) S ?_
  refine rtp 10 (.slice ra45a (((qX s (g_States[i]!)).1).length) rc45a) S ?_
  refine rtp 11 (yI ((qX s (g_States[i]!)).2)) S ?_
  refine xM qh (t_n (zcc (sps [yI ((qX s (g_States[i]!)).2),.bool (((qX s (g_States[i]!)).2:Int) != 0)] (zjn (xH (((qX s (g_States[i]!)).2:Int) != 0) rfl (fun h51=>?_) (fun h51=>?_))))))
  ·skip
   replace h51:=bne_iff_ne.1 h51
   refine zcr (sw (jr [yN,yN] [] (sp (yI ((qX s (g_States[i]!)).2)) (sw (zt H 4 [yN,yN] sizeOf59 fun w52 H=>sp (yI ((qX s (g_States[i]!)).2)) (zjr (t_r (zr5 (retC2 H 4 rfl (yI ((qX s (g_States[i]!)).2)) rfl isAgg59 sizeOf59 rfl rfl ⟨_,rfl,?_⟩)))))))))
   replace H:=H.erases [6,5,4,3,2,1,0]
   dsimp only [vX,List.eraseIdx] at H
   refine sps [.agg #[yN,yN],yI ((qX s (g_States[i]!)).2)] (sw (zt H 0 [yN,yN] sizeOf59 fun w53 H=>sp (yI ((qX s (g_States[i]!)).2)) (zjr ?_)))
   replace H:=H.addNil (α:=qH)
   replace H:=H.addNil (α:=yLI)
   refine retC2 H 0 rfl (yI ((qX s (g_States[i]!)).2)) rfl isAgg59 sizeOf59 rfl rfl ⟨_,rfl,?_,H.base⟩
   obtain ⟨z1,z2⟩:=exG_of (ex_0 k0 (kr.trans (gr_code qf qf ql)))
   rw [z1,z2]
   exact ⟨none,0,[],none,0,[],rfl,(N.emp.emp.pick [0,1]),H.pick [] [1,0]⟩
  replace h51:=xq h51
  refine qV (t_n (zcr (sw (vT H underlying22 ti2 fun b54 w55 H=>sp (.slice (aa b54 0) 0 0) (zjcc (sp (.slice ra45a (((qX s (g_States[i]!)).1).length) rc45a) (oN rfl (sp (yI 0) (zjn (qW ?_))))))))))
  have H0:=H
  obtain ⟨G56,hg58,hn57,H⟩:=H.QI (α:=qH) 1 rfl 0 rfl qj
  replace N:Fresh w.heap.size [G56,Q7,jX]:=Fresh.ice N H0 1 hg58.1 hg58.2 (H0.jQ [5,4])
  clear H0
  obtain ⟨xs59,B60,P61,N,H⟩:=H.pool (α:=qH) 0 rfl N
  replace H:=H.boxRowI 0 [] 0
  refine zo (fun m' ρ w62=>∃ (xP:Env) (a_own:yOA) (n_own:Nat) (c_own:Nat) (own:yLI) (k:Nat) (yh:yOA) (zQ:Nat) (yf:Nat) (g_States_1:List qH) (jY:List Value) (vM:yLN) (P_k:yLN),ρ=upd (upd (upd (upd (upd (upd (upd (upd xP 2 (pp b12 0)) 4 (pp b16 0)) 6 (pp b28 0)) 7 (yI i)) 10 (.slice a_own n_own c_own)) 40 (.slice ra45a (((qX s (g_States[i]!)).1).length) rc45a)) 41 (yI (((qX s (g_States[i]!)).1).length))) 42 (yI k)∧own=(zV g_States (qX s (g_States[i]!)).1 k).2∧g_States_1=(zV g_States (qX s (g_States[i]!)).1 k).1∧((k:Int)≤(((qX s (g_States[i]!)).1).length))∧m' =((((qX s (g_States[i]!)).1).length) - (k:Int)).toNat∧Fresh w.heap.size [jX,vM,P_k]∧St w w62 [rr a_own n_own c_own 2 1 (own.map (Value.int .i64)),rr jP jC jO 22 1 XK,.box b28 [.slice yh zQ yf,.slice jP jC jO] 59,rr yh zQ yf 38 3 jY,.box b16 [yN,yN] 59,.box b14 (yT t qU qP xm xh qM qL) 38,.box b12 (yS s qC qB qN qJ) 36,.box b5 [yN,yN] 59,.box b3 (yT t qU qP xm xh qM qL) 38,.box b1 (yS s qC qB qN qJ) 36] [zh true P_k (xs59.drop (k * 3)) (((qX s (g_States[i]!)).1).drop k),cellsF B60 (.slice ra45a (((qX s (g_States[i]!)).1).length) rc45a) xs59,sF true G56 ra45a rc45a ((qX s (g_States[i]!)).1),zh true jX XK g_Next,zh true vM jY g_States_1,sF false qY qC qB s.qw,sF false xF qN qJ s.qx,sF false xN qU qP t.qy,sF false zq xm xh t.qE,sF false xE qM qL t.qA]) (((((qX s (g_States[i]!)).1).length) - (0:Int)).toNat) ⟨_,(aa b54 0),0,0,([]:yLI),0,(aa b42 0),jA,jB,g_States,Vz,Q7,P61,uE8,(by rfl),(by rfl),qf,rfl,(N.pick [2,1,0]),H.pick [0,2,3,4,5,6,7,8,9,10] [0,1,2,7,8,9,10,11,12,13]⟩ ?_
  clear H N
  rintro m' ρ w63 ⟨xP,a_own,n_own,c_own,own,k,yh,zQ,yf,g_States_1,jY,vM,P_k,rfl,rfl,rfl,i0,rfl,N,H⟩
  have hn_own:=H.YG 0 rfl
  have hn_g_States:=H.zl (α:=qH) 3 rfl 4 rfl qj
  obtain ⟨al1,al2,al3⟩:=addSt_len (S:=g_States) (nx:=(qX s (g_States[i]!)).1) k
  refine zcr (sp (.bool (decide ((k:Int) < (((qX s (g_States[i]!)).1).length)))) (zjn (xO (cD rfl (fun h64=>?_) (fun h64=>?_)))))
  ·skip
   obtain ⟨b65,o66,rfl⟩:=H.addr 2 rfl qf
   obtain ⟨ae68Alive,ce68Alive,Fe68Alive,ae68Bags,ce68Bags,Fe68Bags,ae68Around,ce68Around,Fe68Around,P69,N,H⟩:=H.drain_StateD 1 rfl 0 rfl ((N.pick [2,0,1]):Fresh w.heap.size [P_k,jX,vM]) k k qf qf qf
   refine qV (t_n (xO (qW (zcr (oI rfl rfl (sw (xY [.slice ae68Alive (((((qX s (g_States[i]!)).1)[k]!).qy).length) ce68Alive,.slice ae68Bags (((((qX s (g_States[i]!)).1)[k]!).qE).length) ce68Bags,.slice ae68Around (((((qX s (g_States[i]!)).1)[k]!).qA).length) ce68Around] isAgg38 sizeOf38 rfl (qF (H.get 3 rfl) 0 3) (sw (xX H ti38 [yN,yN,yN] fun b70 w71 H=>?_)))))))))
   refine sw (zt H 0 [.slice ae68Alive (((((qX s (g_States[i]!)).1)[k]!).qy).length) ce68Alive,.slice ae68Bags (((((qX s (g_States[i]!)).1)[k]!).qE).length) ce68Bags,.slice ae68Around (((((qX s (g_States[i]!)).1)[k]!).qA).length) ce68Around] sizeOf38 fun w72 H=>zjc (oF rfl (oL rfl (H.cell 3 rfl rfl) ?_)))
   refine sw (xY [.slice ae68Alive (((((qX s (g_States[i]!)).1)[k]!).qy).length) ce68Alive,.slice ae68Bags (((((qX s (g_States[i]!)).1)[k]!).qE).length) ce68Bags,.slice ae68Around (((((qX s (g_States[i]!)).1)[k]!).qA).length) ce68Around] isAgg38 sizeOf38 rfl (qF (H.cells 0 rfl) 0 3) ?_)
   obtain ⟨G73,hn74,h75⟩:=H.rowIsR (α:=qH) 4 rfl 9 rfl qj
   refine sw (oq (args_eq (by rw [← hn74]) (find_ok _ ((zV g_States (qX s (g_States[i]!)).1 k).1) (((qX s (g_States[i]!)).1)[k]!) (hn74▸h75) (H.get 0 rfl).1 (H.get 1 rfl).1 (H.get 2 rfl).1)) H fun w77 H=>sp (yI (firstIdx (fun zz=>decide (((zV g_States (qX s (g_States[i]!)).1 k).1)[zz]! =(((qX s (g_States[i]!)).1)[k]!))) ((zV g_States (qX s (g_States[i]!)).1 k).1).length)) (zjcc ?_))
   refine sps [yI (firstIdx (fun zz=>decide (((zV g_States (qX s (g_States[i]!)).1 k).1)[zz]! =(((qX s (g_States[i]!)).1)[k]!))) ((zV g_States (qX s (g_States[i]!)).1 k).1).length),.bool (decide ((firstIdx (fun zz=>decide (((zV g_States (qX s (g_States[i]!)).1 k).1)[zz]! =(((qX s (g_States[i]!)).1)[k]!))) ((zV g_States (qX s (g_States[i]!)).1 k).1).length:Int) < 0))] (zjn (cD rfl (fun h79=>?_) (fun h79=>?_)))
   ·skip
    refine zcr (oF rfl (oL rfl (H.cell 3 rfl rfl) ?_))
    obtain ⟨G80,hn81,h82⟩:=H.rowIsR (α:=qH) 4 rfl 9 rfl qj
    refine sw (oq (args_eq (by rw [← hn81]) (sizeS_ok _ ((zV g_States (qX s (g_States[i]!)).1 k).1) (hn81▸h82))) H fun w84 H=>sp (yI (((zV g_States (qX s (g_States[i]!)).1 k).1).length)) (zjn (xR (oF rfl (oL rfl (H.cell 3 rfl rfl) (sw (xY [.slice ae68Alive (((((qX s (g_States[i]!)).1)[k]!).qy).length) ce68Alive,.slice ae68Bags (((((qX s (g_States[i]!)).1)[k]!).qE).length) ce68Bags,.slice ae68Around (((((qX s (g_States[i]!)).1)[k]!).qA).length) ce68Around] isAgg38 sizeOf38 rfl (qF (H.cells 0 rfl) 0 3) ?_)))))))
    refine sw (zG H underlying47 ti38 [.slice ae68Alive (((((qX s (g_States[i]!)).1)[k]!).qy).length) ce68Alive,.slice ae68Bags (((((qX s (g_States[i]!)).1)[k]!).qE).length) ce68Bags,.slice ae68Around (((((qX s (g_States[i]!)).1)[k]!).qA).length) ce68Around] fun b86 w87 H=>sw (zN H 5 rfl 0 rfl underlying47 ti38 rfl qj rfl rfl rfl (by simp [Value.oneCell',Value.cells]) qp qf fun a88 c89 w90 H=>?_))
    replace H:=H.XN 9 rfl 0 rfl 1 rfl 2 rfl
    replace N:Fresh w.heap.size [(vM++(Fe68Alive++Fe68Bags++Fe68Around)),P69,jX]:=(N.pick [0,1,2,5,3,4]).join.join.swap.join
    refine oF rfl (sw (zF H 4 [.slice a88 (zQ+1) c89,.slice jP jC jO] sizeOf47 fun w91 H=>zjn (xR (sps [.slice a_own n_own c_own,yI (((zV g_States (qX s (g_States[i]!)).1 k).1).length)] (sw (zG H underlying22 ti2 [yI (((zV g_States (qX s (g_States[i]!)).1 k).1).length)] fun b92 w93 H=>sw (zN H 3 rfl 0 rfl underlying22 ti2 rfl qj rfl rfl rfl (by simp [Value.oneCell',Value.cells]) qp qf fun a94 c95 w96 H=>?_)))))))
    rw [snocI] at H
    refine sp (.slice a94 (n_own+1) c95) (xU (b_n (t_n (xR (sw (zu k 1 rfl rfl qf (sp (yI (k+1)) (xU ?_))))))))
    refine qZ (m' :=((((qX s (g_States[i]!)).1).length) - ((k+1):Int)).toNat) qf ⟨_,a94,n_own+1,c95,(((zV g_States (qX s (g_States[i]!)).1 k).2)++[(((zV g_States (qX s (g_States[i]!)).1 k).1).length:Int)]),k+1,a88,zQ+1,c89,(((zV g_States (qX s (g_States[i]!)).1 k).1)++[⟨(((qX s (g_States[i]!)).1)[k]!).qy,(((qX s (g_States[i]!)).1)[k]!).qE,(((qX s (g_States[i]!)).1)[k]!).qA⟩]),jY++[.slice ae68Alive (((((qX s (g_States[i]!)).1)[k]!).qy).length) ce68Alive,.slice ae68Bags (((((qX s (g_States[i]!)).1)[k]!).qE).length) ce68Bags,.slice ae68Around (((((qX s (g_States[i]!)).1)[k]!).qA).length) ce68Around],(vM++(Fe68Alive++Fe68Bags++Fe68Around)),P69,uE8,?_,?_,?_,rfl,(N.pick [2,0,1]),H.pick [3,4,5,6,7,8,9,10,11,12] [5,7,8,9,0,11,12,13,14,15]⟩
    · first | exact (Yn (k:=k) ‹_›).2 | (refine Eq.trans ?_ (Yo (k:=k) ‹_›).2;congr 2 <;> omega)
    · first | exact (Yo (k:=k) ‹_›).1 | exact (Yn (k:=k) ‹_›).1
    · omega
   refine qV (t_n (xR (sps [.slice a_own n_own c_own,yI (firstIdx (fun zz=>decide (((zV g_States (qX s (g_States[i]!)).1 k).1)[zz]! =(((qX s (g_States[i]!)).1)[k]!))) ((zV g_States (qX s (g_States[i]!)).1 k).1).length)] (sw (zG H underlying22 ti2 [yI (firstIdx (fun zz=>decide (((zV g_States (qX s (g_States[i]!)).1 k).1)[zz]! =(((qX s (g_States[i]!)).1)[k]!))) ((zV g_States (qX s (g_States[i]!)).1 k).1).length)] fun b97 w98 H=>?_)))))
   refine sw (zN H 2 rfl 0 rfl underlying22 ti2 rfl qj rfl rfl rfl (by simp [Value.oneCell',Value.cells]) qp qf fun a99 c100 w101 H=>?_)
   rw [snocI] at H
   refine sp (.slice a99 (n_own+1) c100) (xU (b_n (t_n (xR (sw (zu k 1 rfl rfl qf (sp (yI (k+1)) (xU ?_))))))))
   refine qZ (m' :=((((qX s (g_States[i]!)).1).length) - ((k+1):Int)).toNat) qf ⟨_,a99,n_own+1,c100,(((zV g_States (qX s (g_States[i]!)).1 k).2)++[firstIdx (fun zz=>decide (((zV g_States (qX s (g_States[i]!)).1 k).1)[zz]! =(((qX s (g_States[i]!)).1)[k]!))) ((zV g_States (qX s (g_States[i]!)).1 k).1).length]),k+1,yh,zQ,yf,((zV g_States (qX s (g_States[i]!)).1 k).1),jY,vM,P69,uE8,?_,?_,?_,rfl,(N.pick [4,5,3]),H.pick [2,3,4,5,6,7,8,9,10,11] [4,6,7,8,9,10,11,12,13,14]⟩
   · first | exact (Yn (k:=k) ‹_›).2 | (refine Eq.trans ?_ (Yo (k:=k) ‹_›).2;congr 2 <;> omega)
   · first | exact (Yo (k:=k) ‹_›).1 | exact (Yn (k:=k) ‹_›).1
   · omega
  refine zx4 (zcc (oF rfl (oL rfl (H.cell 2 rfl rfl) (oN rfl (sp (.bool (decide ((zQ:Int) > 300))) (zjn (cD rfl (fun h102=>?_) (fun h102=>?_))))))))
  ·skip
   refine zcr (sw (jr [yN,yN] [] (sw (zt H 4 [yN,yN] sizeOf59 fun w103 H=>sp (yI 3) (zjr (t_r (zr5 (retC2 H 4 rfl (yI 3) rfl isAgg59 sizeOf59 rfl rfl ⟨_,rfl,?_⟩))))))))
   replace H:=H.erases [6,5,4,3,2,1,0]
   dsimp only [vX,List.eraseIdx] at H
   refine sps [.agg #[yN,yN],yI 3] (sw (zt H 0 [yN,yN] sizeOf59 fun w104 H=>sp (yI 3) (zjr ?_)))
   replace H:=H.addNil (α:=qH)
   replace H:=H.addNil (α:=yLI)
   refine retC2 H 0 rfl (yI 3) rfl isAgg59 sizeOf59 rfl rfl ⟨_,rfl,?_,H.base⟩
   obtain ⟨z1,z2⟩:=exG_of (ex_0 k0 (kr.trans (gr_many qf qf qf (k:=k) qf qf)))
   rw [z1,z2]
   exact ⟨none,0,[],none,0,[],rfl,(N.emp.emp.pick [0,1]),H.pick [] [1,0]⟩
  refine qV (t_n (xR (oF rfl (oL rfl (H.cell 2 rfl rfl) (sp (.slice a_own n_own c_own) (sw (zG H underlying27 ti22 [.slice a_own n_own c_own] fun b105 w106 H=>?_)))))))
  obtain ⟨G110,N,hn111,H⟩:=H.vW 1 rfl N (H.jQ [3,4,0])
  refine sw (zN H 2 rfl 0 rfl underlying27 ti22 rfl qj rfl rfl rfl (by simp [Value.oneCell',Value.cells]) qp qf fun a107 c108 w109 H=>?_)
  replace H:=H.yB 4 rfl 0 rfl
  replace N:Fresh w.heap.size [(jX++G110),vM,P_k]:=(N.pick [1,0,2,3]).join
  refine oF rfl (sw (zF H 3 [.slice yh zQ yf,.slice a107 (jC+1) c108] sizeOf27 fun w112 H=>xU (b_n (t_n (xR (sp (yI i) (sw (zu i 1 rfl rfl qf (sp (yI (i+1)) (xU ?_))))))))))
  refine qZ (m' :=(301 - (i+1))) qf ⟨_,i+1,yh,zQ,yf,((zV g_States (qX s (g_States[i]!)).1 k).1),jY,vM,a107,jC+1,c108,(g_Next++[((zV g_States (qX s (g_States[i]!)).1 k).2)]),XK++[.slice a_own n_own c_own],(jX++G110),uE4,?_,?_,?_,?_,?_,?_,rfl,(N.pick [1,0]),H.pick [2,3,4,5,6,7,8,9,10] [0,6,7,8,9,10,11]⟩
  · exact kr.trans (gr_go qf qf qf (k:=k) qf qf)
  · exact addSt_mem ka succ_ok k qf
  · omega
  · simp;omega
  · omega
  · exact ko.next qf qf
 refine zx4 (zcr (sw (xY [.slice jU jA jB,.slice jP jC jO] isAgg59 sizeOf59 rfl (qF (H.cells 1 rfl) 0 2) (sw (zt H 3 [.slice jU jA jB,.slice jP jC jO] sizeOf59 fun w113 H=>sp (yI 0) (zjr (retC2 H 3 rfl (yI 0) rfl isAgg59 sizeOf59 rfl rfl ⟨_,rfl,?_⟩)))))))
 replace H:=H.erases [5,4,3,1]
 dsimp only [vX,List.eraseIdx] at H
 refine sps [.agg #[.slice jU jA jB,.slice jP jC jO],yI 0] (sw (zt H 2 [.slice jU jA jB,.slice jP jC jO] sizeOf59 fun w114 H=>sp (yI 0) (zjr ?_)))
 have H0:=H
 obtain ⟨G115,hg117,hn116,H⟩:=H.QI (α:=qH) 1 rfl 1 rfl qj
 replace N:Fresh w.heap.size [G115,jX]:=Fresh.ice N H0 1 hg117.1 hg117.2 (H0.jQ [0])
 clear H0
 obtain rfl:=H.isLen 0 rfl
 have H0:=H
 obtain ⟨G118,hg120,hn119,H⟩:=H.QI (α:=yLI) 0 rfl 1 rfl qj
 replace N:Fresh w.heap.size [G118,G115]:=Fresh.ice (N.pick [1,0]) H0 0 hg120.1 hg120.2 (H0.jQ [0])
 clear H0
 obtain rfl:=H.isLen 0 rfl
 refine retC2 H 2 rfl (yI 0) rfl isAgg59 sizeOf59 rfl rfl ⟨_,rfl,?_,H.base⟩
 obtain ⟨z1,z2⟩:=exG_of (ex_0 k0 (kr.trans (gr_end qf)))
 rw [z1,z2]
 exact ⟨jU,jB,G115,jP,jO,G118,rfl,(N.pick [1,0]),H.pick [] [1,0]⟩
theorem specHS_ok (w:World) (s:qI) (t:qH) {qC:yOA} {qY:yLN} {qN:yOA} {xF:yLN} {qU:yOA} {xN:yLN} {xm:yOA} {zq:yLN} {qM:yOA} {xE:yLN} (xf:qO.rep w qY [.slice qC s.qw.length qB] s.qw) (xI:qO.rep w xF [.slice qN s.qx.length qJ] s.qx) (zg:qO.rep w xN [.slice qU t.qy.length qP] t.qy) (zI:qO.rep w zq [.slice xm t.qE.length xh] t.qE) (xK:qO.rep w xE [.slice qM t.qA.length qL] t.qA):Calls Tryz.prog 49 #[.agg #[yI s.xA,.slice qC s.qw.length qB,.slice qN s.qx.length qJ],.agg #[.slice qU t.qy.length qP,.slice xm t.qE.length xh,.slice qM t.qA.length qL]] w (Ret (fun v w' =>∃ (ra0:yOA) (rc0:Nat) (rF0:yLN),v=.tuple #[.slice ra0 (((ve s t).1).length) rc0,yI ((ve s t).2)]∧Fresh w.heap.size [rF0]∧St w w' [] [sF true rF0 ra0 rc0 ((ve s t).1)]) w):=by
 refine en func49 ntmps49 ?_
 have H:=(((((St.start w).arg xK).arg zI).arg zg).arg xI).arg xf
 have vk:=qK xf
 have jl:=qK xI
 have Qh:=qK zg
 have QW:=qK zI
 have jL:=qK xK
 clear xf xI zg zI xK
 have N:=Fresh.nil w.heap.size
 refine zcr (sw (vG H (yS s qC qB qN qJ) fun b1 w2 H=>sw (vG H (yT t qU qP xm xh qM qL) fun b3 w4 H=>sps [yN,yI 0] (zjc (sw (xY (yS s qC qB qN qJ) isAgg36 sizeOf36 rfl (qF (H.cells 1 rfl) 0 3) ?_))))))
 refine sw (xY (yT t qU qP xm xh qM qL) isAgg38 sizeOf38 rfl (qF (H.cells 0 rfl) 0 3) ?_)
 have sz8:=H.base.size
 refine sw (oc (specEx_ok _ s t (H.get 0 rfl).1 (H.get 1 rfl).1 (H.get 2 rfl).1 (H.get 3 rfl).1 (H.get 4 rfl).1) ?_)
 rintro _ w6 ⟨ra5aStates,rc5aStates,rF5aStates,ra5aNext,rc5aNext,rF5aNext,rfl,M,K⟩ _
 replace N:=N.merge sz8 qm M
 replace H:=H.merge K M
 refine sps [.tuple #[.agg #[.slice ra5aStates (((exG s t).zC).length) rc5aStates,.slice ra5aNext (((exG s t).fNext).length) rc5aNext],yI ((XQ s t).2)],.agg #[.slice ra5aStates (((exG s t).zC).length) rc5aStates,.slice ra5aNext (((exG s t).fNext).length) rc5aNext],yI ((XQ s t).2)] (sw (xX H ti59 [yN,yN] fun b10 w11 H=>sw (zt H 0 [.slice ra5aStates (((exG s t).zC).length) rc5aStates,.slice ra5aNext (((exG s t).fNext).length) rc5aNext] sizeOf59 fun w12 H=>sp (yI ((XQ s t).2)) (zjcc (sps [yI ((XQ s t).2),.bool (((XQ s t).2:Int) != 0)] ?_)))))
 refine zjn (xH (((XQ s t).2:Int) != 0) rfl (fun h13=>?_) (fun h13=>?_))
 ·skip
  replace h13:=bne_iff_ne.1 h13
  refine zcr (sw (vT H underlying47 ti38 fun b14 w15 H=>sps [yI ((XQ s t).2),.slice (aa b14 0) 0 0,yI ((XQ s t).2)] (zjr (t_r ?_))))
  replace H:=H.boxRow 0 rfl 3 0 rfl qj
  replace H:=H.vP (α:=qH)
  replace H:St _ _ [rr (aa b14 0) 0 0 38 3 [],.box b10 [.slice ra5aStates (((exG s t).zC).length) rc5aStates,.slice ra5aNext (((exG s t).fNext).length) rc5aNext] 59,.box b3 (yT t qU qP xm xh qM qL) 38,.box b1 (yS s qC qB qN qJ) 36] [zh true [] [] ([]:List qH),sF true rF5aStates ra5aStates rc5aStates ((exG s t).zC),sF true rF5aNext ra5aNext rc5aNext ((exG s t).fNext),sF false qY qC qB s.qw,sF false xF qN qJ s.qx,sF false xN qU qP t.qy,sF false zq xm xh t.qE,sF false xE qM qL t.qA]:=H
  have H0:=H
  obtain ⟨G16,hg18,hn17,H⟩:=H.QI (α:=qH) 0 rfl 0 rfl qj
  replace N:Fresh w.heap.size [G16,rF5aStates,rF5aNext]:=Fresh.ice N.emp H0 0 hg18.1 hg18.2 (H0.jQ [1,2])
  clear H0
  refine ret2 (.slice (aa b14 0) 0 0) (yI ((XQ s t).2)) rfl rfl rfl ⟨_,rfl,?_,H.base⟩
  rw [hs_c ‹_›]
  exact ⟨(aa b14 0),0,G16,rfl,(N.pick [0]),H.pick [] [0]⟩
 replace h13:=xq h13
 have c0:(XQ s t).2=0:=by omega
 have ga:=ex_all c0
 have k0:=ex_valid c0
 have k1:=k0.1
 have gp:=ga.pos
 have gl:=ga.le
 have gn:=ga.len
 refine qV (t_n (zcr (sw (vC #[pp b1 0,pp b10 0] rfl rfl call83 (en func83 ntmps83 ?_)))))
 refine zcr (sp yN (zjc (sw (vT H underlying47 ti38 fun b19 w20 H=>sp (.slice (aa b19 0) 0 0) (zjcc (sp (yI 0) (zjn (qW ?_))))))))
 replace H:=H.boxRow 0 rfl 3 0 rfl qj
 replace H:=H.vP (α:=qH)
 replace H:St _ _ [rr (aa b19 0) 0 0 38 3 [],.box b10 [.slice ra5aStates (((exG s t).zC).length) rc5aStates,.slice ra5aNext (((exG s t).fNext).length) rc5aNext] 59,.box b3 (yT t qU qP xm xh qM qL) 38,.box b1 (yS s qC qB qN qJ) 36] [zh true [] [] ([]:List qH),sF true rF5aStates ra5aStates rc5aStates ((exG s t).zC),sF true rF5aNext ra5aNext rc5aNext ((exG s t).fNext),sF false qY qC qB s.qw,sF false xF qN qJ s.qx,sF false xN qU qP t.qy,sF false zq xm xh t.qE,sF false xE qM qL t.qA]:=H
 refine zo (fun m' ρ w21=>∃ (xP:Env) (zY:yOA) (zn:Nat) (zO:Nat) (out:List qH) (Qv:List Value) (jV:yLN) (i:Nat),ρ=upd (upd (upd (upd xP 0 (pp b1 0)) 1 (pp b10 0)) 5 (.slice zY zn zO)) 6 (yI i)∧out=(endsL s (exG s t).zC i)∧((i:Int)≤(((exG s t).zC).length))∧m' =((((exG s t).zC).length) - (i:Int)).toNat∧Fresh w.heap.size [rF5aStates,rF5aNext,jV]∧St w w21 [rr zY zn zO 38 3 Qv,.box b10 [.slice ra5aStates (((exG s t).zC).length) rc5aStates,.slice ra5aNext (((exG s t).fNext).length) rc5aNext] 59,.box b3 (yT t qU qP xm xh qM qL) 38,.box b1 (yS s qC qB qN qJ) 36] [zh true jV Qv out,sF true rF5aStates ra5aStates rc5aStates ((exG s t).zC),sF true rF5aNext ra5aNext rc5aNext ((exG s t).fNext),sF false qY qC qB s.qw,sF false xF qN qJ s.qx,sF false xN qU qP t.qy,sF false zq xm xh t.qE,sF false xE qM qL t.qA]) (((((exG s t).zC).length) - (0:Int)).toNat) ⟨_,(aa b19 0),0,0,([]:List qH),[],[],0,uE4,(by rfl),qf,rfl,(N.emp.pick [1,2,0]),H⟩ ?_
 clear H N
 rintro m' ρ w22 ⟨xP,zY,zn,zO,out,Qv,jV,i,rfl,rfl,i0,rfl,N,H⟩
 have hn_out:=H.zl (α:=qH) 0 rfl 0 rfl qj
 have el:=ends_len s (exG s t).zC i
 refine zcc (sps [yI i,pp b10 0,pp b10 0] (oF rfl (oL rfl (H.cell 1 rfl rfl) (oN rfl (sp (.bool (decide ((i:Int) < (((exG s t).zC).length)))) (zjn (cD rfl (fun h23=>?_) (fun h23=>?_))))))))
 ·skip
  have ks:=ga.st ((exG s t).zC[i]!) (mem_at (k:=i) qf rfl)
  obtain ⟨y7,y8,y9,y10⟩:=ks.sizes k1.1
  have y13:=fun k hk=>Nat.le_trans (y10 k hk) (by decide:8≤1000000)
  refine qV (t_n (xO (qW (zcr (sps [pp b1 0,pp b10 0,pp b10 0] (oF rfl (oL rfl (H.cell 1 rfl rfl) (sp (yI i) ?_))))))))
  obtain ⟨b24,o25,rfl⟩:=H.addr 1 rfl qf
  obtain ⟨ae27Alive,ce27Alive,Fe27Alive,ae27Bags,ce27Bags,Fe27Bags,ae27Around,ce27Around,Fe27Around,H⟩:=H.elem_StateD 1 rfl i i qf qf qf
  refine oI rfl rfl (sw (oq (l03Halted_ok _ s (((exG s t).zC)[i]!) (qF (H.cells 3 rfl) 0 3) (H.get 7 rfl).1 (H.get 8 rfl).1 (qF (H.get 3 rfl) 0 3) (H.get 0 rfl).1 (H.get 1 rfl).1 (H.get 2 rfl).1 qg qg) H fun w29 H=>zjn (cP rfl (fun h31=>?_) (fun h31=>?_))))
  ·skip
   refine xR (sps [.slice zY zn zO,pp b10 0,pp b10 0] (oF rfl (oL rfl (H.cell 1 rfl rfl) (sp (yI i) (oI rfl rfl ?_)))))
   have sz35:=H.base.size
   have lt36:=H.ltN (L:=[rF5aStates,rF5aNext,jV]) [5,6,4]
   refine sw (oc (l02Own_ok _ (((exG s t).zC)[i]!) (qF (H.get 3 rfl) 0 3) (H.get 0 rfl).1 (H.get 1 rfl).1 (H.get 2 rfl).1 qg qg qg qg) ?_)
   rintro _ w33 ⟨ra32Alive,rn32Alive,rc32Alive,ra32Bags,rn32Bags,rc32Bags,rx32Bags,rF32Bags,ra32Around,rn32Around,rc32Around,rfl,M,K⟩ _
   replace N:=N.merge sz35 lt36 M
   replace H:=H.merge K M
   obtain rfl:=H.rowNB 0 rfl
   obtain rfl:=H.zl (α:=yLI) 1 rfl 0 rfl qj
   obtain rfl:=H.YG 2 rfl
   refine sw (zG H underlying47 ti38 [.slice ra32Alive (((((exG s t).zC)[i]!).qy).length) rc32Alive,.slice ra32Bags (((((exG s t).zC)[i]!).qE).length) rc32Bags,.slice ra32Around (((((exG s t).zC)[i]!).qA).length) rc32Around] fun b40 w41 H=>?_)
   obtain ⟨G45,N,hn46,H⟩:=H.freezeB 1 rfl N (H.jQ [0,6,7,5])
   have H0:=H
   obtain ⟨G47,hg49,hn48,H⟩:=H.QI (α:=yLI) 2 rfl 1 rfl qj
   replace N:Fresh w.heap.size [G47,G45,rF5aStates,rF5aNext,jV]:=Fresh.ice (N.pick [1,0,2,3,4]) H0 2 hg49.1 hg49.2 (H0.jQ [0,7,8,6])
   clear H0
   obtain ⟨G50,N,hn51,H⟩:=H.vW 3 rfl N (H.jQ [0,1,8,9,7])
   refine sw (zN H 4 rfl 0 rfl underlying47 ti38 rfl qj rfl rfl rfl (by simp [Value.oneCell',Value.cells]) qp qf fun a42 c43 w44 H=>?_)
   replace H:=H.XN 8 rfl 2 rfl 1 rfl 0 rfl
   replace N:Fresh w.heap.size [(jV++(G45++G47++G50)),rF5aStates,rF5aNext]:=(N.pick [2,1,0,5,3,4]).join.join.swap.join
   refine sp (.slice a42 (zn+1) c43) (xU (b_n (t_n (xR (sp (yI i) (sw (zu i 1 rfl rfl qf (sp (yI (i+1)) (xU ?_)))))))))
   refine qZ (m' :=((((exG s t).zC).length) - ((i+1):Int)).toNat) qf ⟨_,a42,zn+1,c43,((endsL s (exG s t).zC i)++[⟨(((exG s t).zC)[i]!).qy,(((exG s t).zC)[i]!).qE,(((exG s t).zC)[i]!).qA⟩]),Qv++[.slice ra32Alive (((((exG s t).zC)[i]!).qy).length) rc32Alive,.slice ra32Bags (((((exG s t).zC)[i]!).qE).length) rc32Bags,.slice ra32Around (((((exG s t).zC)[i]!).qA).length) rc32Around],(jV++(G45++G47++G50)),i+1,uE4,?_,?_,rfl,(N.pick [1,2,0]),H.pick [4,5,6,7] [0,10,11,12,13,14,15,16]⟩
   · first | exact ends_yes qf ‹_› | exact ends_no qf ‹_›
   · omega
  refine qV (b_n (t_n (xR (sp (yI i) (sw (zu i 1 rfl rfl qf (sp (yI (i+1)) (xU (qZ (m' :=((((exG s t).zC).length) - ((i+1):Int)).toNat) qf ⟨_,zY,zn,zO,(endsL s (exG s t).zC i),Qv,jV,i+1,uE4,?_,?_,rfl,N,H.pick [0,1,2,3] [4,5,6,7,8,9,10,11]⟩)))))))))
  · first | exact ends_yes qf ‹_› | exact ends_no qf ‹_›
  · omega
 refine zx4 (zcr (sps [.slice zY zn zO,.slice zY zn zO] (zjr (ret1 (.slice zY zn zO) rfl rfl ⟨_,rfl,(sps [.slice zY zn zO,yI 0] (zjr ?_))⟩))))
 have H0:=H
 obtain ⟨G52,hg54,hn53,H⟩:=H.QI (α:=qH) 0 rfl 0 rfl qj
 replace N:Fresh w.heap.size [G52,rF5aStates,rF5aNext]:=Fresh.ice (N.pick [2,0,1]) H0 0 hg54.1 hg54.2 (H0.jQ [1,2])
 clear H0
 obtain rfl:=H.isLen 0 rfl
 refine ret2 (.slice zY ((endsL s (exG s t).zC i).length) zO) (yI 0) rfl rfl rfl ⟨_,rfl,?_,H.base⟩
 rw [hs_0 c0,show (exG s t).zC.length=i by omega]
 exact ⟨zY,zO,G52,rfl,(N.pick [0]),H.pick [] [0]⟩

theorem implHS_ok (w:World) (s:qI) (t:qH) {qC:yOA} {qY:yLN} {qN:yOA} {xF:yLN} {qU:yOA} {xN:yLN} {xm:yOA} {zq:yLN} {qM:yOA} {xE:yLN} (xf:qO.rep w qY [.slice qC s.qw.length qB] s.qw) (xI:qO.rep w xF [.slice qN s.qx.length qJ] s.qx) (zg:qO.rep w xN [.slice qU t.qy.length qP] t.qy) (zI:qO.rep w zq [.slice xm t.qE.length xh] t.qE) (xK:qO.rep w xE [.slice qM t.qA.length qL] t.qA):Calls Tryz.prog 50 #[.agg #[yI s.xA,.slice qC s.qw.length qB,.slice qN s.qx.length qJ],.agg #[.slice qU t.qy.length qP,.slice xm t.qE.length xh,.slice qM t.qA.length qL]] w (Ret (fun v w' =>∃ (ra0:yOA) (rc0:Nat) (rF0:yLN),v=.tuple #[.slice ra0 (((ve s t).1).length) rc0,yI ((ve s t).2)]∧Fresh w.heap.size [rF0]∧St w w' [] [sF true rF0 ra0 rc0 ((ve s t).1)]) w):=by
 refine en func50 ntmps50 ?_
 have H:=(((((St.start w).arg xK).arg zI).arg zg).arg xI).arg xf
 have vk:=qK xf
 have jl:=qK xI
 have Qh:=qK zg
 have QW:=qK zI
 have jL:=qK xK
 clear xf xI zg zI xK
 have N:=Fresh.nil w.heap.size
 refine zcr (sw (vG H (yS s qC qB qN qJ) fun b1 w2 H=>sw (vG H (yT t qU qP xm xh qM qL) fun b3 w4 H=>sps [yN,yI 0] (zjc (sw (xY (yS s qC qB qN qJ) isAgg36 sizeOf36 rfl (qF (H.cells 1 rfl) 0 3) ?_))))))
 refine sw (xY (yT t qU qP xm xh qM qL) isAgg38 sizeOf38 rfl (qF (H.cells 0 rfl) 0 3) ?_)
 have sz8:=H.base.size
 refine sw (oc (implEx_ok _ s t (H.get 0 rfl).1 (H.get 1 rfl).1 (H.get 2 rfl).1 (H.get 3 rfl).1 (H.get 4 rfl).1) ?_)
 rintro _ w6 ⟨ra5aStates,rc5aStates,rF5aStates,ra5aNext,rc5aNext,rF5aNext,rfl,M,K⟩ _
 replace N:=N.merge sz8 qm M
 replace H:=H.merge K M
 refine sps [.tuple #[.agg #[.slice ra5aStates (((exG s t).zC).length) rc5aStates,.slice ra5aNext (((exG s t).fNext).length) rc5aNext],yI ((XQ s t).2)],.agg #[.slice ra5aStates (((exG s t).zC).length) rc5aStates,.slice ra5aNext (((exG s t).fNext).length) rc5aNext],yI ((XQ s t).2)] (sw (xX H ti59 [yN,yN] fun b10 w11 H=>sw (zt H 0 [.slice ra5aStates (((exG s t).zC).length) rc5aStates,.slice ra5aNext (((exG s t).fNext).length) rc5aNext] sizeOf59 fun w12 H=>sp (yI ((XQ s t).2)) (zjcc (sps [yI ((XQ s t).2),.bool (((XQ s t).2:Int) != 0)] ?_)))))
 refine zjn (xH (((XQ s t).2:Int) != 0) rfl (fun h13=>?_) (fun h13=>?_))
 ·skip
  replace h13:=bne_iff_ne.1 h13
  refine zcr (sps [yI ((XQ s t).2),yN,yI ((XQ s t).2)] (zjr (t_r ?_)))
  replace H:=H.addNil (α:=qH)
  refine ret2 yN (yI ((XQ s t).2)) rfl rfl rfl ⟨_,rfl,?_,H.base⟩
  rw [hs_c ‹_›]
  exact ⟨none,0,[],rfl,(N.emp.pick [0]),H.pick [] [0]⟩
 replace h13:=xq h13
 have c0:(XQ s t).2=0:=by omega
 have ga:=ex_all c0
 have k0:=ex_valid c0
 have k1:=k0.1
 have gp:=ga.pos
 have gl:=ga.le
 have gn:=ga.len
 refine qV (t_n (zcr (sw (vT H underlying47 ti38 fun b14 w15 H=>sp (.slice (aa b14 0) 0 0) (zjcc (sw (xY [.slice ra5aStates (((exG s t).zC).length) rc5aStates,.slice ra5aNext (((exG s t).fNext).length) rc5aNext] isAgg59 sizeOf59 rfl (qF (H.cells 1 rfl) 0 2) (sw (vC #[.agg #[.slice ra5aStates (((exG s t).zC).length) rc5aStates,.slice ra5aNext (((exG s t).fNext).length) rc5aNext]] rfl rfl call84 (en func84 ntmps84 ?_))))))))))
 refine zcr (sw (vG H [.slice ra5aStates (((exG s t).zC).length) rc5aStates,.slice ra5aNext (((exG s t).fNext).length) rc5aNext] fun b16 w17 H=>sp yN (zjc (sw (vT H underlying22 ti2 fun b18 w19 H=>sp (.slice (aa b18 0) 0 0) (zjcc (oF rfl (oL rfl (H.cell 1 rfl rfl) (oN rfl (sp (yI 0) (zjn (qW ?_))))))))))))
 replace H:=H.boxRowI 0 [] 0
 refine zo (fun m' ρ w20=>∃ (xP:Env) (zY:yOA) (zn:Nat) (zO:Nat) (out:yLI) (i:Nat),ρ=upd (upd (upd (upd xP 3 (.slice zY zn zO)) 8 (.slice ra5aNext (((exG s t).fNext).length) rc5aNext)) 9 (yI (((exG s t).fNext).length))) 10 (yI i)∧out=(idxL (exG s t).fNext i)∧((i:Int)≤(((exG s t).fNext).length))∧m' =((((exG s t).fNext).length) - (i:Int)).toNat∧Fresh w.heap.size [rF5aStates,rF5aNext]∧St w w20 [rr zY zn zO 2 1 (out.map (Value.int .i64)),.box b16 [.slice ra5aStates (((exG s t).zC).length) rc5aStates,.slice ra5aNext (((exG s t).fNext).length) rc5aNext] 59,.box b14 [] 38,.box b10 [.slice ra5aStates (((exG s t).zC).length) rc5aStates,.slice ra5aNext (((exG s t).fNext).length) rc5aNext] 59,.box b3 (yT t qU qP xm xh qM qL) 38,.box b1 (yS s qC qB qN qJ) 36] [sF true rF5aStates ra5aStates rc5aStates ((exG s t).zC),sF true rF5aNext ra5aNext rc5aNext ((exG s t).fNext),sF false qY qC qB s.qw,sF false xF qN qJ s.qx,sF false xN qU qP t.qy,sF false zq xm xh t.qE,sF false xE qM qL t.qA]) (((((exG s t).fNext).length) - (0:Int)).toNat) ⟨_,(aa b18 0),0,0,([]:yLI),0,uE4,(by rfl),qf,rfl,N,H⟩ ?_
 clear H N
 rintro m' ρ w21 ⟨xP,zY,zn,zO,out,i,rfl,rfl,i0,rfl,N,H⟩
 have hn_out:=H.YG 0 rfl
 have il:=idx_len (exG s t).fNext i
 refine zcr (sp (.bool (decide ((i:Int) < (((exG s t).fNext).length)))) (zjn (xO (cD rfl (fun h22=>?_) (fun h22=>?_)))))
 ·skip
  refine qV (t_n (xO (qW (zcr (sp (yI i) ?_)))))
  obtain ⟨b23,o24,rfl⟩:=H.addr 1 rfl qf
  obtain ⟨ae26,ce26,Fe26,H⟩:=H.vN 1 rfl i i qf qf qf
  refine oI rfl rfl (oL rfl (H.xQ 1 rfl 0 rfl) (sps [yI i,.slice ae26 ((((exG s t).fNext)[i]!).length) ce26] (zjc (sp (.slice ae26 ((((exG s t).fNext)[i]!).length) ce26) (oN rfl (sp (.bool (((((exG s t).fNext)[i]!).length:Int) == 0)) (zjn (cE rfl (fun h27=>?_) (fun h27=>?_)))))))))
  ·skip
   refine xR (sps [.slice zY zn zO,yI i] (sw (zG H underlying22 ti2 [yI i] fun b28 w29 H=>sw (zN H 1 rfl 0 rfl underlying22 ti2 rfl qj rfl rfl rfl (by simp [Value.oneCell',Value.cells]) qp qf fun a30 c31 w32 H=>?_))))
   rw [snocI] at H
   refine sp (.slice a30 (zn+1) c31) (xU (b_n (t_n (xR (sw (zu i 1 rfl rfl qf (sp (yI (i+1)) (xU (qZ (m' :=((((exG s t).fNext).length) - ((i+1):Int)).toNat) qf ⟨_,a30,zn+1,c31,((idxL (exG s t).fNext i)++[(i:Int)]),i+1,uE4,?_,?_,rfl,N,H.pick [1,2,3,4,5,6] [2,3,4,5,6,7,8]⟩)))))))))
   · first | exact idx_yes qf | exact idx_no qf
   · omega
  refine qV (b_n (t_n (xR (sw (zu i 1 rfl rfl qf (sp (yI (i+1)) (xU (qZ (m' :=((((exG s t).fNext).length) - ((i+1):Int)).toNat) qf ⟨_,zY,zn,zO,(idxL (exG s t).fNext i),i+1,uE4,?_,?_,rfl,N,H.pick [0,1,2,3,4,5] [2,3,4,5,6,7,8]⟩))))))))
  · first | exact idx_yes qf | exact idx_no qf
  · omega
 refine zx4 (zcr (sps [.slice zY zn zO,.slice zY zn zO] (zjr (ret1 (.slice zY zn zO) rfl rfl ⟨_,rfl,?_⟩))))
 replace H:=H.erases [1]
 dsimp only [vX,List.eraseIdx] at H
 refine oN rfl (sp (yI 0) (zjn (qW ?_)))
 obtain ⟨xs33,B34,P35,N,H⟩:=H.pool (α:=qH) 0 rfl N
 replace H:=H.boxRow 1 rfl 3 0 rfl qj
 replace H:=H.vP (α:=qH)
 replace H:St _ _ [rr zY zn zO 2 1 ((idxL (exG s t).fNext i).map (Value.int .i64)),rr (aa b14 0) 0 0 38 3 [],.box b10 [.slice ra5aStates (((exG s t).zC).length) rc5aStates,.slice ra5aNext (((exG s t).fNext).length) rc5aNext] 59,.box b3 (yT t qU qP xm xh qM qL) 38,.box b1 (yS s qC qB qN qJ) 36] [zh true [] [] ([]:List qH),zh true P35 (xs33.drop (0 * 3)) (((exG s t).zC).drop 0),cellsF B34 (.slice ra5aStates (((exG s t).zC).length) rc5aStates) xs33,sF true rF5aStates ra5aStates rc5aStates ((exG s t).zC),sF true rF5aNext ra5aNext rc5aNext ((exG s t).fNext),sF false qY qC qB s.qw,sF false xF qN qJ s.qx,sF false xN qU qP t.qy,sF false zq xm xh t.qE,sF false xE qM qL t.qA]:=H
 refine zo (fun m' ρ w36=>∃ (xP:Env) (VW:yOA) (yA:Nat) (QQ:Nat) (out_1:List qH) (Qv:List Value) (jV:yLN) (k:Nat) (p:Nat) (P_p:yLN),ρ=upd (upd (upd (upd (upd xP 6 (pp b10 0)) 8 (.slice VW yA QQ)) 22 (.slice zY zn zO)) 23 (yI zn)) 24 (yI k)∧out_1=(((idxL (exG s t).fNext i).take k).map (fun (i:Int)=>(exG s t).zC[i.toNat]!))∧((k:Int)≤zn)∧(∀ z,k≤z→z < (idxL (exG s t).fNext i).length→p≤((idxL (exG s t).fNext i)[z]!).toNat)∧m' =(zn - (k:Int)).toNat∧Fresh w.heap.size [rF5aNext,jV,P_p]∧St w w36 [rr zY zn zO 2 1 ((idxL (exG s t).fNext i).map (Value.int .i64)),rr VW yA QQ 38 3 Qv,.box b10 [.slice ra5aStates (((exG s t).zC).length) rc5aStates,.slice ra5aNext (((exG s t).fNext).length) rc5aNext] 59,.box b3 (yT t qU qP xm xh qM qL) 38,.box b1 (yS s qC qB qN qJ) 36] [zh true jV Qv out_1,zh true P_p (xs33.drop (p * 3)) (((exG s t).zC).drop p),cellsF B34 (.slice ra5aStates (((exG s t).zC).length) rc5aStates) xs33,sF true rF5aStates ra5aStates rc5aStates ((exG s t).zC),sF true rF5aNext ra5aNext rc5aNext ((exG s t).fNext),sF false qY qC qB s.qw,sF false xF qN qJ s.qx,sF false xN qU qP t.qy,sF false zq xm xh t.qE,sF false xE qM qL t.qA]) ((zn - (0:Int)).toNat) ⟨_,(aa b14 0),0,0,([]:List qH),[],[],0,0,P35,uE5,(by rfl),qf,(by exact fun z _ _=>Nat.zero_le _),rfl,(N.emp.pick [2,0,1]),H⟩ ?_
 clear H N
 rintro m' ρ w37 ⟨xP,VW,yA,QQ,out_1,Qv,jV,k,p,P_p,rfl,rfl,i0,kp,rfl,N,H⟩
 have hn_out:=H.zl (α:=qH) 1 rfl 0 rfl qj
 have tl:(((idxL (exG s t).fNext i).take k).map (fun (i:Int)=>(exG s t).zC[i.toNat]!)).length≤(idxL (exG s t).fNext i).length:=by rw [List.length_map,List.length_take];omega
 refine zcr (sp (.bool (decide ((k:Int) < zn))) (zjn (xO (cD rfl (fun h38=>?_) (fun h38=>?_)))))
 ·skip
  have kq:=kp k qf qf
  obtain ⟨ia,ib⟩:=idx_at (R:=(exG s t).fNext) (k:=i) (q:=k) qf
  refine qV (t_n (xO (qW (zcr ?_))))
  obtain ⟨b39,rfl⟩:=H.Qz 0 rfl qf
  refine oI rfl rfl (oL rfl (H.rowInt 0 rfl (iv:=k) (i:=k) qf qf) (sp (yI ((idxL (exG s t).fNext i)[k]!)) (zjn (xR (sp (.slice VW yA QQ) (oF rfl (oL rfl (H.cell 2 rfl rfl) (sp (yI ((idxL (exG s t).fNext i)[k]!)) ?_))))))))
  obtain ⟨b40,o41,rfl⟩:=H.addr 3 rfl qf
  obtain ⟨ae43Alive,ce43Alive,Fe43Alive,ae43Bags,ce43Bags,Fe43Bags,ae43Around,ce43Around,Fe43Around,P44,N,H⟩:=H.drain_StateD 2 rfl 1 rfl ((N.pick [2,0,1]):Fresh w.heap.size [P_p,rF5aNext,jV]) ((idxL (exG s t).fNext i)[k]!) (((idxL (exG s t).fNext i)[k]!).toNat) qf qf qf
  refine oI rfl rfl (sw (xY [.slice ae43Alive (((((exG s t).zC)[((idxL (exG s t).fNext i)[k]!).toNat]!).qy).length) ce43Alive,.slice ae43Bags (((((exG s t).zC)[((idxL (exG s t).fNext i)[k]!).toNat]!).qE).length) ce43Bags,.slice ae43Around (((((exG s t).zC)[((idxL (exG s t).fNext i)[k]!).toNat]!).qA).length) ce43Around] isAgg38 sizeOf38 rfl (qF (H.get 3 rfl) 0 3) ?_))
  refine sw (zG H underlying47 ti38 [.slice ae43Alive (((((exG s t).zC)[((idxL (exG s t).fNext i)[k]!).toNat]!).qy).length) ce43Alive,.slice ae43Bags (((((exG s t).zC)[((idxL (exG s t).fNext i)[k]!).toNat]!).qE).length) ce43Bags,.slice ae43Around (((((exG s t).zC)[((idxL (exG s t).fNext i)[k]!).toNat]!).qA).length) ce43Around] fun b45 w46 H=>sw (zN H 2 rfl 0 rfl underlying47 ti38 rfl qj rfl rfl rfl (by simp [Value.oneCell',Value.cells]) qp qf fun a47 c48 w49 H=>?_))
  replace H:=H.XN 5 rfl 0 rfl 1 rfl 2 rfl
  replace N:Fresh w.heap.size [(jV++(Fe43Alive++Fe43Bags++Fe43Around)),P44,rF5aNext]:=(N.pick [0,1,2,5,3,4]).join.join.swap.join
  refine sp (.slice a47 (yA+1) c48) (xU (b_n (t_n (xR (sw (zu k 1 rfl rfl qf (sp (yI (k+1)) (xU ?_))))))))
  refine qZ (m' :=(zn - ((k+1):Int)).toNat) qf ⟨_,a47,yA+1,c48,((((idxL (exG s t).fNext i).take k).map (fun (i:Int)=>(exG s t).zC[i.toNat]!))++[⟨(((exG s t).zC)[((idxL (exG s t).fNext i)[k]!).toNat]!).qy,(((exG s t).zC)[((idxL (exG s t).fNext i)[k]!).toNat]!).qE,(((exG s t).zC)[((idxL (exG s t).fNext i)[k]!).toNat]!).qA⟩]),Qv++[.slice ae43Alive (((((exG s t).zC)[((idxL (exG s t).fNext i)[k]!).toNat]!).qy).length) ce43Alive,.slice ae43Bags (((((exG s t).zC)[((idxL (exG s t).fNext i)[k]!).toNat]!).qE).length) ce43Bags,.slice ae43Around (((((exG s t).zC)[((idxL (exG s t).fNext i)[k]!).toNat]!).qA).length) ce43Around],(jV++(Fe43Alive++Fe43Bags++Fe43Around)),k+1,(((idxL (exG s t).fNext i)[k]!).toNat)+1,P44,uE5,?_,?_,?_,rfl,(N.pick [2,0,1]),H.pick [1,2,3,4,5] [0,5,8,9,10,11,12,13,14,15]⟩
  · exact map_snoc! (f:=fun (i:Int)=>(exG s t).zC[i.toNat]!) qf
  · omega
  · exact fun z h1 h2=>idx_up (p:=k) qf h2
 refine zx4 (zcr (sps [.slice VW yA QQ,.slice VW yA QQ,yI 0] (zjr ?_)))
 have H0:=H
 obtain ⟨G50,hg52,hn51,H⟩:=H.QI (α:=qH) 1 rfl 0 rfl qj
 replace N:Fresh w.heap.size [G50,rF5aNext,P_p]:=Fresh.ice (N.pick [1,0,2]) H0 1 hg52.1 hg52.2 (H0.jQ [4,1])
 clear H0
 obtain rfl:=H.isLen 0 rfl
 refine ret2 (.slice VW ((((idxL (exG s t).fNext i).take k).map (fun (i:Int)=>(exG s t).zC[i.toNat]!)).length) QQ) (yI 0) rfl rfl rfl ⟨_,rfl,?_,H.base⟩
 have hi:i=(exG s t).fNext.length:=by omega
 rw [hs_i c0 (q:=k) (by rw [← hi];omega),← hi]
 exact ⟨VW,QQ,G50,rfl,(N.pick [0]),H.pick [] [0]⟩

theorem law_HaltedStates (w:World) (aS:qI) (aT:qH) (Qg:yOA) (Qe:Nat) (YT:yLN) (Xq:yOA) (Xm:Nat) (FaSRules:yLN) (Xp:yOA) (Xl:Nat) (FaTAlive:yLN) (Vx:yOA) (Vu:Nat) (FaTBags:yLN) (QK:yOA) (QJ:Nat) (FaTAround:yLN) (haSParents:qO.rep w YT [.slice Qg aS.qw.length Qe] aS.qw) (haSRules:qO.rep w FaSRules [.slice Xq aS.qx.length Xm] aS.qx) (haTAlive:qO.rep w FaTAlive [.slice Xp aT.qy.length Xl] aT.qy) (haTBags:qO.rep w FaTBags [.slice Vx aT.qE.length Vu] aT.qE) (haTAround:qO.rep w FaTAround [.slice QK aT.qA.length QJ] aT.qA):Calls Tryz.prog 12 #[.agg #[yI aS.xA,.slice Qg aS.qw.length Qe,.slice Xq aS.qx.length Xm],.agg #[.slice Xp aT.qy.length Xl,.slice Vx aT.qE.length Vu,.slice QK aT.qA.length QJ]] w (Ret (fun v w' =>v=.bool true) w):=by
 refine en func12 ntmps12 ?_
 have H:=(((((St.start w).arg haTAround).arg haTBags).arg haTAlive).arg haSRules).arg haSParents
 have nhaSParents:=qK haSParents
 have nhaSRules:=qK haSRules
 have nhaTAlive:=qK haTAlive
 have nhaTBags:=qK haTBags
 have nhaTAround:=qK haTAround
 clear haSParents haSRules haTAlive haTBags haTAround
 have N:=Fresh.nil w.heap.size
 have A:=H.ltN (L:=[YT,FaSRules,FaTAlive,FaTBags,FaTAround]) [0,1,2,3,4]
 have t1:=tot_SystemD aS
 have t2:=tot_StateD aT
 have c0:=VD aS.qw
 have c1:=VD aS.qx
 have c2:=VD aT.qy
 have c3:=VD aT.qE
 have c4:=VD aT.qA
 have f1:=few_hs aS aT
 refine zcr (sw (vG H (yS aS Qg Qe Xq Xm) fun b1 w2 H=>sw (vG H (yT aT Xp Xl Vx Vu QK QJ) fun b3 w4 H=>sp (.bool false) (zjc (sp (yI 1048576) (zjc (sw (xY (yS aS Qg Qe Xq Xm) isAgg25 sizeOf25 rfl (qF (H.cells 1 rfl) 0 3) (sp (yI 1048576) ?_)))))))))
 refine sw (oq (szSystem_ok _ aS 1048576 (H.get 0 rfl).1 (H.get 1 rfl).1 qf) H fun w5 H=>?_)
 have:=zL (tot aS) 1048576
 refine sp (yI (szR (tot aS) 1048576)) (zjcc (sps [yI (szR (tot aS) 1048576),.bool (decide ((szR (tot aS) 1048576:Int) < 0))] (zjn (cD rfl (fun h7=>?_) (fun h7=>?_)))))
 ·skip
  refine zcr (sp (.bool true) (zjr (t_r (ret1 (.bool true) rfl rfl ⟨_,rfl,?_,H.base⟩))))
  rfl
 refine qV (t_n (zcr (sw (xY (yT aT Xp Xl Vx Vu QK QJ) isAgg29 sizeOf29 rfl (qF (H.cells 0 rfl) 0 3) (sp (yI (szR (tot aS) 1048576)) (sw (oq (szState_ok _ aT (szR (tot aS) 1048576) (H.get 2 rfl).1 (H.get 3 rfl).1 (H.get 4 rfl).1 qf) H fun w8 H=>?_)))))))
 have:=zL (tot aT) (szR (tot aS) 1048576)
 refine sp (yI (szR (tot aT) (szR (tot aS) 1048576))) (zjcc (sps [yI (szR (tot aT) (szR (tot aS) 1048576)),.bool (decide ((szR (tot aT) (szR (tot aS) 1048576):Int) < 0))] (zjn (cD rfl (fun h10=>?_) (fun h10=>?_)))))
 ·skip
  refine zcr (sp (.bool true) (zjr (t_r (ret1 (.bool true) rfl rfl ⟨_,rfl,?_,H.base⟩))))
  rfl
 refine qV (t_n (xO ?_))
 refine jd rfl H fun H=>rt 0 (.agg #[yI aS.xA,.slice Qg aS.qw.length Qe,.slice Xq aS.qx.length Xm]) (Qy (cs:=(yS aS Qg Qe Xq Xm)) isAgg25 sizeOf25 rfl (fun _ h=>qF (h.cells 1 rfl) 0 3)) H ?_
 refine rt 2 (.agg #[.slice Xp aT.qy.length Xl,.slice Vx aT.qE.length Vu,.slice QK aT.qA.length QJ]) (Qy (cs:=(yT aT Xp Xl Vx Vu QK QJ)) isAgg29 sizeOf29 rfl (fun _ h=>qF (h.cells 0 rfl) 0 3)) H ?_
 refine ro 1 rfl ?_
 have sz12:=H.base.size
 refine oc (toSystem_ok _ aS (H.get 0 rfl).1 (H.get 1 rfl).1 qg) ?_
 rintro v17 w15 r17 x16
 obtain ⟨a17Parents,c17Parents,yx,a17Rules,c17Rules,Q5,rfl,f17,H⟩:=H.add_SystemD x16 r17
 replace N:=N.cons f17 sz12 (by intro F hF;simp at hF)
 replace N:=N.split
 refine ⟨H.pick [0,1] [2,3,4,5,6],(ro 3 rfl ?_)⟩
 have sz18:=H.base.size
 have lt19:=H.ltN (L:=[yx,Q5]) [0,1]
 refine oc (toState_ok _ aT (H.get 4 rfl).1 (H.get 5 rfl).1 (H.get 6 rfl).1 qg) ?_
 rintro v23 w21 r23 x22
 obtain ⟨a23Alive,c23Alive,Xf,a23Bags,c23Bags,Vb,a23Around,c23Around,Qx,rfl,f23,H⟩:=H.add_StateD x22 r23
 replace N:=N.cons f23 sz18 lt19
 replace N:=N.split
 replace N:=N.split
 refine ⟨H.pick [0,1] [5,6,7,8,9],(ro 4 rfl ?_)⟩
 have sz27:=H.base.size
 have lt28:=H.ltN (L:=[Xf,Vb,Qx,yx,Q5]) [0,1,2,3,4]
 refine oc (specHS_ok _ aS aT (H.get 3 rfl).1 (H.get 4 rfl).1 (H.get 0 rfl).1 (H.get 1 rfl).1 (H.get 2 rfl).1) ?_
 rintro _ w25 ⟨ra24a,rc24a,rF24a,rfl,M,K⟩ _
 replace N:=N.merge sz27 lt28 M
 replace H:=H.merge K M
 refine ⟨H.pick [0,1] [6,7,8,9,10],?_⟩
 have S:=H.yD [0,1] [6,7,8,9,10]
 refine rtp 5 (.tuple #[.slice ra24a (((ve aS aT).1).length) rc24a,yI ((ve aS aT).2)]) S ?_
 refine rtp 6 (.slice ra24a (((ve aS aT).1).length) rc24a) S ?_
 refine rtp 7 (yI ((ve aS aT).2)) S ?_
 refine rtp 8 (.slice ra24a (((ve aS aT).1).length) rc24a) S ?_
 refine rtp 9 (yI ((ve aS aT).2)) S ?_
 refine xM qh (t_n (zcr (sw (xY (yS aS Qg Qe Xq Xm) isAgg25 sizeOf25 rfl (qF (H.cells 1 rfl) 0 3) ?_))))
 have sz29:=H.base.size
 have lt30:=H.ltN (L:=[rF24a,Xf,Vb,Qx,yx,Q5]) [0,1,2,3,4,5]
 refine sw (oc (toSystem_ok _ aS (H.get 6 rfl).1 (H.get 7 rfl).1 qg) ?_)
 rintro v34 w32 r34 x33
 obtain ⟨QO,QN,yw,Vp,Vh,Q4,rfl,f34,H⟩:=H.add_SystemD x33 r34
 replace N:=N.cons f34 sz29 lt30
 replace N:=N.split
 refine sw (xX H ti36 [yI 0,yN,yN] fun b35 w36 H=>sw (zt H 0 (yS aS QO QN Vp Vh) sizeOf36 fun w37 H=>zjc (sw (xY (yT aT Xp Xl Vx Vu QK QJ) isAgg29 sizeOf29 rfl (qF (H.cells 1 rfl) 0 3) ?_))))
 have sz38:=H.base.size
 have lt39:=H.ltN (L:=[yw,Q4,rF24a,Xf,Vb,Qx,yx,Q5]) [0,1,2,3,4,5,6,7]
 refine sw (oc (toState_ok _ aT (H.get 10 rfl).1 (H.get 11 rfl).1 (H.get 12 rfl).1 qg) ?_)
 rintro v43 w41 r43 x42
 obtain ⟨Vo,Vg,Xe,a43Bags,c43Bags,Va,Xr,Xo,Qw,rfl,f43,H⟩:=H.add_StateD x42 r43
 replace N:=N.cons f43 sz38 lt39
 replace N:=N.split
 replace N:=N.split
 refine sw (xX H ti38 [yN,yN,yN] fun b44 w45 H=>sw (zt H 0 (yT aT Vo Vg a43Bags c43Bags Xr Xo) sizeOf38 fun w46 H=>zjc (sw (xY (yS aS QO QN Vp Vh) isAgg36 sizeOf36 rfl (qF (H.cells 1 rfl) 0 3) ?_))))
 refine sw (xY (yT aT Vo Vg a43Bags c43Bags Xr Xo) isAgg38 sizeOf38 rfl (qF (H.cells 0 rfl) 0 3) ?_)
 have sz50:=H.base.size
 have lt51:=H.ltN (L:=[Xe,Va,Qw,yw,Q4,rF24a,Xf,Vb,Qx,yx,Q5]) [0,1,2,3,4,5,6,7,8,9,10]
 refine sw (oc (implHS_ok _ aS aT (H.get 3 rfl).1 (H.get 4 rfl).1 (H.get 0 rfl).1 (H.get 1 rfl).1 (H.get 2 rfl).1) ?_)
 rintro _ w48 ⟨ra47a,rc47a,rF47a,rfl,M,K⟩ _
 replace N:=N.merge sz50 lt51 M
 replace H:=H.merge K M
 refine sps [.tuple #[.slice ra47a (((ve aS aT).1).length) rc47a,yI ((ve aS aT).2)],.slice ra47a (((ve aS aT).1).length) rc47a,yI ((ve aS aT).2),.slice ra47a (((ve aS aT).1).length) rc47a,yI ((ve aS aT).2)] (zjcc (sps [.slice ra47a (((ve aS aT).1).length) rc47a,.slice ra24a (((ve aS aT).1).length) rc24a] (sw (oq (eqStateS_ok _ ((ve aS aT).1) ((ve aS aT).1) (H.get 0 rfl).1 (H.get 6 rfl).1) H fun w52 H=>sps [.bool (!(decide (((ve aS aT).1)=((ve aS aT).1)))),.bool (!(decide (((ve aS aT).1)=((ve aS aT).1))))] ?_))))
 cases h54:(!(decide (((ve aS aT).1)=((ve aS aT).1))))
 ·skip
  replace h54:=xg h54
  refine qQ 49 rfl rfl (sp (yI ((ve aS aT).2)) (qQ 49 rfl rfl (sp (yI ((ve aS aT).2)) (qQ 49 rfl rfl (sps [.bool (((ve aS aT).2:Int) != ((ve aS aT).2)),.bool (((ve aS aT).2:Int) != ((ve aS aT).2))] (zjn (xH (((ve aS aT).2:Int) != ((ve aS aT).2)) rfl (fun h=>absurd rfl (bne_iff_ne.1 h)) (fun h55=>?_))))))))
  replace h55:=xq h55
  refine qV (t_n (xO (xO ?_)))
  refine jd rfl H fun H=>rt 0 (.agg #[yI aS.xA,.slice QO aS.qw.length QN,.slice Vp aS.qx.length Vh]) (Qy (cs:=(yS aS QO QN Vp Vh)) isAgg36 sizeOf36 rfl (fun _ h=>qF (h.cells 1 rfl) 0 3)) H ?_
  refine rt 1 (.agg #[yI aS.xA,.slice Qg aS.qw.length Qe,.slice Xq aS.qx.length Xm]) (Qy (cs:=(yS aS Qg Qe Xq Xm)) isAgg25 sizeOf25 rfl (fun _ h=>qF (h.cells 3 rfl) 0 3)) H ?_
  refine ro 2 rfl ?_
  have sz57:=H.base.size
  have lt58:=H.ltN (L:=[rF47a,Xe,Va,Qw,yw,Q4,rF24a,Xf,Vb,Qx,yx,Q5]) [0,1,2,3,4,5,6,7,8,9,10,11]
  refine oc (toSystem_ok _ aS (H.get 12 rfl).1 (H.get 13 rfl).1 qg) ?_
  rintro v62 w60 r62 x61
  obtain ⟨a62Parents,c62Parents,Q8,a62Rules,c62Rules,VO,rfl,f62,H⟩:=H.add_SystemD x61 r62
  replace N:=N.cons f62 sz57 lt58
  replace N:=N.split
  refine ⟨H.pick [0,1,2,3] [2,3,4,5,6,7,8,9,10,11,12,13,14,15,16,17,18],(ro 3 rfl (oq (eqSystem_ok _ aS aS (H.get 6 rfl).1 (H.get 7 rfl).1 (H.get 0 rfl).1 (H.get 1 rfl).1) H fun w63 H=>⟨H.pick [0,1,2,3] [2,3,4,5,6,7,8,9,10,11,12,13,14,15,16,17,18],(rtp 4 (.bool (!(decide (aS=aS)))) (H.pick [0,1,2,3] [2,3,4,5,6,7,8,9,10,11,12,13,14,15,16,17,18]) ?_)⟩))⟩
  refine xM qh (t_n (xH (!(decide (aS=aS))) rfl (fun h=>absurd (xn h) qm) (fun h65=>?_)))
  replace h65:=xg h65
  refine qV (t_n (xO (xO ?_)))
  refine jd rfl H fun H=>rt 0 (.agg #[.slice Vo aT.qy.length Vg,.slice a43Bags aT.qE.length c43Bags,.slice Xr aT.qA.length Xo]) (Qy (cs:=(yT aT Vo Vg a43Bags c43Bags Xr Xo)) isAgg38 sizeOf38 rfl (fun _ h=>qF (h.cells 0 rfl) 0 3)) H ?_
  refine rt 1 (.agg #[.slice Xp aT.qy.length Xl,.slice Vx aT.qE.length Vu,.slice QK aT.qA.length QJ]) (Qy (cs:=(yT aT Xp Xl Vx Vu QK QJ)) isAgg29 sizeOf29 rfl (fun _ h=>qF (h.cells 2 rfl) 0 3)) H ?_
  refine ro 2 rfl ?_
  have sz67:=H.base.size
  have lt68:=H.ltN (L:=[Q8,VO,rF47a,Xe,Va,Qw,yw,Q4,rF24a,Xf,Vb,Qx,yx,Q5]) [0,1,2,3,4,5,6,7,8,9,10,11,12,13]
  refine oc (toState_ok _ aT (H.get 16 rfl).1 (H.get 17 rfl).1 (H.get 18 rfl).1 qg) ?_
  rintro v72 w70 r72 x71
  obtain ⟨a72Alive,c72Alive,YB,a72Bags,c72Bags,F72Bags,a72Around,c72Around,X4,rfl,f72,H⟩:=H.add_StateD x71 r72
  replace N:=N.cons f72 sz67 lt68
  replace N:=N.split
  replace N:=N.split
  refine ⟨H.pick [0,1,2,3] [3,4,5,6,7,8,9,10,11,12,13,14,15,16,17,18,19,20,21],(ro 3 rfl (oq (eqState_ok _ aT aT (H.get 6 rfl).1 (H.get 7 rfl).1 (H.get 8 rfl).1 (H.get 0 rfl).1 (H.get 1 rfl).1 (H.get 2 rfl).1) H fun w73 H=>⟨H.pick [0,1,2,3] [3,4,5,6,7,8,9,10,11,12,13,14,15,16,17,18,19,20,21],(rtp 4 (.bool (!(decide (aT=aT)))) (H.pick [0,1,2,3] [3,4,5,6,7,8,9,10,11,12,13,14,15,16,17,18,19,20,21]) ?_)⟩))⟩
  refine xM qh (t_n (xH (!(decide (aT=aT))) rfl (fun h=>absurd (xn h) qm) (fun h75=>?_)))
  replace h75:=xg h75
  refine qV (t_n (zcr (sp (yI 1) (zjc (sw (xY (yS aS QO QN Vp Vh) isAgg36 sizeOf36 rfl (qF (H.cells 1 rfl) 0 3) (sp (yI 1) ?_)))))))
  have N76:Fresh w.heap.size [yw,Q4,YB,F72Bags,X4,Q8,VO,rF47a,Xe,Va,Qw,rF24a,Xf,Vb,Qx,yx,Q5]:=(N.pick [9,10,0,1,2,3,4,5,6,7,8,11,12,13,14,15,16])
  refine sw (XP #[.agg #[yI aS.xA,.slice QO aS.qw.length QN,.slice Vp aS.qx.length Vh],yI 1] rfl rfl call23 (markSystem_ok w73 aS 1 QO QN yw Vp Vh Q4 (H.get 9 rfl).1 (H.get 10 rfl).1 (N76.pick [0,1]:Fresh _ [yw,Q4]).join.one.2 (((H.get 9 rfl).2 rfl).app ((H.get 10 rfl).2 rfl)) qf qf) ?_)
  rintro _ w77 ⟨rfl,m79⟩ x78
  replace H:St _ _ [.box b44 (yT aT Vo Vg a43Bags c43Bags Xr Xo) 38,.box b35 (yS aS QO QN Vp Vh) 36,.box b3 (yT aT Xp Xl Vx Vu QK QJ) 29,.box b1 (yS aS Qg Qe Xq Xm) 25] [isF true yw (.slice QO aS.qw.length QN) (mrk aS.qw (1)),isF true Q4 (.slice Vp aS.qx.length Vh) (mrk aS.qx (1+(cnt aS.qw:Nat))),sF true YB a72Alive c72Alive aT.qy,sF true F72Bags a72Bags c72Bags aT.qE,sF true X4 a72Around c72Around aT.qA,sF true Q8 a62Parents c62Parents aS.qw,sF true VO a62Rules c62Rules aS.qx,sF true rF47a ra47a rc47a ((ve aS aT).1),sF true Xe Vo Vg aT.qy,sF true Va a43Bags c43Bags aT.qE,sF true Qw Xr Xo aT.qA,sF true rF24a ra24a rc24a ((ve aS aT).1),sF true Xf a23Alive c23Alive aT.qy,sF true Vb a23Bags c23Bags aT.qE,sF true Qx a23Around c23Around aT.qA,sF true yx a17Parents c17Parents aS.qw,sF true Q5 a17Rules c17Rules aS.qx,sF false YT Qg Qe aS.qw,sF false FaSRules Xq Xm aS.qx,sF false FaTAlive Xp Xl aT.qy,sF false FaTBags Vx Vu aT.qE,sF false FaTAround QK QJ aT.qA]:=H.chgFacts (Fs:=[yw,Q4]) (L:=[YB,F72Bags,X4,Q8,VO,rF47a,Xe,Va,Qw,rF24a,Xf,Vb,Qx,yx,Q5]) (A:=[YT,FaSRules,FaTAlive,FaTBags,FaTAround]) N76 A (x78.mono (by intro z hz;simpa using hz)) [9,10] [isF true yw (.slice QO aS.qw.length QN) (mrk aS.qw (1)),isF true Q4 (.slice Vp aS.qx.length Vh) (mrk aS.qx (1+(cnt aS.qw:Nat)))] (all_of ⟨m79.1,⟨m79.2,trivial⟩⟩) [0,1,2,3,4,5,6,7,8,11,12,13,14,15,16,17,18,19,20,21] [0,1,2,3,4,5,6,7,8,9,10,11,12,13,14,15,16,17,18,19]
  replace N:=N76
  refine sp (yI (1+(cnt aS.qw:Nat)+(cnt aS.qx:Nat))) (zjc (sw (xY (yT aT Vo Vg a43Bags c43Bags Xr Xo) isAgg38 sizeOf38 rfl (qF (H.cells 0 rfl) 0 3) (sp (yI (1+(cnt aS.qw:Nat)+(cnt aS.qx:Nat))) ?_))))
  have N80:Fresh w.heap.size [Xe,Va,Qw,yw,Q4,YB,F72Bags,X4,Q8,VO,rF47a,rF24a,Xf,Vb,Qx,yx,Q5]:=(N.pick [8,9,10,0,1,2,3,4,5,6,7,11,12,13,14,15,16])
  refine sw (XP #[.agg #[.slice Vo aT.qy.length Vg,.slice a43Bags aT.qE.length c43Bags,.slice Xr aT.qA.length Xo],yI (1+(cnt aS.qw:Nat)+(cnt aS.qx:Nat))] rfl rfl call24 (markState_ok w77 aT (1+(cnt aS.qw:Nat)+(cnt aS.qx:Nat)) Vo Vg Xe a43Bags c43Bags Va Xr Xo Qw (H.get 8 rfl).1 (H.get 9 rfl).1 (H.get 10 rfl).1 (N80.pick [0,1,2]:Fresh _ [Xe,Va,Qw]).join.join.one.2 ((((H.get 8 rfl).2 rfl).app ((H.get 9 rfl).2 rfl)).app ((H.get 10 rfl).2 rfl)) qf qf) ?_)
  rintro _ w81 ⟨rfl,m83⟩ x82
  replace H:St _ _ [.box b44 (yT aT Vo Vg a43Bags c43Bags Xr Xo) 38,.box b35 (yS aS QO QN Vp Vh) 36,.box b3 (yT aT Xp Xl Vx Vu QK QJ) 29,.box b1 (yS aS Qg Qe Xq Xm) 25] [isF true Xe (.slice Vo aT.qy.length Vg) (mrk aT.qy (1+(cnt aS.qw:Nat)+(cnt aS.qx:Nat))),isF true Va (.slice a43Bags aT.qE.length c43Bags) (mrk aT.qE (1+(cnt aS.qw:Nat)+(cnt aS.qx:Nat)+(cnt aT.qy:Nat))),isF true Qw (.slice Xr aT.qA.length Xo) (mrk aT.qA (1+(cnt aS.qw:Nat)+(cnt aS.qx:Nat)+(cnt aT.qy:Nat)+(cnt aT.qE:Nat))),isF true yw (.slice QO aS.qw.length QN) (mrk aS.qw (1)),isF true Q4 (.slice Vp aS.qx.length Vh) (mrk aS.qx (1+(cnt aS.qw:Nat))),sF true YB a72Alive c72Alive aT.qy,sF true F72Bags a72Bags c72Bags aT.qE,sF true X4 a72Around c72Around aT.qA,sF true Q8 a62Parents c62Parents aS.qw,sF true VO a62Rules c62Rules aS.qx,sF true rF47a ra47a rc47a ((ve aS aT).1),sF true rF24a ra24a rc24a ((ve aS aT).1),sF true Xf a23Alive c23Alive aT.qy,sF true Vb a23Bags c23Bags aT.qE,sF true Qx a23Around c23Around aT.qA,sF true yx a17Parents c17Parents aS.qw,sF true Q5 a17Rules c17Rules aS.qx,sF false YT Qg Qe aS.qw,sF false FaSRules Xq Xm aS.qx,sF false FaTAlive Xp Xl aT.qy,sF false FaTBags Vx Vu aT.qE,sF false FaTAround QK QJ aT.qA]:=H.chgFacts (Fs:=[Xe,Va,Qw]) (L:=[yw,Q4,YB,F72Bags,X4,Q8,VO,rF47a,rF24a,Xf,Vb,Qx,yx,Q5]) (A:=[YT,FaSRules,FaTAlive,FaTBags,FaTAround]) N80 A (x82.mono (by intro z hz;simpa using hz)) [8,9,10] [isF true Xe (.slice Vo aT.qy.length Vg) (mrk aT.qy (1+(cnt aS.qw:Nat)+(cnt aS.qx:Nat))),isF true Va (.slice a43Bags aT.qE.length c43Bags) (mrk aT.qE (1+(cnt aS.qw:Nat)+(cnt aS.qx:Nat)+(cnt aT.qy:Nat))),isF true Qw (.slice Xr aT.qA.length Xo) (mrk aT.qA (1+(cnt aS.qw:Nat)+(cnt aS.qx:Nat)+(cnt aT.qy:Nat)+(cnt aT.qE:Nat)))] (all_of ⟨m83.1,⟨m83.2.1,⟨m83.2.2,trivial⟩⟩⟩) [0,1,2,3,4,5,6,7,11,12,13,14,15,16,17,18,19,20,21] [0,1,2,3,4,5,6,7,8,9,10,11,12,13,14,15,16,17,18]
  replace N:=N80
  refine sp (yI (1+(cnt aS.qw:Nat)+(cnt aS.qx:Nat)+(cnt aT.qy:Nat)+(cnt aT.qE:Nat)+(cnt aT.qA:Nat))) (zjcc (sps [yI (1+(cnt aS.qw:Nat)+(cnt aS.qx:Nat)+(cnt aT.qy:Nat)+(cnt aT.qE:Nat)+(cnt aT.qA:Nat)),.bool (decide ((1+(cnt aS.qw:Nat)+(cnt aS.qx:Nat)+(cnt aT.qy:Nat)+(cnt aT.qE:Nat)+(cnt aT.qA:Nat):Int) < 0)),.bool (decide ((1+(cnt aS.qw:Nat)+(cnt aS.qx:Nat)+(cnt aT.qy:Nat)+(cnt aT.qE:Nat)+(cnt aT.qA:Nat):Int) < 0))] ?_))
  cases h84:(decide ((1+(cnt aS.qw:Nat)+(cnt aS.qx:Nat)+(cnt aT.qy:Nat)+(cnt aT.qE:Nat)+(cnt aT.qA:Nat):Int) < 0))
  ·skip
   replace h84:=of_decide_eq_false h84
   refine qQ 72 rfl rfl (sp (.slice ra47a (((ve aS aT).1).length) rc47a) (qQ 72 rfl rfl (sp (.slice ra24a (((ve aS aT).1).length) rc24a) (qQ 72 rfl rfl (sw (oq (eqStateS_ok _ ((ve aS aT).1) ((ve aS aT).1) (H.get 10 rfl).1 (H.get 11 rfl).1) H fun w85 H=>qQ 72 rfl rfl (sps [.bool (!(decide (((ve aS aT).1)=((ve aS aT).1)))),.bool (!(decide (((ve aS aT).1)=((ve aS aT).1)))),.bool (!(decide (((ve aS aT).1)=((ve aS aT).1))))] ?_)))))))
   cases h87:(!(decide (((ve aS aT).1)=((ve aS aT).1))))
   ·skip
    replace h87:=xg h87
    refine qQ 78 rfl rfl (sp (yI ((ve aS aT).2)) (qQ 78 rfl rfl (sp (yI ((ve aS aT).2)) (qQ 78 rfl rfl (sps [.bool (((ve aS aT).2:Int) != ((ve aS aT).2)),.bool (((ve aS aT).2:Int) != ((ve aS aT).2))] (zjn (xH (((ve aS aT).2:Int) != ((ve aS aT).2)) rfl (fun h=>absurd rfl (bne_iff_ne.1 h)) (fun h88=>?_))))))))
    replace h88:=xq h88
    refine qV (t_n (zcr (sp (yI 1) (zjc (sps [.slice ra47a (((ve aS aT).1).length) rc47a,yI 1] ?_)))))
    have N89:Fresh w.heap.size [rF47a,Xe,Va,Qw,yw,Q4,YB,F72Bags,X4,Q8,VO,rF24a,Xf,Vb,Qx,yx,Q5]:=(N.pick [10,0,1,2,3,4,5,6,7,8,9,11,12,13,14,15,16])
    refine sw (XP #[.slice ra47a (((ve aS aT).1).length) rc47a,yI 1] rfl rfl call30 (markStateS_ok w85 ((ve aS aT).1) 1 ra47a rc47a rF47a (H.get 10 rfl).1 (N89.pick [0]:Fresh _ [rF47a]).one.2 ((H.get 10 rfl).2 rfl) qf qf) ?_)
    rintro _ w90 ⟨rfl,m92⟩ x91
    replace H:St _ _ [.box b44 (yT aT Vo Vg a43Bags c43Bags Xr Xo) 38,.box b35 (yS aS QO QN Vp Vh) 36,.box b3 (yT aT Xp Xl Vx Vu QK QJ) 29,.box b1 (yS aS Qg Qe Xq Xm) 25] [isF true rF47a (.slice ra47a (((ve aS aT).1).length) rc47a) (mrk ((ve aS aT).1) (1)),isF true Xe (.slice Vo aT.qy.length Vg) (mrk aT.qy (1+(cnt aS.qw:Nat)+(cnt aS.qx:Nat))),isF true Va (.slice a43Bags aT.qE.length c43Bags) (mrk aT.qE (1+(cnt aS.qw:Nat)+(cnt aS.qx:Nat)+(cnt aT.qy:Nat))),isF true Qw (.slice Xr aT.qA.length Xo) (mrk aT.qA (1+(cnt aS.qw:Nat)+(cnt aS.qx:Nat)+(cnt aT.qy:Nat)+(cnt aT.qE:Nat))),isF true yw (.slice QO aS.qw.length QN) (mrk aS.qw (1)),isF true Q4 (.slice Vp aS.qx.length Vh) (mrk aS.qx (1+(cnt aS.qw:Nat))),sF true YB a72Alive c72Alive aT.qy,sF true F72Bags a72Bags c72Bags aT.qE,sF true X4 a72Around c72Around aT.qA,sF true Q8 a62Parents c62Parents aS.qw,sF true VO a62Rules c62Rules aS.qx,sF true rF24a ra24a rc24a ((ve aS aT).1),sF true Xf a23Alive c23Alive aT.qy,sF true Vb a23Bags c23Bags aT.qE,sF true Qx a23Around c23Around aT.qA,sF true yx a17Parents c17Parents aS.qw,sF true Q5 a17Rules c17Rules aS.qx,sF false YT Qg Qe aS.qw,sF false FaSRules Xq Xm aS.qx,sF false FaTAlive Xp Xl aT.qy,sF false FaTBags Vx Vu aT.qE,sF false FaTAround QK QJ aT.qA]:=H.chgFacts (Fs:=[rF47a]) (L:=[Xe,Va,Qw,yw,Q4,YB,F72Bags,X4,Q8,VO,rF24a,Xf,Vb,Qx,yx,Q5]) (A:=[YT,FaSRules,FaTAlive,FaTBags,FaTAround]) N89 A (x91.mono (by intro z hz;simpa using hz)) [10] [isF true rF47a (.slice ra47a (((ve aS aT).1).length) rc47a) (mrk ((ve aS aT).1) (1))] (all_of ⟨m92,trivial⟩) [0,1,2,3,4,5,6,7,8,9,11,12,13,14,15,16,17,18,19,20,21] [0,1,2,3,4,5,6,7,8,9,10,11,12,13,14,15,16,17,18,19,20]
    replace N:=N89
    refine sp (yI (1+(cnt ((ve aS aT).1):Nat))) (zjc (sp (yI 1) (zjc (sps [.slice ra47a (((ve aS aT).1).length) rc47a,yI 1] ?_))))
    have hn93:=H.isLen 0 rfl
    refine sw (oq (args_eq (by rw [← hn93]) (heldStateS_ok _ (mrk ((ve aS aT).1) (1)) 1 (hn93▸(H.get 0 rfl).1) (by first | exact mkd_mark _ _ | omega | (simp only [cnt_mark];first | exact mkd_mark _ _ | omega)) (by first | exact mkd_mark _ _ | omega | (simp only [cnt_mark];first | exact mkd_mark _ _ | omega)) (by first | exact mkd_mark _ _ | omega | (simp only [cnt_mark];first | exact mkd_mark _ _ | omega)))) H fun w94 H=>sp (yI (1+(cnt (mrk ((ve aS aT).1) (1)):Nat))) (zjcc (sps [yI (1+(cnt (mrk ((ve aS aT).1) (1)):Nat)),.bool (decide ((1+(cnt (mrk ((ve aS aT).1) (1)):Nat):Int) < 0))] (zjn ?_))))
    refine cD rfl (fun h96=>?_) (fun h96=>?_)
    ·skip
     refine zcr (sp (.bool false) (zjr (t_r (ret1 (.bool false) rfl rfl ⟨_,rfl,?_,H.base⟩))))
     exfalso;first | omega | contradiction
    refine qV (t_n (zcc (sps [yI (1+(cnt (mrk ((ve aS aT).1) (1)):Nat)),yI (1+(cnt ((ve aS aT).1):Nat)),.bool ((1+(cnt (mrk ((ve aS aT).1) (1)):Nat):Int) != (1+(cnt ((ve aS aT).1):Nat)))] (zjn (xH ((1+(cnt (mrk ((ve aS aT).1) (1)):Nat):Int) != (1+(cnt ((ve aS aT).1):Nat))) rfl (fun h97=>?_) (fun h97=>?_))))))
    ·skip
     replace h97:=bne_iff_ne.1 h97
     refine zcr (sp (.bool false) (zjr (t_r (ret1 (.bool false) rfl rfl ⟨_,rfl,?_,H.base⟩))))
     exfalso;first | omega | contradiction | exact h97 (by simp only [cnt_mark])
    replace h97:=xq h97
    refine qV (t_n (xO ?_))
    refine jd rfl H fun H=>rt 0 (.agg #[yI aS.xA,.slice Qg aS.qw.length Qe,.slice Xq aS.qx.length Xm]) (Qy (cs:=(yS aS Qg Qe Xq Xm)) isAgg25 sizeOf25 rfl (fun _ h=>qF (h.cells 3 rfl) 0 3)) H ?_
    refine rt 2 (.agg #[.slice Xp aT.qy.length Xl,.slice Vx aT.qE.length Vu,.slice QK aT.qA.length QJ]) (Qy (cs:=(yT aT Xp Xl Vx Vu QK QJ)) isAgg29 sizeOf29 rfl (fun _ h=>qF (h.cells 2 rfl) 0 3)) H ?_
    refine ro 1 rfl ?_
    have sz99:=H.base.size
    have lt100:=H.ltN (L:=[rF47a,Xe,Va,Qw,yw,Q4,YB,F72Bags,X4,Q8,VO,rF24a,Xf,Vb,Qx,yx,Q5]) [0,1,2,3,4,5,6,7,8,9,10,11,12,13,14,15,16]
    refine oc (toSystem_ok _ aS (H.get 17 rfl).1 (H.get 18 rfl).1 qg) ?_
    rintro v104 w102 r104 x103
    obtain ⟨a104Parents,c104Parents,F104Parents,a104Rules,c104Rules,F104Rules,rfl,f104,H⟩:=H.add_SystemD x103 r104
    replace N:=N.cons f104 sz99 lt100
    replace N:=N.split
    refine ⟨H.pick [0,1,2,3] [2,3,4,5,6,7,8,9,10,11,12,13,14,15,16,17,18,19,20,21,22,23],(ro 3 rfl ?_)⟩
    have sz105:=H.base.size
    have lt106:=H.ltN (L:=[F104Parents,F104Rules,rF47a,Xe,Va,Qw,yw,Q4,YB,F72Bags,X4,Q8,VO,rF24a,Xf,Vb,Qx,yx,Q5]) [0,1,2,3,4,5,6,7,8,9,10,11,12,13,14,15,16,17,18]
    refine oc (toState_ok _ aT (H.get 21 rfl).1 (H.get 22 rfl).1 (H.get 23 rfl).1 qg) ?_
    rintro v110 w108 r110 x109
    obtain ⟨a110Alive,c110Alive,F110Alive,a110Bags,c110Bags,F110Bags,a110Around,c110Around,F110Around,rfl,f110,H⟩:=H.add_StateD x109 r110
    replace N:=N.cons f110 sz105 lt106
    replace N:=N.split
    replace N:=N.split
    refine ⟨H.pick [0,1,2,3] [5,6,7,8,9,10,11,12,13,14,15,16,17,18,19,20,21,22,23,24,25,26],(ro 4 rfl ?_)⟩
    have sz114:=H.base.size
    have lt115:=H.ltN (L:=[F110Alive,F110Bags,F110Around,F104Parents,F104Rules,rF47a,Xe,Va,Qw,yw,Q4,YB,F72Bags,X4,Q8,VO,rF24a,Xf,Vb,Qx,yx,Q5]) [0,1,2,3,4,5,6,7,8,9,10,11,12,13,14,15,16,17,18,19,20,21]
    refine oc (implHS_ok _ aS aT (H.get 3 rfl).1 (H.get 4 rfl).1 (H.get 0 rfl).1 (H.get 1 rfl).1 (H.get 2 rfl).1) ?_
    rintro _ w112 ⟨ra111a,rc111a,rF111a,rfl,M,K⟩ _
    replace N:=N.merge sz114 lt115 M
    replace H:=H.merge K M
    refine ⟨H.pick [0,1,2,3] [6,7,8,9,10,11,12,13,14,15,16,17,18,19,20,21,22,23,24,25,26,27],?_⟩
    have S:=H.yD [0,1,2,3] [6,7,8,9,10,11,12,13,14,15,16,17,18,19,20,21,22,23,24,25,26,27]
    refine rtp 5 (.tuple #[.slice ra111a (((ve aS aT).1).length) rc111a,yI ((ve aS aT).2)]) S ?_
    refine rtp 6 (.slice ra111a (((ve aS aT).1).length) rc111a) S ?_
    refine rtp 7 (yI ((ve aS aT).2)) S ?_
    refine rtp 8 (.slice ra111a (((ve aS aT).1).length) rc111a) S ?_
    refine rtp 9 (yI ((ve aS aT).2)) S ?_
    refine xM qh (t_n (zcc (sps [.slice ra111a (((ve aS aT).1).length) rc111a,.slice ra24a (((ve aS aT).1).length) rc24a] (sw (oq (eqStateS_ok _ ((ve aS aT).1) ((ve aS aT).1) (H.get 0 rfl).1 (H.get 17 rfl).1) H fun w116 H=>sps [.bool (!(decide (((ve aS aT).1)=((ve aS aT).1)))),.bool (!(decide (((ve aS aT).1)=((ve aS aT).1))))] ?_)))))
    cases h118:(!(decide (((ve aS aT).1)=((ve aS aT).1))))
    ·skip
     replace h118:=xg h118
     refine qQ 106 rfl rfl (sp (yI ((ve aS aT).2)) (qQ 106 rfl rfl (sp (yI ((ve aS aT).2)) (qQ 106 rfl rfl (sps [.bool (((ve aS aT).2:Int) != ((ve aS aT).2)),.bool (((ve aS aT).2:Int) != ((ve aS aT).2))] (zjn (xH (((ve aS aT).2:Int) != ((ve aS aT).2)) rfl (fun h=>absurd rfl (bne_iff_ne.1 h)) (fun h119=>?_))))))))
     replace h119:=xq h119
     refine qV (t_n (zcr (sp (yI 1) (zjc (sps [.slice ra47a (((ve aS aT).1).length) rc47a,yI 1] ?_)))))
     have hn120:=H.isLen 6 rfl
     refine sw (oq (args_eq (by rw [← hn120]) (heldStateS_ok _ (mrk ((ve aS aT).1) (1)) 1 (hn120▸(H.get 6 rfl).1) (by first | exact mkd_mark _ _ | omega | (simp only [cnt_mark];first | exact mkd_mark _ _ | omega)) (by first | exact mkd_mark _ _ | omega | (simp only [cnt_mark];first | exact mkd_mark _ _ | omega)) (by first | exact mkd_mark _ _ | omega | (simp only [cnt_mark];first | exact mkd_mark _ _ | omega)))) H fun w121 H=>sp (yI (1+(cnt (mrk ((ve aS aT).1) (1)):Nat))) (zjcc (sps [yI (1+(cnt (mrk ((ve aS aT).1) (1)):Nat)),.bool (decide ((1+(cnt (mrk ((ve aS aT).1) (1)):Nat):Int) < 0))] ?_)))
     refine zjn (cD rfl (fun h123=>?_) (fun h123=>?_))
     ·skip
      refine zcr (sp (.bool false) (zjr (t_r (ret1 (.bool false) rfl rfl ⟨_,rfl,?_,H.base⟩))))
      exfalso;first | omega | contradiction
     refine qV (t_n (zcc (sps [yI (1+(cnt (mrk ((ve aS aT).1) (1)):Nat)),yI (1+(cnt ((ve aS aT).1):Nat)),.bool ((1+(cnt (mrk ((ve aS aT).1) (1)):Nat):Int) != (1+(cnt ((ve aS aT).1):Nat)))] (zjn (xH ((1+(cnt (mrk ((ve aS aT).1) (1)):Nat):Int) != (1+(cnt ((ve aS aT).1):Nat))) rfl (fun h=>absurd h97 (bne_iff_ne.1 h)) (fun h124=>?_))))))
     replace h124:=xq h124
     refine qV (t_n (zcr (sp (.bool true) (zjr (ret1 (.bool true) rfl rfl ⟨_,rfl,?_,H.base⟩)))))
     rfl
    · exact absurd (xn h118) qm
   · exact absurd (xn h87) qm
  replace h84:=of_decide_eq_true h84
  refine zk [73,74,75,76] (sps [.bool true,.bool true] (zk [79,80,81] (sp (.bool true) (zjn (xH true rfl (fun _=>zcr (sp (.bool false) (zjr (t_r (ret1 (.bool false) rfl rfl ⟨_,rfl,?_,H.base⟩))))) (fun h=>absurd h qj))))))
  exfalso;first | omega | contradiction
 · exact absurd (xn h54) qm
end
end Go.Proofs.YtgjnaocffdhnbaaGreat
