/- Walks and laws, printed by program and by hand: what each function comes to, for all arguments, part 6. -/
import Derived.Test.YtgjnaocffdhnbaaGreatA5
namespace Go.Proofs.YtgjnaocffdhnbaaGreat
set_option linter.unusedVariables false
set_option linter.unusedSimpArgs false
open Go.Proofs.YtgjnaocffdhnbaaGreat.Tot (tot)
open Go.Proofs.YtgjnaocffdhnbaaGreat.Mark (cnt mrk mkd mkd_mark cnt_mark)
section
open Go.Proofs.Tryz
open Go.RowKit
set_option linter.unusedVariables false
set_option linter.unusedSimpArgs false
set_option maxRecDepth 100000
set_option maxHeartbeats 4000000
variable {cl cb qy qI qR xk qM bs os bt ot VU cuBags Xz QJ cgNext : Nat}
theorem isBag_ok (w:World) (l:yLI) {al:yOA} {Fl:yLN} (hl:qO.rep w Fl [.slice al l.length cl] l):Calls Tryz.prog 209 #[.slice al l.length cl] w (Ret (fun v w' =>v=.bool (dec (VP l))) w):=by
 refine en func209 ntmps209 ?_
 have H:=(St.start w).arg hl
 have nhl:=qK hl
 clear hl
 have N:=Fresh.nil w.heap.size
 refine zcr (sp (.bool false) (zjc (sp (.slice al l.length cl) (sw (oq (sizeI_ok _ l (H.get 0 rfl).1) H fun w1 H=>sp (.slice al l.length cl) (sw (oq (YB _ (l.length:Int) l (H.get 0 rfl).1) H fun w3 H=>sp (.bool (dec (vw (l.length:Int) l))) (zjr (ret1 (.bool (dec (vw (l.length:Int) l))) rfl rfl ⟨_,rfl,?_,H.base⟩)))))))))
 rw [dec_congr bagAny_okH]

theorem isFull_ok (w:World) (rest:yLI) (parts:yLL) {arest:yOA} {crest:Nat} {Frest:yLN} {zk:yOA} {xX:Nat} {Fparts:yLN} (hrest:qO.rep w Frest [.slice arest rest.length crest] rest) (hparts:qO.rep w Fparts [.slice zk parts.length xX] parts) (p0:Yq parts rest):Calls Tryz.prog 178 #[.slice arest rest.length crest,.slice zk parts.length xX] w (Ret (fun v w' =>v=.bool (dec (FullOk parts rest))) w):=by
 refine en func178 ntmps178 ?_
 have H:=((St.start w).arg hparts).arg hrest
 have nhrest:=qK hrest
 have nhparts:=qK hparts
 clear hrest hparts
 have N:=Fresh.nil w.heap.size
 refine zcr (sw (vH H [.slice arest rest.length crest] fun b1 w2 H=>sp (.bool false) (zjc (sps [.slice zk parts.length xX,.func (.func 206) #[] #[pp b1 0]] (sw (vF #[.slice zk parts.length xX,.func (.func 206) #[] #[pp b1 0]] rfl rfl call205 (en func205 ntmps205 ?_)))))))
 refine zcr (sp (.bool false) (zjc (sps [.slice zk parts.length xX,.func (.func 206) #[] #[pp b1 0]] (sw (vF #[.slice zk parts.length xX,.func (.func 206) #[] #[pp b1 0]] rfl rfl call211 (en func211 ntmps211 ?_))))))
 refine zcr (sp (yI 0) (zjcc (sp (.slice zk parts.length xX) (oN rfl (sp (yI 0) (zjn (qX ?_)))))))
 refine zu (fun m' ρ w3=>∃ (xU:Env) (i:Nat),ρ=upd (upd (upd (upd xU 0 (.slice zk parts.length xX)) 1 (.func (.func 206) #[] #[pp b1 0])) 7 (yI parts.length)) 8 (yI i)∧((i:Int)≤parts.length)∧(FullTo parts rest i)∧m' =(parts.length - (i:Int)).toNat∧Fresh w.heap.size []∧St w w3 [.box b1 [.slice arest rest.length crest] 22] [sF false Frest arest crest rest,sF false Fparts zk xX parts]) ((parts.length - (0:Int)).toNat) ⟨_,0,uE4,qf,(by first | trivial | exact fun j hj=>by omega),rfl,N,H⟩ ?_
 clear H N
 rintro m' ρ w4 ⟨xU,i,rfl,i0,i1,rfl,N,H⟩
 refine zcr (sp (.bool (decide ((i:Int) < parts.length))) (zjn (xQ (cD rfl (fun h5=>?_) (fun h5=>?_)))))
 ·skip
  obtain ⟨t1,t2,t3,t4,t5⟩:=p0.times (k:=i) qf
  refine qU (t_n (xQ (qX (zcr (sps [yI i,yI i] (zjc (sps [.func (.func 206) #[] #[pp b1 0],.slice zk parts.length xX,yI i] ?_)))))))
  obtain ⟨b6,o7,rfl⟩:=H.addr 1 rfl qf
  obtain ⟨ae9,ce9,Fe9,H⟩:=H.vM 1 rfl i i qf qf qf
  refine oI rfl rfl (oL rfl (H.xW 1 rfl 0 rfl) (sw (vF #[.slice ae9 ((parts[i]!).length) ce9,pp b1 0] rfl rfl call206 (en func206 ntmps206 ?_))))
  refine zcr (sp (.bool false) (zjc (sp (.slice ae9 ((parts[i]!).length) ce9) (oL rfl (H.cell 0 rfl rfl) (sw (oq (isWithin_ok _ (parts[i]!) rest (H.get 0 rfl).1 (H.get 2 rfl).1 qg qg) H fun w10 H=>sp (.bool (within (parts[i]!) rest)) (zjr (ret1 (.bool (within (parts[i]!) rest)) rfl rfl ⟨_,rfl,(zjn (xK (within (parts[i]!) rest) rfl (fun h12=>?_) (fun h12=>?_)))⟩))))))))
  ·skip
   refine zcr (sps [yI i,yI i] (zjr (zr5 (ret1 (yI i) rfl rfl ⟨_,rfl,(sw (o_pure (.bool true) (by show some (Value.bool (decide ((i:Int)≥0)))=some (Value.bool true);rw [decide_eq_true qf]) (sp (.bool true) (zjr (ret1 (.bool true) rfl rfl ⟨_,rfl,(sps [.bool false,.bool false] (zjr (ret1 (.bool false) rfl rfl ⟨_,rfl,?_,H.base⟩)))⟩)))))⟩))))
   rw [xx (fun h=>by have:=h i qf;simp_all)]
  refine qU (b_n (t_n (xY (sw (zC i 1 rfl rfl qf (sp (yI (i+1)) (xZ (xf (m' :=(parts.length - ((i+1):Int)).toNat) qf ⟨_,i+1,uE4,?_,?_,rfl,N,H.pick [0] [2,3]⟩))))))))
  · omega
  · first | trivial | exact i1.succ ‹_›
 refine zx4 (zcr (sp (yI (-1)) (zjr (ret1 (yI (-1)) rfl rfl ⟨_,rfl,(sps [.bool false,.bool false] (zjr (ret1 (.bool false) rfl rfl ⟨_,rfl,(sps [.bool true,.bool true] (zjr (ret1 (.bool true) rfl rfl ⟨_,rfl,?_,H.base⟩)))⟩)))⟩))))
 rw [yD (show FullOk parts rest from fun j hj=>i1 j qf)]

theorem bagAndParts_ok (w:World) (b:yLI) (parts:yLL) {ab:yOA} {Fb:yLN} {zk:yOA} {xX:Nat} {Fparts:yLN} (hb:qO.rep w Fb [.slice ab b.length cb] b) (hparts:qO.rep w Fparts [.slice zk parts.length xX] parts) (p0:Yq parts b) (p1:1≤parts.length):Calls Tryz.prog 200 #[.slice ab b.length cb,.slice zk parts.length xX] w (Ret (fun v w' =>v=yI 0) w):=by
 refine en func200 ntmps200 ?_
 have H:=((St.start w).arg hparts).arg hb
 have nhb:=qK hb
 have nhparts:=qK hparts
 clear hb hparts
 have N:=Fresh.nil w.heap.size
 obtain ⟨pb,pl,pk⟩:=p0.bags p1
 refine zcr (sp (yI 0) (zjcc (sp (.slice ab b.length cb) (sw (oq (isBag_ok _ b (H.get 0 rfl).1) H fun w2 H=>sp (.bool (!(dec (VP b)))) (zjn (cQ rfl (fun h4=>?_) (fun h4=>?_))))))))
 ·skip
  refine zcr (sp (yI 1) (zjr (t_r (ret1 (yI 1) rfl rfl ⟨_,rfl,?_,H.base⟩))))
  exfalso;first | omega | exact ‹¬ VP _› pb
 refine qU (t_n (zcr (sp (.slice ab b.length cb) (oN rfl (sps [.slice zk parts.length xX,.slice zk parts.length xX] (oN rfl (sw (XI H underlying22 ti2 parts.length rfl rfl qf qf qf fun b5 w6 H=>sw (vF #[yI b.length,.slice zk parts.length xX,.slice (aa b5 0) parts.length parts.length] rfl rfl call210 (en func210 ntmps210 ?_))))))))))
 refine zcr (sp (yI 0) (zjcc (sp (.slice zk parts.length xX) (sw (vF #[.slice zk parts.length xX,.func (.func 212) #[] #[]] rfl rfl call205 (en func205 ntmps205 ?_))))))
 refine zcr (sp (.bool false) (zjc (sps [.slice zk parts.length xX,.func (.func 212) #[] #[]] (sw (vF #[.slice zk parts.length xX,.func (.func 212) #[] #[]] rfl rfl call211 (en func211 ntmps211 ?_))))))
 refine zcr (sp (yI 0) (zjcc (sp (.slice zk parts.length xX) (oN rfl (sp (yI 0) (zjn (qX ?_)))))))
 refine zu (fun m' ρ w7=>∃ (xU:Env) (i:Nat),ρ=upd (upd (upd (upd xU 0 (.slice zk parts.length xX)) 1 (.func (.func 212) #[] #[])) 7 (yI parts.length)) 8 (yI i)∧((i:Int)≤parts.length)∧(True)∧m' =(parts.length - (i:Int)).toNat∧Fresh w.heap.size []∧St w w7 [rr (aa b5 0) parts.length parts.length 2 1 ((List.replicate parts.length (0:Int)).map (Value.int .i64))] [sF false Fb ab cb b,sF false Fparts zk xX parts]) ((parts.length - (0:Int)).toNat) ⟨_,0,uE4,qf,(by first | trivial | exact fun j hj=>by omega),rfl,N,H⟩ ?_
 clear H N
 rintro m' ρ w8 ⟨xU,i,rfl,i0,i1,rfl,N,H⟩
 refine zcr (sp (.bool (decide ((i:Int) < parts.length))) (zjn (xQ (cD rfl (fun h9=>?_) (fun h9=>?_)))))
 ·skip
  refine qU (t_n (xQ (qX (zcr (sps [yI i,yI i] (zjc (sps [.func (.func 212) #[] #[],.slice zk parts.length xX,yI i] ?_)))))))
  obtain ⟨b10,o11,rfl⟩:=H.addr 1 rfl qf
  obtain ⟨ae13,ce13,Fe13,H⟩:=H.vM 1 rfl i i qf qf qf
  refine oI rfl rfl (oL rfl (H.xW 1 rfl 0 rfl) (sw (vF #[.slice ae13 ((parts[i]!).length) ce13] rfl rfl call212 (en func212 ntmps212 ?_))))
  refine zcr (sp (.bool false) (zjc (sp (.slice ae13 ((parts[i]!).length) ce13) (sw (oq (isBag_ok _ (parts[i]!) (H.get 0 rfl).1) H fun w15 H=>sps [.bool (!(dec (VP (parts[i]!)))),.bool (!(dec (VP (parts[i]!))))] (zjr (ret1 (.bool (!(dec (VP (parts[i]!))))) rfl rfl ⟨_,rfl,(zjn (cQ rfl (fun h17=>?_) (fun h17=>?_)))⟩)))))))
  ·skip
   exact absurd (pk i qf).1 h17
  refine qU (b_n (t_n (xY (sw (zC i 1 rfl rfl qf (sp (yI (i+1)) (xZ (xf (m' :=(parts.length - ((i+1):Int)).toNat) qf ⟨_,i+1,uE4,?_,?_,rfl,N,H.pick [0] [2,3]⟩))))))))
  · omega
  · first | trivial | exact i1.succ ‹_›
 refine zx4 (zcr (sp (yI (-1)) (zjr (ret1 (yI (-1)) rfl rfl ⟨_,rfl,(sps [.bool false,.bool false] (zjr (ret1 (.bool false) rfl rfl ⟨_,rfl,(zjn (xK false rfl (fun h=>absurd h qj) (fun _=>qU (t_n (zcc (sp (.slice zk parts.length xX) (oN rfl (sps [.bool (decide ((parts.length:Int) > 8)),.bool (decide ((parts.length:Int) > 8))] ?_))))))))⟩)))⟩))))
 cases h18:(decide ((parts.length:Int) > 8))
 ·skip
  replace h18:=of_decide_eq_false h18
  refine qP 14 rfl rfl (sp (.slice (aa b5 0) parts.length parts.length) (qP 14 rfl rfl (oN rfl (qP 14 rfl rfl (sp (.slice zk parts.length xX) (qP 14 rfl rfl (oN rfl (qP 14 rfl rfl (sps [.bool ((parts.length:Int) != parts.length),.bool ((parts.length:Int) != parts.length)] (zjn (xK ((parts.length:Int) != parts.length) rfl (fun h=>absurd rfl (bne_iff_ne.1 h)) (fun h19=>?_))))))))))))
  replace h19:=xq h19
  refine qU (t_n (zcc (sp (.slice zk parts.length xX) (oN rfl (sp (yI 0) (zjn (qX ?_)))))))
  refine zu (fun m' ρ w20=>∃ (xU:Env) (i_1:Nat),ρ=upd (upd (upd (upd (upd xU 0 (yI b.length)) 2 (.slice (aa b5 0) parts.length parts.length)) 21 (.slice zk parts.length xX)) 22 (yI parts.length)) 23 (yI i_1)∧((i_1:Int)≤parts.length)∧m' =(parts.length - (i_1:Int)).toNat∧Fresh w.heap.size []∧St w w20 [rr (aa b5 0) parts.length parts.length 2 1 ((List.replicate parts.length (0:Int)).map (Value.int .i64))] [sF false Fb ab cb b,sF false Fparts zk xX parts]) ((parts.length - (0:Int)).toNat) ⟨_,0,uE5,qf,rfl,N,H⟩ ?_
  clear H N
  rintro m' ρ w21 ⟨xU,i_1,rfl,i0,rfl,N,H⟩
  refine zcr (sp (.bool (decide ((i_1:Int) < parts.length))) (zjn (xQ (cD rfl (fun h22=>?_) (fun h22=>?_)))))
  ·skip
   obtain ⟨r1,r2,r3⟩:=pk i_1 qf
   have r4:=Qo r1
   have r5:(List.replicate parts.length (0:Int))[i_1]! =0:=by rw [getElem!_pos _ i_1 (by simp;omega)];simp
   refine qU (t_n (xQ (qX (zcr (sp (yI i_1) ?_)))))
   obtain ⟨b23,o24,rfl⟩:=H.addr 1 rfl qf
   obtain ⟨ae26,ce26,Fe26,H⟩:=H.vM 1 rfl i_1 i_1 qf qf qf
   refine oI rfl rfl (oL rfl (H.xW 1 rfl 0 rfl) (sps [yI i_1,.slice ae26 ((parts[i_1]!).length) ce26] (zjc (sp (.slice ae26 ((parts[i_1]!).length) ce26) (oN rfl (sps [yI b.length,.bool (((parts[i_1]!).length:Int) != b.length),.bool (((parts[i_1]!).length:Int) != b.length)] ?_))))))
   cases h27:(((parts[i_1]!).length:Int) != b.length)
   ·skip
    replace h27:=xq h27
    refine qP 32 rfl rfl (sp (.slice ae26 ((parts[i_1]!).length) ce26) (qP 32 rfl rfl (sw (oq (VH _ (parts[i_1]!) (H.get 0 rfl).1 (by first | assumption | exact vJ ql | exact Qo ql)) H fun w28 H=>qP 32 rfl rfl (sps [.bool ((VN (parts[i_1]!):Int) == 0),.bool ((VN (parts[i_1]!):Int) == 0),.bool ((VN (parts[i_1]!):Int) == 0)] ?_)))))
    cases h30:((VN (parts[i_1]!):Int) == 0)
    ·skip
     replace h30:=ne_of_beq_false h30
     refine qP 37 rfl rfl (sp (.slice (aa b5 0) parts.length parts.length) (qP 37 rfl rfl (sp (yI i_1) (qP 37 rfl rfl (oI rfl rfl (qP 37 rfl rfl (oL rfl (H.rowInt 0 rfl (iv:=i_1) (i:=i_1) qf qf) (qP 37 rfl rfl (sw (oq (YR w28 ((List.replicate parts.length (0:Int))[i_1]!) 0 1000) H fun w31 H=>qP 37 rfl rfl (sps [.bool (!(inR ((List.replicate parts.length (0:Int))[i_1]!) 0 1000)),.bool (!(inR ((List.replicate parts.length (0:Int))[i_1]!) 0 1000))] (zjn (xK (!(inR ((List.replicate parts.length (0:Int))[i_1]!) 0 1000)) rfl (fun h33=>?_) (fun h33=>?_))))))))))))))
     ·skip
      replace h33:=xw h33
      replace h33:=Vs h33
      refine zcr (sp (yI 2) (zjr (zr5 (ret1 (yI 2) rfl rfl ⟨_,rfl,(sp (yI 2) (zjr (ret1 (yI 2) rfl rfl ⟨_,rfl,?_,H.base⟩)))⟩))))
      exfalso;first | omega | exact ‹¬ VP _› pb
     replace h33:=xh h33
     replace h33:=XL.1 h33
     refine qU (b_n (t_n (xY (sw (zC i_1 1 rfl rfl qf (sp (yI (i_1+1)) (xZ (xf (m' :=(parts.length - ((i_1+1):Int)).toNat) qf ⟨_,i_1+1,uE5,?_,rfl,N,H.pick [0] [2,3]⟩))))))))
     · omega
    replace h30:=eq_of_beq h30
    refine zo [38,39,40,41,42,43] (sp (.bool true) (zjn (xK true rfl (fun _=>zcr (sp (yI 2) (zjr (zr5 (ret1 (yI 2) rfl rfl ⟨_,rfl,(sp (yI 2) (zjr (ret1 (yI 2) rfl rfl ⟨_,rfl,?_,H.base⟩)))⟩))))) (fun h=>absurd h qj))))
    exfalso;first | omega | exact ‹¬ VP _› pb
   replace h27:=bne_iff_ne.1 h27
   refine zo [33,34,35] (sps [.bool true,.bool true] (zo [38,39,40,41,42,43] (sp (.bool true) (zjn (xK true rfl (fun _=>zcr (sp (yI 2) (zjr (zr5 (ret1 (yI 2) rfl rfl ⟨_,rfl,(sp (yI 2) (zjr (ret1 (yI 2) rfl rfl ⟨_,rfl,?_,H.base⟩)))⟩))))) (fun h=>absurd h qj))))))
   exfalso;first | omega | exact ‹¬ VP _› pb
  refine zx4 (zcr (sp (yI 0) (zjr (ret1 (yI 0) rfl rfl ⟨_,rfl,(sp (yI 0) (zjr (ret1 (yI 0) rfl rfl ⟨_,rfl,?_,H.base⟩)))⟩))))
  rfl
 replace h18:=of_decide_eq_true h18
 refine zo [15,16,17,18,19] (sp (.bool true) (zjn (xK true rfl (fun _=>zcr (sp (yI 2) (zjr (t_r (ret1 (yI 2) rfl rfl ⟨_,rfl,(sp (yI 2) (zjr (ret1 (yI 2) rfl rfl ⟨_,rfl,?_,H.base⟩)))⟩))))) (fun h=>absurd h qj))))
 exfalso;first | omega | exact ‹¬ VP _› pb

def packFrom_ok_S (f:Nat):Prop:=∀ {W0 w:World} {ps:List Prv} {Γ:List Fact} {Ns:List yLN} (i:Nat) (rest:yLI) (parts:yLL) (out:yLL) (cs:yLI) (arest:yOA) (crest:Nat) (Frest:yLN) (zk:yOA) (xX:Nat) (Fparts:yLN) (bp:Nat) (bi:Nat) (bq:Nat) (bo:Nat) (bl:Nat) (bc:Nat) (bf:Nat) (raout:yOA) (rnout:Nat) (rcout:Nat) (rxout:List Value) (rFout:yLN) (racs:yOA) (rncs:Nat) (rccs:Nat) (H:St W0 w ((.box bp [.slice zk parts.length xX] 27) :: (.box bi [.func (.func 177) #[] #[pp bq 0]] 170) :: (.box bq [.slice zk parts.length xX] 27) :: (.box bo [pp bl 0] 219) :: (.box bl [.slice raout rnout rcout] 221) :: (.box bc [.slice racs rncs rccs] 22) :: (.box bf [.func (.func 201) #[] #[pp bp 0,pp bi 0,pp bo 0,pp bc 0,pp bf 0]] 222) :: (rr raout rnout rcout 22 1 rxout) :: (rr racs rncs rccs 2 1 (cs.map (Value.int .i64))) :: ps) ((sF false Frest arest crest rest) :: (sF false Fparts zk xX parts) :: (zi true rFout rxout out) :: Γ)) (N:Fresh W0.heap.size (rFout :: Ns)) (K0:Kept Ns Γ) (p0:i+f=parts.length) (p1:Yq parts rest) (p2:out.length≤2000) (p3:cs.length=parts.length),Calls Tryz.prog 201 #[yI i,.slice arest rest.length crest,pp bp 0,pp bi 0,pp bo 0,pp bc 0,pp bf 0] w (fun e w' =>∃ v,e=.returned v∧∃ (cs_:yLI) (raout_:yOA) (rnout_:Nat) (rcout_:Nat) (rxout_:List Value) (rFout_:yLN),(cs_.length=cs.length)∧(cs_.take i=cs.take i)∧v=.bool (dec ((gath out (begins (cs.take i) (packs parts (parts.length - i) i rest))).length≤2000))∧Fresh W0.heap.size (rFout_ :: Ns)∧St W0 w' ((.box bp [.slice zk parts.length xX] 27) :: (.box bi [.func (.func 177) #[] #[pp bq 0]] 170) :: (.box bq [.slice zk parts.length xX] 27) :: (.box bo [pp bl 0] 219) :: (.box bl [.slice raout_ rnout_ rcout_] 221) :: (.box bc [.slice racs rncs rccs] 22) :: (.box bf [.func (.func 201) #[] #[pp bp 0,pp bi 0,pp bo 0,pp bc 0,pp bf 0]] 222) :: (rr raout_ rnout_ rcout_ 22 1 rxout_) :: (rr racs rncs rccs 2 1 (cs_.map (Value.int .i64))) :: ps) ((sF false Frest arest crest rest) :: (sF false Fparts zk xX parts) :: (zi true rFout_ rxout_ (gath out (begins (cs.take i) (packs parts (parts.length - i) i rest)))) :: Γ))
theorem packFrom_ok_step (f:Nat) (IH:∀ k,k < f→packFrom_ok_S k) {W0 w:World} {ps:List Prv} {Γ:List Fact} {Ns:List yLN} (i:Nat) (rest:yLI) (parts:yLL) (out:yLL) (cs:yLI) (arest:yOA) (crest:Nat) (Frest:yLN) (zk:yOA) (xX:Nat) (Fparts:yLN) (bp:Nat) (bi:Nat) (bq:Nat) (bo:Nat) (bl:Nat) (bc:Nat) (bf:Nat) (raout:yOA) (rnout:Nat) (rcout:Nat) (rxout:List Value) (rFout:yLN) (racs:yOA) (rncs:Nat) (rccs:Nat) (H:St W0 w ((.box bp [.slice zk parts.length xX] 27) :: (.box bi [.func (.func 177) #[] #[pp bq 0]] 170) :: (.box bq [.slice zk parts.length xX] 27) :: (.box bo [pp bl 0] 219) :: (.box bl [.slice raout rnout rcout] 221) :: (.box bc [.slice racs rncs rccs] 22) :: (.box bf [.func (.func 201) #[] #[pp bp 0,pp bi 0,pp bo 0,pp bc 0,pp bf 0]] 222) :: (rr raout rnout rcout 22 1 rxout) :: (rr racs rncs rccs 2 1 (cs.map (Value.int .i64))) :: ps) ((sF false Frest arest crest rest) :: (sF false Fparts zk xX parts) :: (zi true rFout rxout out) :: Γ)) (N:Fresh W0.heap.size (rFout :: Ns)) (K0:Kept Ns Γ) (p0:i+f=parts.length) (p1:Yq parts rest) (p2:out.length≤2000) (p3:cs.length=parts.length):Calls Tryz.prog 201 #[yI i,.slice arest rest.length crest,pp bp 0,pp bi 0,pp bo 0,pp bc 0,pp bf 0] w (fun e w' =>∃ v,e=.returned v∧∃ (cs_:yLI) (raout_:yOA) (rnout_:Nat) (rcout_:Nat) (rxout_:List Value) (rFout_:yLN),(cs_.length=cs.length)∧(cs_.take i=cs.take i)∧v=.bool (dec ((gath out (begins (cs.take i) (packs parts (parts.length - i) i rest))).length≤2000))∧Fresh W0.heap.size (rFout_ :: Ns)∧St W0 w' ((.box bp [.slice zk parts.length xX] 27) :: (.box bi [.func (.func 177) #[] #[pp bq 0]] 170) :: (.box bq [.slice zk parts.length xX] 27) :: (.box bo [pp bl 0] 219) :: (.box bl [.slice raout_ rnout_ rcout_] 221) :: (.box bc [.slice racs rncs rccs] 22) :: (.box bf [.func (.func 201) #[] #[pp bp 0,pp bi 0,pp bo 0,pp bc 0,pp bf 0]] 222) :: (rr raout_ rnout_ rcout_ 22 1 rxout_) :: (rr racs rncs rccs 2 1 (cs_.map (Value.int .i64))) :: ps) ((sF false Frest arest crest rest) :: (sF false Fparts zk xX parts) :: (zi true rFout_ rxout_ (gath out (begins (cs.take i) (packs parts (parts.length - i) i rest)))) :: Γ)):=by
 refine en func201 ntmps201 ?_
 have nrest:=qK (H.get 0 rfl).1
 have nparts:=qK (H.get 1 rfl).1
 obtain rfl:=H.zh (α:=yLI) 7 rfl 2 rfl qj
 obtain rfl:=H.Vq 8 rfl
 have p4:=p1.small
 refine zcr (sp (.bool false) (zjcc (sp (yI i) (oL rfl (H.cell 0 rfl rfl) (oN rfl (sp (.bool ((i:Int) == parts.length)) (zjn (cE rfl (fun h1=>?_) (fun h1=>?_)))))))))
 ·skip
  refine zcr (oL rfl (H.cell 1 rfl rfl) (sp (.slice arest rest.length crest) (sw (vF #[.slice arest rest.length crest,pp bq 0] rfl rfl call177 (en func177 ntmps177 ?_)))))
  refine zcr (sp (.bool false) (zjc (sp (.slice arest rest.length crest) (oL rfl (H.cell 2 rfl rfl) (sw (oq (isFull_ok _ rest parts (H.get 0 rfl).1 (H.get 1 rfl).1 qg) H fun w3 H=>sp (.bool (dec (FullOk parts rest))) (zjr (ret1 (.bool (dec (FullOk parts rest))) rfl rfl ⟨_,rfl,(sps [.bool (!(dec (FullOk parts rest))),.bool (!(dec (FullOk parts rest)))] ?_)⟩))))))))
  cases h5:(!(dec (FullOk parts rest)))
  ·skip
   replace h5:=xh h5
   replace h5:=QD h5
   refine qP 19 rfl rfl (oL rfl (H.cell 3 rfl rfl) (qP 19 rfl rfl (oL rfl (H.cell 5 rfl rfl) (qP 19 rfl rfl (sw (vF #[pp bl 0,.slice racs cs.length rccs] rfl rfl call202 (en func202 ntmps202 ?_)))))))
   refine zcr (sp (.bool false) (zjcc (sps [pp bl 0,pp bl 0] (oF rfl (oL rfl (H.cell 4 rfl rfl) (oN rfl (sp (.bool (decide ((out.length:Int) > 2000))) (zjn (cD rfl (fun h6=>?_) (fun h6=>?_))))))))))
   ·skip
    refine zcr (sp (.bool false) (zjr (t_r (ret1 (.bool false) rfl rfl ⟨_,rfl,(sps [.bool false,.bool false] (zjr (t_r (ret1 (.bool false) rfl rfl ⟨_,rfl,?_⟩))))⟩))))
    exfalso;omega
   refine qU (t_n (xQ ?_))
   refine c_cut (fun ρ w12=>∃ (xU:Env) (a7:yOA) (c8:Nat) (a9:yOA) (c10:Nat) (G11:yLN),ρ=upd xU 0 (pp bl 0)∧Fresh W0.heap.size ((rFout++G11) :: Ns)∧St W0 w12 ((.box bp [.slice zk parts.length xX] 27) :: (.box bi [.func (.func 177) #[] #[pp bq 0]] 170) :: (.box bq [.slice zk parts.length xX] 27) :: (.box bo [pp bl 0] 219) :: (.box bl [.slice a7 (out.length+1) c8] 221) :: (.box bc [.slice racs cs.length rccs] 22) :: (.box bf [.func (.func 201) #[] #[pp bp 0,pp bi 0,pp bo 0,pp bc 0,pp bf 0]] 222) :: (rr a7 (out.length+1) c8 22 1 (rxout++[.slice a9 cs.length c10])) :: (rr racs cs.length rccs 2 1 (cs.map (Value.int .i64))) :: ps) ((zi true (rFout++G11) (rxout++[.slice a9 cs.length c10]) (out++[cs])) :: (sF true G11 a9 c10 cs) :: (sF false Frest arest crest rest) :: (sF false Fparts zk xX parts) :: Γ)) ?_ ?_
   ·skip
    refine c_drawK2 rfl H [0,1,2,3,5,6,8] [0,1,2] fun H=>?_
    have S:=H.yl [0,1,2,3,5,6,8] [0,1,2]
    refine rtp 0 (pp bl 0) S ?_
    refine rtp 1 (pp bl 0) S ?_
    refine rtp 2 (pp bl 0) S ?_
    refine tF 3 rfl rfl S ?_
    refine rtp 5 (.slice racs cs.length rccs) S ?_
    refine ji [4,6] qh qm (Qg rfl ?_ (Qg rfl ?_ jk))
    ·skip
     refine zN (.slice raout out.length rcout) isAgg27 rfl (H.cell 4 rfl rfl) (⟨H.pick [0,1,2,3,5,6,8] [0,1,2],(ro 6 rfl ?_)⟩)
     obtain ⟨G14,hn15,h16⟩:=H.rowIsI 8 rfl
     have sz17:=H.base.size
     have lt18:=all_two (H.ltN (L:=[rFout]) [2]) (H.ltK (K0.behind 3 rfl))
     refine oc (cloneI_ok _ cs h16 qg) ?_
     rintro v22 w20 r22 x21
     replace H:=H.zD x21 r22
     obtain ⟨a23,c24,rfl,hc25,hm26⟩:=H.jo 0 rfl
     refine ⟨H.pick [1,2,3,4,6,7,9] [0,1,2],(ro 7 rfl (zG H underlying27 ti22 [.slice a23 cs.length c24] fun b27 w28 H=>⟨H.pick [2,3,4,5,7,8,10] [0,1,2],(ro 8 rfl ?_)⟩))⟩
     obtain ⟨G32,N,hn33,H⟩:=H.vS 1 rfl N (fun F hF b hb=>(List.mem_append.1 (show F∈[rFout]++Ns from hF)).elim (fun h=>(H.jQ (L:=[rFout]) [2]) F h b hb) fun h=>H.awayK (K0.behind 3 rfl) F h b hb)
     try dsimp only [List.set] at H
     refine zQ H 9 rfl 0 rfl underlying27 ti22 rfl qj rfl rfl rfl (by simp [Value.oneCell',Value.cells]) qp qf fun a29 c30 w31 H=>?_
     try dsimp only [List.set] at H
     replace H:=H.jW 3 rfl 0 rfl
     replace N:Fresh W0.heap.size ((rFout++G32) :: Ns):=(N.YV 2 [1,0] qo).join
     refine ⟨H.pick [2,3,4,5,7,8,10] [2,3,4],?_⟩
     have S:=H.yl [2,3,4,5,7,8,10] [2,3,4]
     refine rtp 9 (pp bl 0) S ?_
     refine tF 10 rfl rfl S ?_
     refine ro 11 rfl (zJ H 6 [.slice a29 (out.length+1) c30] sizeOf27 fun w34 H=>?_)
     try dsimp only [List.set] at H
     refine ⟨H.pick [2,3,4,5,7,8,10] [2,3,4],(xO qh ((meet ⟨_,a29,c30,a23,c24,G32,uE1,N,H.YV 11 5 [2,3,4,5,6,7,8,9,10] [0,1,2,3] qo qo⟩)))⟩
    obtain ⟨G35,hn36,h37⟩:=H.rowIsI 8 rfl
    have sz38:=H.base.size
    have lt39:=all_two (H.ltN (L:=[rFout]) [2]) (H.ltK (K0.behind 3 rfl))
    refine oc (cloneI_ok _ cs h37 qg) ?_
    rintro v43 w41 r43 x42
    replace H:=H.zD x42 r43
    obtain ⟨a44,c45,rfl,hc46,hm47⟩:=H.jo 0 rfl
    refine ⟨H.pick [1,2,3,4,6,7,9] [0,1,2],(ji [4,7] qh qm (Qg rfl ?_ (Qg rfl ?_ jk)))⟩
    ·skip
     refine zN (.slice raout out.length rcout) isAgg27 rfl (H.cell 5 rfl rfl) (⟨H.pick [1,2,3,4,6,7,9] [0,1,2],(ro 7 rfl (zG H underlying27 ti22 [.slice a44 cs.length c45] fun b48 w49 H=>⟨H.pick [2,3,4,5,7,8,10] [0,1,2],(ro 8 rfl ?_)⟩))⟩)
     obtain ⟨G53,N,hn54,H⟩:=H.vS 1 rfl N (fun F hF b hb=>(List.mem_append.1 (show F∈[rFout]++Ns from hF)).elim (fun h=>(H.jQ (L:=[rFout]) [2]) F h b hb) fun h=>H.awayK (K0.behind 3 rfl) F h b hb)
     try dsimp only [List.set] at H
     refine zQ H 9 rfl 0 rfl underlying27 ti22 rfl qj rfl rfl rfl (by simp [Value.oneCell',Value.cells]) qp qf fun a50 c51 w52 H=>?_
     try dsimp only [List.set] at H
     replace H:=H.jW 3 rfl 0 rfl
     replace N:Fresh W0.heap.size ((rFout++G53) :: Ns):=(N.YV 2 [1,0] qo).join
     refine ⟨H.pick [2,3,4,5,7,8,10] [2,3,4],?_⟩
     have S:=H.yl [2,3,4,5,7,8,10] [2,3,4]
     refine rtp 9 (pp bl 0) S ?_
     refine tF 10 rfl rfl S ?_
     refine ro 11 rfl (zJ H 6 [.slice a50 (out.length+1) c51] sizeOf27 fun w55 H=>?_)
     try dsimp only [List.set] at H
     refine ⟨H.pick [2,3,4,5,7,8,10] [2,3,4],(xO qh ((meet ⟨_,a50,c51,a44,c45,G53,uE1,N,H.YV 11 5 [2,3,4,5,6,7,8,9,10] [0,1,2,3] qo qo⟩)))⟩
    refine zG H underlying27 ti22 [.slice a44 cs.length c45] fun b56 w57 H=>⟨H.pick [2,3,4,5,7,8,10] [0,1,2],(ro 4 rfl (zN (.slice raout out.length rcout) isAgg27 rfl (H.cell 6 rfl rfl) (⟨H.pick [2,3,4,5,7,8,10] [0,1,2],(ro 8 rfl ?_)⟩)))⟩
    obtain ⟨G61,N,hn62,H⟩:=H.vS 1 rfl N (fun F hF b hb=>(List.mem_append.1 (show F∈[rFout]++Ns from hF)).elim (fun h=>(H.jQ (L:=[rFout]) [2]) F h b hb) fun h=>H.awayK (K0.behind 3 rfl) F h b hb)
    try dsimp only [List.set] at H
    refine zQ H 9 rfl 0 rfl underlying27 ti22 rfl qj rfl rfl rfl (by simp [Value.oneCell',Value.cells]) qp qf fun a58 c59 w60 H=>?_
    try dsimp only [List.set] at H
    replace H:=H.jW 3 rfl 0 rfl
    replace N:Fresh W0.heap.size ((rFout++G61) :: Ns):=(N.YV 2 [1,0] qo).join
    refine ⟨H.pick [2,3,4,5,7,8,10] [2,3,4],?_⟩
    have S:=H.yl [2,3,4,5,7,8,10] [2,3,4]
    refine rtp 9 (pp bl 0) S ?_
    refine tF 10 rfl rfl S ?_
    refine ro 11 rfl (zJ H 6 [.slice a58 (out.length+1) c59] sizeOf27 fun w63 H=>?_)
    try dsimp only [List.set] at H
    refine ⟨H.pick [2,3,4,5,7,8,10] [2,3,4],(xO qh ((meet ⟨_,a58,c59,a44,c45,G61,uE1,N,H.YV 11 5 [2,3,4,5,6,7,8,9,10] [0,1,2,3] qo qo⟩)))⟩
   clear H N
   rintro ρ w64 ⟨xU,a7,c8,a9,c10,G11,rfl,N,H⟩
   refine t_n (zcr (sps [pp bl 0,pp bl 0] (oF rfl (oL rfl (H.cell 4 rfl rfl) (oN rfl (sps [.bool (decide ((out.length+1:Int)≤2000)),.bool (decide ((out.length+1:Int)≤2000))] (zjr (ret1 (.bool (decide ((out.length+1:Int)≤2000))) rfl rfl ⟨_,rfl,(sps [.bool (decide ((out.length+1:Int)≤2000)),.bool (decide ((out.length+1:Int)≤2000))] (zjr (t_r (ret1 (.bool (decide ((out.length+1:Int)≤2000))) rfl rfl ⟨_,rfl,?_⟩))))⟩))))))))
   rw [pack_fullI qf p3 ‹FullOk _ _› p2,show decide ((out.length+1:Int)≤2000)=dec ((out++[cs]).length≤2000) from dec_eq (by simp;omega)]
   exact ⟨cs,a7,out.length+1,c8,rxout++[Value.slice a9 cs.length c10],(rFout++G11),(by first | rfl | omega | (have:=‹_=(List.set _ _ _).length›;rw [List.length_set] at this;omega)),(by first | rfl | assumption | exact pack_keep ‹_› j2),rfl,N,H.YV 9 4 [0,1,2,3,4,5,6,7,8] [2,3,0] qo qo⟩
  replace h5:=xw h5
  replace h5:=vk h5
  refine zo [20,21,22] (sps [.bool true,.bool true] (zjr (t_r (ret1 (.bool true) rfl rfl ⟨_,rfl,?_⟩))))
  rw [pack_noneI qf ‹_› p2,yD p2]
  exact ⟨cs,raout,out.length,rcout,rxout,rFout,(by first | rfl | omega | (have:=‹_=(List.set _ _ _).length›;rw [List.length_set] at this;omega)),(by first | rfl | assumption | exact pack_keep ‹_› j2),rfl,N,H.YV 9 3 [0,1,2,3,4,5,6,7,8] [0,1,2] qo qo⟩
 refine qU (t_n (zcc (sp (yI 0) (zjn (qX ?_)))))
 obtain ⟨t1,t2,t3,t4,t5,t6⟩:=p1.times (k:=i) qf
 refine zu (fun m' ρ w65=>∃ (xU:Env) (n:Nat) (YN:yOA) (YG:Nat) (YL:Nat) (out_lists:yLL) (YA:List Value) (Xw:yLN) (cs_1:yLI),ρ=upd (upd (upd (upd (upd (upd xU 0 (yI i)) 1 (.slice arest rest.length crest)) 2 (pp bp 0)) 5 (pp bc 0)) 6 (pp bf 0)) 10 (yI n)∧out_lists=(gath out (begins (cs.take i) (jA parts (f - 1) i rest n)))∧((n:Int)≤jm (parts[i]!) rest+1)∧(cs_1.length=parts.length)∧(cs_1.take i=cs.take i)∧((gath out (begins (cs.take i) (jA parts (f - 1) i rest n))).length≤2000)∧m' =(jm (parts[i]!) rest+1 - (n:Int)).toNat∧Fresh W0.heap.size (Xw :: Ns)∧St W0 w65 ((.box bp [.slice zk parts.length xX] 27) :: (.box bi [.func (.func 177) #[] #[pp bq 0]] 170) :: (.box bq [.slice zk parts.length xX] 27) :: (.box bo [pp bl 0] 219) :: (.box bl [.slice YN YG YL] 221) :: (.box bc [.slice racs cs.length rccs] 22) :: (.box bf [.func (.func 201) #[] #[pp bp 0,pp bi 0,pp bo 0,pp bc 0,pp bf 0]] 222) :: (rr YN YG YL 22 1 YA) :: (rr racs cs.length rccs 2 1 (cs_1.map (Value.int .i64))) :: ps) ((sF false Frest arest crest rest) :: (sF false Fparts zk xX parts) :: (zi true Xw YA out_lists) :: Γ)) ((jm (parts[i]!) rest+1 - (0:Int)).toNat) ⟨_,0,raout,out.length,rcout,out,rxout,rFout,cs,uE6,(by exact pack_startI p2),qf,ql,(by rfl),(by rw [← pack_startI p2];exact p2),rfl,N,H⟩ ?_
 clear H N
 rintro m' ρ w66 ⟨xU,n,YN,YG,YL,out_lists,YA,Xw,cs_1,rfl,rfl,i0,j1,j2,j3,rfl,N,H⟩
 have hn_out_lists:=H.zh (α:=yLI) 7 rfl 2 rfl qj
 have hn_cs:=H.Vq 8 rfl
 refine zcc (sp (yI n) (oL rfl (H.cell 0 rfl rfl) (sp (yI i) ?_)))
 obtain ⟨b67,o68,rfl⟩:=H.addr 1 rfl qf
 obtain ⟨ae70,ce70,Fe70,H⟩:=H.vM 1 rfl i i qf qf qf
 refine oI rfl rfl (oL rfl (H.xW 1 rfl 0 rfl) (sp (.slice arest rest.length crest) ?_))
 obtain ⟨t1,t2,t3,t4,t5,t6⟩:=p1.times (k:=i) qf
 refine sw (oq (timesIn_ok _ (parts[i]!) rest (H.get 0 rfl).1 (H.get 2 rfl).1 qg qg) H fun w72 H=>sp (.bool (decide ((n:Int)≤(jm (parts[i]!) rest)))) (zjn (cD rfl (fun h74=>?_) (fun h74=>?_))))
 ·skip
  refine qU (t_n (xQ (qX (zcr (oL rfl (H.cell 5 rfl rfl) (sps [yI i,yI n] ?_))))))
  obtain ⟨b75,rfl⟩:=H.Qh 8 rfl qf
  refine oI rfl rfl (sw (o_storeInt H 8 rfl n sizeOf2 rfl rfl (i:=i) qf qf fun w76 H=>?_))
  try dsimp only [List.set] at H
  refine zjn (xQ ?_)
  refine c_drawK2 rfl H [0,1,2,3,5,6] [0,1,2,3] fun H=>?_
  have S:=H.yl [0,1,2,3,5,6] [0,1,2,3]
  refine tL 0 rfl rfl (fun _ h=>h.cell 5 rfl rfl) S ?_
  refine rtp 1 (yI i) S ?_
  refine rt 2 (yI (i+1)) (y_add i 1 rfl rfl qf) S ?_
  refine rtp 3 (.slice arest rest.length crest) S ?_
  refine tL 4 rfl rfl (fun _ h=>h.cell 0 rfl rfl) S ?_
  refine rtp 5 (yI i) S ?_
  refine tI 6 rfl rfl rfl S ?_
  refine tL 7 rfl rfl (fun _ h=>h.xW 1 rfl 0 rfl) S ?_
  refine rtp 8 (yI n) S ?_
  refine rt 9 (yI (-n)) (y_neg n rfl qf) S ?_
  refine ro 10 rfl ?_
  obtain ⟨u1,u2,u3,u4⟩:=p1.plus (k:=i) qf (n:=(n:Int)) qf qf
  have sz78:=H.base.size
  have lt79:=all_two (H.ltN (L:=[Xw]) [4]) (H.ltK (K0.behind 5 rfl))
  refine oc (plus_ok _ rest (parts[i]!) (-n) (H.get 2 rfl).1 (H.get 0 rfl).1 qg qg qg) ?_
  rintro v83 w81 r83 x82
  replace H:=H.zD x82 r83
  obtain ⟨a84,c85,rfl,hc86,hm87⟩:=H.jo 0 rfl
  refine ⟨H.pick [1,2,3,4,6,7] [0,1,2,3],(ro 11 rfl ?_)⟩
  obtain ⟨G88,N,hn89,H⟩:=H.vS 0 rfl N (fun F hF b hb=>(List.mem_append.1 (show F∈[Xw]++Ns from hF)).elim (fun h=>(H.jQ (L:=[Xw]) [4]) F h b hb) fun h=>H.awayK (K0.behind 5 rfl) F h b hb)
  try dsimp only [List.set] at H
  replace H:=H.unfreeI 0 rfl
  have H1:St W0 w81 ((.box bp [.slice (aa b67 o68) parts.length xX] 27) :: (.box bi [.func (.func 177) #[] #[pp bq 0]] 170) :: (.box bq [.slice (aa b67 o68) parts.length xX] 27) :: (.box bo [pp bl 0] 219) :: (.box bl [.slice YN YG YL] 221) :: (.box bc [.slice (aa b75 0) cs.length rccs] 22) :: (.box bf [.func (.func 201) #[] #[pp bp 0,pp bi 0,pp bo 0,pp bc 0,pp bf 0]] 222) :: (rr YN YG YL 22 1 YA) :: (rr (aa b75 0) cs.length rccs 2 1 ((cs_1.set i n).map (Value.int .i64))) :: (rr none 0 0 0 1 []) :: ps) ((sF false G88 a84 c85 (vY rest (parts[i]!) (-n))) :: (sF false Fparts (aa b67 o68) xX parts) :: (zi true Xw YA (gath out (begins (cs.take i) (jA parts (f - 1) i rest n)))) :: (sF false G88 a84 c85 (vY rest (parts[i]!) (-n))) :: (sF true G88 a84 c85 (vY rest (parts[i]!) (-n))) :: (sF false Fe70 ae70 ce70 (parts[i]!)) :: (atF b67 (o68+(i:Int).toNat * 1) [.slice ae70 ((parts[i]!).length) ce70]) :: (sF false Frest arest crest rest) :: (sF false Fparts (aa b67 o68) xX parts) :: Γ):=H.YV 10 7 [1,2,3,4,5,6,7,8,9,0] [0,5,6,0,1,2,3,4,5] qo qo
  have N1:Fresh _ (Xw :: G88 :: Ns):=(N.YV 2 [1,0] qo)
  have K1:Kept (Ns) ((sF false G88 a84 c85 (vY rest (parts[i]!) (-n))) :: (sF true G88 a84 c85 (vY rest (parts[i]!) (-n))) :: (sF false Fe70 ae70 ce70 (parts[i]!)) :: (atF b67 (o68+(i:Int).toNat * 1) [.slice ae70 ((parts[i]!).length) ce70]) :: (sF false Frest arest crest rest) :: (sF false Fparts (aa b67 o68) xX parts) :: Γ):=K0.behind 6 rfl
  replace K1:=K1.cons (F:=G88) 0 rfl rfl
  refine o_callF #[yI (i+1),.slice a84 ((vY rest (parts[i]!) (-n)).length) c85,pp bp 0,pp bi 0,pp bo 0,pp bc 0,pp bf 0] rfl rfl call201 (IH (f - 1) qf (i+1) (vY rest (parts[i]!) (-n)) parts (gath out (begins (cs.take i) (jA parts (f - 1) i rest n))) (cs_1.set i n) a84 c85 G88 (aa b67 o68) xX Fparts bp bi bq bo bl bc bf YN YG YL YA Xw (aa b75 0) cs.length rccs H1 N1 K1 qf (by first | assumption | exact u4) (by first | assumption | exact j3 | (simp;done)) (by first | assumption | (rw [List.length_set];exact j1) | (simp;done))) ?_
  clear H H1 N1 K1
  rintro _ w90 ⟨cs91,raout91,rnout91,rcout91,rxout91,rFout91,hx92,hx93,rfl,N,H⟩
  obtain rfl:=H.zh (α:=yLI) 7 rfl 2 rfl qj
  refine ⟨H.pick [0,1,2,3,5,6] [5,6,7,8],(rtp 12 (.bool (!(dec ((gath (gath out (begins (cs.take i) (jA parts (f - 1) i rest n))) (begins ((cs_1.set i n).take (i+1)) (packs parts (parts.length - (i+1)) (i+1) (vY rest (parts[i]!) (-n))))).length≤2000)))) (H.pick [0,1,2,3,5,6] [5,6,7,8]) ?_)⟩
  refine xO qh (t_n (cQ rfl (fun h94=>?_) (fun h94=>?_)))
  ·skip
   refine zcr (sp (.bool false) (zjr (zr5 (ret1 (.bool false) rfl rfl ⟨_,rfl,?_⟩))))
   have e1:=pack_stepI (out:=out) p0 qf j1 j2 j3
   have e2:=‹¬ (gath (gath _ _) _).length≤2000›
   rw [e1] at e2
   rw [pack_endI (n:=n+1) p0 qf qf qf (.inr e2),← e1,xx (by rw [e1];exact e2)]
   exact ⟨cs91,raout91,(gath (gath out (begins (cs.take i) (jA parts (f - 1) i rest n))) (begins ((cs_1.set i n).take (i+1)) (packs parts (parts.length - (i+1)) (i+1) (vY rest (parts[i]!) (-n))))).length,rcout91,rxout91,rFout91,(by first | rfl | omega | (have:=‹_=(List.set _ _ _).length›;rw [List.length_set] at this;omega)),(by first | rfl | assumption | exact pack_keep ‹_› j2),rfl,(N.YV 2 [0] qo),H.YV 10 9 [0,1,2,3,4,5,6,7,8] [7,1,2] qo qo⟩
  refine qU (b_n (t_n (xY (sp (yI n) (sw (zC n 1 rfl rfl qf (sp (yI (n+1)) (xZ ?_))))))))
  refine xf (m' :=(jm (parts[i]!) rest+1 - ((n+1):Int)).toNat) qf ⟨_,n+1,raout91,(gath (gath out (begins (cs.take i) (jA parts (f - 1) i rest n))) (begins ((cs_1.set i n).take (i+1)) (packs parts (parts.length - (i+1)) (i+1) (vY rest (parts[i]!) (-n))))).length,rcout91,(gath (gath out (begins (cs.take i) (jA parts (f - 1) i rest n))) (begins ((cs_1.set i n).take (i+1)) (packs parts (parts.length - (i+1)) (i+1) (vY rest (parts[i]!) (-n))))),rxout91,rFout91,cs91,uE6,?_,?_,?_,?_,?_,rfl,(N.YV 2 [0] qo),H.YV 10 9 [0,1,2,3,4,5,6,7,8] [7,8,2] qo qo⟩
  · exact pack_stepI p0 qf j1 j2 j3
  · omega
  · have:=‹_=(List.set _ _ _).length›;rw [List.length_set] at this;omega
  · exact pack_keep ‹_› j2
  · rw [← pack_stepI p0 qf j1 j2 j3];assumption
 refine zx4 (zcr (sp (.bool true) (zjr (ret1 (.bool true) rfl rfl ⟨_,rfl,?_⟩))))
 rw [pack_endI (f:=f) (n:=n) p0 qf i0 qf (.inl qf),yD j3]
 exact ⟨cs_1,YN,YG,YL,YA,Xw,(by first | rfl | omega | (have:=‹_=(List.set _ _ _).length›;rw [List.length_set] at this;omega)),(by first | rfl | assumption | exact pack_keep ‹_› j2),rfl,N,H.YV 9 5 [0,1,2,3,4,5,6,7,8] [2,3,4] qo qo⟩

theorem packFrom_ok (f:Nat):packFrom_ok_S f:=Nat.strongRecOn (motive:=packFrom_ok_S) f fun f IH=>by unfold packFrom_ok_S;intros;apply packFrom_ok_step f IH <;> assumption

theorem maxPack_ok (w:World) (b:yLI) (parts:yLL) {ab:yOA} {Fb:yLN} {zk:yOA} {xX:Nat} {Fparts:yLN} (hb:qO.rep w Fb [.slice ab b.length cb] b) (hparts:qO.rep w Fparts [.slice zk parts.length xX] parts) (p0:Yq parts b) (p1:1≤parts.length):Calls Tryz.prog 142 #[.slice ab b.length cb,.slice zk parts.length xX] w (Ret (fun v w' =>∃ (ra0:yOA) (rn0:Nat) (rc0:Nat) (rx0:List Value) (rF0:yLN),v=.tuple #[.slice ra0 rn0 rc0,yI ((vg b parts).2)]∧Fresh w.heap.size [rF0]∧St w w' [rr ra0 rn0 rc0 22 1 rx0] [zi true rF0 rx0 ((vg b parts).1)]) w):=by
 refine en func142 ntmps142 ?_
 have H:=((St.start w).arg hparts).arg hb
 have nhb:=qK hb
 have nhparts:=qK hparts
 clear hb hparts
 have N:=Fresh.nil w.heap.size
 have p3:=p0.small
 have p4:=p0.smallB
 refine zcr (sw (vH H [.slice zk parts.length xX] fun b1 w2 H=>sps [yN,yI 0] (zjc (sp (.slice ab b.length cb) (oL rfl (H.cell 0 rfl rfl) (sp (.func (.func 177) #[] #[pp b1 0]) (sw (vF #[.slice ab b.length cb,.slice zk parts.length xX,.func (.func 177) #[] #[pp b1 0]] rfl rfl call176 (en func176 ntmps176 ?_)))))))))
 refine zcr (sw (vH H [.slice zk parts.length xX] fun b3 w4 H=>sw (vH H [.func (.func 177) #[] #[pp b1 0]] fun b5 w6 H=>sps [yN,yI 0] (zjcc (sp (.slice ab b.length cb) (oL rfl (H.cell 1 rfl rfl) (sw (oq (bagAndParts_ok _ b parts (H.get 0 rfl).1 (H.get 1 rfl).1 qg qg) H fun w8 H=>sp (yI 0) (zjc (sps [yI 0,.bool false] (zjn (xK false rfl (fun h=>absurd h qj) (fun _=>qU (t_n (zcc (sp (.slice ab b.length cb) ?_))))))))))))))))
 refine sw (oq (VH _ b (H.get 0 rfl).1 (by first | assumption | exact vJ ql | exact Qo ql)) H fun w10 H=>sp (.bool (decide ((VN b:Int) > 16))) (zjn (cD rfl (fun h12=>?_) (fun h12=>?_))))
 ·skip
  refine zcr (sps [yN,yI 3] (zjr (t_r (ret2 yN (yI 3) rfl rfl rfl ⟨_,rfl,?_⟩))))
  replace H:=H.erases [1,0]
  dsimp only [vU,List.eraseIdx] at H
  refine sps [yN,yI 3,yN,yI 3] (zjr ?_)
  replace H:=H.nilRow 22 1
  replace H:=H.vI (α:=yLI)
  refine ret2 yN (yI 3) rfl rfl rfl ⟨_,rfl,?_,H.base⟩
  first | rw [all_a ql] | rw [all_bI (cs:=(List.replicate parts.length (0:Int))) ql qf]
  exact ⟨none,0,0,[],[],rfl,N.emp,H.pick [0] [0]⟩
 refine qU (t_n (xQ ?_))
 refine c_cut (fun ρ w17=>∃ (xU:Env) (b13:Nat) (b14:Nat) (b15:Nat) (b16:Nat),ρ=upd (upd (upd (upd (upd xU 0 (.slice ab b.length cb)) 4 (pp b3 0)) 5 (pp b5 0)) 9 (pp b13 0)) 10 (pp b14 0)∧Fresh w.heap.size []∧St w w17 [.box b14 [.slice (aa b15 0) parts.length parts.length] 22,.box b13 [pp b16 0] 219,rr (aa b15 0) parts.length parts.length 2 1 ((List.replicate parts.length (0:Int)).map (Value.int .i64)),.box b16 [yN] 221,.box b5 [.func (.func 177) #[] #[pp b1 0]] 170,.box b3 [.slice zk parts.length xX] 27,.box b1 [.slice zk parts.length xX] 27] [sF false Fb ab cb b,sF false Fparts zk xX parts]) ?_ ?_
 ·skip
  refine vT rfl H fun H=>?_
  refine r_have (fun ρ w23=>∃ (xU:Env) (b19:Nat) (b20:Nat) (b21:Nat),ρ=upd (upd (upd (upd (upd (upd (upd xU 0 (.slice ab b.length cb)) 4 (pp b3 0)) 5 (pp b5 0)) 9 (pp b20 0)) 10 (pp b21 0)) 22 (pp b19 0)) 24 (yI parts.length)∧Fresh w.heap.size []∧St w w23 [.box b21 [yN] 22,.box b20 [.pointer none] 219,.box b19 [yN] 221,.box b5 [.func (.func 177) #[] #[pp b1 0]] 170,.box b3 [.slice zk parts.length xX] 27,.box b1 [.slice zk parts.length xX] 27] [sF false Fb ab cb b,sF false Fparts zk xX parts]) 3 #[true,true,true,true,false,true,true,false,false] ?_ fun L22=>?_
  ·skip
   rintro ρ w24 ⟨xU,b19,b20,b21,rfl,N,H⟩
   refine ji [4,7] qh qm (Qg rfl ?_ (Qg rfl ?_ jk))
   ·skip
    refine XI H underlying22 ti2 parts.length rfl rfl qf qf qf fun b25 w26 H=>⟨H.pick [4,5,6] [0,1],(ro 7 rfl (zJ H 2 [pp b19 0] sizeOf219 fun w27 H=>⟨H.pick [4,5,6] [0,1],(ro 8 rfl (zJ H 1 [.slice (aa b25 0) parts.length parts.length] sizeOf22 fun w28 H=>⟨H.pick [4,5,6] [0,1],(xO qh ((meet ⟨_,b20,b21,b25,b19,uE5,N,H.pick [1,2,0,3,4,5,6] [0,1]⟩)))⟩))⟩))⟩
   refine zJ H 1 [pp b19 0] sizeOf219 fun w29 H=>⟨H.pick [3,4,5] [0,1],(ro 4 rfl (XI H underlying22 ti2 parts.length rfl rfl qf qf qf fun b30 w31 H=>⟨H.pick [4,5,6] [0,1],(ro 8 rfl (zJ H 1 [.slice (aa b30 0) parts.length parts.length] sizeOf22 fun w32 H=>⟨H.pick [4,5,6] [0,1],(xO qh ((meet ⟨_,b20,b21,b30,b19,uE5,N,H.pick [1,2,0,3,4,5,6] [0,1]⟩)))⟩))⟩))⟩
  refine r_have (fun ρ w36=>∃ (xU:Env) (b33:Nat) (b34:Nat),ρ=upd (upd (upd (upd (upd xU 0 (.slice ab b.length cb)) 4 (pp b3 0)) 5 (pp b5 0)) 22 (pp b33 0)) 25 (.slice (aa b34 0) parts.length parts.length)∧Fresh w.heap.size []∧St w w36 [rr (aa b34 0) parts.length parts.length 2 1 ((List.replicate parts.length (0:Int)).map (Value.int .i64)),.box b33 [yN] 221,.box b5 [.func (.func 177) #[] #[pp b1 0]] 170,.box b3 [.slice zk parts.length xX] 27,.box b1 [.slice zk parts.length xX] 27] [sF false Fb ab cb b,sF false Fparts zk xX parts]) 4 #[true,true,true,true,true,false,false,false,false] ?_ fun L35=>?_
  ·skip
   rintro ρ w37 ⟨xU,b33,b34,rfl,N,H⟩
   refine ji [5,6] qh qm (Qg rfl ?_ (Qg rfl ?_ jk))
   ·skip
    refine zf H ti219 [.pointer none] fun b38 w39 H=>⟨H.pick [3,4,5] [0,1],(ro 6 rfl (zf H ti22 [yN] fun b40 w41 H=>⟨H.pick [4,5,6] [0,1],(ro 7 rfl (zJ H 1 [pp b33 0] sizeOf219 fun w42 H=>⟨H.pick [4,5,6] [0,1],(ro 8 rfl (zJ H 0 [.slice (aa b34 0) parts.length parts.length] sizeOf22 fun w43 H=>⟨H.pick [4,5,6] [0,1],(xO qh ((meet ⟨_,b38,b40,b34,b33,uE5,N,H⟩)))⟩))⟩))⟩))⟩
   refine zf H ti22 [yN] fun b44 w45 H=>⟨H.pick [3,4,5] [0,1],(ro 5 rfl (zf H ti219 [.pointer none] fun b46 w47 H=>⟨H.pick [4,5,6] [0,1],(ro 7 rfl (zJ H 0 [pp b33 0] sizeOf219 fun w48 H=>⟨H.pick [4,5,6] [0,1],(ro 8 rfl (zJ H 1 [.slice (aa b34 0) parts.length parts.length] sizeOf22 fun w49 H=>⟨H.pick [4,5,6] [0,1],(xO qh ((meet ⟨_,b46,b44,b34,b33,uE5,N,H.pick [1,0,2,3,4,5,6] [0,1]⟩)))⟩))⟩))⟩))⟩
  refine r_have (fun ρ w53=>∃ (xU:Env) (b50:Nat) (b51:Nat),ρ=upd (upd (upd (upd (upd (upd xU 0 (.slice ab b.length cb)) 4 (pp b3 0)) 5 (pp b5 0)) 9 (pp b51 0)) 22 (pp b50 0)) 24 (yI parts.length)∧Fresh w.heap.size []∧St w w53 [.box b51 [.pointer none] 219,.box b50 [yN] 221,.box b5 [.func (.func 177) #[] #[pp b1 0]] 170,.box b3 [.slice zk parts.length xX] 27,.box b1 [.slice zk parts.length xX] 27] [sF false Fb ab cb b,sF false Fparts zk xX parts]) 4 #[true,true,true,true,false,true,false,false,false] ?_ fun L52=>?_
  ·skip
   rintro ρ w54 ⟨xU,b50,b51,rfl,N,H⟩
   refine ji [4,6] qh qm (Qg rfl ?_ (Qg rfl ?_ jk))
   ·skip
    refine XI H underlying22 ti2 parts.length rfl rfl qf qf qf fun b55 w56 H=>⟨H.pick [3,4,5] [0,1],(ro 6 rfl (zf H ti22 [yN] fun b57 w58 H=>⟨H.pick [4,5,6] [0,1],(ro 7 rfl (zJ H 2 [pp b50 0] sizeOf219 fun w59 H=>⟨H.pick [4,5,6] [0,1],(ro 8 rfl (zJ H 0 [.slice (aa b55 0) parts.length parts.length] sizeOf22 fun w60 H=>⟨H.pick [4,5,6] [0,1],(xO qh ((meet ⟨_,b51,b57,b55,b50,uE5,N,H.pick [0,2,1,3,4,5,6] [0,1]⟩)))⟩))⟩))⟩))⟩
   refine zf H ti22 [yN] fun b61 w62 H=>⟨H.pick [3,4,5] [0,1],(X0 L22 ⟨_,b50,b51,b61,uE7,N,H⟩)⟩
  refine r_have (fun ρ w66=>∃ (xU:Env) (b63:Nat) (b64:Nat),ρ=upd (upd (upd (upd (upd (upd xU 0 (.slice ab b.length cb)) 4 (pp b3 0)) 5 (pp b5 0)) 10 (pp b64 0)) 22 (pp b63 0)) 24 (yI parts.length)∧Fresh w.heap.size []∧St w w66 [.box b64 [yN] 22,.box b63 [yN] 221,.box b5 [.func (.func 177) #[] #[pp b1 0]] 170,.box b3 [.slice zk parts.length xX] 27,.box b1 [.slice zk parts.length xX] 27] [sF false Fb ab cb b,sF false Fparts zk xX parts]) 4 #[true,true,true,true,false,false,true,false,false] ?_ fun L65=>?_
  ·skip
   rintro ρ w67 ⟨xU,b63,b64,rfl,N,H⟩
   refine ji [4,5] qh qm (Qg rfl ?_ (Qg rfl ?_ jk))
   ·skip
    refine XI H underlying22 ti2 parts.length rfl rfl qf qf qf fun b68 w69 H=>⟨H.pick [3,4,5] [0,1],(ro 5 rfl (zf H ti219 [.pointer none] fun b70 w71 H=>⟨H.pick [4,5,6] [0,1],(ro 7 rfl (zJ H 0 [pp b63 0] sizeOf219 fun w72 H=>⟨H.pick [4,5,6] [0,1],(ro 8 rfl (zJ H 2 [.slice (aa b68 0) parts.length parts.length] sizeOf22 fun w73 H=>⟨H.pick [4,5,6] [0,1],(xO qh ((meet ⟨_,b70,b64,b68,b63,uE5,N,H.pick [2,0,1,3,4,5,6] [0,1]⟩)))⟩))⟩))⟩))⟩
   refine zf H ti219 [.pointer none] fun b74 w75 H=>⟨H.pick [3,4,5] [0,1],(X0 L22 ⟨_,b63,b74,b64,uE7,N,H.pick [1,0,2,3,4,5] [0,1]⟩)⟩
  refine r_have (fun ρ w79=>∃ (xU:Env) (b76:Nat) (b77:Nat),ρ=upd (upd (upd (upd (upd (upd xU 0 (.slice ab b.length cb)) 4 (pp b3 0)) 5 (pp b5 0)) 9 (pp b77 0)) 21 (.agg #[yN])) 25 (.slice (aa b76 0) parts.length parts.length)∧Fresh w.heap.size []∧St w w79 [.box b77 [.pointer none] 219,rr (aa b76 0) parts.length parts.length 2 1 ((List.replicate parts.length (0:Int)).map (Value.int .i64)),.box b5 [.func (.func 177) #[] #[pp b1 0]] 170,.box b3 [.slice zk parts.length xX] 27,.box b1 [.slice zk parts.length xX] 27] [sF false Fb ab cb b,sF false Fparts zk xX parts]) 4 #[true,false,true,true,true,true,false,false,false] ?_ fun L78=>?_
  ·skip
   rintro ρ w80 ⟨xU,b76,b77,rfl,N,H⟩
   refine ji [1,6] qh qm (Qg rfl ?_ (Qg rfl ?_ jk))
   ·skip
    refine vH H [yN] fun b81 w82 H=>⟨H.pick [3,4,5] [0,1],(ro 6 rfl (zf H ti22 [yN] fun b83 w84 H=>⟨H.pick [4,5,6] [0,1],(ro 7 rfl (zJ H 2 [pp b81 0] sizeOf219 fun w85 H=>⟨H.pick [4,5,6] [0,1],(ro 8 rfl (zJ H 0 [.slice (aa b76 0) parts.length parts.length] sizeOf22 fun w86 H=>⟨H.pick [4,5,6] [0,1],(xO qh ((meet ⟨_,b77,b83,b76,b81,uE5,N,H.pick [0,2,3,1,4,5,6] [0,1]⟩)))⟩))⟩))⟩))⟩
   refine zf H ti22 [yN] fun b87 w88 H=>⟨H.pick [3,4,5] [0,1],(ro 1 rfl (vH H [yN] fun b89 w90 H=>⟨H.pick [4,5,6] [0,1],(ro 7 rfl (zJ H 2 [pp b89 0] sizeOf219 fun w91 H=>⟨H.pick [4,5,6] [0,1],(ro 8 rfl (zJ H 1 [.slice (aa b76 0) parts.length parts.length] sizeOf22 fun w92 H=>⟨H.pick [4,5,6] [0,1],(xO qh ((meet ⟨_,b77,b87,b76,b89,uE5,N,H.pick [1,2,3,0,4,5,6] [0,1]⟩)))⟩))⟩))⟩))⟩
  refine r_have (fun ρ w96=>∃ (xU:Env) (b93:Nat) (b94:Nat),ρ=upd (upd (upd (upd (upd (upd xU 0 (.slice ab b.length cb)) 4 (pp b3 0)) 5 (pp b5 0)) 10 (pp b94 0)) 21 (.agg #[yN])) 25 (.slice (aa b93 0) parts.length parts.length)∧Fresh w.heap.size []∧St w w96 [.box b94 [yN] 22,rr (aa b93 0) parts.length parts.length 2 1 ((List.replicate parts.length (0:Int)).map (Value.int .i64)),.box b5 [.func (.func 177) #[] #[pp b1 0]] 170,.box b3 [.slice zk parts.length xX] 27,.box b1 [.slice zk parts.length xX] 27] [sF false Fb ab cb b,sF false Fparts zk xX parts]) 4 #[true,false,true,true,true,false,true,false,false] ?_ fun L95=>?_
  ·skip
   rintro ρ w97 ⟨xU,b93,b94,rfl,N,H⟩
   refine ji [1,5] qh qm (Qg rfl ?_ (Qg rfl ?_ jk))
   ·skip
    refine vH H [yN] fun b98 w99 H=>⟨H.pick [3,4,5] [0,1],(ro 5 rfl (zf H ti219 [.pointer none] fun b100 w101 H=>⟨H.pick [4,5,6] [0,1],(ro 7 rfl (zJ H 0 [pp b98 0] sizeOf219 fun w102 H=>⟨H.pick [4,5,6] [0,1],(ro 8 rfl (zJ H 2 [.slice (aa b93 0) parts.length parts.length] sizeOf22 fun w103 H=>⟨H.pick [4,5,6] [0,1],(xO qh ((meet ⟨_,b100,b94,b93,b98,uE5,N,H.pick [2,0,3,1,4,5,6] [0,1]⟩)))⟩))⟩))⟩))⟩
   refine zf H ti219 [.pointer none] fun b104 w105 H=>⟨H.pick [3,4,5] [0,1],(ro 1 rfl (vH H [yN] fun b106 w107 H=>⟨H.pick [4,5,6] [0,1],(ro 7 rfl (zJ H 1 [pp b106 0] sizeOf219 fun w108 H=>⟨H.pick [4,5,6] [0,1],(ro 8 rfl (zJ H 2 [.slice (aa b93 0) parts.length parts.length] sizeOf22 fun w109 H=>⟨H.pick [4,5,6] [0,1],(xO qh ((meet ⟨_,b104,b94,b93,b106,uE5,N,H.pick [2,1,3,0,4,5,6] [0,1]⟩)))⟩))⟩))⟩))⟩
  refine r_have (fun ρ w113=>∃ (xU:Env) (b110:Nat) (b111:Nat),ρ=upd (upd (upd (upd (upd (upd (upd xU 0 (.slice ab b.length cb)) 4 (pp b3 0)) 5 (pp b5 0)) 9 (pp b110 0)) 10 (pp b111 0)) 21 (.agg #[yN])) 24 (yI parts.length)∧Fresh w.heap.size []∧St w w113 [.box b111 [yN] 22,.box b110 [.pointer none] 219,.box b5 [.func (.func 177) #[] #[pp b1 0]] 170,.box b3 [.slice zk parts.length xX] 27,.box b1 [.slice zk parts.length xX] 27] [sF false Fb ab cb b,sF false Fparts zk xX parts]) 4 #[true,false,true,true,false,true,true,false,false] ?_ fun L112=>?_
  ·skip
   rintro ρ w114 ⟨xU,b110,b111,rfl,N,H⟩
   refine ji [1,4] qh qm (Qg rfl ?_ (Qg rfl ?_ jk))
   ·skip
    refine vH H [yN] fun b115 w116 H=>⟨H.pick [3,4,5] [0,1],(X0 L22 ⟨_,b115,b110,b111,uE7,N,H.pick [1,2,0,3,4,5] [0,1]⟩)⟩
   refine XI H underlying22 ti2 parts.length rfl rfl qf qf qf fun b117 w118 H=>⟨H.pick [3,4,5] [0,1],(ro 1 rfl (vH H [yN] fun b119 w120 H=>⟨H.pick [4,5,6] [0,1],(ro 7 rfl (zJ H 3 [pp b119 0] sizeOf219 fun w121 H=>⟨H.pick [4,5,6] [0,1],(ro 8 rfl (zJ H 2 [.slice (aa b117 0) parts.length parts.length] sizeOf22 fun w122 H=>⟨H.pick [4,5,6] [0,1],(xO qh ((meet ⟨_,b110,b111,b117,b119,uE5,N,H.pick [2,3,1,0,4,5,6] [0,1]⟩)))⟩))⟩))⟩))⟩
  refine r_have (fun ρ w125=>∃ (xU:Env) (b123:Nat),ρ=upd (upd (upd (upd (upd xU 0 (.slice ab b.length cb)) 4 (pp b3 0)) 5 (pp b5 0)) 21 (.agg #[yN])) 25 (.slice (aa b123 0) parts.length parts.length)∧Fresh w.heap.size []∧St w w125 [rr (aa b123 0) parts.length parts.length 2 1 ((List.replicate parts.length (0:Int)).map (Value.int .i64)),.box b5 [.func (.func 177) #[] #[pp b1 0]] 170,.box b3 [.slice zk parts.length xX] 27,.box b1 [.slice zk parts.length xX] 27] [sF false Fb ab cb b,sF false Fparts zk xX parts]) 5 #[true,false,true,true,true,false,false,false,false] ?_ fun L124=>?_
  ·skip
   rintro ρ w126 ⟨xU,b123,rfl,N,H⟩
   refine ji [1,5,6] qh qm (Qg rfl ?_ (Qg rfl ?_ (Qg rfl ?_ jk)))
   ·skip
    refine vH H [yN] fun b127 w128 H=>⟨H.pick [2,3,4] [0,1],(X0 L35 ⟨_,b127,b123,uE5,N,H.pick [1,0,2,3,4] [0,1]⟩)⟩
   ·skip
    refine zf H ti219 [.pointer none] fun b129 w130 H=>⟨H.pick [2,3,4] [0,1],(X0 L78 ⟨_,b123,b129,uE6,N,H⟩)⟩
   refine zf H ti22 [yN] fun b131 w132 H=>⟨H.pick [2,3,4] [0,1],(X0 L95 ⟨_,b123,b131,uE6,N,H⟩)⟩
  refine r_have (fun ρ w135=>∃ (xU:Env) (b133:Nat),ρ=upd (upd (upd (upd (upd (upd xU 0 (.slice ab b.length cb)) 4 (pp b3 0)) 5 (pp b5 0)) 9 (pp b133 0)) 21 (.agg #[yN])) 24 (yI parts.length)∧Fresh w.heap.size []∧St w w135 [.box b133 [.pointer none] 219,.box b5 [.func (.func 177) #[] #[pp b1 0]] 170,.box b3 [.slice zk parts.length xX] 27,.box b1 [.slice zk parts.length xX] 27] [sF false Fb ab cb b,sF false Fparts zk xX parts]) 5 #[true,false,true,true,false,true,false,false,false] ?_ fun L134=>?_
  ·skip
   rintro ρ w136 ⟨xU,b133,rfl,N,H⟩
   refine ji [1,4,6] qh qm (Qg rfl ?_ (Qg rfl ?_ (Qg rfl ?_ jk)))
   ·skip
    refine vH H [yN] fun b137 w138 H=>⟨H.pick [2,3,4] [0,1],(X0 L52 ⟨_,b137,b133,uE6,N,H.pick [1,0,2,3,4] [0,1]⟩)⟩
   ·skip
    refine XI H underlying22 ti2 parts.length rfl rfl qf qf qf fun b139 w140 H=>⟨H.pick [2,3,4] [0,1],(X0 L78 ⟨_,b139,b133,uE6,N,H.pick [1,0,2,3,4] [0,1]⟩)⟩
   refine zf H ti22 [yN] fun b141 w142 H=>⟨H.pick [2,3,4] [0,1],(X0 L112 ⟨_,b133,b141,uE7,N,H⟩)⟩
  refine r_have (fun ρ w145=>∃ (xU:Env) (b143:Nat),ρ=upd (upd (upd (upd (upd (upd xU 0 (.slice ab b.length cb)) 4 (pp b3 0)) 5 (pp b5 0)) 10 (pp b143 0)) 21 (.agg #[yN])) 24 (yI parts.length)∧Fresh w.heap.size []∧St w w145 [.box b143 [yN] 22,.box b5 [.func (.func 177) #[] #[pp b1 0]] 170,.box b3 [.slice zk parts.length xX] 27,.box b1 [.slice zk parts.length xX] 27] [sF false Fb ab cb b,sF false Fparts zk xX parts]) 5 #[true,false,true,true,false,false,true,false,false] ?_ fun L144=>?_
  ·skip
   rintro ρ w146 ⟨xU,b143,rfl,N,H⟩
   refine ji [1,4,5] qh qm (Qg rfl ?_ (Qg rfl ?_ (Qg rfl ?_ jk)))
   ·skip
    refine vH H [yN] fun b147 w148 H=>⟨H.pick [2,3,4] [0,1],(X0 L65 ⟨_,b147,b143,uE6,N,H.pick [1,0,2,3,4] [0,1]⟩)⟩
   ·skip
    refine XI H underlying22 ti2 parts.length rfl rfl qf qf qf fun b149 w150 H=>⟨H.pick [2,3,4] [0,1],(X0 L95 ⟨_,b149,b143,uE6,N,H.pick [1,0,2,3,4] [0,1]⟩)⟩
   refine zf H ti219 [.pointer none] fun b151 w152 H=>⟨H.pick [2,3,4] [0,1],(X0 L112 ⟨_,b151,b143,uE7,N,H.pick [1,0,2,3,4] [0,1]⟩)⟩
  refine r_have (fun ρ w156=>∃ (xU:Env) (b153:Nat) (b154:Nat),ρ=upd (upd (upd (upd (upd xU 0 (.slice ab b.length cb)) 4 (pp b3 0)) 5 (pp b5 0)) 9 (pp b154 0)) 25 (.slice (aa b153 0) parts.length parts.length)∧Fresh w.heap.size []∧St w w156 [.box b154 [.pointer none] 219,rr (aa b153 0) parts.length parts.length 2 1 ((List.replicate parts.length (0:Int)).map (Value.int .i64)),.box b5 [.func (.func 177) #[] #[pp b1 0]] 170,.box b3 [.slice zk parts.length xX] 27,.box b1 [.slice zk parts.length xX] 27] [sF false Fb ab cb b,sF false Fparts zk xX parts]) 5 #[false,false,true,true,true,true,false,false,false] ?_ fun L155=>?_
  ·skip
   rintro ρ w157 ⟨xU,b153,b154,rfl,N,H⟩
   refine ji [0,6] qh qm (Qg rfl ?_ (Qg rfl ?_ jk))
   ·skip
    refine jB [yN] [] (⟨H.pick [2,3,4] [0,1],(X0 L78 ⟨_,b153,b154,uE6,N,H⟩)⟩)
   refine zf H ti22 [yN] fun b158 w159 H=>⟨H.pick [3,4,5] [0,1],(ro 0 rfl (jB [yN] [] (⟨H.pick [3,4,5] [0,1],(ro 1 rfl (vH H [yN] fun b160 w161 H=>⟨H.pick [4,5,6] [0,1],(ro 7 rfl (zJ H 2 [pp b160 0] sizeOf219 fun w162 H=>⟨H.pick [4,5,6] [0,1],(ro 8 rfl (zJ H 1 [.slice (aa b153 0) parts.length parts.length] sizeOf22 fun w163 H=>⟨H.pick [4,5,6] [0,1],(xO qh ((meet ⟨_,b154,b158,b153,b160,uE5,N,H.pick [1,2,3,0,4,5,6] [0,1]⟩)))⟩))⟩))⟩))⟩)))⟩
  refine r_have (fun ρ w167=>∃ (xU:Env) (b164:Nat) (b165:Nat),ρ=upd (upd (upd (upd (upd xU 0 (.slice ab b.length cb)) 4 (pp b3 0)) 5 (pp b5 0)) 10 (pp b165 0)) 25 (.slice (aa b164 0) parts.length parts.length)∧Fresh w.heap.size []∧St w w167 [.box b165 [yN] 22,rr (aa b164 0) parts.length parts.length 2 1 ((List.replicate parts.length (0:Int)).map (Value.int .i64)),.box b5 [.func (.func 177) #[] #[pp b1 0]] 170,.box b3 [.slice zk parts.length xX] 27,.box b1 [.slice zk parts.length xX] 27] [sF false Fb ab cb b,sF false Fparts zk xX parts]) 5 #[false,false,true,true,true,false,true,false,false] ?_ fun L166=>?_
  ·skip
   rintro ρ w168 ⟨xU,b164,b165,rfl,N,H⟩
   refine ji [0,5] qh qm (Qg rfl ?_ (Qg rfl ?_ jk))
   ·skip
    refine jB [yN] [] (⟨H.pick [2,3,4] [0,1],(X0 L95 ⟨_,b164,b165,uE6,N,H⟩)⟩)
   refine zf H ti219 [.pointer none] fun b169 w170 H=>⟨H.pick [3,4,5] [0,1],(ro 0 rfl (jB [yN] [] (⟨H.pick [3,4,5] [0,1],(ro 1 rfl (vH H [yN] fun b171 w172 H=>⟨H.pick [4,5,6] [0,1],(ro 7 rfl (zJ H 1 [pp b171 0] sizeOf219 fun w173 H=>⟨H.pick [4,5,6] [0,1],(ro 8 rfl (zJ H 2 [.slice (aa b164 0) parts.length parts.length] sizeOf22 fun w174 H=>⟨H.pick [4,5,6] [0,1],(xO qh ((meet ⟨_,b169,b165,b164,b171,uE5,N,H.pick [2,1,3,0,4,5,6] [0,1]⟩)))⟩))⟩))⟩))⟩)))⟩
  refine r_have (fun ρ w178=>∃ (xU:Env) (b175:Nat) (b176:Nat),ρ=upd (upd (upd (upd (upd (upd xU 0 (.slice ab b.length cb)) 4 (pp b3 0)) 5 (pp b5 0)) 9 (pp b175 0)) 10 (pp b176 0)) 24 (yI parts.length)∧Fresh w.heap.size []∧St w w178 [.box b176 [yN] 22,.box b175 [.pointer none] 219,.box b5 [.func (.func 177) #[] #[pp b1 0]] 170,.box b3 [.slice zk parts.length xX] 27,.box b1 [.slice zk parts.length xX] 27] [sF false Fb ab cb b,sF false Fparts zk xX parts]) 5 #[false,false,true,true,false,true,true,false,false] ?_ fun L177=>?_
  ·skip
   rintro ρ w179 ⟨xU,b175,b176,rfl,N,H⟩
   refine ji [0,4] qh qm (Qg rfl ?_ (Qg rfl ?_ jk))
   ·skip
    refine jB [yN] [] (⟨H.pick [2,3,4] [0,1],(X0 L112 ⟨_,b175,b176,uE7,N,H⟩)⟩)
   refine XI H underlying22 ti2 parts.length rfl rfl qf qf qf fun b180 w181 H=>⟨H.pick [3,4,5] [0,1],(ro 0 rfl (jB [yN] [] (⟨H.pick [3,4,5] [0,1],(ro 1 rfl (vH H [yN] fun b182 w183 H=>⟨H.pick [4,5,6] [0,1],(ro 7 rfl (zJ H 3 [pp b182 0] sizeOf219 fun w184 H=>⟨H.pick [4,5,6] [0,1],(ro 8 rfl (zJ H 2 [.slice (aa b180 0) parts.length parts.length] sizeOf22 fun w185 H=>⟨H.pick [4,5,6] [0,1],(xO qh ((meet ⟨_,b175,b176,b180,b182,uE5,N,H.pick [2,3,1,0,4,5,6] [0,1]⟩)))⟩))⟩))⟩))⟩)))⟩
  refine tL 2 rfl rfl (fun _ h=>h.cell 1 rfl rfl) H ?_
  refine tN 3 rfl rfl H ?_
  refine ji [0,4,5,6] qh qm (Qg rfl ?_ (Qg rfl ?_ (Qg rfl ?_ (Qg rfl ?_ jk))))
  ·skip
   refine jB [yN] [] (⟨H,(ji [1,4,5,6] qh qm (Qg rfl ?_ (Qg rfl ?_ (Qg rfl ?_ (Qg rfl ?_ jk)))))⟩)
   ·skip
    refine vH H [yN] fun b186 w187 H=>⟨H.pick [1,2,3] [0,1],(ji [4,5,6] qh qm (Qg rfl ?_ (Qg rfl ?_ (Qg rfl ?_ jk))))⟩
    ·skip
     refine XI H underlying22 ti2 parts.length rfl rfl qf qf qf fun b188 w189 H=>⟨H.pick [2,3,4] [0,1],(X0 L35 ⟨_,b186,b188,uE5,N,H⟩)⟩
    ·skip
     refine zf H ti219 [.pointer none] fun b190 w191 H=>⟨H.pick [2,3,4] [0,1],(X0 L52 ⟨_,b186,b190,uE6,N,H⟩)⟩
    refine zf H ti22 [yN] fun b192 w193 H=>⟨H.pick [2,3,4] [0,1],(X0 L65 ⟨_,b186,b192,uE6,N,H⟩)⟩
   ·skip
    refine XI H underlying22 ti2 parts.length rfl rfl qf qf qf fun b194 w195 H=>⟨H.pick [1,2,3] [0,1],(X0 L124 ⟨_,b194,uE5,N,H⟩)⟩
   ·skip
    refine zf H ti219 [.pointer none] fun b196 w197 H=>⟨H.pick [1,2,3] [0,1],(X0 L134 ⟨_,b196,uE6,N,H⟩)⟩
   refine zf H ti22 [yN] fun b198 w199 H=>⟨H.pick [1,2,3] [0,1],(X0 L144 ⟨_,b198,uE6,N,H⟩)⟩
  ·skip
   refine XI H underlying22 ti2 parts.length rfl rfl qf qf qf fun b200 w201 H=>⟨H.pick [1,2,3] [0,1],(ji [0,5,6] qh qm (Qg rfl ?_ (Qg rfl ?_ (Qg rfl ?_ jk))))⟩
   ·skip
    refine jB [yN] [] (⟨H.pick [1,2,3] [0,1],(X0 L124 ⟨_,b200,uE5,N,H⟩)⟩)
   ·skip
    refine zf H ti219 [.pointer none] fun b202 w203 H=>⟨H.pick [2,3,4] [0,1],(X0 L155 ⟨_,b200,b202,uE5,N,H⟩)⟩
   refine zf H ti22 [yN] fun b204 w205 H=>⟨H.pick [2,3,4] [0,1],(X0 L166 ⟨_,b200,b204,uE5,N,H⟩)⟩
  ·skip
   refine zf H ti219 [.pointer none] fun b206 w207 H=>⟨H.pick [1,2,3] [0,1],(ji [0,4,6] qh qm (Qg rfl ?_ (Qg rfl ?_ (Qg rfl ?_ jk))))⟩
   ·skip
    refine jB [yN] [] (⟨H.pick [1,2,3] [0,1],(X0 L134 ⟨_,b206,uE6,N,H⟩)⟩)
   ·skip
    refine XI H underlying22 ti2 parts.length rfl rfl qf qf qf fun b208 w209 H=>⟨H.pick [2,3,4] [0,1],(X0 L155 ⟨_,b208,b206,uE5,N,H.pick [1,0,2,3,4] [0,1]⟩)⟩
   refine zf H ti22 [yN] fun b210 w211 H=>⟨H.pick [2,3,4] [0,1],(X0 L177 ⟨_,b206,b210,uE6,N,H⟩)⟩
  refine zf H ti22 [yN] fun b212 w213 H=>⟨H.pick [1,2,3] [0,1],(ji [0,4,5] qh qm (Qg rfl ?_ (Qg rfl ?_ (Qg rfl ?_ jk))))⟩
  ·skip
   refine jB [yN] [] (⟨H.pick [1,2,3] [0,1],(X0 L144 ⟨_,b212,uE6,N,H⟩)⟩)
  ·skip
   refine XI H underlying22 ti2 parts.length rfl rfl qf qf qf fun b214 w215 H=>⟨H.pick [2,3,4] [0,1],(X0 L166 ⟨_,b214,b212,uE5,N,H.pick [1,0,2,3,4] [0,1]⟩)⟩
  refine zf H ti219 [.pointer none] fun b216 w217 H=>⟨H.pick [2,3,4] [0,1],(X0 L177 ⟨_,b216,b212,uE6,N,H.pick [1,0,2,3,4] [0,1]⟩)⟩
 clear H N
 rintro ρ w218 ⟨xU,b13,b14,b15,b16,rfl,N,H⟩
 refine t_n (zcr (sw (zf H ti222 [.nilFunc] fun b219 w220 H=>zjc (sp (.func (.func 201) #[] #[pp b3 0,pp b5 0,pp b13 0,pp b14 0,pp b219 0]) (sw (zJ H 0 [.func (.func 201) #[] #[pp b3 0,pp b5 0,pp b13 0,pp b14 0,pp b219 0]] sizeOf222 fun w221 H=>zjc (oL rfl (H.cell 0 rfl rfl) (sp (.slice ab b.length cb) ?_))))))))
 replace H:=H.nilRow 22 1
 replace H:=H.vI (α:=yLI)
 have H1:St w w221 [.box b3 [.slice zk parts.length xX] 27,.box b5 [.func (.func 177) #[] #[pp b1 0]] 170,.box b1 [.slice zk parts.length xX] 27,.box b13 [pp b16 0] 219,.box b16 [yN] 221,.box b14 [.slice (aa b15 0) parts.length parts.length] 22,.box b219 [.func (.func 201) #[] #[pp b3 0,pp b5 0,pp b13 0,pp b14 0,pp b219 0]] 222,rr none 0 0 22 1 [],rr (aa b15 0) parts.length parts.length 2 1 ((List.replicate parts.length (0:Int)).map (Value.int .i64))] [sF false Fb ab cb b,sF false Fparts zk xX parts,zi true [] [] ([]:yLL),sF false Fb ab cb b,sF false Fparts zk xX parts]:=H.pick [7,6,8,3,5,2,1,0,4] [1,2,0,1,2]
 have N1:Fresh _ [[]]:=N.emp
 have K1:Kept [] [sF false Fb ab cb b,sF false Fparts zk xX parts]:=Kept.nil _
 refine sw (o_callF #[yI 0,.slice ab b.length cb,pp b3 0,pp b5 0,pp b13 0,pp b14 0,pp b219 0] rfl rfl call201 (packFrom_ok parts.length 0 b parts ([]:yLL) (List.replicate parts.length (0:Int)) ab cb Fb zk xX Fparts b3 b5 b1 b13 b16 b14 b219 none 0 0 [] [] (aa b15 0) parts.length parts.length H1 N1 K1 qf (by first | assumption | exact u4) (by first | assumption | exact j3 | (simp;done)) (by first | assumption | (rw [List.length_set];exact j1) | (simp;done))) ?_)
 clear H H1 N1 K1
 rintro _ w222 ⟨cs223,raout223,rnout223,rcout223,rxout223,rFout223,hx224,hx225,rfl,N,H⟩
 obtain rfl:=H.zh (α:=yLI) 7 rfl 2 rfl qj
 refine zjc (oL rfl (H.cell 3 rfl rfl) (sw (vF #[pp b16 0] rfl rfl call204 (en func204 ntmps204 ?_))))
 refine zcr (sps [yN,yI 0] (zjcc (sps [pp b16 0,pp b16 0] (oF rfl (oL rfl (H.cell 4 rfl rfl) (oN rfl (sp (.bool (decide (((gath ([]:yLL) (begins ((List.replicate parts.length (0:Int)).take 0) (packs parts (parts.length - 0) 0 b))).length:Int) > 2000))) (zjn (cD rfl (fun h226=>?_) (fun h226=>?_))))))))))
 ·skip
  refine zcr (sps [yN,yI 3] (zjr (t_r (ret2 yN (yI 3) rfl rfl rfl ⟨_,rfl,(sps [yN,yI 3,yN,yI 3] (zjr (ret2 yN (yI 3) rfl rfl rfl ⟨_,rfl,?_⟩)))⟩))))
  replace H:=H.erases [8,7,6,5,4,3,1,0]
  dsimp only [vU,List.eraseIdx] at H
  refine sps [yN,yI 3,yN,yI 3] (zjr ?_)
  replace H:=H.nilRow 22 1
  replace H:=H.vI (α:=yLI)
  refine ret2 yN (yI 3) rfl rfl rfl ⟨_,rfl,?_,H.base⟩
  first | rw [all_a ql] | rw [all_bI (cs:=(List.replicate parts.length (0:Int))) ql qf]
  exact ⟨none,0,0,[],[],rfl,(N.emp.pick [0]),H.pick [0] [0]⟩
 refine qU (t_n (zcr (sps [pp b16 0,pp b16 0] (oF rfl (oL rfl (H.cell 4 rfl rfl) (sps [.slice raout223 ((gath ([]:yLL) (begins ((List.replicate parts.length (0:Int)).take 0) (packs parts (parts.length - 0) 0 b))).length) rcout223,yI 0] (zjr (ret2 (.slice raout223 ((gath ([]:yLL) (begins ((List.replicate parts.length (0:Int)).take 0) (packs parts (parts.length - 0) 0 b))).length) rcout223) (yI 0) rfl rfl rfl ⟨_,rfl,?_⟩))))))))
 refine sps [.slice raout223 ((gath ([]:yLL) (begins ((List.replicate parts.length (0:Int)).take 0) (packs parts (parts.length - 0) 0 b))).length) rcout223,yI 0,.slice raout223 ((gath ([]:yLL) (begins ((List.replicate parts.length (0:Int)).take 0) (packs parts (parts.length - 0) 0 b))).length) rcout223,yI 0] (zjr (ret2 (.slice raout223 ((gath ([]:yLL) (begins ((List.replicate parts.length (0:Int)).take 0) (packs parts (parts.length - 0) 0 b))).length) rcout223) (yI 0) rfl rfl rfl ⟨_,rfl,?_⟩))
 replace H:=H.erases [8,6,5,4,3,1,0]
 dsimp only [vU,List.eraseIdx] at H
 refine sps [.slice raout223 ((gath ([]:yLL) (begins ((List.replicate parts.length (0:Int)).take 0) (packs parts (parts.length - 0) 0 b))).length) rcout223,yI 0,.slice raout223 ((gath ([]:yLL) (begins ((List.replicate parts.length (0:Int)).take 0) (packs parts (parts.length - 0) 0 b))).length) rcout223,yI 0] (zjr (ret2 (.slice raout223 ((gath ([]:yLL) (begins ((List.replicate parts.length (0:Int)).take 0) (packs parts (parts.length - 0) 0 b))).length) rcout223) (yI 0) rfl rfl rfl ⟨_,rfl,?_,H.base⟩))
 rw [all_0I (cs:=(List.replicate parts.length (0:Int))) ql qf]
 exact ⟨raout223,(gath ([]:yLL) (begins ((List.replicate parts.length (0:Int)).take 0) (packs parts (parts.length - 0) 0 b))).length,rcout223,rxout223,rFout223,rfl,N,H.pick [1] [2]⟩
theorem compareL_ok (w:World) (a:yLI) (b:yLI) (aa:yOA) (ca:Nat) (Fa:yLN) (ab:yOA) (cb:Nat) (Fb:yLN) (ha:qO.rep w Fa [.slice aa a.length ca] a) (hb:qO.rep w Fb [.slice ab b.length cb] b):Calls Tryz.prog 94 #[.slice aa a.length ca,.slice ab b.length cb] w (Ret (fun v w' =>v=yI (cmpL a b)∧w' =w) w):=by
 refine en func94 ntmps94 ?_
 have H:=((St.start w).arg hb).arg ha
 have nha:=qK ha
 have nhb:=qK hb
 clear ha hb
 have N:=Fresh.nil w.heap.size
 refine zcr (sp (yI 0) (zjcc (sp (.slice aa a.length ca) (oN rfl (sp (yI 0) (zjn (qX ?_)))))))
 refine zu (fun m' ρ w1=>∃ (xU:Env) (i:Nat),ρ=upd (upd (upd (upd (upd xU 0 (.slice aa a.length ca)) 1 (.slice ab b.length cb)) 9 (.slice aa a.length ca)) 10 (yI a.length)) 11 (yI i)∧((i:Int)≤a.length)∧(w1=w)∧(cmpL a b=cmpL (a.drop i) (b.drop i))∧(i≤b.length)∧m' =(a.length - (i:Int)).toNat∧Fresh w.heap.size []∧St w w1 [] [sF false Fa aa ca a,sF false Fb ab cb b]) ((a.length - (0:Int)).toNat) ⟨_,0,uE5,qf,(by rfl),(by rfl),qf,rfl,N,H⟩ ?_
 clear H N
 rintro m' ρ w2 ⟨xU,i,rfl,i0,wk,i1,i2,rfl,N,H⟩
 refine zcr (sp (.bool (decide ((i:Int) < a.length))) (zjn (xQ (cD rfl (fun h3=>?_) (fun h3=>?_)))))
 ·skip
  refine qU (t_n (xQ (qX (zcr (sp (yI i) ?_)))))
  obtain ⟨b4,o5,rfl⟩:=H.addr 0 rfl qf
  refine oI rfl rfl (oL rfl (H.jC 0 rfl i qf qf) (sps [yI i,yI (a[i]!)] (zjcc (sps [yI i,.slice ab b.length cb] (oN rfl (sp (.bool (decide ((i:Int)≥b.length))) (zjn (cD rfl (fun h7=>?_) (fun h7=>?_)))))))))
  ·skip
   refine zcr (sp (yI 1) (zjr (t_r (zr5 (ret1 (yI 1) rfl rfl ⟨_,rfl,(⟨?_,wk⟩),H.base⟩)))))
   rw [i1,show cmpL (a.drop i) (b.drop i)=1 by first | exact cmp_a qf qf | exact cmp_e qf qf ‹_›]
  refine qU (t_n (zcr (sps [.slice ab b.length cb,yI i] ?_)))
  obtain ⟨b8,o9,rfl⟩:=H.addr 1 rfl qf
  refine oI rfl rfl (oL rfl (H.jC 1 rfl i qf qf) (sp (yI (b[i]!)) (zjc (sps [yI (a[i]!),yI (b[i]!)] (sw (vF #[yI (a[i]!),yI (b[i]!)] rfl rfl call131 (en func131 ntmps131 ?_)))))))
  refine zcr (sp (yI 0) (zjc (sp (yI (a[i]!)) (sw (vF #[yI (a[i]!)] rfl rfl call168 (en func168 ntmps168 ?_))))))
  refine zcr (sp (.bool false) (zjc (sps [yI (a[i]!),yI (a[i]!),.bool ((a[i]! :Int) != (a[i]!)),.bool ((a[i]! :Int) != (a[i]!))] (zjr (ret1 (.bool ((a[i]! :Int) != (a[i]!))) rfl rfl ⟨_,rfl,(sp (.bool ((a[i]! :Int) != (a[i]!))) (zjc (sp (yI (b[i]!)) (sw (vF #[yI (b[i]!)] rfl rfl call168 (en func168 ntmps168 ?_))))))⟩)))))
  refine zcr (sp (.bool false) (zjc (sps [yI (b[i]!),yI (b[i]!),.bool ((b[i]! :Int) != (b[i]!)),.bool ((b[i]! :Int) != (b[i]!))] (zjr (ret1 (.bool ((b[i]! :Int) != (b[i]!))) rfl rfl ⟨_,rfl,(sp (.bool ((b[i]! :Int) != (b[i]!))) (zjcc (sp (.bool ((a[i]! :Int) != (a[i]!))) (zjn (xK ((a[i]! :Int) != (a[i]!)) rfl (fun h=>absurd rfl (bne_iff_ne.1 h)) (fun h11=>?_))))))⟩)))))
  replace h11:=xq h11
  refine qU (t_n (zcc (sp (.bool ((b[i]! :Int) != (b[i]!))) (zjn (xK ((b[i]! :Int) != (b[i]!)) rfl (fun h=>absurd rfl (bne_iff_ne.1 h)) (fun h12=>?_))))))
  replace h12:=xq h12
  refine qU (t_n (zcc (sps [yI (a[i]!),yI (b[i]!),.bool (decide ((a[i]! :Int) < (b[i]!)))] (zjn (cD rfl (fun h13=>?_) (fun h13=>?_))))))
  ·skip
   refine zcr (sp (yI (-1)) (zjr (t_r (ret1 (yI (-1)) rfl rfl ⟨_,rfl,(sp (yI (-1)) (zjc (sps [yI (-1),.bool true] (zjn (xK true rfl (fun _=>zcr (sps [yI (-1),yI (-1)] (zjr (zr5 (ret1 (yI (-1)) rfl rfl ⟨_,rfl,(⟨?_,wk⟩),H.base⟩))))) (fun h=>absurd h qj))))))⟩))))
   rw [i1,show cmpL (a.drop i) (b.drop i)= -1 by first | exact cmp_b qf qf | exact cmp_d qf qf ‹_›]
  refine qU (t_n (zcc (sps [yI (a[i]!),yI (b[i]!),.bool (decide ((a[i]! :Int) > (b[i]!)))] (zjn (cD rfl (fun h14=>?_) (fun h14=>?_))))))
  ·skip
   refine zcr (sp (yI 1) (zjr (t_r (ret1 (yI 1) rfl rfl ⟨_,rfl,(sp (yI 1) (zjc (sps [yI 1,.bool true] (zjn (xK true rfl (fun _=>zcr (sps [yI 1,yI 1] (zjr (zr5 (ret1 (yI 1) rfl rfl ⟨_,rfl,(⟨?_,wk⟩),H.base⟩))))) (fun h=>absurd h qj))))))⟩))))
   rw [i1,show cmpL (a.drop i) (b.drop i)=1 by first | exact cmp_a qf qf | exact cmp_e qf qf ‹_›]
  refine qU (t_n (zcr (sp (yI 0) (zjr (ret1 (yI 0) rfl rfl ⟨_,rfl,(sp (yI 0) (zjc (sps [yI 0,.bool false] (zjn (xK false rfl (fun h=>absurd h qj) (fun _=>qU (b_n (t_n (xY (sw (zC i 1 rfl rfl qf (sp (yI (i+1)) (xZ (xf (m' :=(a.length - ((i+1):Int)).toNat) qf ⟨_,i+1,uE5,?_,?_,?_,?_,rfl,N,H⟩))))))))))))))⟩)))))
  · omega
  · exact wk
  · exact i1.trans (cmp_f qf qf ‹_› ‹_›)
  · omega
 refine zx4 (zcc (sp (.slice aa a.length ca) (oN rfl (sp (.slice ab b.length cb) (oN rfl (sp (.bool (decide ((a.length:Int) < b.length))) (zjn (cD rfl (fun h15=>?_) (fun h15=>?_)))))))))
 ·skip
  refine zcr (sp (yI (-1)) (zjr (t_r (ret1 (yI (-1)) rfl rfl ⟨_,rfl,(⟨?_,wk⟩),H.base⟩))))
  rw [i1,show cmpL (a.drop i) (b.drop i)= -1 by first | exact cmp_b qf qf | exact cmp_d qf qf ‹_›]
 refine qU (t_n (zcr (sp (yI 0) (zjr (ret1 (yI 0) rfl rfl ⟨_,rfl,(⟨?_,wk⟩),H.base⟩)))))
 rw [i1,cmp_c qf qf]
def sortL_ren:Go.Shelf.Ren:=⟨fun | 6=>93 | 15=>130 | 14=>129 | 28=>166 | 29=>167 | 20=>158 | 21=>159 | 22=>160 | 23=>161 | 24=>162 | 25=>163 | 26=>164 | 27=>165 | 46=>193 | 47=>194 | 48=>195 | 49=>196 | 50=>197 | 57=>208 | n=>n,fun | 22=>27 | 24=>22 | 25=>106 | 3=>3 | 39=>149 | 0=>0 | 53=>186 | 55=>188 | 4=>4 | 46=>179 | 45=>178 | 50=>183 | 5=>5 | 9=>9 | 66=>211 | 70=>215 | 76=>226 | 77=>227 | n=>n,fun | n=>n⟩
theorem sortL:Go.Proofs.SlLaysF.n6 Tryz.prog sortL_ren:={
  mixed:=by kernel_rfl
  f6:=⟨Tryz.f93.name,by decide,Tryz.func93.trans (congrArg some (by kernel_rfl))⟩
  f14:=⟨Tryz.f129.name,by decide,Tryz.func129.trans (congrArg some (by kernel_rfl))⟩
  f15:=Tryz.func130.trans (congrArg some (by kernel_rfl))
  f20:=⟨Tryz.f158.name,by decide,Tryz.func158.trans (congrArg some (by kernel_rfl))⟩
  f21:=⟨Tryz.f159.name,by decide,Tryz.func159.trans (congrArg some (by kernel_rfl))⟩
  f22:=⟨Tryz.f160.name,by decide,Tryz.func160.trans (congrArg some (by kernel_rfl))⟩
  f23:=⟨Tryz.f161.name,by decide,Tryz.func161.trans (congrArg some (by kernel_rfl))⟩
  f24:=⟨Tryz.f162.name,by decide,Tryz.func162.trans (congrArg some (by kernel_rfl))⟩
  f25:=⟨Tryz.f163.name,by decide,Tryz.func163.trans (congrArg some (by kernel_rfl))⟩
  f26:=⟨Tryz.f164.name,by decide,Tryz.func164.trans (congrArg some (by kernel_rfl))⟩
  f27:=⟨Tryz.f165.name,by decide,Tryz.func165.trans (congrArg some (by kernel_rfl))⟩
  f28:=Tryz.func166.trans (congrArg some (by kernel_rfl))
  f29:=Tryz.func167.trans (congrArg some (by kernel_rfl))
  f46:=⟨Tryz.f193.name,by decide,Tryz.func193.trans (congrArg some (by kernel_rfl))⟩
  f47:=Tryz.func194.trans (congrArg some (by kernel_rfl))
  f48:=Tryz.func195.trans (congrArg some (by kernel_rfl))
  f49:=⟨Tryz.f196.name,by decide,Tryz.func196.trans (congrArg some (by kernel_rfl))⟩
  f50:=⟨Tryz.f197.name,by decide,Tryz.func197.trans (congrArg some (by kernel_rfl))⟩
  f57:=⟨Tryz.f208.name,by decide,Tryz.func208.trans (congrArg some (by kernel_rfl))⟩
  t0:=Tryz.underlying0
  a0:=Tryz.isAgg0
  z0:=Tryz.sizeOf0
  v0:=Tryz.zeroValue0
  t3:=Tryz.underlying3
  a3:=Tryz.isAgg3
  z3:=Tryz.sizeOf3
  v3:=Tryz.zeroValue3
  t4:=Tryz.underlying4
  a4:=Tryz.isAgg4
  z4:=Tryz.sizeOf4
  v4:=Tryz.zeroValue4
  t5:=Tryz.underlying5
  a5:=Tryz.isAgg5
  z5:=Tryz.sizeOf5
  v5:=Tryz.zeroValue5
  t9:=Tryz.underlying9
  a9:=Tryz.isAgg9
  z9:=Tryz.sizeOf9
  v9:=Tryz.zeroValue9
  t22:=Tryz.underlying27
  a22:=Tryz.isAgg27
  z22:=Tryz.sizeOf27
  v22:=Tryz.zeroValue27
  a24:=Tryz.isAgg22
  z24:=Tryz.sizeOf22
  t25:=Tryz.underlying106
  a25:=Tryz.isAgg106
  z25:=Tryz.sizeOf106
  v25:=Tryz.zeroValue106
  t39:=Tryz.underlying149
  a39:=Tryz.isAgg149
  z39:=Tryz.sizeOf149
  v39:=Tryz.zeroValue149
  t45:=Tryz.underlying178
  a45:=Tryz.isAgg178
  z45:=Tryz.sizeOf178
  v45:=Tryz.zeroValue178
  t46:=Tryz.underlying179
  a46:=Tryz.isAgg179
  z46:=Tryz.sizeOf179
  v46:=Tryz.zeroValue179
  t50:=Tryz.underlying183
  a50:=Tryz.isAgg183
  z50:=Tryz.sizeOf183
  v50:=Tryz.zeroValue183
  t53:=Tryz.underlying186
  a53:=Tryz.isAgg186
  z53:=Tryz.sizeOf186
  v53:=Tryz.zeroValue186
  t55:=Tryz.underlying188
  a55:=Tryz.isAgg188
  z55:=Tryz.sizeOf188
  v55:=Tryz.zeroValue188
  t66:=Tryz.underlying211
  a66:=Tryz.isAgg211
  z66:=Tryz.sizeOf211
  v66:=Tryz.zeroValue211
  t70:=Tryz.underlying215
  a70:=Tryz.isAgg215
  z70:=Tryz.sizeOf215
  v70:=Tryz.zeroValue215
  t76:=Tryz.underlying226
  a76:=Tryz.isAgg226
  z76:=Tryz.sizeOf226
  v76:=Tryz.zeroValue226
  t77:=Tryz.underlying227
  a77:=Tryz.isAgg227
  z77:=Tryz.sizeOf227
  v77:=Tryz.zeroValue227 }
theorem cmpSort (W:World) (x y:yLI) (a:yOA) (c:Nat) (F:yLN) (a' :yOA) (c' :Nat) (F' :yLN) (hx:qO.rep W F [.slice a x.length c] x) (hy:qO.rep W F' [.slice a' y.length c'] y):
    Calls Tryz.prog 94 #[.slice a x.length c,.slice a' y.length c'] W fun e w' =>e=.returned (yI (cmpL x y))∧w' =W:=
  (compareL_ok W x y a c F a' c' F' hx hy).mono fun _ _ ⟨_,he,⟨hv,hw⟩,_⟩=>⟨he.trans (by rw [hv]),hw⟩

theorem choices_ok (w:World) (s:qG) (t:qJ) {qB:yOA} {qZ:yLN} {qL:yOA} {xE:yLN} {qV:yOA} {xR:yLN} {xn:yOA} {zy:yLN} {qN:yOA} {xH:yLN} (xe:qO.rep w qZ [.slice qB s.qw.length qy] s.qw) (xJ:qO.rep w xE [.slice qL s.qx.length qI] s.qx) (zl:qO.rep w xR [.slice qV t.qA.length qR] t.qA) (zK:qO.rep w zy [.slice xn t.qE.length xk] t.qE) (xP:qO.rep w xH [.slice qN t.qC.length qM] t.qC) (p0:jO s) (p1:zF s t):Calls Tryz.prog 64 #[.agg #[yI s.xC,.slice qB s.qw.length qy,.slice qL s.qx.length qI],.agg #[.slice qV t.qA.length qR,.slice xn t.qE.length xk,.slice qN t.qC.length qM]] w (Ret (fun v w' =>∃ (ra0:yOA) (rn0:Nat) (rc0:Nat) (rx0:List Value) (rF0:yLN),v=.tuple #[.slice ra0 rn0 rc0,yI ((xB s t).2)]∧Fresh w.heap.size [rF0]∧St w w' [rr ra0 rn0 rc0 22 1 rx0] [zi true rF0 rx0 ((xB s t).1)]) w):=by
 refine en func64 ntmps64 ?_
 have H:=(((((St.start w).arg xP).arg zK).arg zl).arg xJ).arg xe
 have zY:=qK xe
 have jb:=qK xJ
 have Qd:=qK zl
 have QQ:=qK zK
 have jP:=qK xP
 clear xe xJ zl zK xP
 have N:=Fresh.nil w.heap.size
 have A:=H.ltN (L:=[qZ,xE,xR,zy,xH]) [0,1,2,3,4]
 have p2:=p0.2.1
 have p3:=p0.1.2.1
 have p4:=p1.1
 have p5:=p1.2.1
 refine zcr (sw (vH H (yS s qB qy qL qI) fun b1 w2 H=>sw (vH H (yT t qV qR xn xk qN qM) fun b3 w4 H=>sps [yN,yI 0] (zjc (sw (zn (yS s qB qy qL qI) isAgg36 sizeOf36 rfl (qF (H.cells 1 rfl) 0 3) ?_))))))
 refine sw (zn (yT t qV qR xn xk qN qM) isAgg38 sizeOf38 rfl (qF (H.cells 0 rfl) 0 3) (sw (vF #[.agg #[yI s.xC,.slice qB s.qw.length qy,.slice qL s.qx.length qI],.agg #[.slice qV t.qA.length qR,.slice xn t.qE.length xk,.slice qN t.qC.length qM]] rfl rfl call107 (en func107 ntmps107 ?_))))
 refine zcr (sw (vH H (yS s qB qy qL qI) fun b5 w6 H=>sw (vH H (yT t qV qR xn xk qN qM) fun b7 w8 H=>sps [yN,yI 0] (zjc (oF rfl (oL rfl (H.cell 1 rfl rfl) (oN rfl (sw (o_makeZ (⟨[]⟩:OwnI 2) H underlying27 ti22 qj (fun _=>⟨yN,rfl,Or.inl ⟨rfl,rfl,rfl⟩⟩) s.qw.length rfl rfl qf qf qf fun b9 w10 xs11 H=>?_)))))))))
 refine sp (.slice (aa b9 0) s.qw.length s.qw.length) (zjcc (sw (zn (yS s qB qy qL qI) isAgg36 sizeOf36 rfl (qF (H.cells 2 rfl) 0 3) (sw (zn (yT t qV qR xn xk qN qM) isAgg38 sizeOf38 rfl (qF (H.cells 1 rfl) 0 3) ?_)))))
 have sz15:=H.base.size
 refine sw (oc (applicable_ok _ s t (H.get 1 rfl).1 (H.get 2 rfl).1 (H.get 3 rfl).1 (H.get 4 rfl).1 (H.get 5 rfl).1 qg qg) ?_)
 rintro _ w13 ⟨ra12,rn12,rc12,rfl,M,K⟩ _
 replace H:=H.merge K M
 obtain rfl:=H.Vq 0 rfl
 have al:(appls s t).length≤s.qx.length:=applL_le s t s.qx.length
 refine oN rfl (sp (yI 0) (zjn (qX ?_)))
 refine zu (fun m' ρ w18=>∃ (xU:Env) (k:Nat) (own:List (OwnI 2)) (x_own:List Value) (F_own:yLN),ρ=upd (upd (upd (upd (upd (upd xU 2 (pp b5 0)) 3 (pp b7 0)) 6 (.slice (aa b9 0) s.qw.length s.qw.length)) 24 (.slice ra12 ((appls s t).length) rc12)) 25 (yI ((appls s t).length))) 26 (yI k)∧own=(ownL 2 s t s.qw.length k)∧((k:Int)≤((appls s t).length))∧m' =(((appls s t).length) - (k:Int)).toNat∧Fresh w.heap.size [F_own]∧St w w18 [rr ra12 ((appls s t).length) rc12 2 1 ((appls s t).map (Value.int .i64)),rr (aa b9 0) s.qw.length s.qw.length 22 1 x_own,.box b7 (yT t qV qR xn xk qN qM) 38,.box b5 (yS s qB qy qL qI) 36,.box b3 (yT t qV qR xn xk qN qM) 38,.box b1 (yS s qB qy qL qI) 36] [zi true F_own x_own own,sF false qZ qB qy s.qw,sF false xE qL qI s.qx,sF false xR qV qR t.qA,sF false zy xn xk t.qE,sF false xH qN qM t.qC]) ((((appls s t).length) - (0:Int)).toNat) ⟨_,0,(List.replicate s.qw.length (⟨[]⟩:OwnI 2)),xs11,[],uE6,(by exact ownL_zero 2 s t _),qf,rfl,N.emp,H⟩ ?_
 clear H N
 rintro m' ρ w19 ⟨xU,k,own,x_own,F_own,rfl,rfl,i0,rfl,N,H⟩
 have hn_own:=H.zh (α:=OwnI 2) 1 rfl 0 rfl qj
 have ol:=ownL_len 2 s t s.qw.length k
 refine zcr (sp (.bool (decide ((k:Int) < ((appls s t).length)))) (zjn (xQ (cD rfl (fun h20=>?_) (fun h20=>?_)))))
 ·skip
  obtain ⟨a0,a1,a2⟩:=appls_inH (s:=s) (t:=t) (q:=k) qf
  have q:=p0.rule (i:=((appls s t)[k]!).toNat) qf
  have qc:=q.1
  have qk:(s.qx[((appls s t)[k]!).toNat]!).qH.toNat < s.qw.length:=q.cell
  have le:=ownL_le (e:=2) (s:=s) (t:=t) (n:=s.qw.length) (q:=k) (c:=(s.qx[((appls s t)[k]!).toNat]!).qH.toNat) qf
  have sm:=vJ (p1.2.2.2.2 (s.qx[((appls s t)[k]!).toNat]!).qH.toNat qf).1
  refine qU (t_n (xQ (qX (zcr ?_))))
  obtain ⟨b21,rfl⟩:=H.Qh 0 rfl qf
  refine oI rfl rfl (oL rfl (H.rowInt 0 rfl (iv:=k) (i:=k) qf qf) (sp (yI ((appls s t)[k]!)) (zjc (oF rfl (oL rfl (H.cell 3 rfl rfl) (sp (yI ((appls s t)[k]!)) ?_))))))
  obtain ⟨b22,o23,rfl⟩:=H.addr 2 rfl qf
  obtain ⟨ae25Need,ce25Need,Fe25Need,ae25Have,ce25Have,Fe25Have,ae25Lack,ce25Lack,Fe25Lack,ae25Here,ce25Here,Fe25Here,ae25Out,ce25Out,Fe25Out,ae25Into,ce25Into,Fe25Into,H⟩:=H.yt 2 rfl ((appls s t)[k]!) (((appls s t)[k]!).toNat) qf qf qf
  refine oI rfl rfl (oF rfl (oL rfl (H.xW 6 rfl 0 rfl) (sp (yI ((s.qx[((appls s t)[k]!).toNat]!).qH)) (zjcc (oF rfl (oL rfl (H.cell 2 rfl rfl) (sp (yI ((s.qx[((appls s t)[k]!).toNat]!).qH)) ?_)))))))
  obtain ⟨b26,o27,rfl⟩:=H.addr 11 rfl qf
  obtain ⟨ae29,ce29,Fe29,H⟩:=H.vM 11 rfl ((s.qx[((appls s t)[k]!).toNat]!).qH) (((s.qx[((appls s t)[k]!).toNat]!).qH).toNat) qf qf qf
  refine oI rfl rfl (oL rfl (H.xW 1 rfl 0 rfl) (sw (oq (VH _ (t.qE[((s.qx[((appls s t)[k]!).toNat]!).qH).toNat]!) (H.get 0 rfl).1 (by first | assumption | exact vJ ql | exact Qo ql)) H fun w30 H=>sp (.bool (decide ((VN (t.qE[((s.qx[((appls s t)[k]!).toNat]!).qH).toNat]!):Int) > 16))) (zjn (cD rfl (fun h32=>?_) (fun h32=>?_))))))
  ·skip
   refine zcr (sps [yN,yI 3] (zjr (t_r (zr5 (ret2 yN (yI 3) rfl rfl rfl ⟨_,rfl,?_⟩)))))
   replace H:=H.erases [3,2,1,0]
   dsimp only [vU,List.eraseIdx] at H
   refine sps [.tuple #[yN,yI 3],yN,yI 3,yN,yI 3] (zjcc (sps [yI 3,.bool true] (zjn (xK true rfl (fun _=>zcr (sps [yI 3,yN,yI 3] (zjr (t_r ?_)))) (fun h=>absurd h qj)))))
   replace H:=H.nilRow 22 1
   replace H:=H.vI (α:=yLI)
   refine ret2 yN (yI 3) rfl rfl rfl ⟨_,rfl,?_,H.base⟩
   first | rw [cho_3 (.inl (own_bad p0 (q:=k) qf qf))] | rw [cho_3 (.inr (prod_stop (G:=(jf s.qx.length (xg s t s.qw.length) (xG s t s.qw.length) k_1)) (r:=((xg s t s.qw.length)[k_1]!)) (k:=k_51+1) (i:=k_1) kn qf (XH _) qf (by rw [← nextX_end (x:=k_52) qf qf];omega)))]
   exact ⟨none,0,0,[],[],rfl,(N.emp.pick [0]),H.pick [0] [0]⟩
  refine qU (t_n (xY (sps [.slice (aa b9 0) s.qw.length s.qw.length,yI ((s.qx[((appls s t)[k]!).toNat]!).qH),.slice (aa b9 0) s.qw.length s.qw.length,yI ((s.qx[((appls s t)[k]!).toNat]!).qH)] (oI rfl rfl ?_))))
  replace N:Fresh w.heap.size [F_own]:=N
  obtain ⟨a33,c34,F35,h36,N,H⟩:=H.openI 1 rfl 9 rfl N (iv:=(s.qx[((appls s t)[k]!).toNat]!).qH) (((s.qx[((appls s t)[k]!).toNat]!).qH).toNat) qf qf [sF false qZ qB qy s.qw,sF false xE (aa b22 o23) qI s.qx,sF false xR qV qR t.qA,sF false zy (aa b26 o27) xk t.qE,sF false xH qN qM t.qC] (keepA A N [10,11,12,13,14] rfl rfl)
  refine oL rfl h36 (sp (yI ((appls s t)[k]!)) (sw (zG H underlying22 ti2 [yI ((appls s t)[k]!)] fun b37 w38 H=>sw (zQ H 1 rfl 0 rfl underlying22 ti2 rfl qj rfl rfl rfl (by simp [Value.oneCell',Value.cells]) qp qf fun a39 c40 w41 H=>?_))))
  rw [snocI] at H
  refine oI rfl rfl (sw (o_closeI H 3 rfl 1 qj rfl 0 rfl (c:=(((s.qx[((appls s t)[k]!).toNat]!).qH).toNat)) (N:Fresh w.heap.size [F35]) (H.jQ []) sizeOf22 rfl rfl qf qf fun w42 F43 N H=>xZ (b_n (t_n (xY (sw (zC k 1 rfl rfl qf (sp (yI (k+1)) (xZ ?_)))))))))
  refine xf (m' :=(((appls s t).length) - ((k+1):Int)).toNat) qf ⟨_,k+1,(((ownL 2 s t s.qw.length k).set (((s.qx[((appls s t)[k]!).toNat]!).qH).toNat) ⟨[]⟩).set (((s.qx[((appls s t)[k]!).toNat]!).qH).toNat) ⟨(((ownL 2 s t s.qw.length k)[((s.qx[((appls s t)[k]!).toNat]!).qH).toNat]!).l++[(appls s t)[k]!])⟩),(x_own.set (((s.qx[((appls s t)[k]!).toNat]!).qH).toNat) (.slice a39 ((((ownL 2 s t s.qw.length k)[((s.qx[((appls s t)[k]!).toNat]!).qH).toNat]!).l.length)+1) c40)),F43,uE6,?_,?_,rfl,N,H.pick [2,3,4,5,6,7] [0,2,3,4,5,6]⟩
  · exact ownL_set qf rfl qf qf (by rw [List.set_set])
  · omega
 refine zx4 (zcr (sw (vG H underlying125 ti129 fun b44 w45 H=>sp (.slice (aa b44 0) 0 0) (zjcc (sp (.slice (aa b9 0) s.qw.length s.qw.length) (oN rfl (sp (yI 0) (zjn (qX ?_)))))))))
 replace H:=H.ofOwn 0 rfl
 rw [ownL_end qf] at H
 have cl:=cellsR_len s t s.qw.length
 replace H:=H.boxRow 0 rfl 2 0 rfl qj
 replace H:=H.vI (α:=inCellD)
 replace H:St _ _ [rr (aa b44 0) 0 0 129 2 [],rr ra12 ((appls s t).length) rc12 2 1 ((appls s t).map (Value.int .i64)),rr (aa b9 0) s.qw.length s.qw.length 22 1 x_own,.box b7 (yT t qV qR xn xk qN qM) 38,.box b5 (yS s qB qy qL qI) 36,.box b3 (yT t qV qR xn xk qN qM) 38,.box b1 (yS s qB qy qL qI) 36] [zi true [] [] ([]:List inCellD),zi true F_own x_own (cellsR s t s.qw.length),zi true F_own x_own (ownL 2 s t s.qw.length k),sF false qZ qB qy s.qw,sF false xE qL qI s.qx,sF false xR qV qR t.qA,sF false zy xn xk t.qE,sF false xH qN qM t.qC]:=H
 refine zu (fun m' ρ w46=>∃ (xU:Env) (zW:yOA) (zt:Nat) (zL:Nat) (out:List inCellD) (Qr:List Value) (jR:yLN) (c:Nat),ρ=upd (upd (upd (upd (upd (upd xU 2 (pp b5 0)) 3 (pp b7 0)) 10 (.slice zW zt zL)) 55 (.slice (aa b9 0) s.qw.length s.qw.length)) 56 (yI s.qw.length)) 57 (yI c)∧out=(QT s t c)∧((c:Int)≤s.qw.length)∧(GoodP s t c)∧m' =(s.qw.length - (c:Int)).toNat∧Fresh w.heap.size [F_own]∧St w w46 [rr zW zt zL 129 2 Qr,rr ra12 ((appls s t).length) rc12 2 1 ((appls s t).map (Value.int .i64)),rr (aa b9 0) s.qw.length s.qw.length 22 1 x_own,.box b7 (yT t qV qR xn xk qN qM) 38,.box b5 (yS s qB qy qL qI) 36,.box b3 (yT t qV qR xn xk qN qM) 38,.box b1 (yS s qB qy qL qI) 36] [zi true jR Qr out,zi true F_own x_own (cellsR s t s.qw.length),zi true F_own x_own (ownL 2 s t s.qw.length k),sF false qZ qB qy s.qw,sF false xE qL qI s.qx,sF false xR qV qR t.qA,sF false zy xn xk t.qE,sF false xH qN qM t.qC]) ((s.qw.length - (0:Int)).toNat) ⟨_,(aa b44 0),0,0,([]:List inCellD),[],[],0,uE6,(by rfl),qf,(by exact fun j hj=>by omega),rfl,N,H⟩ ?_
 clear H N
 rintro m' ρ w47 ⟨xU,zW,zt,zL,out,Qr,jR,c,rfl,rfl,i0,gp,rfl,N,H⟩
 have hn_out:=H.zh (α:=inCellD) 0 rfl 0 rfl qj
 have ce:=cells_len s t c
 have rl:=rules_le s t c
 refine zcr (sp (.bool (decide ((c:Int) < s.qw.length))) (zjn (xQ (cD rfl (fun h48=>?_) (fun h48=>?_)))))
 ·skip
  refine qU (t_n (xQ (qX (zcr (sp (yI c) (oI rfl rfl ?_))))))
  obtain ⟨a49,c50,G51,s52,h53,H⟩:=H.jV 2 rfl 1 rfl (iv:=c) c qf qf
  refine oL rfl (h53) (sps [yI c,.slice a49 (((cellsR s t s.qw.length)[c]!).length) c50] (zjcc (sp (.slice a49 (((cellsR s t s.qw.length)[c]!).length) c50) (oN rfl (sp (.bool ((((cellsR s t s.qw.length)[c]!).length:Int) == 0)) (zjn (cE rfl (fun h54=>?_) (fun h54=>?_))))))))
  ·skip
   rw [cellsR_get (s:=s) (t:=t) (n:=s.qw.length) (c:=c) qf] at H h54 ⊢
   refine c_exit (t_x (b_x (t_n (xY (sw (zC c 1 rfl rfl qf (sp (yI (c+1)) (xZ (xf (m' :=(s.qw.length - ((c+1):Int)).toNat) qf ⟨_,zW,zt,zL,(QT s t c),Qr,jR,c+1,uE6,?_,?_,?_,rfl,N,H.pick [0,1,2,3,4,5,6] [1,2,3,4,5,6,7,8]⟩)))))))))
   · first | exact cells_yes qf | exact cells_no qf
   · omega
   · exact gp.succ (by first | exact .inl qf | exact .inr (show (vg _ _).2=0 from ‹_›))
  rw [cellsR_get (s:=s) (t:=t) (n:=s.qw.length) (c:=c) qf] at H h54 ⊢
  refine qU (t_n (zcr (sw (vG H underlying27 ti22 fun b55 w56 H=>sp (.slice (aa b55 0) 0 0) (zjcc (sp (.slice a49 ((zH s t c).length) c50) (oN rfl (sp (yI 0) (zjn (qX ?_))))))))))
  replace H:=H.boxRow 0 rfl 1 0 rfl qj
  replace H:=H.vI (α:=yLI)
  replace H:=H.unfree 0 rfl
  refine zu (fun m' ρ w57=>∃ (xU:Env) (yQ:yOA) (jI:Nat) (yK:Nat) (needs:yLL) (X7:List Value) (YO:yLN) (k_1:Nat),ρ=upd (upd (upd (upd (upd (upd (upd (upd (upd (upd (upd (upd xU 2 (pp b5 0)) 3 (pp b7 0)) 10 (.slice zW zt zL)) 11 (yI c)) 12 (.slice a49 ((zH s t c).length) c50)) 13 (.slice yQ jI yK)) 55 (.slice (aa b9 0) s.qw.length s.qw.length)) 56 (yI s.qw.length)) 57 (yI c)) 66 (.slice a49 ((zH s t c).length) c50)) 67 (yI ((zH s t c).length))) 68 (yI k_1)∧needs=(zq s ((zH s t c).take k_1))∧((k_1:Int)≤((zH s t c).length))∧m' =(((zH s t c).length) - (k_1:Int)).toNat∧Fresh w.heap.size [F_own]∧St w w57 [rr yQ jI yK 22 1 X7,rr zW zt zL 129 2 Qr,rr ra12 ((appls s t).length) rc12 2 1 ((appls s t).map (Value.int .i64)),rr (aa b9 0) s.qw.length s.qw.length 22 1 x_own,.box b7 (yT t qV qR xn xk qN qM) 38,.box b5 (yS s qB qy qL qI) 36,.box b3 (yT t qV qR xn xk qN qM) 38,.box b1 (yS s qB qy qL qI) 36] [zi false YO X7 needs,sF true G51 a49 c50 (zH s t c),zi true jR Qr (QT s t c),zi true F_own x_own (cellsR s t s.qw.length),zi true F_own x_own (ownL 2 s t s.qw.length k),sF false qZ qB qy s.qw,sF false xE qL qI s.qx,sF false xR qV qR t.qA,sF false zy xn xk t.qE,sF false xH qN qM t.qC]) ((((zH s t c).length) - (0:Int)).toNat) ⟨_,(aa b55 0),0,0,([]:yLL),[],[],0,uE12,(by rfl),qf,rfl,N,H.pick [0,1,2,3,4,5,6,7] [0,2,3,4,5,6,7,8,9,10]⟩ ?_
  clear H N
  rintro m' ρ w58 ⟨xU,yQ,jI,yK,needs,X7,YO,k_1,rfl,rfl,i0,rfl,N,H⟩
  have hn_needs:=H.zh (α:=yLI) 0 rfl 0 rfl qj
  have nl:=Vr s ((zH s t c).take k_1)
  have tl:=List.length_take_le k_1 (zH s t c)
  have cl8:=cellR_len (t:=t) p0 c
  refine zcr (sp (.bool (decide ((k_1:Int) < ((zH s t c).length)))) (zjn (xQ (cD rfl (fun h59=>?_) (fun h59=>?_)))))
  ·skip
   obtain ⟨e1,e2,e3,e4⟩:=cellR_at (s:=s) (t:=t) (c:=c) (j:=k_1) qf
   refine qU (t_n (xQ (qX (zcr ?_))))
   obtain ⟨b60,o61,rfl⟩:=H.addr 1 rfl qf
   refine oI rfl rfl (oL rfl (H.jC 1 rfl k_1 qf qf) (sp (yI ((zH s t c)[k_1]!)) (zjn (xY (sp (.slice yQ jI yK) (oF rfl (oL rfl (H.cell 5 rfl rfl) (sp (yI ((zH s t c)[k_1]!)) ?_))))))))
   obtain ⟨b63,o64,rfl⟩:=H.addr 6 rfl qf
   obtain ⟨ae66Need,ce66Need,Fe66Need,ae66Have,ce66Have,Fe66Have,ae66Lack,ce66Lack,Fe66Lack,ae66Here,ce66Here,Fe66Here,ae66Out,ce66Out,Fe66Out,ae66Into,ce66Into,Fe66Into,H⟩:=H.yt 6 rfl ((zH s t c)[k_1]!) (((zH s t c)[k_1]!).toNat) qf qf qf
   refine oI rfl rfl (oF rfl (oL rfl (H.xW 6 rfl 2 rfl) (sw (zG H underlying27 ti22 [.slice ae66Need (((s.qx[((zH s t c)[k_1]!).toNat]!).xm).length) ce66Need] fun b67 w68 H=>sw (zQ H 1 rfl 0 rfl underlying27 ti22 rfl qj rfl rfl rfl (by simp [Value.oneCell',Value.cells]) qp qf fun a69 c70 w71 H=>?_)))))
   replace H:=H.jW 7 rfl 0 rfl
   refine sp (.slice a69 (jI+1) c70) (xZ (b_n (t_n (xY (sw (zC k_1 1 rfl rfl qf (sp (yI (k_1+1)) (xZ (xf (m' :=(((zH s t c).length) - ((k_1+1):Int)).toNat) qf ⟨_,a69,jI+1,c70,((zq s ((zH s t c).take k_1))++[(s.qx[((zH s t c)[k_1]!).toNat]!).xm]),X7++[.slice ae66Need (((s.qx[((zH s t c)[k_1]!).toNat]!).xm).length) ce66Need],(YO++Fe66Need),k_1+1,uE12,?_,?_,rfl,N,H.pick [1,2,3,4,5,6,7,8] [0,9,10,11,12,13,14,15,16,17]⟩)))))))))
   · exact needs_take qf
   · omega
  rw [List.take_of_length_le (l:=zH s t c) (i:=k_1) qf] at H
  refine zx4 (zcr (oF rfl (oL rfl (H.cell 4 rfl rfl) (sp (yI c) ?_))))
  obtain ⟨b72,o73,rfl⟩:=H.addr 8 rfl qf
  obtain ⟨ae75,ce75,Fe75,H⟩:=H.vM 8 rfl c c qf qf qf
  refine oI rfl rfl (oL rfl (H.xW 1 rfl 0 rfl) (sp (.slice yQ jI yK) ?_))
  obtain ⟨G76,hn77,h78⟩:=H.rowIsR (α:=yLI) 0 rfl 2 rfl qj
  have cp:=cell_pack p0 p1 (c:=c) qf
  have nl2:=Vr s (zH s t c)
  have sz82:=H.base.size
  have lt83:=H.ltN (L:=[F_own]) [5]
  refine sw (oc (YM (by rw [← hn77]) (maxPack_ok _ (t.qE[c]!) (zq s (zH s t c)) (H.get 0 rfl).1 (hn77▸h78) qg qg)) ?_)
  rintro _ w80 ⟨ra79a,rn79a,rc79a,rx79a,rF79a,rfl,M,K⟩ _
  replace N:=N.merge sz82 lt83 M
  replace H:=H.merge K M
  obtain rfl:=H.zh (α:=yLI) 0 rfl 0 rfl qj
  refine sps [.tuple #[.slice ra79a (((vg (t.qE[c]!) (zq s (zH s t c))).1).length) rc79a,yI ((vg (t.qE[c]!) (zq s (zH s t c))).2)],.slice ra79a (((vg (t.qE[c]!) (zq s (zH s t c))).1).length) rc79a,yI ((vg (t.qE[c]!) (zq s (zH s t c))).2),.slice ra79a (((vg (t.qE[c]!) (zq s (zH s t c))).1).length) rc79a,yI ((vg (t.qE[c]!) (zq s (zH s t c))).2)] (zjcc (sps [yI ((vg (t.qE[c]!) (zq s (zH s t c))).2),.bool (((vg (t.qE[c]!) (zq s (zH s t c))).2:Int) != 0)] (zjn ?_)))
  refine xK (((vg (t.qE[c]!) (zq s (zH s t c))).2:Int) != 0) rfl (fun h85=>?_) (fun h85=>?_)
  ·skip
   replace h85:=bne_iff_ne.1 h85
   refine zcr (sps [yI ((vg (t.qE[c]!) (zq s (zH s t c))).2),yN,yI ((vg (t.qE[c]!) (zq s (zH s t c))).2)] (zjr (t_r (zr5 (ret2 yN (yI ((vg (t.qE[c]!) (zq s (zH s t c))).2)) rfl rfl rfl ⟨_,rfl,?_⟩)))))
   replace H:=H.erases [6,5,4,3,2,1,0]
   dsimp only [vU,List.eraseIdx] at H
   refine sps [.tuple #[yN,yI ((vg (t.qE[c]!) (zq s (zH s t c))).2)],yN,yI ((vg (t.qE[c]!) (zq s (zH s t c))).2),yN,yI ((vg (t.qE[c]!) (zq s (zH s t c))).2)] (zjcc (sps [yI ((vg (t.qE[c]!) (zq s (zH s t c))).2),.bool (((vg (t.qE[c]!) (zq s (zH s t c))).2:Int) != 0)] (zjn (xK (((vg (t.qE[c]!) (zq s (zH s t c))).2:Int) != 0) rfl (fun h86=>?_) (fun h=>absurd (xq h) h85)))))
   replace h86:=bne_iff_ne.1 h86
   refine zcr (sps [yI ((vg (t.qE[c]!) (zq s (zH s t c))).2),yN,yI ((vg (t.qE[c]!) (zq s (zH s t c))).2)] (zjr (t_r ?_)))
   replace H:=H.nilRow 22 1
   replace H:=H.vI (α:=yLI)
   refine ret2 yN (yI ((vg (t.qE[c]!) (zq s (zH s t c))).2)) rfl rfl rfl ⟨_,rfl,?_,H.base⟩
   rw [cho_code (bad_code (c:=c) qf qf ‹_›) ‹_›]
   exact ⟨none,0,0,[],[],rfl,(N.emp.pick [0]),H.pick [0] [0]⟩
  replace h85:=xq h85
  refine qU (t_n (xY (sps [.slice zW zt zL,.slice a49 ((zH s t c).length) c50,.slice ra79a (((vg (t.qE[c]!) (zq s (zH s t c))).1).length) rc79a] (sw (jB [.slice a49 ((zH s t c).length) c50,.slice ra79a (((vg (t.qE[c]!) (zq s (zH s t c))).1).length) rc79a] [(0,.slice a49 ((zH s t c).length) c50),(1,.slice ra79a (((vg (t.qE[c]!) (zq s (zH s t c))).1).length) rc79a)] (sw (zG H underlying125 ti129 [.slice a49 ((zH s t c).length) c50,.slice ra79a (((vg (t.qE[c]!) (zq s (zH s t c))).1).length) rc79a] fun b87 w88 H=>?_)))))))
  have H0:=H
  obtain ⟨G92,hg94,hn93,H⟩:=H.Qs (α:=yLI) 1 rfl 0 rfl qj
  replace N:Fresh w.heap.size [G92,F_own]:=Fresh.ice N H0 1 hg94.1 hg94.2 (H0.jQ [6])
  clear H0
  refine sw (zQ H 3 rfl 0 rfl underlying125 ti129 rfl qj rfl rfl rfl (by simp [Value.oneCell',Value.cells]) qp qf fun a89 c90 w91 H=>?_)
  replace H:=H.snoc_inCellD 6 rfl 5 rfl 0 rfl
  refine sp (.slice a89 (zt+1) c90) (xZ (b_n (t_n (xY (sw (zC c 1 rfl rfl qf (sp (yI (c+1)) (xZ (xf (m' :=(s.qw.length - ((c+1):Int)).toNat) qf ⟨_,a89,zt+1,c90,((QT s t c)++[⟨zH s t c,(vg (t.qE[c]!) (zq s (zH s t c))).1⟩]),Qr++[.slice a49 ((zH s t c).length) c50,.slice ra79a (((vg (t.qE[c]!) (zq s (zH s t c))).1).length) rc79a],(jR++(G51++G92)),c+1,uE6,?_,?_,?_,rfl,(N.pick [1]),H.pick [3,4,5,6,7,8,9] [0,8,9,10,11,12,13,14]⟩)))))))))
  · first | exact cells_yes qf | exact cells_no qf
  · omega
  · exact gp.succ (by first | exact .inl qf | exact .inr (show (vg _ _).2=0 from ‹_›))
 refine zx4 (zcr (sps [.slice zW zt zL,.slice zW zt zL,yI 0] (zjr (ret2 (.slice zW zt zL) (yI 0) rfl rfl rfl ⟨_,rfl,?_⟩))))
 replace H:=H.erases [4,3,2,1]
 dsimp only [vU,List.eraseIdx] at H
 obtain rfl:c=s.qw.length:=by omega
 have kn:=packsL_ne p0 p1 (k:=s.qw.length) qf gp
 have kr:=rules_le s t s.qw.length
 have kl:=packsL_le s t s.qw.length
 have ce:=cells_len s t s.qw.length
 refine sps [.tuple #[.slice zW zt zL,yI 0],.slice zW zt zL,yI 0,.slice zW zt zL,yI 0] (zjcc (sps [yI 0,.bool false] (zjn (xK false rfl (fun h=>absurd h qj) (fun _=>qU (t_n (zcr (oF rfl (oL rfl (H.cell 2 rfl rfl) (oN rfl (sw (XI H underlying22 ti2 s.qx.length rfl rfl qf qf qf fun b95 w96 H=>sw (zG H underlying27 ti22 [.slice (aa b95 0) s.qx.length s.qx.length] fun b97 w98 H=>sp (.slice (aa b97 0) 1 1) (zjcc ?_))))))))))))))
 refine sp (.slice zW zt zL) (oN rfl (sp (yI 0) (zjn (qX ?_))))
 obtain ⟨G99,hg101,hn100,H⟩:=H.Qs (α:=inCellD) 2 rfl 0 rfl qj
 replace H:=H.boxRow 0 rfl 1 1 rfl qj
 replace H:=H.vI (α:=yLI)
 obtain ⟨G102,N,hn103,H⟩:=H.vS 1 rfl N (H.jQ [3])
 replace H:=H.Yx true 0 rfl 1 rfl qm
 replace N:Fresh w.heap.size [(G102++[]),F_own]:=(N.emp.pick [1,0,2]).join
 refine zu (fun m' ρ w104=>∃ (xU:Env) (a_out_1:yOA) (yB:Nat) (Q7:Nat) (out_1:yLL) (Xe:List Value) (Qz:yLN) (k_1:Nat),ρ=upd (upd (upd (upd xU 8 (.slice a_out_1 yB Q7)) 33 (.slice zW zt zL)) 34 (yI zt)) 35 (yI k_1)∧out_1=(jf s.qx.length (xg s t s.qw.length) (xG s t s.qw.length) k_1)∧((k_1:Int)≤zt)∧((jf s.qx.length (xg s t s.qw.length) (xG s t s.qw.length) k_1).length≤300)∧m' =(zt - (k_1:Int)).toNat∧Fresh w.heap.size [Qz]∧St w w104 [rr a_out_1 yB Q7 22 1 Xe,.box b3 (yT t qV qR xn xk qN qM) 38,.box b1 (yS s qB qy qL qI) 36] [zi true Qz Xe out_1,isF true G99 (.slice zW zt zL) (QT s t s.qw.length),sF false qZ qB qy s.qw,sF false xE qL qI s.qx,sF false xR qV qR t.qA,sF false zy xn xk t.qE,sF false xH qN qM t.qC]) ((zt - (0:Int)).toNat) ⟨_,(aa b97 0),1,1,[(List.replicate s.qx.length (0:Int))],[.slice (aa b95 0) s.qx.length s.qx.length],(G102++[]),0,uE4,(by rfl),qf,(by rw [XH];show 1≤300;omega),rfl,(N.pick [0]),H.pick [0,3,4] [0,3,7,8,9,10,11]⟩ ?_
 clear H N
 rintro m' ρ w105 ⟨xU,a_out_1,yB,Q7,out_1,Xe,Qz,k_1,rfl,rfl,i0,g3,rfl,N,H⟩
 have hn_out:=H.zh (α:=yLI) 0 rfl 0 rfl qj
 refine zcr (sp (.bool (decide ((k_1:Int) < zt))) (zjn (xQ (cD rfl (fun h106=>?_) (fun h106=>?_)))))
 ·skip
  obtain ⟨gb,gc⟩:=cell_few (s:=s) (t:=t) (n:=s.qw.length) (i:=k_1) p0 qf
  refine qU (t_n (xQ (qX (zcr ?_))))
  have hl109:=H.isLen 1 rfl
  obtain ⟨b107,o108,rfl⟩:=H.addr 1 rfl qf
  obtain ⟨ae110rules,ce110rules,Fe110rules,ae110packings,ce110packings,Fe110packings,H⟩:=H.elem_inCellD 1 rfl k_1 k_1 qf qf qf
  refine oI rfl rfl (sw (zn [.slice ae110rules ((((QT s t s.qw.length)[k_1]!).frules).length) ce110rules,.slice ae110packings ((((QT s t s.qw.length)[k_1]!).fpackings).length) ce110packings] isAgg129 sizeOf129 rfl (qF (H.get 2 rfl) 0 2) (sw (zf H ti129 [yN,yN] fun b111 w112 H=>sw (zB H 0 [.slice ae110rules ((((QT s t s.qw.length)[k_1]!).frules).length) ce110rules,.slice ae110packings ((((QT s t s.qw.length)[k_1]!).fpackings).length) ce110packings] sizeOf129 fun w113 H=>zjc (sw (vG H underlying27 ti22 fun b114 w115 H=>?_)))))))
  refine sp (.slice (aa b114 0) 0 0) (zjcc (sp (.slice a_out_1 yB Q7) (oN rfl (sp (yI 0) (zjn (qX ?_))))))
  obtain ⟨ce1,ce2⟩:=cells_at (s:=s) (t:=t) (k:=s.qw.length) (i:=k_1) qf
  rw [ce1,ce2] at H
  replace H:=H.boxRow 0 rfl 1 0 rfl qj
  replace H:=H.vI (α:=yLI)
  refine zu (fun m' ρ w116=>∃ (xU:Env) (a_next:yOA) (n_next:Nat) (c_next:Nat) (next:yLL) (x_next:List Value) (F_next:yLN) (k_51:Nat),ρ=upd (upd (upd (upd (upd (upd (upd (upd xU 10 (pp b111 0)) 11 (.slice a_next n_next c_next)) 33 (.slice (aa b107 o108) zt zL)) 34 (yI zt)) 35 (yI k_1)) 40 (.slice a_out_1 yB Q7)) 41 (yI yB)) 42 (yI k_51)∧next=(nextK (jf s.qx.length (xg s t s.qw.length) (xG s t s.qw.length) k_1) ((xg s t s.qw.length)[k_1]!) ((xG s t s.qw.length)[k_1]!) k_51)∧((k_51:Int)≤yB)∧((nextK (jf s.qx.length (xg s t s.qw.length) (xG s t s.qw.length) k_1) ((xg s t s.qw.length)[k_1]!) ((xG s t s.qw.length)[k_1]!) k_51).length≤300)∧m' =(yB - (k_51:Int)).toNat∧Fresh w.heap.size [Qz,F_next]∧St w w116 [rr a_next n_next c_next 22 1 x_next,.box b111 [.slice ae110rules (((xg s t s.qw.length)[k_1]!).length) ce110rules,.slice ae110packings (((xG s t s.qw.length)[k_1]!).length) ce110packings] 129,rr a_out_1 yB Q7 22 1 Xe,.box b3 (yT t qV qR xn xk qN qM) 38,.box b1 (yS s qB qy qL qI) 36] [zi true F_next x_next next,sF true Fe110rules ae110rules ce110rules ((xg s t s.qw.length)[k_1]!),sF true Fe110packings ae110packings ce110packings ((xG s t s.qw.length)[k_1]!),atF b107 (o108+(k_1:Int).toNat * 2) [.slice ae110rules (((xg s t s.qw.length)[k_1]!).length) ce110rules,.slice ae110packings (((xG s t s.qw.length)[k_1]!).length) ce110packings],zi true Qz Xe (jf s.qx.length (xg s t s.qw.length) (xG s t s.qw.length) k_1),isF true G99 (.slice (aa b107 o108) zt zL) (QT s t s.qw.length),sF false qZ qB qy s.qw,sF false xE qL qI s.qx,sF false xR qV qR t.qA,sF false zy xn xk t.qE,sF false xH qN qM t.qC]) ((yB - (0:Int)).toNat) ⟨_,(aa b114 0),0,0,([]:yLL),[],[],0,uE8,(by rfl),qf,(by show 0≤300;omega),rfl,(N.emp.pick [1,0]),H⟩ ?_
  clear H N
  rintro m' ρ w117 ⟨xU,a_next,n_next,c_next,next,x_next,F_next,k_51,rfl,rfl,i0,n3,rfl,N,H⟩
  have hn_next:=H.zh (α:=yLI) 0 rfl 0 rfl qj
  refine zcr (sp (.bool (decide ((k_51:Int) < yB))) (zjn (xQ (cD rfl (fun h118=>?_) (fun h118=>?_)))))
  ·skip
   refine qU (t_n (xQ (qX (zcr ?_))))
   obtain ⟨b119,rfl⟩:=H.Qh 2 rfl qf
   refine oI rfl rfl ?_
   obtain ⟨a120,c121,G122,s123,h124,H⟩:=H.jV 2 rfl 4 rfl (iv:=k_51) k_51 qf qf
   refine oL rfl (h124) (sp (.slice a120 (((jf s.qx.length (xg s t s.qw.length) (xG s t s.qw.length) k_1)[k_51]!).length) c121) (zjcc (oF rfl (oL rfl (H.cell 1 rfl rfl) (oN rfl (sp (yI 0) (zjn (qX ?_))))))))
   refine zu (fun m' ρ w125=>∃ (xU:Env) (XD:yOA) (QB:Nat) (XA:Nat) (next_1:yLL) (XP:List Value) (QV:yLN) (k_52:Nat),ρ=upd (upd (upd (upd (upd (upd (upd (upd (upd (upd (upd (upd xU 10 (pp b111 0)) 11 (.slice XD QB XA)) 13 (.slice a120 (((jf s.qx.length (xg s t s.qw.length) (xG s t s.qw.length) k_1)[k_51]!).length) c121)) 33 (.slice (aa b107 o108) zt zL)) 34 (yI zt)) 35 (yI k_1)) 40 (.slice (aa b119 0) yB Q7)) 41 (yI yB)) 42 (yI k_51)) 47 (.slice ae110packings (((xG s t s.qw.length)[k_1]!).length) ce110packings)) 48 (yI (((xG s t s.qw.length)[k_1]!).length))) 49 (yI k_52)∧next_1=(nextX (jf s.qx.length (xg s t s.qw.length) (xG s t s.qw.length) k_1) ((xg s t s.qw.length)[k_1]!) ((xG s t s.qw.length)[k_1]!) k_51 k_52)∧((k_52:Int)≤(((xG s t s.qw.length)[k_1]!).length))∧m' =((((xG s t s.qw.length)[k_1]!).length) - (k_52:Int)).toNat∧Fresh w.heap.size [Qz,QV]∧St w w125 [rr XD QB XA 22 1 XP,.box b111 [.slice ae110rules (((xg s t s.qw.length)[k_1]!).length) ce110rules,.slice ae110packings (((xG s t s.qw.length)[k_1]!).length) ce110packings] 129,rr (aa b119 0) yB Q7 22 1 Xe,.box b3 (yT t qV qR xn xk qN qM) 38,.box b1 (yS s qB qy qL qI) 36] [sF true G122 a120 c121 ((jf s.qx.length (xg s t s.qw.length) (xG s t s.qw.length) k_1)[k_51]!),zi true QV XP next_1,sF true Fe110rules ae110rules ce110rules ((xg s t s.qw.length)[k_1]!),sF true Fe110packings ae110packings ce110packings ((xG s t s.qw.length)[k_1]!),atF b107 (o108+(k_1:Int).toNat * 2) [.slice ae110rules (((xg s t s.qw.length)[k_1]!).length) ce110rules,.slice ae110packings (((xG s t s.qw.length)[k_1]!).length) ce110packings],zi true Qz Xe (jf s.qx.length (xg s t s.qw.length) (xG s t s.qw.length) k_1),isF true G99 (.slice (aa b107 o108) zt zL) (QT s t s.qw.length),sF false qZ qB qy s.qw,sF false xE qL qI s.qx,sF false xR qV qR t.qA,sF false zy xn xk t.qE,sF false xH qN qM t.qC]) (((((xG s t s.qw.length)[k_1]!).length) - (0:Int)).toNat) ⟨_,a_next,n_next,c_next,(nextK (jf s.qx.length (xg s t s.qw.length) (xG s t s.qw.length) k_1) ((xg s t s.qw.length)[k_1]!) ((xG s t s.qw.length)[k_1]!) k_51),x_next,F_next,0,uE12,(by exact nextX_zero _ _ _ _),qf,rfl,N,H⟩ ?_
   clear H N
   rintro m' ρ w126 ⟨xU,XD,QB,XA,next_1,XP,QV,k_52,rfl,rfl,i0,rfl,N,H⟩
   have hn_next:=H.zh (α:=yLI) 0 rfl 1 rfl qj
   refine zcr (sp (.bool (decide ((k_52:Int) < (((xG s t s.qw.length)[k_1]!).length)))) (zjn (xQ (cD rfl (fun h127=>?_) (fun h127=>?_)))))
   ·skip
    have nx:=nextX_len (r:=((xg s t s.qw.length)[k_1]!)) (show k_51 < (jf s.qx.length (xg s t s.qw.length) (xG s t s.qw.length) k_1).length by omega) (show k_52≤((xG s t s.qw.length)[k_1]!).length by omega)
    have nk:=nextK_len (r:=((xg s t s.qw.length)[k_1]!)) (P:=((xG s t s.qw.length)[k_1]!)) (show k_51≤(jf s.qx.length (xg s t s.qw.length) (xG s t s.qw.length) k_1).length by omega)
    have g1:=prodG_at (n:=s.qx.length) (rs:=(xg s t s.qw.length)) (all:=(xG s t s.qw.length)) (i:=k_1) (k:=k_51) qf
    have g2:=pack_at (s:=s) (t:=t) (n:=s.qw.length) (i:=k_1) (x:=k_52) qf qf
    refine qU (t_n (xQ (qX (zcr ?_))))
    obtain ⟨b128,o129,rfl⟩:=H.addr 3 rfl qf
    obtain ⟨ae131,ce131,Fe131,H⟩:=H.vM 3 rfl k_52 k_52 qf qf qf
    refine oI rfl rfl (oL rfl (H.xW 1 rfl 0 rfl) (sp (.slice ae131 ((((xG s t s.qw.length)[k_1]!)[k_52]!).length) ce131) (zjc (sp (.slice a120 (((jf s.qx.length (xg s t s.qw.length) (xG s t s.qw.length) k_1)[k_51]!).length) c121) ?_))))
    have sz132:=H.base.size
    have lt133:=H.ltN (L:=[Qz,QV]) [7,3]
    refine sw (oc (cloneI_ok _ ((jf s.qx.length (xg s t s.qw.length) (xG s t s.qw.length) k_1)[k_51]!) (H.get 2 rfl).1 qg) ?_)
    rintro v137 w135 r137 x136
    replace H:=H.zD x136 r137
    obtain ⟨a138,c139,rfl,hc140,hm141⟩:=H.jo 0 rfl
    refine sp (.slice a138 (((jf s.qx.length (xg s t s.qw.length) (xG s t s.qw.length) k_1)[k_51]!).length) c139) (zjcc (oF rfl (oL rfl (H.cell 2 rfl rfl) (oN rfl (sp (yI 0) (zjn (qX ?_)))))))
    refine zu (fun m' ρ w142=>∃ (xU:Env) (k_53:Nat) (own_1:yLI),ρ=upd (upd (upd (upd (upd (upd (upd (upd (upd (upd (upd (upd (upd (upd (upd (upd (upd xU 10 (pp b111 0)) 11 (.slice XD QB XA)) 13 (.slice a120 (((jf s.qx.length (xg s t s.qw.length) (xG s t s.qw.length) k_1)[k_51]!).length) c121)) 15 (.slice ae131 ((((xG s t s.qw.length)[k_1]!)[k_52]!).length) ce131)) 16 (.slice a138 (((jf s.qx.length (xg s t s.qw.length) (xG s t s.qw.length) k_1)[k_51]!).length) c139)) 33 (.slice (aa b107 o108) zt zL)) 34 (yI zt)) 35 (yI k_1)) 40 (.slice (aa b119 0) yB Q7)) 41 (yI yB)) 42 (yI k_51)) 47 (.slice (aa b128 o129) (((xG s t s.qw.length)[k_1]!).length) ce110packings)) 48 (yI (((xG s t s.qw.length)[k_1]!).length))) 49 (yI k_52)) 56 (.slice ae110rules (((xg s t s.qw.length)[k_1]!).length) ce110rules)) 57 (yI (((xg s t s.qw.length)[k_1]!).length))) 58 (yI k_53)∧own_1=(setTo ((jf s.qx.length (xg s t s.qw.length) (xG s t s.qw.length) k_1)[k_51]!) ((xg s t s.qw.length)[k_1]!) (((xG s t s.qw.length)[k_1]!)[k_52]!) k_53)∧((k_53:Int)≤(((xg s t s.qw.length)[k_1]!).length))∧m' =((((xg s t s.qw.length)[k_1]!).length) - (k_53:Int)).toNat∧Fresh w.heap.size [Qz,QV]∧St w w142 [rr a138 (((jf s.qx.length (xg s t s.qw.length) (xG s t s.qw.length) k_1)[k_51]!).length) c139 2 1 (own_1.map (Value.int .i64)),rr XD QB XA 22 1 XP,.box b111 [.slice ae110rules (((xg s t s.qw.length)[k_1]!).length) ce110rules,.slice (aa b128 o129) (((xG s t s.qw.length)[k_1]!).length) ce110packings] 129,rr (aa b119 0) yB Q7 22 1 Xe,.box b3 (yT t qV qR xn xk qN qM) 38,.box b1 (yS s qB qy qL qI) 36] [sF true Fe131 ae131 ce131 (((xG s t s.qw.length)[k_1]!)[k_52]!),atF b128 (o129+(k_52:Int).toNat * 1) [.slice ae131 ((((xG s t s.qw.length)[k_1]!)[k_52]!).length) ce131],sF true G122 a120 c121 ((jf s.qx.length (xg s t s.qw.length) (xG s t s.qw.length) k_1)[k_51]!),zi true QV XP (nextX (jf s.qx.length (xg s t s.qw.length) (xG s t s.qw.length) k_1) ((xg s t s.qw.length)[k_1]!) ((xG s t s.qw.length)[k_1]!) k_51 k_52),sF true Fe110rules ae110rules ce110rules ((xg s t s.qw.length)[k_1]!),sF true Fe110packings (aa b128 o129) ce110packings ((xG s t s.qw.length)[k_1]!),atF b107 (o108+(k_1:Int).toNat * 2) [.slice ae110rules (((xg s t s.qw.length)[k_1]!).length) ce110rules,.slice (aa b128 o129) (((xG s t s.qw.length)[k_1]!).length) ce110packings],zi true Qz Xe (jf s.qx.length (xg s t s.qw.length) (xG s t s.qw.length) k_1),isF true G99 (.slice (aa b107 o108) zt zL) (QT s t s.qw.length),sF false qZ qB qy s.qw,sF false xE qL qI s.qx,sF false xR qV qR t.qA,sF false zy xn xk t.qE,sF false xH qN qM t.qC]) (((((xg s t s.qw.length)[k_1]!).length) - (0:Int)).toNat) ⟨_,0,((jf s.qx.length (xg s t s.qw.length) (xG s t s.qw.length) k_1)[k_51]!),uE17,(by rfl),qf,rfl,N,H⟩ ?_
    clear H N
    rintro m' ρ w143 ⟨xU,k_53,own_1,rfl,rfl,i0,rfl,N,H⟩
    have hn_own:=H.Vq 0 rfl
    have sl:=setTo_len ((jf s.qx.length (xg s t s.qw.length) (xG s t s.qw.length) k_1)[k_51]!) ((xg s t s.qw.length)[k_1]!) (((xG s t s.qw.length)[k_1]!)[k_52]!) k_53
    refine zcr (sp (.bool (decide ((k_53:Int) < (((xg s t s.qw.length)[k_1]!).length)))) (zjn (xQ (cD rfl (fun h144=>?_) (fun h144=>?_)))))
    ·skip
     obtain ⟨g3',g4⟩:=choice_at (s:=s) (t:=t) (n:=s.qw.length) (i:=k_1) (r:=k_53) qf qf
     refine qU (t_n (xQ (qX (zcr (sp (yI k_53) ?_)))))
     obtain ⟨b145,o146,rfl⟩:=H.addr 4 rfl qf
     refine oI rfl rfl (oL rfl (H.jC 4 rfl k_53 qf qf) (sps [yI k_53,yI (((xg s t s.qw.length)[k_1]!)[k_53]!)] (zjn (xY (sps [.slice a138 (((jf s.qx.length (xg s t s.qw.length) (xG s t s.qw.length) k_1)[k_51]!).length) c139,yI (((xg s t s.qw.length)[k_1]!)[k_53]!),.slice ae131 ((((xG s t s.qw.length)[k_1]!)[k_52]!).length) ce131,yI k_53] ?_)))))
     obtain ⟨b148,o149,rfl⟩:=H.addr 0 rfl qf
     refine oI rfl rfl (oL rfl (H.jC 0 rfl k_53 qf qf) ?_)
     obtain ⟨b151,rfl⟩:=H.Qh 0 rfl qf
     refine oI rfl rfl (sw (o_storeInt H 0 rfl ((((xG s t s.qw.length)[k_1]!)[k_52]!)[k_53]!) sizeOf2 rfl rfl (i:=((((xg s t s.qw.length)[k_1]!)[k_53]!).toNat)) qf qf fun w152 H=>xZ (b_n (t_n (xY (sw (zC k_53 1 rfl rfl qf (sp (yI (k_53+1)) (xZ ?_)))))))))
     refine xf (m' :=((((xg s t s.qw.length)[k_1]!).length) - ((k_53+1):Int)).toNat) qf ⟨_,k_53+1,((setTo ((jf s.qx.length (xg s t s.qw.length) (xG s t s.qw.length) k_1)[k_51]!) ((xg s t s.qw.length)[k_1]!) (((xG s t s.qw.length)[k_1]!)[k_52]!) k_53).set ((((xg s t s.qw.length)[k_1]!)[k_53]!).toNat) ((((xG s t s.qw.length)[k_1]!)[k_52]!)[k_53]!)),uE17,?_,?_,rfl,N,H⟩
     · rfl
     · omega
    refine zx4 (xY (sps [.slice XD QB XA,.slice a138 (((jf s.qx.length (xg s t s.qw.length) (xG s t s.qw.length) k_1)[k_51]!).length) c139] (sw (zG H underlying27 ti22 [.slice a138 (((jf s.qx.length (xg s t s.qw.length) (xG s t s.qw.length) k_1)[k_51]!).length) c139] fun b153 w154 H=>?_))))
    obtain ⟨G158,N,hn159,H⟩:=H.vS 1 rfl N (H.jQ [7,3])
    refine sw (zQ H 2 rfl 0 rfl underlying27 ti22 rfl qj rfl rfl rfl (by simp [Value.oneCell',Value.cells]) qp qf fun a155 c156 w157 H=>?_)
    replace H:=H.jW 4 rfl 0 rfl
    replace N:Fresh w.heap.size [(QV++G158),Qz]:=(N.pick [2,0,1]).join
    refine sp (.slice a155 (QB+1) c156) (xZ (b_n (t_n (xY (sw (zC k_52 1 rfl rfl qf (sp (yI (k_52+1)) (xZ ?_))))))))
    refine xf (m' :=((((xG s t s.qw.length)[k_1]!).length) - ((k_52+1):Int)).toNat) qf ⟨_,a155,QB+1,c156,((nextX (jf s.qx.length (xg s t s.qw.length) (xG s t s.qw.length) k_1) ((xg s t s.qw.length)[k_1]!) ((xG s t s.qw.length)[k_1]!) k_51 k_52)++[(setTo ((jf s.qx.length (xg s t s.qw.length) (xG s t s.qw.length) k_1)[k_51]!) ((xg s t s.qw.length)[k_1]!) (((xG s t s.qw.length)[k_1]!)[k_52]!) k_53)]),XP++[.slice a138 (((jf s.qx.length (xg s t s.qw.length) (xG s t s.qw.length) k_1)[k_51]!).length) c139],(QV++G158),k_52+1,uE12,?_,?_,rfl,(N.pick [1,0]),H.pick [2,3,4,5,6] [4,0,6,7,8,9,10,11,12,13,14,15]⟩
    · exact nextX_succ qf (by rw [show k_53=((xg s t s.qw.length)[k_1]!).length by omega];rfl)
    · omega
   refine zx4 (zcr (sp (.slice XD QB XA) (oN rfl (sp (.bool (decide ((QB:Int) > 300))) (zjn (cD rfl (fun h160=>?_) (fun h160=>?_)))))))
   ·skip
    refine zcr (sps [yN,yI 3] (zjr (zr5 (zr5 ?_))))
    replace H:=H.nilRow 22 1
    replace H:=H.vI (α:=yLI)
    refine ret2 yN (yI 3) rfl rfl rfl ⟨_,rfl,?_,H.base⟩
    first | rw [cho_3 (.inl (own_bad p0 (q:=k) qf qf))] | rw [cho_3 (.inr (prod_stop (G:=(jf s.qx.length (xg s t s.qw.length) (xG s t s.qw.length) k_1)) (r:=((xg s t s.qw.length)[k_1]!)) (k:=k_51+1) (i:=k_1) kn qf (XH _) qf (by rw [← nextX_end (x:=k_52) qf qf];omega)))]
    exact ⟨none,0,0,[],[],rfl,(N.emp.pick [0]),H.pick [0] [0]⟩
   refine qU (b_n (t_n (xY (sw (zC k_51 1 rfl rfl qf (sp (yI (k_51+1)) (xZ (xf (m' :=(yB - ((k_51+1):Int)).toNat) qf ⟨_,XD,QB,XA,(nextX (jf s.qx.length (xg s t s.qw.length) (xG s t s.qw.length) k_1) ((xg s t s.qw.length)[k_1]!) ((xG s t s.qw.length)[k_1]!) k_51 k_52),XP,QV,k_51+1,uE8,?_,?_,?_,rfl,N,H.pick [0,1,2,3,4] [1,2,3,4,5,6,7,8,9,10,11]⟩))))))))
   · exact nextX_end qf qf
   · omega
   · rw [← nextX_end (x:=k_52) qf qf];omega
  refine zx4 (xY (sps [.slice a_next n_next c_next,.slice a_next n_next c_next] (xZ (b_n (t_n (xY (sw (zC k_1 1 rfl rfl qf (sp (yI (k_1+1)) (xZ (xf (m' :=(zt - ((k_1+1):Int)).toNat) qf ⟨_,a_next,n_next,c_next,(nextK (jf s.qx.length (xg s t s.qw.length) (xG s t s.qw.length) k_1) ((xg s t s.qw.length)[k_1]!) ((xG s t s.qw.length)[k_1]!) k_51),x_next,F_next,k_1+1,uE4,?_,?_,?_,rfl,(N.pick [1]),H.pick [0,3,4] [0,5,6,7,8,9,10]⟩)))))))))))
  · rw [show k_51=(jf s.qx.length (xg s t s.qw.length) (xG s t s.qw.length) k_1).length by omega];rfl
  · omega
  · show (nextK (jf s.qx.length (xg s t s.qw.length) (xG s t s.qw.length) k_1) ((xg s t s.qw.length)[k_1]!) ((xG s t s.qw.length)[k_1]!) (jf s.qx.length (xg s t s.qw.length) (xG s t s.qw.length) k_1).length).length≤300;rw [← show k_51=(jf s.qx.length (xg s t s.qw.length) (xG s t s.qw.length) k_1).length by omega];exact n3
 obtain rfl:k_1=(xG s t s.qw.length).length:=by omega
 have on:0 < (jf s.qx.length (xg s t s.qw.length) (xG s t s.qw.length) (xG s t s.qw.length).length).length:=by rw [XH];exact prod_mono kn (Nat.zero_le _) (Nat.le_refl _)
 have kc:¬ Xf (xG s t s.qw.length) (xG s t s.qw.length).length > 300:=by rw [XH] at g3;omega
 refine zx4 (zcr (sp (.slice a_out_1 yB Q7) ?_))
 obtain ⟨b161,rfl⟩:=H.Qh 0 rfl qf
 refine sw (o_callF #[.slice (aa b161 0) yB Q7,.func (.func 94) #[] #[]] rfl rfl call93 (sortRow sortL call94 cmpSort H 0 rfl 0 rfl qf qf) ?_)
 rintro _ w162 ⟨xs163,F164,l165,rfl,hF166,hp167,hs168,H⟩
 replace N:Fresh w.heap.size [F164]:=Fresh.perm N hF166
 refine zjc (sps [.slice (aa b161 0) yB Q7,.slice (aa b161 0) yB Q7,yI 0] (zjr (ret2 (.slice (aa b161 0) yB Q7) (yI 0) rfl rfl rfl ⟨_,rfl,?_,H.base⟩)))
 rw [cho_0 gp kc hp167 (in_order (Nat.le_refl _) fun a b h1 h2 h3=>hs168 a b h1 h2 ((cmpL_ahead ((perm_rows hp167 b qf).trans (perm_rows hp167 a qf).symm)).2 h3))]
 exact ⟨(aa b161 0),yB,Q7,xs163,F164,rfl,N,H.pick [0] [0]⟩
theorem l03Succ_ok (w:World) (s:qG) (t:qJ) {qB:yOA} {qZ:yLN} {qL:yOA} {xE:yLN} {qV:yOA} {xR:yLN} {xn:yOA} {zy:yLN} {qN:yOA} {xH:yLN} (hs:ve w bs os (yS s qB qy qL qI)) (xe:qO.rep w qZ [.slice qB s.qw.length qy] s.qw) (xJ:qO.rep w xE [.slice qL s.qx.length qI] s.qx) (ht:ve w bt ot (yT t qV qR xn xk qN qM)) (zl:qO.rep w xR [.slice qV t.qA.length qR] t.qA) (zK:qO.rep w zy [.slice xn t.qE.length xk] t.qE) (xP:qO.rep w xH [.slice qN t.qC.length qM] t.qC) (p0:jO s) (p1:zF s t):Calls Tryz.prog 72 #[pp bs os,pp bt ot] w (Ret (fun v w' =>∃ (ra0:yOA) (rn0:Nat) (rc0:Nat) (rx0:List Value) (rF0:yLN),v=.tuple #[.slice ra0 rn0 rc0,yI ((qW s t).2)]∧Fresh w.heap.size [rF0]∧St w w' [rr ra0 rn0 rc0 38 3 rx0] [zi true rF0 rx0 ((qW s t).1)]) w):=by
 refine en func72 ntmps72 ?_
 have H:=(((((((St.start w).arg xP).arg zK).arg zl).XW ht).arg xJ).arg xe).XW hs
 have zY:=qK xe
 have jb:=qK xJ
 have Qd:=qK zl
 have QQ:=qK zK
 have jP:=qK xP
 clear hs xe xJ ht zl zK xP
 have N:=Fresh.nil w.heap.size
 refine zcr (sps [yN,yI 0] (zjcc (sps [pp bs os,pp bt ot] (sw (oq (l03Halted_ok _ s t (qF (H.get 0 rfl) 0 3) (H.get 1 rfl).1 (H.get 2 rfl).1 (qF (H.get 3 rfl) 0 3) (H.get 4 rfl).1 (H.get 5 rfl).1 (H.get 6 rfl).1 qg qg) H fun w2 H=>zjn (cP rfl (fun h4=>?_) (fun h4=>?_)))))))
 ·skip
  refine zcr (sw (vG H underlying47 ti38 fun b5 w6 H=>sps [.slice (aa b5 0) 0 0,yI 0] (zjr (t_r ?_))))
  replace H:=H.boxRow 0 rfl 3 0 rfl qj
  replace H:=H.vI (α:=qJ)
  replace H:St _ _ [rr (aa b5 0) 0 0 38 3 []] [zi true [] [] ([]:List qJ),atF bs os (yS s qB qy qL qI),sF false qZ qB qy s.qw,sF false xE qL qI s.qx,atF bt ot (yT t qV qR xn xk qN qM),sF false xR qV qR t.qA,sF false zy xn xk t.qE,sF false xH qN qM t.qC]:=H
  refine ret2 (.slice (aa b5 0) 0 0) (yI 0) rfl rfl rfl ⟨_,rfl,?_,H.base⟩
  rw [succ_h (by first | assumption | exact appls_halt.1 qf)]
  exact ⟨(aa b5 0),0,0,[],[],rfl,N.emp,H.pick [0] [0]⟩
 refine qU (t_n (zcr (sps [pp bs os,pp bt ot] ?_)))
 have sz10:=H.base.size
 refine sw (oc (l03Choices_ok _ s t (qF (H.get 0 rfl) 0 3) (H.get 1 rfl).1 (H.get 2 rfl).1 (qF (H.get 3 rfl) 0 3) (H.get 4 rfl).1 (H.get 5 rfl).1 (H.get 6 rfl).1 qg qg) ?_)
 rintro _ w8 ⟨ra7a,rn7a,rc7a,rx7a,rF7a,rfl,M,K⟩ _
 replace N:=N.merge sz10 qm M
 replace H:=H.merge K M
 obtain rfl:=H.zh (α:=yLI) 0 rfl 0 rfl qj
 refine sps [.tuple #[.slice ra7a (((xB s t).1).length) rc7a,yI ((xB s t).2)],.slice ra7a (((xB s t).1).length) rc7a,yI ((xB s t).2),.slice ra7a (((xB s t).1).length) rc7a,yI ((xB s t).2)] (zjcc (sps [yI ((xB s t).2),.bool (((xB s t).2:Int) != 0)] (zjn (xK (((xB s t).2:Int) != 0) rfl (fun h13=>?_) (fun h13=>?_)))))
 ·skip
  replace h13:=bne_iff_ne.1 h13
  refine zcr (sw (vG H underlying47 ti38 fun b14 w15 H=>sps [yI ((xB s t).2),.slice (aa b14 0) 0 0,yI ((xB s t).2)] (zjr (t_r ?_))))
  replace H:=H.boxRow 0 rfl 3 0 rfl qj
  replace H:=H.vI (α:=qJ)
  replace H:St _ _ [rr (aa b14 0) 0 0 38 3 [],rr ra7a (((xB s t).1).length) rc7a 22 1 rx7a] [zi true [] [] ([]:List qJ),zi true rF7a rx7a ((xB s t).1),atF bs os (yS s qB qy qL qI),sF false qZ qB qy s.qw,sF false xE qL qI s.qx,atF bt ot (yT t qV qR xn xk qN qM),sF false xR qV qR t.qA,sF false zy xn xk t.qE,sF false xH qN qM t.qC]:=H
  refine ret2 (.slice (aa b14 0) 0 0) (yI ((xB s t).2)) rfl rfl rfl ⟨_,rfl,?_,H.base⟩
  rw [succ_c ‹_›]
  exact ⟨(aa b14 0),0,0,[],[],rfl,(N.emp.pick [0]),H.pick [0] [0]⟩
 replace h13:=xq h13
 refine qU (t_n (zcr (sps [pp bs os,pp bt ot,.slice ra7a (((xB s t).1).length) rc7a] ?_)))
 obtain ⟨G16,hn17,h18⟩:=H.rowIsR (α:=yLI) 0 rfl 0 rfl qj
 have ln:=cho_len s t
 have cc:=fun q (hq:q < (xB s t).1.length)=>(cho_ok p0 p1 hq).1
 have ci:=fun q (hq:q < (xB s t).1.length)=>(cho_ok p0 p1 hq).2
 have sz22:=H.base.size
 have lt23:=H.ltN (L:=[rF7a]) [0]
 refine sw (oc (l03Next_ok _ s t ((xB s t).1) (qF (H.get 1 rfl) 0 3) (H.get 2 rfl).1 (H.get 3 rfl).1 (qF (H.get 4 rfl) 0 3) (H.get 5 rfl).1 (H.get 6 rfl).1 (H.get 7 rfl).1 h18 qg qg qg qg) ?_)
 rintro _ w20 ⟨ra19a,rn19a,rc19a,rx19a,rF19a,rfl,M,K⟩ _
 replace N:=N.merge sz22 lt23 M
 replace H:=H.merge K M
 obtain rfl:=H.zh (α:=qJ) 0 rfl 0 rfl qj
 refine sps [.slice ra19a (((Qk s t ((xB s t).1)).1).length) rc19a,yI ((Qk s t ((xB s t).1)).2),.slice ra19a (((Qk s t ((xB s t).1)).1).length) rc19a,yI ((Qk s t ((xB s t).1)).2)] (zjr (ret2 (.slice ra19a (((Qk s t ((xB s t).1)).1).length) rc19a) (yI ((Qk s t ((xB s t).1)).2)) rfl rfl rfl ⟨_,rfl,?_,H.base⟩))
 rw [succ_0 (by first | assumption | exact fun h=>by have:=appls_halt.2 h;omega) ql]
 exact ⟨ra19a,((Qk s t ((xB s t).1)).1).length,rc19a,rx19a,rF19a,rfl,(N.pick [0]),H.pick [0] [0]⟩

theorem nextStates_ok (w:World) (s:qG) (t:qJ) {qB:yOA} {qZ:yLN} {qL:yOA} {xE:yLN} {qV:yOA} {xR:yLN} {xn:yOA} {zy:yLN} {qN:yOA} {xH:yLN} (xe:qO.rep w qZ [.slice qB s.qw.length qy] s.qw) (xJ:qO.rep w xE [.slice qL s.qx.length qI] s.qx) (zl:qO.rep w xR [.slice qV t.qA.length qR] t.qA) (zK:qO.rep w zy [.slice xn t.qE.length xk] t.qE) (xP:qO.rep w xH [.slice qN t.qC.length qM] t.qC) (p0:jO s) (p1:zF s t):Calls Tryz.prog 73 #[.agg #[yI s.xC,.slice qB s.qw.length qy,.slice qL s.qx.length qI],.agg #[.slice qV t.qA.length qR,.slice xn t.qE.length xk,.slice qN t.qC.length qM]] w (Ret (fun v w' =>∃ (ra0:yOA) (rn0:Nat) (rc0:Nat) (rx0:List Value) (rF0:yLN),v=.tuple #[.slice ra0 rn0 rc0,yI ((qW s t).2)]∧Fresh w.heap.size [rF0]∧St w w' [rr ra0 rn0 rc0 38 3 rx0] [zi true rF0 rx0 ((qW s t).1)]) w):=by
 refine en func73 ntmps73 ?_
 have H:=(((((St.start w).arg xP).arg zK).arg zl).arg xJ).arg xe
 have zY:=qK xe
 have jb:=qK xJ
 have Qd:=qK zl
 have QQ:=qK zK
 have jP:=qK xP
 clear xe xJ zl zK xP
 have N:=Fresh.nil w.heap.size
 refine zcr (sw (vH H (yS s qB qy qL qI) fun b1 w2 H=>sw (vH H (yT t qV qR xn xk qN qM) fun b3 w4 H=>sps [yN,yI 0] (zjc (sw (zn (yS s qB qy qL qI) isAgg36 sizeOf36 rfl (qF (H.cells 1 rfl) 0 3) ?_))))))
 refine sw (zn (yT t qV qR xn xk qN qM) isAgg38 sizeOf38 rfl (qF (H.cells 0 rfl) 0 3) ?_)
 have sz8:=H.base.size
 refine sw (oc (choices_ok _ s t (H.get 0 rfl).1 (H.get 1 rfl).1 (H.get 2 rfl).1 (H.get 3 rfl).1 (H.get 4 rfl).1 qg qg) ?_)
 rintro _ w6 ⟨ra5a,rn5a,rc5a,rx5a,rF5a,rfl,M,K⟩ _
 replace N:=N.merge sz8 qm M
 replace H:=H.merge K M
 obtain rfl:=H.zh (α:=yLI) 0 rfl 0 rfl qj
 refine sps [.tuple #[.slice ra5a (((xB s t).1).length) rc5a,yI ((xB s t).2)],.slice ra5a (((xB s t).1).length) rc5a,yI ((xB s t).2),.slice ra5a (((xB s t).1).length) rc5a,yI ((xB s t).2)] (zjcc (sps [yI ((xB s t).2),.bool (((xB s t).2:Int) != 0)] (zjn (xK (((xB s t).2:Int) != 0) rfl (fun h11=>?_) (fun h11=>?_)))))
 ·skip
  replace h11:=bne_iff_ne.1 h11
  refine zcr (sps [yI ((xB s t).2),yN,yI ((xB s t).2)] (zjr (t_r ?_)))
  replace H:=H.nilRow 38 3
  replace H:=H.vI (α:=qJ)
  refine ret2 yN (yI ((xB s t).2)) rfl rfl rfl ⟨_,rfl,?_,H.base⟩
  rw [succ_c ‹_›]
  exact ⟨none,0,0,[],[],rfl,(N.emp.pick [0]),H.pick [0] [0]⟩
 replace h11:=xq h11
 refine qU (t_n (zcc (sw (zn (yS s qB qy qL qI) isAgg36 sizeOf36 rfl (qF (H.cells 2 rfl) 0 3) (sw (zn (yT t qV qR xn xk qN qM) isAgg38 sizeOf38 rfl (qF (H.cells 1 rfl) 0 3) ?_))))))
 have sz15:=H.base.size
 refine sw (oc (applicable_ok _ s t (H.get 1 rfl).1 (H.get 2 rfl).1 (H.get 3 rfl).1 (H.get 4 rfl).1 (H.get 5 rfl).1 qg qg) ?_)
 rintro _ w13 ⟨ra12,rn12,rc12,rfl,M,K⟩ _
 replace H:=H.merge K M
 obtain rfl:=H.Vq 0 rfl
 refine oN rfl (sp (.bool (((appls s t).length:Int) == 0)) (zjn (cE rfl (fun h18=>?_) (fun h18=>?_))))
 ·skip
  refine zcr (sps [yN,yI 0] (zjr (t_r ?_)))
  replace H:=H.nilRow 38 3
  replace H:=H.vI (α:=qJ)
  refine ret2 yN (yI 0) rfl rfl rfl ⟨_,rfl,?_,H.base⟩
  rw [succ_h (by first | assumption | exact appls_halt.1 qf)]
  exact ⟨none,0,0,[],[],rfl,(N.emp.pick [0]),H.pick [0] [0]⟩
 refine qU (t_n (zcr (sw (zn (yS s qB qy qL qI) isAgg36 sizeOf36 rfl (qF (H.cells 3 rfl) 0 3) (sw (zn (yT t qV qR xn xk qN qM) isAgg38 sizeOf38 rfl (qF (H.cells 2 rfl) 0 3) (sp (.slice ra5a (((xB s t).1).length) rc5a) ?_)))))))
 obtain ⟨G19,hn20,h21⟩:=H.rowIsR (α:=yLI) 1 rfl 0 rfl qj
 have ln:=cho_len s t
 have cc:=fun q (hq:q < (xB s t).1.length)=>(cho_ok p0 p1 hq).1
 have ci:=fun q (hq:q < (xB s t).1.length)=>(cho_ok p0 p1 hq).2
 have sz25:=H.base.size
 have lt26:=H.ltN (L:=[rF5a]) [0]
 refine sw (oc (behind_ok _ s t ((xB s t).1) (H.get 1 rfl).1 (H.get 2 rfl).1 (H.get 3 rfl).1 (H.get 4 rfl).1 (H.get 5 rfl).1 h21 qg qg qg qg qg) ?_)
 rintro _ w23 ⟨ra22a,rn22a,rc22a,rx22a,rF22a,rfl,M,K⟩ _
 replace N:=N.merge sz25 lt26 M
 replace H:=H.merge K M
 obtain rfl:=H.zh (α:=qJ) 0 rfl 0 rfl qj
 refine sps [.slice ra22a (((Qk s t ((xB s t).1)).1).length) rc22a,yI ((Qk s t ((xB s t).1)).2),.slice ra22a (((Qk s t ((xB s t).1)).1).length) rc22a,yI ((Qk s t ((xB s t).1)).2)] (zjr (ret2 (.slice ra22a (((Qk s t ((xB s t).1)).1).length) rc22a) (yI ((Qk s t ((xB s t).1)).2)) rfl rfl rfl ⟨_,rfl,?_,H.base⟩))
 rw [succ_0 (by first | assumption | exact fun h=>by have:=appls_halt.2 h;omega) ql]
 exact ⟨ra22a,((Qk s t ((xB s t).1)).1).length,rc22a,rx22a,rF22a,rfl,(N.pick [0]),H.pick [0] [0]⟩
theorem find_ok (w:World) (l:List qJ) (u:qJ) {al:yOA} {Fl:yLN} {VV:yOA} {FuAlive:yLN} {auBags:yOA} {FuBags:yLN} {XB:yOA} {FuAround:yLN} (hl:qO.rep w Fl [.slice al l.length cl] l) (huAlive:qO.rep w FuAlive [.slice VV u.qA.length VU] u.qA) (huBags:qO.rep w FuBags [.slice auBags u.qE.length cuBags] u.qE) (huAround:qO.rep w FuAround [.slice XB u.qC.length Xz] u.qC):Calls Tryz.prog 80 #[.slice al l.length cl,.agg #[.slice VV u.qA.length VU,.slice auBags u.qE.length cuBags,.slice XB u.qC.length Xz]] w (Ret (fun v w' =>v=yI (firstIdx (fun zz=>decide (l[zz]! =u)) l.length)) w):=by
 refine en func80 ntmps80 ?_
 have H:=((((St.start w).arg huAround).arg huBags).arg huAlive).arg hl
 have nhl:=qK hl
 have nhuAlive:=qK huAlive
 have nhuBags:=qK huBags
 have nhuAround:=qK huAround
 clear hl huAlive huBags huAround
 have N:=Fresh.nil w.heap.size
 refine zcr (sw (vH H (yT u VV VU auBags cuBags XB Xz) fun b1 w2 H=>sp (yI 0) (zjc (sps [.slice al l.length cl,.func (.func 117) #[] #[pp b1 0]] (sw (vF #[.slice al l.length cl,.func (.func 117) #[] #[pp b1 0]] rfl rfl call116 (en func116 ntmps116 ?_)))))))
 refine zcr (sp (yI 0) (zjcc (sp (.slice al l.length cl) (oN rfl (sp (yI 0) (zjn (qX ?_)))))))
 refine zu (fun m' ρ w3=>∃ (xU:Env) (i:Nat),ρ=upd (upd (upd (upd xU 0 (.slice al l.length cl)) 1 (.func (.func 117) #[] #[pp b1 0])) 7 (yI l.length)) 8 (yI i)∧((i:Int)≤l.length)∧(noneTo (fun zz=>decide (l[zz]! =u)) i)∧m' =(l.length - (i:Int)).toNat∧Fresh w.heap.size []∧St w w3 [.box b1 (yT u VV VU auBags cuBags XB Xz) 38] [sF false Fl al cl l,sF false FuAlive VV VU u.qA,sF false FuBags auBags cuBags u.qE,sF false FuAround XB Xz u.qC]) ((l.length - (0:Int)).toNat) ⟨_,0,uE4,qf,(by exact fun j hj=>by omega),rfl,N,H⟩ ?_
 clear H N
 rintro m' ρ w4 ⟨xU,i,rfl,i0,i1,rfl,N,H⟩
 refine zcr (sp (.bool (decide ((i:Int) < l.length))) (zjn (xQ (cD rfl (fun h5=>?_) (fun h5=>?_)))))
 ·skip
  refine qU (t_n (xQ (qX (zcr (sps [yI i,yI i] (zjc (sps [.func (.func 117) #[] #[pp b1 0],.slice al l.length cl,yI i] ?_)))))))
  obtain ⟨b6,o7,rfl⟩:=H.addr 0 rfl qf
  obtain ⟨ae9Alive,ce9Alive,Fe9Alive,ae9Bags,ce9Bags,Fe9Bags,ae9Around,ce9Around,Fe9Around,H⟩:=H.YJ 0 rfl i i qf qf qf
  refine oI rfl rfl (sw (zn [.slice ae9Alive (((l[i]!).qA).length) ce9Alive,.slice ae9Bags (((l[i]!).qE).length) ce9Bags,.slice ae9Around (((l[i]!).qC).length) ce9Around] isAgg38 sizeOf38 rfl (qF (H.get 3 rfl) 0 3) (sw (vF #[.agg #[.slice ae9Alive (((l[i]!).qA).length) ce9Alive,.slice ae9Bags (((l[i]!).qE).length) ce9Bags,.slice ae9Around (((l[i]!).qC).length) ce9Around],pp b1 0] rfl rfl call117 (en func117 ntmps117 ?_)))))
  refine zcr (sw (vH H [.slice ae9Alive (((l[i]!).qA).length) ce9Alive,.slice ae9Bags (((l[i]!).qE).length) ce9Bags,.slice ae9Around (((l[i]!).qC).length) ce9Around] fun b10 w11 H=>sp (.bool false) (zjc (sw (zn [.slice ae9Alive (((l[i]!).qA).length) ce9Alive,.slice ae9Bags (((l[i]!).qE).length) ce9Bags,.slice ae9Around (((l[i]!).qC).length) ce9Around] isAgg38 sizeOf38 rfl (qF (H.cells 0 rfl) 0 3) ?_)))))
  refine sw (zn (yT u VV VU auBags cuBags XB Xz) isAgg38 sizeOf38 rfl (qF (H.cells 1 rfl) 0 3) (sw (oq (sameState_ok _ (l[i]!) u (H.get 0 rfl).1 (H.get 1 rfl).1 (H.get 2 rfl).1 (H.get 5 rfl).1 (H.get 6 rfl).1 (H.get 7 rfl).1) H fun w13 H=>sp (.bool (decide ((l[i]!)=u))) (zjr (ret1 (.bool (decide ((l[i]!)=u))) rfl rfl ⟨_,rfl,?_⟩)))))
  replace H:=H.erases [0]
  dsimp only [vU,List.eraseIdx] at H
  refine zjn (cD rfl (fun h15=>?_) (fun h15=>?_))
  ·skip
   refine zcr (sps [yI i,yI i] (zjr (zr5 (ret1 (yI i) rfl rfl ⟨_,rfl,(sp (yI i) (zjr (ret1 (yI i) rfl rfl ⟨_,rfl,?_,H.base⟩)))⟩))))
   rw [firstIdx_some (k:=i) qf i1 (decide_eq_true ‹_›)]
  refine qU (b_n (t_n (xY (sw (zC i 1 rfl rfl qf (sp (yI (i+1)) (xZ (xf (m' :=(l.length - ((i+1):Int)).toNat) qf ⟨_,i+1,uE4,?_,?_,rfl,N,H.pick [0] [4,5,6,7]⟩))))))))
  · omega
  · exact noneTo_succ i1 (decide_eq_false ‹_›)
 refine zx4 (zcr (sp (yI (-1)) (zjr (ret1 (yI (-1)) rfl rfl ⟨_,rfl,(sp (yI (-1)) (zjr (ret1 (yI (-1)) rfl rfl ⟨_,rfl,?_,H.base⟩)))⟩))))
 rw [firstIdx_none (fun j hj=>i1 j qf)]

theorem sizeS_ok (w:World) (l:List qJ) {al:yOA} {Fl:yLN} (hl:qO.rep w Fl [.slice al l.length cl] l):Calls Tryz.prog 121 #[.slice al l.length cl] w (Ret (fun v w' =>v=yI l.length) w):=by
 refine en func121 ntmps121 ?_
 have H:=(St.start w).arg hl
 have nhl:=qK hl
 clear hl
 have N:=Fresh.nil w.heap.size
 refine zcr (sp (yI 0) (zjc (sp (.slice al l.length cl) (oN rfl (sp (yI l.length) (zjr (ret1 (yI l.length) rfl rfl ⟨_,rfl,?_,H.base⟩)))))))
 rfl
theorem implEx_ok (w:World) (s:qG) (t:qJ) {qB:yOA} {qZ:yLN} {qL:yOA} {xE:yLN} {qV:yOA} {xR:yLN} {xn:yOA} {zy:yLN} {qN:yOA} {xH:yLN} (xe:qO.rep w qZ [.slice qB s.qw.length qy] s.qw) (xJ:qO.rep w xE [.slice qL s.qx.length qI] s.qx) (zl:qO.rep w xR [.slice qV t.qA.length qR] t.qA) (zK:qO.rep w zy [.slice xn t.qE.length xk] t.qE) (xP:qO.rep w xH [.slice qN t.qC.length qM] t.qC):Calls Tryz.prog 41 #[.agg #[yI s.xC,.slice qB s.qw.length qy,.slice qL s.qx.length qI],.agg #[.slice qV t.qA.length qR,.slice xn t.qE.length xk,.slice qN t.qC.length qM]] w (Ret (fun v w' =>∃ (ra0States:yOA) (rc0States:Nat) (rF0States:yLN) (ra0Next:yOA) (rc0Next:Nat) (rF0Next:yLN),v=.tuple #[.agg #[.slice ra0States (((exG s t).qY).length) rc0States,.slice ra0Next (((exG s t).fNext).length) rc0Next],yI ((VT s t).2)]∧Fresh w.heap.size [rF0States,rF0Next]∧St w w' [] [sF true rF0States ra0States rc0States ((exG s t).qY),sF true rF0Next ra0Next rc0Next ((exG s t).fNext)]) w):=by
 refine en func41 ntmps41 ?_
 have H:=(((((St.start w).arg xP).arg zK).arg zl).arg xJ).arg xe
 have zY:=qK xe
 have jb:=qK xJ
 have Qd:=qK zl
 have QQ:=qK zK
 have jP:=qK xP
 clear xe xJ zl zK xP
 have N:=Fresh.nil w.heap.size
 refine zcr (sw (vH H (yS s qB qy qL qI) fun b1 w2 H=>sw (vH H (yT t qV qR xn xk qN qM) fun b3 w4 H=>sw (zf H ti59 [yN,yN] fun b5 w6 H=>sp (yI 0) (zjcc (sw (zn (yS s qB qy qL qI) isAgg36 sizeOf36 rfl (qF (H.cells 2 rfl) 0 3) ?_)))))))
 refine sw (zn (yT t qV qR xn xk qN qM) isAgg38 sizeOf38 rfl (qF (H.cells 1 rfl) 0 3) (sw (oq (validState_ok _ s t (H.get 0 rfl).1 (H.get 1 rfl).1 (H.get 2 rfl).1 (H.get 3 rfl).1 (H.get 4 rfl).1) H fun w8 H=>sp (.bool (!(dec (jO s∧zF s t)))) (zjn (cQ rfl (fun h10=>?_) (fun h10=>?_))))))
 ·skip
  refine zcr (sw (jB [yN,yN] [] (sw (zB H 0 [yN,yN] sizeOf59 fun w11 H=>sp (yI 1) (zjr (t_r ?_))))))
  replace H:=H.addNil (α:=qJ)
  replace H:=H.addNil (α:=yLI)
  refine retC2 H 0 rfl (yI 1) rfl isAgg59 sizeOf59 rfl rfl ⟨_,rfl,?_,H.base⟩
  obtain ⟨z1,z2⟩:=exG_of (ex_1 ‹_›)
  rw [z1,z2]
  exact ⟨none,0,[],none,0,[],rfl,N.emp.emp,H.pick [] [1,0]⟩
 have k0:=(‹jO s∧zF s t›:jO s∧zF s t)
 have k1:=k0.1
 have k2:=k0.2
 obtain ⟨q7,q8,q9,q10⟩:=k2.sizes k1.1
 have q13:=fun k hk=>Nat.le_trans (q10 k hk) (by decide:8≤1000000)
 refine qU (t_n (zcr (sw (zn (yS s qB qy qL qI) isAgg36 sizeOf36 rfl (qF (H.cells 2 rfl) 0 3) (sw (zn (yT t qV qR xn xk qN qM) isAgg38 sizeOf38 rfl (qF (H.cells 1 rfl) 0 3) ?_))))))
 refine sw (vF #[.agg #[yI s.xC,.slice qB s.qw.length qy,.slice qL s.qx.length qI],.agg #[.slice qV t.qA.length qR,.slice xn t.qE.length xk,.slice qN t.qC.length qM]] rfl rfl call86 (en func86 ntmps86 ?_))
 refine zcr (sw (vH H (yS s qB qy qL qI) fun b12 w13 H=>sw (vH H (yT t qV qR xn xk qN qM) fun b14 w15 H=>sw (zf H ti59 [yN,yN] fun b16 w17 H=>sp (yI 0) (zjc (sw (zn (yT t qV qR xn xk qN qM) isAgg38 sizeOf38 rfl (qF (H.cells 1 rfl) 0 3) ?_)))))))
 have sz21:=H.base.size
 refine sw (oc (Yc _ t (H.get 2 rfl).1 (H.get 3 rfl).1 (H.get 4 rfl).1 qg qg qg qg) ?_)
 rintro _ w19 ⟨ra18Alive,rn18Alive,rc18Alive,ra18Bags,rn18Bags,rc18Bags,rx18Bags,rF18Bags,ra18Around,rn18Around,rc18Around,rfl,M,K⟩ _
 replace N:=N.merge sz21 qm M
 replace H:=H.merge K M
 obtain rfl:=H.rowNB 0 rfl
 obtain rfl:=H.zh (α:=yLI) 1 rfl 0 rfl qj
 obtain rfl:=H.Vq 2 rfl
 refine sw (zG H underlying47 ti38 (yT t ra18Alive rc18Alive ra18Bags rc18Bags ra18Around rc18Around) fun b26 w27 H=>sw (jB [.slice (aa b26 0) 1 1,yN] [(0,.slice (aa b26 0) 1 1)] (sw (zf H ti59 [yN,yN] fun b28 w29 H=>sw (zB H 0 [.slice (aa b26 0) 1 1,yN] sizeOf59 fun w30 H=>zjcc (sp (yI 0) (zjn (qX ?_))))))))
 replace H:=H.boxRow 1 rfl 3 1 rfl qj
 replace H:=H.vI (α:=qJ)
 obtain ⟨G31,N,hn32,H⟩:=H.freezeB 2 rfl N (H.jQ [1])
 have H0:=H
 obtain ⟨G33,hg35,hn34,H⟩:=H.Qs (α:=yLI) 3 rfl 2 rfl qj
 replace N:Fresh w.heap.size [G33,G31]:=Fresh.ice (N.pick [1,0]) H0 3 hg35.1 hg35.2 (H0.jQ [0])
 clear H0
 obtain ⟨G36,N,hn37,H⟩:=H.vS 4 rfl N (H.jQ [0,1])
 replace H:=H.YD 3 rfl 2 rfl 1 rfl 0 rfl
 replace N:Fresh w.heap.size [([]++(G31++G33++G36))]:=(N.emp.pick [3,2,1,0]).join.join.swap.join
 replace H:St _ _ [.box b28 [.slice (aa b26 0) 1 1,yN] 59,rr (aa b26 0) 1 1 38 3 (yT t ra18Alive rc18Alive ra18Bags rc18Bags ra18Around rc18Around),rr none 0 0 0 1 [],rr none 0 0 0 1 [],rr none 0 0 0 1 [],.box b16 [yN,yN] 59,.box b14 (yT t qV qR xn xk qN qM) 38,.box b12 (yS s qB qy qL qI) 36,.box b5 [yN,yN] 59,.box b3 (yT t qV qR xn xk qN qM) 38,.box b1 (yS s qB qy qL qI) 36] [zi true ([]++(G31++G33++G36)) (yT t ra18Alive rc18Alive ra18Bags rc18Bags ra18Around rc18Around) [t],sF true G36 ra18Around rc18Around t.qC,sF true G33 ra18Bags rc18Bags t.qE,sF true G31 ra18Alive rc18Alive t.qA,zi true [] [] ([]:List qJ),zi true rF18Bags rx18Bags t.qE,sF false qZ qB qy s.qw,sF false xE qL qI s.qx,sF false xR qV qR t.qA,sF false zy xn xk t.qE,sF false xH qN qM t.qC]:=H
 replace H:=H.nilRow 22 1
 replace H:=H.vI (α:=yLI)
 refine zu (fun m' ρ w38=>∃ (xU:Env) (i:Nat) (yw:yOA) (vP:Nat) (jJ:Nat) (g_States:List qJ) (XF:List Value) (XO:yLN) (jY:yOA) (jD:Nat) (jX:Nat) (g_Next:yLL) (Xh:List Value) (jG:yLN),ρ=upd (upd (upd (upd xU 2 (pp b12 0)) 4 (pp b16 0)) 6 (pp b28 0)) 7 (yI i)∧(grRes s t=grGo s (302 - i) i g_States g_Next)∧(∀ u∈g_States,zF s u)∧(0 < g_States.length∧g_States.length≤300)∧(g_Next.length=i)∧(i≤g_States.length)∧(GrOk g_States g_Next)∧m' =(301 - i)∧Fresh w.heap.size [XO,jG]∧St w w38 [rr jY jD jX 22 1 Xh,.box b28 [.slice yw vP jJ,.slice jY jD jX] 59,rr yw vP jJ 38 3 XF,.box b16 [yN,yN] 59,.box b14 (yT t qV qR xn xk qN qM) 38,.box b12 (yS s qB qy qL qI) 36,.box b5 [yN,yN] 59,.box b3 (yT t qV qR xn xk qN qM) 38,.box b1 (yS s qB qy qL qI) 36] [zi true jG Xh g_Next,zi true XO XF g_States,sF false qZ qB qy s.qw,sF false xE qL qI s.qx,sF false xR qV qR t.qA,sF false zy xn xk t.qE,sF false xH qN qM t.qC]) ((301 - 0)) ⟨_,0,(aa b26 0),1,1,[t],(yT t ra18Alive rc18Alive ra18Bags rc18Bags ra18Around rc18Around),([]++(G31++G33++G36)),none,0,0,([]:yLL),[],[],uE4,(by rfl),(by exact fun u hu=>by obtain rfl:=List.mem_singleton.1 hu;exact k2),qm,(by rfl),qm,(by exact GrOk.start t),rfl,(N.emp.pick [1,0]),H.pick [0,1,2,6,7,8,9,10,11] [0,1,7,8,9,10,11]⟩ ?_
 clear H N
 rintro m' ρ w39 ⟨xU,i,yw,vP,jJ,g_States,XF,XO,jY,jD,jX,g_Next,Xh,jG,rfl,kr,ka,kl,kn,ki,ko,rfl,N,H⟩
 have hn_g_States:=H.zh (α:=qJ) 2 rfl 1 rfl qj
 have hn_g_Next:=H.zh (α:=yLI) 0 rfl 0 rfl qj
 refine zcc (sp (yI i) (oF rfl (oL rfl (H.cell 1 rfl rfl) (oN rfl (sp (.bool (decide ((i:Int) < vP))) (zjn (cD rfl (fun h40=>?_) (fun h40=>?_))))))))
 ·skip
  have ks:=ka (g_States[i]!) (mem_at (k:=i) qf rfl)
  have nl:=succ_len s (g_States[i]!)
  refine qU (t_n (xQ (qX (xQ ?_))))
  refine vT rfl H fun H=>rt 0 (.agg #[yI s.xC,.slice qB s.qw.length qy,.slice qL s.qx.length qI]) (Qe (cs:=(yS s qB qy qL qI)) isAgg36 sizeOf36 rfl (fun _ h=>qF (h.cells 5 rfl) 0 3)) H ?_
  refine tF 1 rfl rfl H ?_
  refine tL 2 rfl rfl (fun _ h=>h.cell 1 rfl rfl) H ?_
  refine rtp 3 (yI i) H ?_
  obtain ⟨b42,rfl⟩:=H.Qh 2 rfl qf
  obtain ⟨ae43Alive,ce43Alive,Fe43Alive,ae43Bags,ce43Bags,Fe43Bags,ae43Around,ce43Around,Fe43Around,hx44,H⟩:=H.rowel_StateD 2 rfl 1 rfl (iv:=i) i qf qf
  have S:=H.yl [0,1,2,3,4,5,6,7,8] [3,4,5,6,7,8,9]
  refine tI 4 rfl rfl rfl S ?_
  refine rt 5 (.agg #[.slice ae43Alive (((g_States[i]!).qA).length) ce43Alive,.slice ae43Bags (((g_States[i]!).qE).length) ce43Bags,.slice ae43Around (((g_States[i]!).qC).length) ce43Around]) (Qe (cs:=[.slice ae43Alive (((g_States[i]!).qA).length) ce43Alive,.slice ae43Bags (((g_States[i]!).qE).length) ce43Bags,.slice ae43Around (((g_States[i]!).qC).length) ce43Around]) isAgg38 sizeOf38 rfl (fun _ h=>qF (fun j v hj=>h.rowGet 2 rfl (hx44 j v hj)) 0 3)) S ?_
  refine ro 6 rfl ?_
  have sz48:=H.base.size
  have lt49:=H.ltN (L:=[XO,jG]) [4,3]
  refine oc (nextStates_ok _ s (g_States[i]!) (H.get 5 rfl).1 (H.get 6 rfl).1 (H.get 0 rfl).1 (H.get 1 rfl).1 (H.get 2 rfl).1 qg qg) ?_
  rintro _ w46 ⟨ra45a,rn45a,rc45a,rx45a,rF45a,rfl,M,K⟩ _
  replace N:=N.merge sz48 lt49 M
  replace H:=H.merge K M
  obtain rfl:=H.zh (α:=qJ) 0 rfl 0 rfl qj
  refine ⟨H.pick [1,2,3,4,5,6,7,8,9] [4,5,6,7,8,9,10],?_⟩
  have S:=H.yl [1,2,3,4,5,6,7,8,9] [4,5,6,7,8,9,10]
  refine rtp 7 (.tuple #[.slice ra45a (((qW s (g_States[i]!)).1).length) rc45a,yI ((qW s (g_States[i]!)).2)]) S ?_
  refine rtp 8 (.slice ra45a (((qW s (g_States[i]!)).1).length) rc45a) S ?_
  refine rtp 9 (yI ((qW s (g_States[i]!)).2)) S ?_
  refine rtp 10 (.slice ra45a (((qW s (g_States[i]!)).1).length) rc45a) S ?_
  refine rtp 11 (yI ((qW s (g_States[i]!)).2)) S ?_
  refine xO qh (t_n (zcc (sps [yI ((qW s (g_States[i]!)).2),.bool (((qW s (g_States[i]!)).2:Int) != 0)] (zjn (xK (((qW s (g_States[i]!)).2:Int) != 0) rfl (fun h51=>?_) (fun h51=>?_))))))
  ·skip
   replace h51:=bne_iff_ne.1 h51
   refine zcr (sw (jB [yN,yN] [] (sp (yI ((qW s (g_States[i]!)).2)) (sw (zB H 4 [yN,yN] sizeOf59 fun w52 H=>sp (yI ((qW s (g_States[i]!)).2)) (zjr (t_r (zr5 (retC2 H 4 rfl (yI ((qW s (g_States[i]!)).2)) rfl isAgg59 sizeOf59 rfl rfl ⟨_,rfl,?_⟩)))))))))
   replace H:=H.erases [6,5,4,3,2,1,0]
   dsimp only [vU,List.eraseIdx] at H
   refine sps [.agg #[yN,yN],yI ((qW s (g_States[i]!)).2)] (sw (zB H 0 [yN,yN] sizeOf59 fun w53 H=>sp (yI ((qW s (g_States[i]!)).2)) (zjr ?_)))
   replace H:=H.addNil (α:=qJ)
   replace H:=H.addNil (α:=yLI)
   refine retC2 H 0 rfl (yI ((qW s (g_States[i]!)).2)) rfl isAgg59 sizeOf59 rfl rfl ⟨_,rfl,?_,H.base⟩
   obtain ⟨z1,z2⟩:=exG_of (ex_0 k0 (kr.trans (gr_code qf qf ql)))
   rw [z1,z2]
   exact ⟨none,0,[],none,0,[],rfl,(N.emp.emp.pick [0,1]),H.pick [] [1,0]⟩
  replace h51:=xq h51
  refine qU (t_n (zcr (sw (vG H underlying22 ti2 fun b54 w55 H=>sp (.slice (aa b54 0) 0 0) (zjcc (sp (.slice ra45a (((qW s (g_States[i]!)).1).length) rc45a) (oN rfl (sp (yI 0) (zjn (qX ?_))))))))))
  have H0:=H
  obtain ⟨G56,hg58,hn57,H⟩:=H.Qs (α:=qJ) 1 rfl 0 rfl qj
  replace N:Fresh w.heap.size [G56,XO,jG]:=Fresh.ice N H0 1 hg58.1 hg58.2 (H0.jQ [5,4])
  clear H0
  obtain ⟨xs59,B60,P61,N,H⟩:=H.pool (α:=qJ) 0 rfl N
  replace H:=H.boxRowI 0 [] 0
  refine zu (fun m' ρ w62=>∃ (xU:Env) (a_own:yOA) (n_own:Nat) (c_own:Nat) (own:yLI) (k:Nat) (yj:yOA) (zU:Nat) (yg:Nat) (g_States_1:List qJ) (jZ:List Value) (jK:yLN) (P_k:yLN),ρ=upd (upd (upd (upd (upd (upd (upd (upd xU 2 (pp b12 0)) 4 (pp b16 0)) 6 (pp b28 0)) 7 (yI i)) 10 (.slice a_own n_own c_own)) 40 (.slice ra45a (((qW s (g_States[i]!)).1).length) rc45a)) 41 (yI (((qW s (g_States[i]!)).1).length))) 42 (yI k)∧own=(zI g_States (qW s (g_States[i]!)).1 k).2∧g_States_1=(zI g_States (qW s (g_States[i]!)).1 k).1∧((k:Int)≤(((qW s (g_States[i]!)).1).length))∧m' =((((qW s (g_States[i]!)).1).length) - (k:Int)).toNat∧Fresh w.heap.size [jG,jK,P_k]∧St w w62 [rr a_own n_own c_own 2 1 (own.map (Value.int .i64)),rr jY jD jX 22 1 Xh,.box b28 [.slice yj zU yg,.slice jY jD jX] 59,rr yj zU yg 38 3 jZ,.box b16 [yN,yN] 59,.box b14 (yT t qV qR xn xk qN qM) 38,.box b12 (yS s qB qy qL qI) 36,.box b5 [yN,yN] 59,.box b3 (yT t qV qR xn xk qN qM) 38,.box b1 (yS s qB qy qL qI) 36] [zi true P_k (xs59.drop (k * 3)) (((qW s (g_States[i]!)).1).drop k),cellsF B60 (.slice ra45a (((qW s (g_States[i]!)).1).length) rc45a) xs59,sF true G56 ra45a rc45a ((qW s (g_States[i]!)).1),zi true jG Xh g_Next,zi true jK jZ g_States_1,sF false qZ qB qy s.qw,sF false xE qL qI s.qx,sF false xR qV qR t.qA,sF false zy xn xk t.qE,sF false xH qN qM t.qC]) (((((qW s (g_States[i]!)).1).length) - (0:Int)).toNat) ⟨_,(aa b54 0),0,0,([]:yLI),0,(aa b42 0),vP,jJ,g_States,XF,XO,P61,uE8,(by rfl),(by rfl),qf,rfl,(N.pick [2,1,0]),H.pick [0,2,3,4,5,6,7,8,9,10] [0,1,2,7,8,9,10,11,12,13]⟩ ?_
  clear H N
  rintro m' ρ w63 ⟨xU,a_own,n_own,c_own,own,k,yj,zU,yg,g_States_1,jZ,jK,P_k,rfl,rfl,rfl,i0,rfl,N,H⟩
  have hn_own:=H.Vq 0 rfl
  have hn_g_States:=H.zh (α:=qJ) 3 rfl 4 rfl qj
  obtain ⟨al1,al2,al3⟩:=Yp (S:=g_States) (nx:=(qW s (g_States[i]!)).1) k
  refine zcr (sp (.bool (decide ((k:Int) < (((qW s (g_States[i]!)).1).length)))) (zjn (xQ (cD rfl (fun h64=>?_) (fun h64=>?_)))))
  ·skip
   obtain ⟨b65,o66,rfl⟩:=H.addr 2 rfl qf
   obtain ⟨ae68Alive,ce68Alive,Fe68Alive,ae68Bags,ce68Bags,Fe68Bags,ae68Around,ce68Around,Fe68Around,P69,N,H⟩:=H.drain_StateD 1 rfl 0 rfl ((N.pick [2,0,1]):Fresh w.heap.size [P_k,jG,jK]) k k qf qf qf
   refine qU (t_n (xQ (qX (zcr (oI rfl rfl (sw (zn [.slice ae68Alive (((((qW s (g_States[i]!)).1)[k]!).qA).length) ce68Alive,.slice ae68Bags (((((qW s (g_States[i]!)).1)[k]!).qE).length) ce68Bags,.slice ae68Around (((((qW s (g_States[i]!)).1)[k]!).qC).length) ce68Around] isAgg38 sizeOf38 rfl (qF (H.get 3 rfl) 0 3) (sw (zf H ti38 [yN,yN,yN] fun b70 w71 H=>?_)))))))))
   refine sw (zB H 0 [.slice ae68Alive (((((qW s (g_States[i]!)).1)[k]!).qA).length) ce68Alive,.slice ae68Bags (((((qW s (g_States[i]!)).1)[k]!).qE).length) ce68Bags,.slice ae68Around (((((qW s (g_States[i]!)).1)[k]!).qC).length) ce68Around] sizeOf38 fun w72 H=>zjc (oF rfl (oL rfl (H.cell 3 rfl rfl) ?_)))
   refine sw (zn [.slice ae68Alive (((((qW s (g_States[i]!)).1)[k]!).qA).length) ce68Alive,.slice ae68Bags (((((qW s (g_States[i]!)).1)[k]!).qE).length) ce68Bags,.slice ae68Around (((((qW s (g_States[i]!)).1)[k]!).qC).length) ce68Around] isAgg38 sizeOf38 rfl (qF (H.cells 0 rfl) 0 3) ?_)
   obtain ⟨G73,hn74,h75⟩:=H.rowIsR (α:=qJ) 4 rfl 9 rfl qj
   refine sw (oq (YM (by rw [← hn74]) (find_ok _ ((zI g_States (qW s (g_States[i]!)).1 k).1) (((qW s (g_States[i]!)).1)[k]!) (hn74▸h75) (H.get 0 rfl).1 (H.get 1 rfl).1 (H.get 2 rfl).1)) H fun w77 H=>sp (yI (firstIdx (fun zz=>decide (((zI g_States (qW s (g_States[i]!)).1 k).1)[zz]! =(((qW s (g_States[i]!)).1)[k]!))) ((zI g_States (qW s (g_States[i]!)).1 k).1).length)) (zjcc ?_))
   refine sps [yI (firstIdx (fun zz=>decide (((zI g_States (qW s (g_States[i]!)).1 k).1)[zz]! =(((qW s (g_States[i]!)).1)[k]!))) ((zI g_States (qW s (g_States[i]!)).1 k).1).length),.bool (decide ((firstIdx (fun zz=>decide (((zI g_States (qW s (g_States[i]!)).1 k).1)[zz]! =(((qW s (g_States[i]!)).1)[k]!))) ((zI g_States (qW s (g_States[i]!)).1 k).1).length:Int) < 0))] (zjn (cD rfl (fun h79=>?_) (fun h79=>?_)))
   ·skip
    refine zcr (oF rfl (oL rfl (H.cell 3 rfl rfl) ?_))
    obtain ⟨G80,hn81,h82⟩:=H.rowIsR (α:=qJ) 4 rfl 9 rfl qj
    refine sw (oq (YM (by rw [← hn81]) (sizeS_ok _ ((zI g_States (qW s (g_States[i]!)).1 k).1) (hn81▸h82))) H fun w84 H=>sp (yI (((zI g_States (qW s (g_States[i]!)).1 k).1).length)) (zjn (xY (oF rfl (oL rfl (H.cell 3 rfl rfl) (sw (zn [.slice ae68Alive (((((qW s (g_States[i]!)).1)[k]!).qA).length) ce68Alive,.slice ae68Bags (((((qW s (g_States[i]!)).1)[k]!).qE).length) ce68Bags,.slice ae68Around (((((qW s (g_States[i]!)).1)[k]!).qC).length) ce68Around] isAgg38 sizeOf38 rfl (qF (H.cells 0 rfl) 0 3) ?_)))))))
    refine sw (zG H underlying47 ti38 [.slice ae68Alive (((((qW s (g_States[i]!)).1)[k]!).qA).length) ce68Alive,.slice ae68Bags (((((qW s (g_States[i]!)).1)[k]!).qE).length) ce68Bags,.slice ae68Around (((((qW s (g_States[i]!)).1)[k]!).qC).length) ce68Around] fun b86 w87 H=>sw (zQ H 5 rfl 0 rfl underlying47 ti38 rfl qj rfl rfl rfl (by simp [Value.oneCell',Value.cells]) qp qf fun a88 c89 w90 H=>?_))
    replace H:=H.YD 9 rfl 0 rfl 1 rfl 2 rfl
    replace N:Fresh w.heap.size [(jK++(Fe68Alive++Fe68Bags++Fe68Around)),P69,jG]:=(N.pick [0,1,2,5,3,4]).join.join.swap.join
    refine oF rfl (sw (zJ H 4 [.slice a88 (zU+1) c89,.slice jY jD jX] sizeOf47 fun w91 H=>zjn (xY (sps [.slice a_own n_own c_own,yI (((zI g_States (qW s (g_States[i]!)).1 k).1).length)] (sw (zG H underlying22 ti2 [yI (((zI g_States (qW s (g_States[i]!)).1 k).1).length)] fun b92 w93 H=>sw (zQ H 3 rfl 0 rfl underlying22 ti2 rfl qj rfl rfl rfl (by simp [Value.oneCell',Value.cells]) qp qf fun a94 c95 w96 H=>?_)))))))
    rw [snocI] at H
    refine sp (.slice a94 (n_own+1) c95) (xZ (b_n (t_n (xY (sw (zC k 1 rfl rfl qf (sp (yI (k+1)) (xZ ?_))))))))
    refine xf (m' :=((((qW s (g_States[i]!)).1).length) - ((k+1):Int)).toNat) qf ⟨_,a94,n_own+1,c95,(((zI g_States (qW s (g_States[i]!)).1 k).2)++[(((zI g_States (qW s (g_States[i]!)).1 k).1).length:Int)]),k+1,a88,zU+1,c89,(((zI g_States (qW s (g_States[i]!)).1 k).1)++[⟨(((qW s (g_States[i]!)).1)[k]!).qA,(((qW s (g_States[i]!)).1)[k]!).qE,(((qW s (g_States[i]!)).1)[k]!).qC⟩]),jZ++[.slice ae68Alive (((((qW s (g_States[i]!)).1)[k]!).qA).length) ce68Alive,.slice ae68Bags (((((qW s (g_States[i]!)).1)[k]!).qE).length) ce68Bags,.slice ae68Around (((((qW s (g_States[i]!)).1)[k]!).qC).length) ce68Around],(jK++(Fe68Alive++Fe68Bags++Fe68Around)),P69,uE8,?_,?_,?_,rfl,(N.pick [2,0,1]),H.pick [3,4,5,6,7,8,9,10,11,12] [5,7,8,9,0,11,12,13,14,15]⟩
    · first | exact (Yn (k:=k) ‹_›).2 | (refine Eq.trans ?_ (Yo (k:=k) ‹_›).2;congr 2 <;> omega)
    · first | exact (Yo (k:=k) ‹_›).1 | exact (Yn (k:=k) ‹_›).1
    · omega
   refine qU (t_n (xY (sps [.slice a_own n_own c_own,yI (firstIdx (fun zz=>decide (((zI g_States (qW s (g_States[i]!)).1 k).1)[zz]! =(((qW s (g_States[i]!)).1)[k]!))) ((zI g_States (qW s (g_States[i]!)).1 k).1).length)] (sw (zG H underlying22 ti2 [yI (firstIdx (fun zz=>decide (((zI g_States (qW s (g_States[i]!)).1 k).1)[zz]! =(((qW s (g_States[i]!)).1)[k]!))) ((zI g_States (qW s (g_States[i]!)).1 k).1).length)] fun b97 w98 H=>?_)))))
   refine sw (zQ H 2 rfl 0 rfl underlying22 ti2 rfl qj rfl rfl rfl (by simp [Value.oneCell',Value.cells]) qp qf fun a99 c100 w101 H=>?_)
   rw [snocI] at H
   refine sp (.slice a99 (n_own+1) c100) (xZ (b_n (t_n (xY (sw (zC k 1 rfl rfl qf (sp (yI (k+1)) (xZ ?_))))))))
   refine xf (m' :=((((qW s (g_States[i]!)).1).length) - ((k+1):Int)).toNat) qf ⟨_,a99,n_own+1,c100,(((zI g_States (qW s (g_States[i]!)).1 k).2)++[firstIdx (fun zz=>decide (((zI g_States (qW s (g_States[i]!)).1 k).1)[zz]! =(((qW s (g_States[i]!)).1)[k]!))) ((zI g_States (qW s (g_States[i]!)).1 k).1).length]),k+1,yj,zU,yg,((zI g_States (qW s (g_States[i]!)).1 k).1),jZ,jK,P69,uE8,?_,?_,?_,rfl,(N.pick [4,5,3]),H.pick [2,3,4,5,6,7,8,9,10,11] [4,6,7,8,9,10,11,12,13,14]⟩
   · first | exact (Yn (k:=k) ‹_›).2 | (refine Eq.trans ?_ (Yo (k:=k) ‹_›).2;congr 2 <;> omega)
   · first | exact (Yo (k:=k) ‹_›).1 | exact (Yn (k:=k) ‹_›).1
   · omega
  refine zx4 (zcc (oF rfl (oL rfl (H.cell 2 rfl rfl) (oN rfl (sp (.bool (decide ((zU:Int) > 300))) (zjn (cD rfl (fun h102=>?_) (fun h102=>?_))))))))
  ·skip
   refine zcr (sw (jB [yN,yN] [] (sw (zB H 4 [yN,yN] sizeOf59 fun w103 H=>sp (yI 3) (zjr (t_r (zr5 (retC2 H 4 rfl (yI 3) rfl isAgg59 sizeOf59 rfl rfl ⟨_,rfl,?_⟩))))))))
   replace H:=H.erases [6,5,4,3,2,1,0]
   dsimp only [vU,List.eraseIdx] at H
   refine sps [.agg #[yN,yN],yI 3] (sw (zB H 0 [yN,yN] sizeOf59 fun w104 H=>sp (yI 3) (zjr ?_)))
   replace H:=H.addNil (α:=qJ)
   replace H:=H.addNil (α:=yLI)
   refine retC2 H 0 rfl (yI 3) rfl isAgg59 sizeOf59 rfl rfl ⟨_,rfl,?_,H.base⟩
   obtain ⟨z1,z2⟩:=exG_of (ex_0 k0 (kr.trans (gr_many qf qf qf (k:=k) qf qf)))
   rw [z1,z2]
   exact ⟨none,0,[],none,0,[],rfl,(N.emp.emp.pick [0,1]),H.pick [] [1,0]⟩
  refine qU (t_n (xY (oF rfl (oL rfl (H.cell 2 rfl rfl) (sp (.slice a_own n_own c_own) (sw (zG H underlying27 ti22 [.slice a_own n_own c_own] fun b105 w106 H=>?_)))))))
  obtain ⟨G110,N,hn111,H⟩:=H.vS 1 rfl N (H.jQ [3,4,0])
  refine sw (zQ H 2 rfl 0 rfl underlying27 ti22 rfl qj rfl rfl rfl (by simp [Value.oneCell',Value.cells]) qp qf fun a107 c108 w109 H=>?_)
  replace H:=H.jW 4 rfl 0 rfl
  replace N:Fresh w.heap.size [(jG++G110),jK,P_k]:=(N.pick [1,0,2,3]).join
  refine oF rfl (sw (zJ H 3 [.slice yj zU yg,.slice a107 (jD+1) c108] sizeOf27 fun w112 H=>xZ (b_n (t_n (xY (sp (yI i) (sw (zC i 1 rfl rfl qf (sp (yI (i+1)) (xZ ?_))))))))))
  refine xf (m' :=(301 - (i+1))) qf ⟨_,i+1,yj,zU,yg,((zI g_States (qW s (g_States[i]!)).1 k).1),jZ,jK,a107,jD+1,c108,(g_Next++[((zI g_States (qW s (g_States[i]!)).1 k).2)]),Xh++[.slice a_own n_own c_own],(jG++G110),uE4,?_,?_,?_,?_,?_,?_,rfl,(N.pick [1,0]),H.pick [2,3,4,5,6,7,8,9,10] [0,6,7,8,9,10,11]⟩
  · exact kr.trans (gr_go qf qf qf (k:=k) qf qf)
  · exact addSt_mem ka succ_ok k qf
  · omega
  · simp;omega
  · omega
  · exact ko.next qf qf
 refine zx4 (zcr (sw (zn [.slice yw vP jJ,.slice jY jD jX] isAgg59 sizeOf59 rfl (qF (H.cells 1 rfl) 0 2) (sw (zB H 3 [.slice yw vP jJ,.slice jY jD jX] sizeOf59 fun w113 H=>sp (yI 0) (zjr (retC2 H 3 rfl (yI 0) rfl isAgg59 sizeOf59 rfl rfl ⟨_,rfl,?_⟩)))))))
 replace H:=H.erases [5,4,3,1]
 dsimp only [vU,List.eraseIdx] at H
 refine sps [.agg #[.slice yw vP jJ,.slice jY jD jX],yI 0] (sw (zB H 2 [.slice yw vP jJ,.slice jY jD jX] sizeOf59 fun w114 H=>sp (yI 0) (zjr ?_)))
 have H0:=H
 obtain ⟨G115,hg117,hn116,H⟩:=H.Qs (α:=qJ) 1 rfl 1 rfl qj
 replace N:Fresh w.heap.size [G115,jG]:=Fresh.ice N H0 1 hg117.1 hg117.2 (H0.jQ [0])
 clear H0
 obtain rfl:=H.isLen 0 rfl
 have H0:=H
 obtain ⟨G118,hg120,hn119,H⟩:=H.Qs (α:=yLI) 0 rfl 1 rfl qj
 replace N:Fresh w.heap.size [G118,G115]:=Fresh.ice (N.pick [1,0]) H0 0 hg120.1 hg120.2 (H0.jQ [0])
 clear H0
 obtain rfl:=H.isLen 0 rfl
 refine retC2 H 2 rfl (yI 0) rfl isAgg59 sizeOf59 rfl rfl ⟨_,rfl,?_,H.base⟩
 obtain ⟨z1,z2⟩:=exG_of (ex_0 k0 (kr.trans (gr_end qf)))
 rw [z1,z2]
 exact ⟨yw,jJ,G115,jY,jX,G118,rfl,(N.pick [1,0]),H.pick [] [1,0]⟩
def revL_ren:Go.Shelf.Ren:=⟨fun | 35=>126 | n=>n,fun | 22=>27 | 23=>22 | 3=>3 | 4=>4 | 0=>0 | n=>n,fun | n=>n⟩
theorem revL:Go.Proofs.SlLaysE.n35 Tryz.prog revL_ren:={
  mixed:=by kernel_rfl
  f35:=⟨Tryz.f126.name,by decide,Tryz.func126.trans (congrArg some (by kernel_rfl))⟩
  t0:=Tryz.underlying0
  a0:=Tryz.isAgg0
  z0:=Tryz.sizeOf0
  v0:=Tryz.zeroValue0
  t3:=Tryz.underlying3
  a3:=Tryz.isAgg3
  z3:=Tryz.sizeOf3
  v3:=Tryz.zeroValue3
  t4:=Tryz.underlying4
  a4:=Tryz.isAgg4
  z4:=Tryz.sizeOf4
  v4:=Tryz.zeroValue4
  t22:=Tryz.underlying27
  a22:=Tryz.isAgg27
  z22:=Tryz.sizeOf27
  v22:=Tryz.zeroValue27
  a23:=Tryz.isAgg22
  z23:=Tryz.sizeOf22 }

theorem between_ok (w:World) (s:qG) (t:qJ) (u:qJ) {qB:yOA} {qZ:yLN} {qL:yOA} {xE:yLN} {qV:yOA} {xR:yLN} {xn:yOA} {zy:yLN} {qN:yOA} {xH:yLN} {bu ou:Nat} {VV:yOA} {FuAlive:yLN} {auBags:yOA} {FuBags:yLN} {XB:yOA} {FuAround:yLN} (hs:ve w bs os (yS s qB qy qL qI)) (xe:qO.rep w qZ [.slice qB s.qw.length qy] s.qw) (xJ:qO.rep w xE [.slice qL s.qx.length qI] s.qx) (ht:ve w bt ot (yT t qV qR xn xk qN qM)) (zl:qO.rep w xR [.slice qV t.qA.length qR] t.qA) (zK:qO.rep w zy [.slice xn t.qE.length xk] t.qE) (xP:qO.rep w xH [.slice qN t.qC.length qM] t.qC) (hu:ve w bu ou (yT u VV VU auBags cuBags XB Xz)) (huAlive:qO.rep w FuAlive [.slice VV u.qA.length VU] u.qA) (huBags:qO.rep w FuBags [.slice auBags u.qE.length cuBags] u.qE) (huAround:qO.rep w FuAround [.slice XB u.qC.length Xz] u.qC) (p0:jO s) (p1:zF s t):Calls Tryz.prog 124 #[pp bs os,pp bt ot,pp bu ou] w (Ret (fun v w' =>∃ (ra:yOA) (rc:Nat) (rF:yLN),v=.slice ra ((betw s t u).length) rc∧Fresh w.heap.size [rF]∧St w w' [] [sF true rF ra rc (betw s t u)]) w):=by
 refine en func124 ntmps124 ?_
 have H:=(((((((((((St.start w).arg huAround).arg huBags).arg huAlive).XW hu).arg xP).arg zK).arg zl).XW ht).arg xJ).arg xe).XW hs
 have zY:=qK xe
 have jb:=qK xJ
 have Qd:=qK zl
 have QQ:=qK zK
 have jP:=qK xP
 have nhuAlive:=qK huAlive
 have nhuBags:=qK huBags
 have nhuAround:=qK huAround
 clear hs xe xJ ht zl zK xP hu huAlive huBags huAround
 have N:=Fresh.nil w.heap.size
 have cc:=fun q (hq:q < (xB s t).1.length)=>(cho_ok p0 p1 hq).1
 have ci:=fun q (hq:q < (xB s t).1.length)=>(cho_ok p0 p1 hq).2
 have ln:=cho_len s t
 refine zcr (sp yN (zjc (sps [pp bs os,pp bt ot] ?_)))
 have sz4:=H.base.size
 refine sw (oc (l03Choices_ok _ s t (qF (H.get 0 rfl) 0 3) (H.get 1 rfl).1 (H.get 2 rfl).1 (qF (H.get 3 rfl) 0 3) (H.get 4 rfl).1 (H.get 5 rfl).1 (H.get 6 rfl).1 qg qg) ?_)
 rintro _ w2 ⟨ra1a,rn1a,rc1a,rx1a,rF1a,rfl,M,K⟩ _
 replace N:=N.merge sz4 qm M
 replace H:=H.merge K M
 obtain rfl:=H.zh (α:=yLI) 0 rfl 0 rfl qj
 refine sps [.tuple #[.slice ra1a (((xB s t).1).length) rc1a,yI ((xB s t).2)],.slice ra1a (((xB s t).1).length) rc1a,yI ((xB s t).2),.slice ra1a (((xB s t).1).length) rc1a,yI ((xB s t).2)] (zjcc (sp (yI 0) (zjn (qX ?_))))
 have H0:=H
 obtain ⟨G7,hg9,hn8,H⟩:=H.Qs (α:=yLI) 0 rfl 0 rfl qj
 replace N:Fresh w.heap.size [G7]:=Fresh.ice N H0 0 hg9.1 hg9.2 (H0.jQ [])
 clear H0
 obtain ⟨xs10,B11,P12,N,H⟩:=H.pool (α:=yLI) 0 rfl N
 refine zu (fun m' ρ w13=>∃ (xU:Env) (i:Nat) (P_i:yLN),ρ=upd (upd (upd (upd (upd xU 0 (pp bs os)) 1 (pp bt ot)) 2 (pp bu ou)) 7 (.slice ra1a (((xB s t).1).length) rc1a)) 9 (yI i)∧((i:Int)≤(((xB s t).1).length))∧(∀ j,j < i→¬ xN s t ((xB s t).1[j]!)=(u,0))∧m' =((((xB s t).1).length) - (i:Int)).toNat∧Fresh w.heap.size [P_i]∧St w w13 [] [zi true P_i (xs10.drop (i * 1)) (((xB s t).1).drop i),cellsF B11 (.slice ra1a (((xB s t).1).length) rc1a) xs10,sF true G7 ra1a rc1a ((xB s t).1),atF bs os (yS s qB qy qL qI),sF false qZ qB qy s.qw,sF false xE qL qI s.qx,atF bt ot (yT t qV qR xn xk qN qM),sF false xR qV qR t.qA,sF false zy xn xk t.qE,sF false xH qN qM t.qC,atF bu ou (yT u VV VU auBags cuBags XB Xz),sF false FuAlive VV VU u.qA,sF false FuBags auBags cuBags u.qE,sF false FuAround XB Xz u.qC]) (((((xB s t).1).length) - (0:Int)).toNat) ⟨_,0,P12,uE5,qf,(by exact fun j hj=>by omega),rfl,N,H.pick [] [0,1,2,4,5,6,7,8,9,10,11,12,13,14]⟩ ?_
 clear H N
 rintro m' ρ w14 ⟨xU,i,P_i,rfl,i0,b1,rfl,N,H⟩
 refine zcc (sps [yI i,.slice ra1a (((xB s t).1).length) rc1a] (oN rfl (sp (.bool (decide ((i:Int) < (((xB s t).1).length)))) (zjn (cD rfl (fun h15=>?_) (fun h15=>?_))))))
 ·skip
  refine qU (t_n (xQ (qX (zcr (sps [pp bs os,pp bt ot,.slice ra1a (((xB s t).1).length) rc1a,yI i] ?_)))))
  obtain ⟨b16,o17,rfl⟩:=H.addr 2 rfl qf
  obtain ⟨ae19,ce19,Fe19,P20,N,H⟩:=H.drainList 1 rfl 0 rfl N i i qf qf qf
  refine oI rfl rfl (oL rfl (H.xW 1 rfl 0 rfl) ?_)
  have k3:=cc i qf
  have sz24:=H.base.size
  have lt25:=H.ltN (L:=[Fe19,P20]) [0,2]
  refine sw (oc (l03Step_ok _ s t (((xB s t).1)[i]!) (qF (H.get 6 rfl) 0 3) (H.get 7 rfl).1 (H.get 8 rfl).1 (qF (H.get 9 rfl) 0 3) (H.get 10 rfl).1 (H.get 11 rfl).1 (H.get 12 rfl).1 (H.get 0 rfl).1 qg qg qg) ?_)
  rintro _ w22 ⟨ra21aAlive,rn21aAlive,rc21aAlive,ra21aBags,rn21aBags,rc21aBags,rx21aBags,rF21aBags,ra21aAround,rn21aAround,rc21aAround,rfl,M,K⟩ _
  replace N:=N.merge sz24 lt25 M
  replace H:=H.merge K M
  obtain rfl:=H.rowNB 0 rfl
  obtain rfl:=H.zh (α:=yLI) 1 rfl 0 rfl qj
  obtain rfl:=H.Vq 2 rfl
  refine sps [.tuple #[.agg #[.slice ra21aAlive ((((xN s t (((xB s t).1)[i]!)).1).qA).length) rc21aAlive,.slice ra21aBags ((((xN s t (((xB s t).1)[i]!)).1).qE).length) rc21aBags,.slice ra21aAround ((((xN s t (((xB s t).1)[i]!)).1).qC).length) rc21aAround],yI ((xN s t (((xB s t).1)[i]!)).2)],.agg #[.slice ra21aAlive ((((xN s t (((xB s t).1)[i]!)).1).qA).length) rc21aAlive,.slice ra21aBags ((((xN s t (((xB s t).1)[i]!)).1).qE).length) rc21aBags,.slice ra21aAround ((((xN s t (((xB s t).1)[i]!)).1).qC).length) rc21aAround],yI ((xN s t (((xB s t).1)[i]!)).2)] ?_
  refine sw (zf H ti38 [yN,yN,yN] fun b29 w30 H=>sw (zB H 0 [.slice ra21aAlive ((((xN s t (((xB s t).1)[i]!)).1).qA).length) rc21aAlive,.slice ra21aBags ((((xN s t (((xB s t).1)[i]!)).1).qE).length) rc21aBags,.slice ra21aAround ((((xN s t (((xB s t).1)[i]!)).1).qC).length) rc21aAround] sizeOf38 fun w31 H=>sp (yI ((xN s t (((xB s t).1)[i]!)).2)) (zjc (sps [yI ((xN s t (((xB s t).1)[i]!)).2),.bool (((xN s t (((xB s t).1)[i]!)).2:Int) == 0),.bool (((xN s t (((xB s t).1)[i]!)).2:Int) == 0)] ?_))))
  cases h32:(((xN s t (((xB s t).1)[i]!)).2:Int) == 0)
  ·skip
   replace h32:=ne_of_beq_false h32
   refine zo [37,38] (sp (.bool false) (zjn (xK false rfl (fun h=>absurd h qj) (fun _=>qU (b_n (t_n (xY (sp (yI i) (sw (zC i 1 rfl rfl qf (sp (yI (i+1)) (xZ (xf (m' :=((((xB s t).1).length) - ((i+1):Int)).toNat) qf ⟨_,i+1,P20,uE5,?_,?_,rfl,(N.pick [2]),H.pick [] [3,5,6,7,8,9,10,11,12,13,14,15,16,17]⟩)))))))))))))
   · omega
   · first | exact betw_step b1 (.inl ql) | exact betw_step b1 (.inr ql)
  replace h32:=eq_of_beq h32
  refine qP 36 rfl rfl (sp (pp bu ou) (qP 36 rfl rfl ?_))
  obtain ⟨G33,hn34,h35⟩:=H.rowIsB 1 rfl
  obtain ⟨G36,hn37,h38⟩:=H.rowIsR (α:=yLI) 2 rfl 0 rfl qj
  obtain ⟨G39,hn40,h41⟩:=H.rowIsI 3 rfl
  refine sw (oq (l02Same_ok _ ((xN s t (((xB s t).1)[i]!)).1) u (qF (H.cells 0 rfl) 0 3) h35 h38 h41 (qF (H.get 14 rfl) 0 3) (H.get 15 rfl).1 (H.get 16 rfl).1 (H.get 17 rfl).1) H fun w43 H=>sp (.bool (decide (((xN s t (((xB s t).1)[i]!)).1)=u))) (zjn (cD rfl (fun h45=>?_) (fun h45=>?_))))
  ·skip
   refine zcr (sps [.slice (aa b16 o17) (((xB s t).1).length) rc1a,yI i] (oI rfl rfl (oL rfl (H.xW 2 rfl 0 rfl) (sp (.slice ae19 ((((xB s t).1)[i]!).length) ce19) (zjr (zr5 (ret1 (.slice ae19 ((((xB s t).1)[i]!).length) ce19) rfl rfl ⟨_,rfl,?_,H.base⟩)))))))
   rw [betw_at b1 qf (Prod.ext ql ql)]
   exact ⟨ae19,ce19,Fe19,rfl,(N.pick [1]),H.pick [] [1]⟩
  refine qU (b_n (t_n (xY (sp (yI i) (sw (zC i 1 rfl rfl qf (sp (yI (i+1)) (xZ (xf (m' :=((((xB s t).1).length) - ((i+1):Int)).toNat) qf ⟨_,i+1,P20,uE5,?_,?_,rfl,(N.pick [2]),H.pick [] [3,5,6,7,8,9,10,11,12,13,14,15,16,17]⟩)))))))))
  · omega
  · first | exact betw_step b1 (.inl ql) | exact betw_step b1 (.inr ql)
 refine zx4 (zcr (sw (vG H underlying22 ti2 fun b46 w47 H=>sp (.slice (aa b46 0) 0 0) (zjr ?_))))
 replace H:=H.boxRowI 0 [] 0
 obtain ⟨G48,N,hn49,H⟩:=H.vS 0 rfl N (H.jQ [0])
 refine ret1 (.slice (aa b46 0) 0 0) rfl rfl ⟨_,rfl,?_,H.base⟩
 rw [betw_none (fun j hj=>b1 j qf)]
 exact ⟨(aa b46 0),0,G48,rfl,(N.pick [0]),H.pick [] [0]⟩

theorem way_ok (w:World) (s:qG) (g:GraphD) (fr:yLI) (z:Int) {qB:yOA} {qZ:yLN} {qL:yOA} {xE:yLN} {bg og:Nat} {XC:yOA} {FgStates:yLN} {agNext:yOA} {FgNext:yLN} {afr:yOA} {cfr:Nat} {Ffr:yLN} (hs:ve w bs os (yS s qB qy qL qI)) (xe:qO.rep w qZ [.slice qB s.qw.length qy] s.qw) (xJ:qO.rep w xE [.slice qL s.qx.length qI] s.qx) (hg:ve w bg og [.slice XC g.qY.length QJ,.slice agNext g.fNext.length cgNext]) (hgStates:qO.rep w FgStates [.slice XC g.qY.length QJ] g.qY) (hgNext:qO.rep w FgNext [.slice agNext g.fNext.length cgNext] g.fNext) (hfr:qO.rep w Ffr [.slice afr fr.length cfr] fr) (p0:jO s) (p1:GrOk g.qY g.fNext) (p2:GrNx s g.qY g.fNext) (p3:FromOk g.qY g.fNext fr) (p4:0≤(z:Int)∧(z:Int).toNat < g.qY.length) (p5:∀ u∈g.qY,zF s u) (p6:g.qY.length≤300):Calls Tryz.prog 88 #[pp bs os,pp bg og,.slice afr fr.length cfr,yI z] w (Ret (fun v w' =>∃ (ra:yOA) (rn:Nat) (rc:Nat) (rx:List Value) (rF:yLN),v=.slice ra rn rc∧Fresh w.heap.size [rF]∧St w w' [rr ra rn rc 22 1 rx] [zi true rF rx (wayL s g.qY g.fNext (z:Int).toNat)]) w):=by
 refine en func88 ntmps88 ?_
 have H:=(((((((St.start w).arg hfr).arg hgNext).arg hgStates).XW hg).arg xJ).arg xe).XW hs
 have zY:=qK xe
 have jb:=qK xJ
 have nhgStates:=qK hgStates
 have nhgNext:=qK hgNext
 have nhfr:=qK hfr
 clear hs xe xJ hg hgStates hgNext hfr
 have N:=Fresh.nil w.heap.size
 obtain ⟨p7,p8⟩:=p4
 have fl:=p3.len
 refine zcr (sp yN (zjc (sp (yI z) (sw (zG H underlying22 ti2 [yI z] fun b1 w2 H=>sp (.slice (aa b1 0) 1 1) (zjn (xQ (qX ?_))))))))
 replace H:=H.boxRowI 0 [z] 1
 refine zu (fun m' ρ w3=>∃ (xU:Env) (at_:Int) (a_back:yOA) (n_back:Nat) (c_back:Nat) (back:yLI) (q:Nat),ρ=upd (upd (upd (upd (upd xU 0 (pp bs os)) 1 (pp bg og)) 2 (.slice afr fr.length cfr)) 3 (yI at_)) 9 (.slice a_back n_back c_back)∧at_=(((itF g.fNext z.toNat q):Nat):Int)∧back=(backI g.fNext z.toNat q)∧(∀ x,x < q→(itF g.fNext z.toNat x)≠0)∧m' =(itF g.fNext z.toNat q)∧Fresh w.heap.size []∧St w w3 [rr a_back n_back c_back 2 1 (back.map (Value.int .i64))] [atF bs os (yS s qB qy qL qI),sF false qZ qB qy s.qw,sF false xE qL qI s.qx,atF bg og [.slice XC g.qY.length QJ,.slice agNext g.fNext.length cgNext],sF false FgStates XC QJ g.qY,sF false FgNext agNext cgNext g.fNext,sF false Ffr afr cfr fr]) ((itF g.fNext z.toNat 0)) ⟨_,z,(aa b1 0),1,1,[z],0,uE5,(by exact (Int.toNat_of_nonneg p7).symm),(by exact backI_zero g.fNext p7),(by exact fun x hx=>by omega),rfl,N,H⟩ ?_
 clear H N
 rintro m' ρ w4 ⟨xU,at_,a_back,n_back,c_back,back,q,rfl,rfl,rfl,kz,rfl,N,H⟩
 have hn_back:=H.Vq 0 rfl
 have ki:=it_in p1 p8 kz
 have bl:=backI_len g.fNext z.toNat q
 refine zcc (sps [.slice afr fr.length cfr,yI (((itF g.fNext z.toNat q):Nat):Int)] ?_)
 obtain ⟨b5,o6,rfl⟩:=H.addr 6 rfl qf
 refine oI rfl rfl (oL rfl (H.jC 6 rfl (((itF g.fNext z.toNat q):Nat):Int) qf qf) (sp (.bool (decide ((fr[(((itF g.fNext z.toNat q):Nat):Int).toNat]! :Int)≥0))) (zjn (cD rfl (fun h8=>?_) (fun h8=>?_)))))
 ·skip
  obtain ⟨e1,e2⟩:=it_step p3 (q:=q) ki.1 ql
  refine qU (t_n (qX (zcr (sps [.slice (aa b5 o6) fr.length cfr,yI (((itF g.fNext z.toNat q):Nat):Int)] (oI rfl rfl (oL rfl (H.jC 6 rfl (((itF g.fNext z.toNat q):Nat):Int) qf qf) (sp (yI (fr[(((itF g.fNext z.toNat q):Nat):Int).toNat]!)) (zjn (xY (sps [.slice a_back n_back c_back,yI (fr[(((itF g.fNext z.toNat q):Nat):Int).toNat]!)] (sw (zG H underlying22 ti2 [yI (fr[(((itF g.fNext z.toNat q):Nat):Int).toNat]!)] fun b9 w10 H=>?_))))))))))))
  refine sw (zQ H 1 rfl 0 rfl underlying22 ti2 rfl qj rfl rfl rfl (by simp [Value.oneCell',Value.cells]) qp qf fun a11 c12 w13 H=>?_)
  rw [snocI] at H
  refine sp (.slice a11 (n_back+1) c12) (xZ (b_n (xf (m' :=(itF g.fNext z.toNat (q+1))) (by exact (frm_ok p1 (j:=(itF g.fNext z.toNat q)) qf ki.1).2) ⟨_,fr[(((itF g.fNext z.toNat q):Nat):Int).toNat]!,a11,n_back+1,c12,((backI g.fNext z.toNat q)++[fr[(((itF g.fNext z.toNat q):Nat):Int).toNat]!]),q+1,uE5,?_,?_,?_,rfl,N,H.pick [1] [0,1,2,3,4,5,6]⟩)))
  · exact e1
  · exact backI_succ g.fNext z.toNat q e1
  · exact kz_step kz e2
 have ks:=way_steps p3 ki.1 ql kz
 refine zx4 (zcr (sw (vG H underlying27 ti22 fun b14 w15 H=>sp (.slice (aa b14 0) 0 0) (zjcc (sp (.slice a_back n_back c_back) (oN rfl (sw (o_sub n_back 1 rfl rfl qf (sp (yI (n_back - 1)) (zjn (qX ?_)))))))))))
 replace H:=H.boxRow 0 rfl 1 0 rfl qj
 replace H:=H.vI (α:=yLI)
 refine zu (fun m' ρ w16=>∃ (xU:Env) (zW:yOA) (zt:Nat) (zL:Nat) (out:yLL) (Qr:List Value) (jR:yLN) (i:Int) (x:Nat),ρ=upd (upd (upd (upd (upd xU 0 (pp bs os)) 1 (pp bg og)) 9 (.slice a_back n_back c_back)) 10 (.slice zW zt zL)) 11 (yI i)∧out=(wayTo s g.qY g.fNext z.toNat q x)∧i=((q - x:Nat):Int)∧(x≤q)∧m' =(q - x)∧Fresh w.heap.size [jR]∧St w w16 [rr zW zt zL 22 1 Qr,rr a_back n_back c_back 2 1 ((backI g.fNext z.toNat q).map (Value.int .i64))] [zi true jR Qr out,atF bs os (yS s qB qy qL qI),sF false qZ qB qy s.qw,sF false xE qL qI s.qx,atF bg og [.slice XC g.qY.length QJ,.slice agNext g.fNext.length cgNext],sF false FgStates XC QJ g.qY,sF false FgNext agNext cgNext g.fNext]) ((q - 0)) ⟨_,(aa b14 0),0,0,([]:yLL),[],[],n_back - 1,0,uE5,(by rfl),qf,qf,rfl,N.emp,H.pick [0,1] [0,1,2,3,4,5,6]⟩ ?_
 clear H N
 rintro m' ρ w17 ⟨xU,zW,zt,zL,out,Qr,jR,i,x,rfl,rfl,rfl,x0,rfl,N,H⟩
 have hn_out:=H.zh (α:=yLI) 0 rfl 0 rfl qj
 have wl:=wayTo_len (s:=s) (S:=g.qY) (R:=g.fNext) (j:=z.toNat) (m:=q) x
 refine zcc (sps [yI ((q - x:Nat):Int),.bool (decide ((((q - x:Nat):Int):Int) > 0))] (zjn (cD rfl (fun h18=>?_) (fun h18=>?_))))
 ·skip
  have xi:(((q - x:Nat):Int)).toNat=q - x:=rfl
  have xj:(((q - x:Nat):Int) - 1).toNat=q - x - 1:=by omega
  have y1:(backI g.fNext z.toNat q)[(((q - x:Nat):Int)).toNat]! =(((itF g.fNext z.toNat (q - x)):Nat):Int):=backI_at g.fNext z.toNat (q:=q) (i:=q - x) qf
  have y2:(backI g.fNext z.toNat q)[(((q - x:Nat):Int) - 1).toNat]! =(((itF g.fNext z.toNat (q - x - 1)):Nat):Int):=by rw [xj];exact backI_at g.fNext z.toNat (q:=q) (i:=q - x - 1) qf
  have y3:=it_in p1 p8 (q:=q - x) (fun y hy=>kz y qf)
  have y4:=it_in p1 p8 (q:=q - x - 1) (fun y hy=>kz y qf)
  have bl:=backI_len g.fNext z.toNat q
  refine qU (t_n (xQ (qX ?_)))
  refine Qn rfl H [1] fun H=>?_
  have S:=H.yl [1] [0,1,2,3,4,5,6]
  refine rtp 0 (.slice zW zt zL) S ?_
  refine rtp 1 (pp bs os) S ?_
  refine rtp 2 (pp bg og) S ?_
  refine rtp 3 (pp bg og) S ?_
  refine tF 4 rfl rfl S ?_
  refine tL 5 rfl rfl (fun _ h=>h.xW 4 rfl 0 rfl) S ?_
  refine rtp 6 (.slice a_back n_back c_back) S ?_
  refine rtp 7 (yI ((q - x:Nat):Int)) S ?_
  obtain ⟨b20,rfl⟩:=H.Qh 1 rfl qf
  have S:=H.yl [1] [0,1,2,3,4,5,6]
  refine tI 8 rfl rfl rfl S ?_
  refine tL 9 rfl rfl (fun _ h=>h.rowInt 0 rfl (iv:=((q - x:Nat):Int)) (i:=(((q - x:Nat):Int).toNat)) qf qf) S ?_
  obtain ⟨b21,o22,rfl⟩:=H.addr 5 rfl qf
  obtain ⟨ae24Alive,ce24Alive,Fe24Alive,ae24Bags,ce24Bags,Fe24Bags,ae24Around,ce24Around,Fe24Around,H⟩:=H.YJ 5 rfl ((backI g.fNext z.toNat q)[((q - x:Nat):Int).toNat]!) (((backI g.fNext z.toNat q)[((q - x:Nat):Int).toNat]!).toNat) qf qf qf
  have S:=H.yl [1] [4,5,6,7,8,9,10]
  refine tI 10 rfl rfl rfl S ?_
  refine rtp 11 (pp bg og) S ?_
  refine rtp 12 (pp bg og) S ?_
  refine tF 13 rfl rfl S ?_
  refine tL 14 rfl rfl (fun _ h=>h.xW 4 rfl 0 rfl) S ?_
  refine rtp 15 (.slice (aa b20 0) n_back c_back) S ?_
  refine rtp 16 (yI ((q - x:Nat):Int)) S ?_
  refine rt 17 (yI (((q - x:Nat):Int) - 1)) (y_sub ((q - x:Nat):Int) 1 rfl rfl qf) S ?_
  refine tI 18 rfl rfl rfl S ?_
  refine tL 19 rfl rfl (fun _ h=>h.rowInt 0 rfl (iv:=((q - x:Nat):Int) - 1) (i:=((((q - x:Nat):Int) - 1).toNat)) qf qf) S ?_
  obtain ⟨ae25Alive,ce25Alive,Fe25Alive,ae25Bags,ce25Bags,Fe25Bags,ae25Around,ce25Around,Fe25Around,H⟩:=H.YJ 9 rfl ((backI g.fNext z.toNat q)[(((q - x:Nat):Int) - 1).toNat]!) (((backI g.fNext z.toNat q)[(((q - x:Nat):Int) - 1).toNat]!).toNat) qf qf qf
  refine tI 20 rfl rfl rfl (H.pick [1] [8,9,10,11,12,13,14]) ?_
  refine ro 21 rfl ?_
  have ks1:=p5 (g.qY[((backI g.fNext z.toNat q)[((q - x:Nat):Int).toNat]!).toNat]!) (mem_at (l:=g.qY) (k:=((backI g.fNext z.toNat q)[((q - x:Nat):Int).toNat]!).toNat) qf rfl)
  have sz29:=H.base.size
  have lt30:=H.ltN (L:=[jR]) [8]
  refine oc (between_ok _ s (g.qY[((backI g.fNext z.toNat q)[((q - x:Nat):Int).toNat]!).toNat]!) (g.qY[((backI g.fNext z.toNat q)[(((q - x:Nat):Int) - 1).toNat]!).toNat]!) (qF (H.get 9 rfl) 0 3) (H.get 10 rfl).1 (H.get 11 rfl).1 (qF (H.get 7 rfl) 0 3) (H.get 4 rfl).1 (H.get 5 rfl).1 (H.get 6 rfl).1 (qF (H.get 3 rfl) 0 3) (H.get 0 rfl).1 (H.get 1 rfl).1 (H.get 2 rfl).1 qg qg) ?_
  rintro _ w27 ⟨ra26,rc26,rF26,rfl,M,K⟩ _
  replace N:=N.merge sz29 lt30 M
  replace H:=H.merge K M
  refine ⟨H.pick [1] [9,10,11,12,13,14,15],(ro 22 rfl (zG H underlying27 ti22 [.slice ra26 ((betw s (g.qY[((backI g.fNext z.toNat q)[((q - x:Nat):Int).toNat]!).toNat]!) (g.qY[((backI g.fNext z.toNat q)[(((q - x:Nat):Int) - 1).toNat]!).toNat]!)).length) rc26] fun b31 w32 H=>⟨H.pick [2] [9,10,11,12,13,14,15],(ro 23 rfl (zQ H 1 rfl 0 rfl underlying27 ti22 rfl qj rfl rfl rfl (by simp [Value.oneCell',Value.cells]) qp qf fun a33 c34 w35 H=>?_))⟩))⟩
  replace H:=H.jW 9 rfl 0 rfl
  replace N:Fresh w.heap.size [(jR++rF26)]:=(N.pick [1,0]).join
  refine ⟨H.pick [2] [10,11,12,13,14,15,16],(rtp 24 (.slice a33 (zt+1) c34) (H.pick [2] [10,11,12,13,14,15,16]) ?_)⟩
  refine xO qh (b_n (t_n (xY (sp (yI ((q - x:Nat):Int)) (sw (o_sub ((q - x:Nat):Int) 1 rfl rfl qf (sp (yI (((q - x:Nat):Int) - 1)) (xZ ?_))))))))
  refine xf (m' :=(q - (x+1))) qf ⟨_,a33,zt+1,c34,((wayTo s g.qY g.fNext z.toNat q x)++[(betw s (g.qY[((backI g.fNext z.toNat q)[((q - x:Nat):Int).toNat]!).toNat]!) (g.qY[((backI g.fNext z.toNat q)[(((q - x:Nat):Int) - 1).toNat]!).toNat]!))]),Qr++[.slice ra26 ((betw s (g.qY[((backI g.fNext z.toNat q)[((q - x:Nat):Int).toNat]!).toNat]!) (g.qY[((backI g.fNext z.toNat q)[(((q - x:Nat):Int) - 1).toNat]!).toNat]!)).length) rc26],(jR++rF26),((q - x:Nat):Int) - 1,x+1,uE5,?_,?_,?_,rfl,N,H.pick [1,2] [0,11,12,13,14,15,16]⟩
  · exact way_step (by rw [y1];rfl) (by rw [y2];rfl)
  · omega
  · omega
 refine zx4 (zcr (sps [.slice zW zt zL,.slice zW zt zL] (zjr (ret1 (.slice zW zt zL) rfl rfl ⟨_,rfl,?_,H.base⟩))))
 rw [way_end ks (x:=x) qf]
 exact ⟨zW,zt,zL,Qr,jR,rfl,N,H.pick [0] [0]⟩

theorem path_ok (w:World) (s:qG) (g:GraphD) (z:Int) {qB:yOA} {qZ:yLN} {qL:yOA} {xE:yLN} {XC:yOA} {FgStates:yLN} {agNext:yOA} {FgNext:yLN} (xe:qO.rep w qZ [.slice qB s.qw.length qy] s.qw) (xJ:qO.rep w xE [.slice qL s.qx.length qI] s.qx) (hgStates:qO.rep w FgStates [.slice XC g.qY.length QJ] g.qY) (hgNext:qO.rep w FgNext [.slice agNext g.fNext.length cgNext] g.fNext) (p0:jO s) (p1:GrOk g.qY g.fNext) (p2:GrNx s g.qY g.fNext) (p3:g.fNext.length=g.qY.length) (p4:0≤(z:Int)∧(z:Int).toNat < g.qY.length) (p5:∀ u∈g.qY,zF s u) (p6:g.qY.length≤300):Calls Tryz.prog 89 #[.agg #[yI s.xC,.slice qB s.qw.length qy,.slice qL s.qx.length qI],.agg #[.slice XC g.qY.length QJ,.slice agNext g.fNext.length cgNext],yI z] w (Ret (fun v w' =>∃ (ra0:yOA) (rc0:Nat) (rF0:yLN),v=.tuple #[.slice ra0 ((wayL s g.qY g.fNext (z:Int).toNat).length) rc0,yI 0]∧Fresh w.heap.size [rF0]∧St w w' [] [sF true rF0 ra0 rc0 (wayL s g.qY g.fNext (z:Int).toNat)]) w):=by
 refine en func89 ntmps89 ?_
 have H:=((((St.start w).arg hgNext).arg hgStates).arg xJ).arg xe
 have zY:=qK xe
 have jb:=qK xJ
 have nhgStates:=qK hgStates
 have nhgNext:=qK hgNext
 clear xe xJ hgStates hgNext
 have N:=Fresh.nil w.heap.size
 obtain ⟨p7,p8⟩:=p4
 refine zcr (sw (vH H (yS s qB qy qL qI) fun b1 w2 H=>sw (vH H [.slice XC g.qY.length QJ,.slice agNext g.fNext.length cgNext] fun b3 w4 H=>sps [yN,yI 0] (zjc (oF rfl (oL rfl (H.cell 0 rfl rfl) (oN rfl (sw (XI H underlying22 ti2 g.qY.length rfl rfl qf qf qf fun b5 w6 H=>sp (.slice (aa b5 0) g.qY.length g.qY.length) (zjcc (oF rfl (oL rfl (H.cell 1 rfl rfl) (oN rfl (sw (o_sub g.fNext.length 1 rfl rfl qf ?_)))))))))))))))
 refine sp (yI (g.fNext.length - 1)) (zjn (qX ?_))
 refine zu (fun m' ρ w7=>∃ (xU:Env) (i:Int) (from_:yLI),ρ=upd (upd (upd (upd (upd xU 2 (yI z)) 3 (pp b1 0)) 4 (pp b3 0)) 8 (.slice (aa b5 0) g.qY.length g.qY.length)) 9 (yI i)∧(FGe g.fNext from_ (i+1).toNat)∧(from_.length=g.qY.length)∧(-1≤i∧i < g.fNext.length)∧m' =((i:Int)+1).toNat∧Fresh w.heap.size []∧St w w7 [rr (aa b5 0) g.qY.length g.qY.length 2 1 (from_.map (Value.int .i64)),.box b3 [.slice XC g.qY.length QJ,.slice agNext g.fNext.length cgNext] 59,.box b1 (yS s qB qy qL qI) 36] [sF false qZ qB qy s.qw,sF false xE qL qI s.qx,sF false FgStates XC QJ g.qY,sF false FgNext agNext cgNext g.fNext]) ((((g.fNext.length - 1):Int)+1).toNat) ⟨_,g.fNext.length - 1,(List.replicate g.qY.length (0:Int)),uE5,(by exact FGe.start qf),qm,qf,rfl,N,H⟩ ?_
 clear H N
 rintro m' ρ w8 ⟨xU,i,from_,rfl,f1,f2,f3,rfl,N,H⟩
 have hn_from:=H.Vq 0 rfl
 refine zcc (sps [yI i,.bool (decide ((i:Int)≥0))] (zjn (cD rfl (fun h9=>?_) (fun h9=>?_))))
 ·skip
  refine qU (t_n (xQ (qX (zcr (oF rfl (oL rfl (H.cell 1 rfl rfl) (sp (yI i) ?_)))))))
  obtain ⟨b10,o11,rfl⟩:=H.addr 3 rfl qf
  obtain ⟨ae13,ce13,Fe13,H⟩:=H.vM 3 rfl i i.toNat qf qf qf
  refine oI rfl rfl (oL rfl (H.xW 1 rfl 0 rfl) (oN rfl (sp (yI 0) (zjn (qX ?_)))))
  refine zu (fun m' ρ w14=>∃ (xU:Env) (k:Nat) (from__1:yLI),ρ=upd (upd (upd (upd (upd (upd (upd (upd xU 2 (yI z)) 3 (pp b1 0)) 4 (pp b3 0)) 8 (.slice (aa b5 0) g.qY.length g.qY.length)) 9 (yI i)) 36 (.slice ae13 ((g.fNext[i.toNat]!).length) ce13)) 37 (yI ((g.fNext[i.toNat]!).length))) 38 (yI k)∧((k:Int)≤((g.fNext[i.toNat]!).length))∧(FMid g.fNext from__1 i.toNat k)∧(from__1.length=g.qY.length)∧m' =(((g.fNext[i.toNat]!).length) - (k:Int)).toNat∧Fresh w.heap.size []∧St w w14 [rr (aa b5 0) g.qY.length g.qY.length 2 1 (from__1.map (Value.int .i64)),.box b3 [.slice XC g.qY.length QJ,.slice (aa b10 o11) g.fNext.length cgNext] 59,.box b1 (yS s qB qy qL qI) 36] [sF false Fe13 ae13 ce13 (g.fNext[i.toNat]!),atF b10 (o11+(i:Int).toNat * 1) [.slice ae13 ((g.fNext[i.toNat]!).length) ce13],sF false qZ qB qy s.qw,sF false xE qL qI s.qx,sF false FgStates XC QJ g.qY,sF false FgNext (aa b10 o11) cgNext g.fNext]) ((((g.fNext[i.toNat]!).length) - (0:Int)).toNat) ⟨_,0,from_,uE8,qf,(by exact FMid.start (by rw [show i.toNat+1=(i+1).toNat by omega];exact f1)),qf,rfl,N,H⟩ ?_
  clear H N
  rintro m' ρ w15 ⟨xU,k,from__1,rfl,i0,f4,f5,rfl,N,H⟩
  have hn_from:=H.Vq 0 rfl
  refine zcr (sp (.bool (decide ((k:Int) < ((g.fNext[i.toNat]!).length)))) (zjn (xQ (cD rfl (fun h16=>?_) (fun h16=>?_)))))
  ·skip
   have rw1:=p1.rows i.toNat qf k qf
   have rl:=p1.lens i.toNat qf
   refine qU (t_n (xQ (qX (zcr ?_))))
   obtain ⟨b17,o18,rfl⟩:=H.addr 0 rfl qf
   refine oI rfl rfl (oL rfl (H.jC 0 rfl k qf qf) (sp (yI ((g.fNext[i.toNat]!)[k]!)) (zjn (xY (sps [.slice (aa b5 0) g.qY.length g.qY.length,yI ((g.fNext[i.toNat]!)[k]!),yI i] (oI rfl rfl (sw (o_storeInt H 0 rfl i sizeOf2 rfl rfl (i:=(((g.fNext[i.toNat]!)[k]!).toNat)) qf qf fun w20 H=>xZ (b_n (t_n (xY (sw (zC k 1 rfl rfl qf (sp (yI (k+1)) (xZ (xf (m' :=(((g.fNext[i.toNat]!).length) - ((k+1):Int)).toNat) qf ⟨_,k+1,(from__1.set (((g.fNext[i.toNat]!)[k]!).toNat) i),uE8,?_,?_,?_,rfl,N,H⟩))))))))))))))))
   · omega
   · have h:=FMid.step f4 (c:=_) rfl;rwa [show ((i.toNat:Nat):Int)=i by omega] at h
   · simp;omega
  refine c_exit (t_x (t_x (b_x (b_n (t_n (xY (sp (yI i) (sw (o_sub i 1 rfl rfl qf (sp (yI (i - 1)) (xZ (xf (m' :=(((i - 1):Int)+1).toNat) qf ⟨_,i - 1,from__1,uE5,?_,?_,?_,rfl,N,H.pick [0,1,2] [2,3,4,5]⟩))))))))))))
  · rw [show (i - 1+1).toNat=i.toNat by omega];exact f4.fin qf qf
  · omega
  · omega
 refine zx4 (zcr (sw (vG H underlying27 ti22 fun b21 w22 H=>sp (.slice (aa b21 0) 0 0) (zjn (xQ (qX ?_))))))
 replace H:=H.boxRow 0 rfl 1 0 rfl qj
 replace H:=H.vI (α:=yLI)
 refine zu (fun m' ρ w23=>∃ (xU:Env) (to:Int) (zW:yOA) (zt:Nat) (zL:Nat) (out:yLL) (Qr:List Value) (jR:yLN) (q:Nat),ρ=upd (upd (upd (upd (upd xU 2 (yI to)) 3 (pp b1 0)) 4 (pp b3 0)) 8 (.slice (aa b5 0) g.qY.length g.qY.length)) 12 (.slice zW zt zL)∧to=(((itF g.fNext z.toNat q):Nat):Int)∧out=(backTo s g.qY g.fNext z.toNat q)∧(∀ x,x < q→(itF g.fNext z.toNat x)≠0)∧m' =(itF g.fNext z.toNat q)∧Fresh w.heap.size [jR]∧St w w23 [rr zW zt zL 22 1 Qr,rr (aa b5 0) g.qY.length g.qY.length 2 1 (from_.map (Value.int .i64)),.box b3 [.slice XC g.qY.length QJ,.slice agNext g.fNext.length cgNext] 59,.box b1 (yS s qB qy qL qI) 36] [zi true jR Qr out,sF false qZ qB qy s.qw,sF false xE qL qI s.qx,sF false FgStates XC QJ g.qY,sF false FgNext agNext cgNext g.fNext]) ((itF g.fNext z.toNat 0)) ⟨_,z,(aa b21 0),0,0,([]:yLL),[],[],0,uE5,(by exact (Int.toNat_of_nonneg p7).symm),(by rfl),(by exact fun x hx=>by omega),rfl,N.emp,H⟩ ?_
 clear H N
 rintro m' ρ w24 ⟨xU,to,zW,zt,zL,out,Qr,jR,q,rfl,rfl,rfl,kz,rfl,N,H⟩
 have hn_out:=H.zh (α:=yLI) 0 rfl 0 rfl qj
 have ki:=it_in p1 p8 kz
 have bl:=back_len (s:=s) (S:=g.qY) (R:=g.fNext) (j:=z.toNat) q
 refine zcc (sps [yI (((itF g.fNext z.toNat q):Nat):Int),.bool (((((itF g.fNext z.toNat q):Nat):Int):Int) != 0)] (zjn (xK (((((itF g.fNext z.toNat q):Nat):Int):Int) != 0) rfl (fun h25=>?_) (fun h25=>?_))))
 ·skip
  replace h25:=bne_iff_ne.1 h25
  have q0:(itF g.fNext z.toNat q)≠0:=by omega
  have f10:FGe g.fNext from_ 0:=by rw [show (i+1).toNat=0 by omega] at f1;exact f1
  have fe:from_[((((itF g.fNext z.toNat q):Nat):Int)).toNat]! =(((itF g.fNext z.toNat (q+1)):Nat):Int):=f10.at' p1 (j:=(itF g.fNext z.toNat q)) qf ki.1 f2
  have fk:(itF g.fNext z.toNat (q+1)) < (itF g.fNext z.toNat q):=(frm_ok p1 (j:=(itF g.fNext z.toNat q)) qf ki.1).2
  have fa:((from_[((((itF g.fNext z.toNat q):Nat):Int)).toNat]!).toNat)=(itF g.fNext z.toNat (q+1)):=by omega
  have wb:=way_by p1 p2 (j:=(itF g.fNext z.toNat q)) qf ki.1
  rw [show frm g.fNext (itF g.fNext z.toNat q)=((from_[((((itF g.fNext z.toNat q):Nat):Int)).toNat]!).toNat) from fa.symm] at wb
  have ks1:=p5 (g.qY[((from_[((((itF g.fNext z.toNat q):Nat):Int)).toNat]!).toNat)]!) (mem_at (l:=g.qY) (k:=((from_[((((itF g.fNext z.toNat q):Nat):Int)).toNat]!).toNat)) qf rfl)
  have ln:=cho_len s (g.qY[((from_[((((itF g.fNext z.toNat q):Nat):Int)).toNat]!).toNat)]!)
  refine qU (t_n (qX (xQ ?_)))
  obtain ⟨b26,o27,rfl⟩:=H.addr 3 rfl qf
  refine c_cut (fun ρ w39=>∃ (xU:Env) (b29:Nat) (a30:yOA) (c31:Nat) (a32:yOA) (c33:Nat) (a34:yOA) (c35:Nat) (F36:yLN) (F37:yLN) (F38:yLN),ρ=upd (upd (upd (upd (upd (upd xU 2 (yI (((itF g.fNext z.toNat q):Nat):Int))) 3 (pp b1 0)) 4 (pp b3 0)) 8 (.slice (aa b5 0) g.qY.length g.qY.length)) 12 (.slice zW zt zL)) 13 (pp b29 0)∧Fresh w.heap.size [jR]∧St w w39 [.box b29 [.slice a30 (((g.qY[(from_[(((itF g.fNext z.toNat q):Nat):Int).toNat]!).toNat]!).qA).length) c31,.slice a32 (((g.qY[(from_[(((itF g.fNext z.toNat q):Nat):Int).toNat]!).toNat]!).qE).length) c33,.slice a34 (((g.qY[(from_[(((itF g.fNext z.toNat q):Nat):Int).toNat]!).toNat]!).qC).length) c35] 38,rr zW zt zL 22 1 Qr,rr (aa b5 0) g.qY.length g.qY.length 2 1 (from_.map (Value.int .i64)),.box b3 [.slice (aa b26 o27) g.qY.length QJ,.slice agNext g.fNext.length cgNext] 59,.box b1 (yS s qB qy qL qI) 36] [sF false F36 a30 c31 ((g.qY[(from_[(((itF g.fNext z.toNat q):Nat):Int).toNat]!).toNat]!).qA),sF false F37 a32 c33 ((g.qY[(from_[(((itF g.fNext z.toNat q):Nat):Int).toNat]!).toNat]!).qE),sF false F38 a34 c35 ((g.qY[(from_[(((itF g.fNext z.toNat q):Nat):Int).toNat]!).toNat]!).qC),atF b26 (o27+(from_[(((itF g.fNext z.toNat q):Nat):Int).toNat]! :Int).toNat * 3) [.slice a30 (((g.qY[(from_[(((itF g.fNext z.toNat q):Nat):Int).toNat]!).toNat]!).qA).length) c31,.slice a32 (((g.qY[(from_[(((itF g.fNext z.toNat q):Nat):Int).toNat]!).toNat]!).qE).length) c33,.slice a34 (((g.qY[(from_[(((itF g.fNext z.toNat q):Nat):Int).toNat]!).toNat]!).qC).length) c35],zi true jR Qr (backTo s g.qY g.fNext z.toNat q),sF false qZ qB qy s.qw,sF false xE qL qI s.qx,sF false FgStates (aa b26 o27) QJ g.qY,sF false FgNext agNext cgNext g.fNext]) ?_ ?_
  ·skip
   refine vT rfl H fun H=>tF 0 rfl rfl H ?_
   refine tL 1 rfl rfl (fun _ h=>h.cell 2 rfl rfl) H ?_
   refine rtp 2 (.slice (aa b5 0) g.qY.length g.qY.length) H ?_
   refine rtp 3 (yI (((itF g.fNext z.toNat q):Nat):Int)) H ?_
   refine tI 4 rfl rfl rfl H ?_
   refine tL 5 rfl rfl (fun _ h=>h.rowInt 1 rfl (iv:=(((itF g.fNext z.toNat q):Nat):Int)) (i:=((((itF g.fNext z.toNat q):Nat):Int).toNat)) qf qf) H ?_
   obtain ⟨ae41Alive,ce41Alive,Fe41Alive,ae41Bags,ce41Bags,Fe41Bags,ae41Around,ce41Around,Fe41Around,H⟩:=H.YJ 3 rfl (from_[(((itF g.fNext z.toNat q):Nat):Int).toNat]!) ((from_[(((itF g.fNext z.toNat q):Nat):Int).toNat]!).toNat) qf qf qf
   refine tI 6 rfl rfl rfl (H.pick [0,1,2,3] [4,5,6,7,8]) ?_
   refine ji [7,8] qh qm (Qg rfl ?_ (Qg rfl ?_ jk))
   ·skip
    refine zn [.slice ae41Alive (((g.qY[(from_[(((itF g.fNext z.toNat q):Nat):Int).toNat]!).toNat]!).qA).length) ce41Alive,.slice ae41Bags (((g.qY[(from_[(((itF g.fNext z.toNat q):Nat):Int).toNat]!).toNat]!).qE).length) ce41Bags,.slice ae41Around (((g.qY[(from_[(((itF g.fNext z.toNat q):Nat):Int).toNat]!).toNat]!).qC).length) ce41Around] isAgg38 sizeOf38 rfl (qF (H.get 3 rfl) 0 3) (⟨H.pick [0,1,2,3] [4,5,6,7,8],(ro 8 rfl (zf H ti38 [yN,yN,yN] fun b42 w43 H=>⟨H.pick [1,2,3,4] [4,5,6,7,8],(ro 9 rfl ?_)⟩))⟩)
    refine zB H 0 [.slice ae41Alive (((g.qY[(from_[(((itF g.fNext z.toNat q):Nat):Int).toNat]!).toNat]!).qA).length) ce41Alive,.slice ae41Bags (((g.qY[(from_[(((itF g.fNext z.toNat q):Nat):Int).toNat]!).toNat]!).qE).length) ce41Bags,.slice ae41Around (((g.qY[(from_[(((itF g.fNext z.toNat q):Nat):Int).toNat]!).toNat]!).qC).length) ce41Around] sizeOf38 fun w44 H=>⟨H.pick [1,2,3,4] [4,5,6,7,8],(xO qh ((meet ⟨_,b42,ae41Alive,ce41Alive,ae41Bags,ce41Bags,ae41Around,ce41Around,Fe41Alive,Fe41Bags,Fe41Around,uE6,N,H⟩)))⟩
   refine zf H ti38 [yN,yN,yN] fun b45 w46 H=>⟨H.pick [1,2,3,4] [4,5,6,7,8],(ro 7 rfl (zn [.slice ae41Alive (((g.qY[(from_[(((itF g.fNext z.toNat q):Nat):Int).toNat]!).toNat]!).qA).length) ce41Alive,.slice ae41Bags (((g.qY[(from_[(((itF g.fNext z.toNat q):Nat):Int).toNat]!).toNat]!).qE).length) ce41Bags,.slice ae41Around (((g.qY[(from_[(((itF g.fNext z.toNat q):Nat):Int).toNat]!).toNat]!).qC).length) ce41Around] isAgg38 sizeOf38 rfl (qF (H.get 3 rfl) 0 3) (⟨H.pick [1,2,3,4] [4,5,6,7,8],(ro 9 rfl ?_)⟩)))⟩
   refine zB H 0 [.slice ae41Alive (((g.qY[(from_[(((itF g.fNext z.toNat q):Nat):Int).toNat]!).toNat]!).qA).length) ce41Alive,.slice ae41Bags (((g.qY[(from_[(((itF g.fNext z.toNat q):Nat):Int).toNat]!).toNat]!).qE).length) ce41Bags,.slice ae41Around (((g.qY[(from_[(((itF g.fNext z.toNat q):Nat):Int).toNat]!).toNat]!).qC).length) ce41Around] sizeOf38 fun w47 H=>⟨H.pick [1,2,3,4] [4,5,6,7,8],(xO qh ((meet ⟨_,b45,ae41Alive,ce41Alive,ae41Bags,ce41Bags,ae41Around,ce41Around,Fe41Alive,Fe41Bags,Fe41Around,uE6,N,H⟩)))⟩
  clear H N
  rintro ρ w48 ⟨xU,b29,a30,c31,a32,c33,a34,c35,F36,F37,F38,rfl,N,H⟩
  refine t_n (zcr (sw (zn (yS s qB qy qL qI) isAgg36 sizeOf36 rfl (qF (H.cells 4 rfl) 0 3) (sw (zn [.slice a30 (((g.qY[(from_[(((itF g.fNext z.toNat q):Nat):Int).toNat]!).toNat]!).qA).length) c31,.slice a32 (((g.qY[(from_[(((itF g.fNext z.toNat q):Nat):Int).toNat]!).toNat]!).qE).length) c33,.slice a34 (((g.qY[(from_[(((itF g.fNext z.toNat q):Nat):Int).toNat]!).toNat]!).qC).length) c35] isAgg38 sizeOf38 rfl (qF (H.cells 0 rfl) 0 3) ?_)))))
  have sz52:=H.base.size
  have lt53:=H.ltN (L:=[jR]) [4]
  refine sw (oc (choices_ok _ s (g.qY[(from_[(((itF g.fNext z.toNat q):Nat):Int).toNat]!).toNat]!) (H.get 5 rfl).1 (H.get 6 rfl).1 (H.get 0 rfl).1 (H.get 1 rfl).1 (H.get 2 rfl).1 qg qg) ?_)
  rintro _ w50 ⟨ra49a,rn49a,rc49a,rx49a,rF49a,rfl,M,K⟩ _
  replace N:=N.merge sz52 lt53 M
  replace H:=H.merge K M
  obtain rfl:=H.zh (α:=yLI) 0 rfl 0 rfl qj
  refine sps [.tuple #[.slice ra49a (((xB s (g.qY[(from_[(((itF g.fNext z.toNat q):Nat):Int).toNat]!).toNat]!)).1).length) rc49a,yI ((xB s (g.qY[(from_[(((itF g.fNext z.toNat q):Nat):Int).toNat]!).toNat]!)).2)],.slice ra49a (((xB s (g.qY[(from_[(((itF g.fNext z.toNat q):Nat):Int).toNat]!).toNat]!)).1).length) rc49a,yI ((xB s (g.qY[(from_[(((itF g.fNext z.toNat q):Nat):Int).toNat]!).toNat]!)).2),.slice ra49a (((xB s (g.qY[(from_[(((itF g.fNext z.toNat q):Nat):Int).toNat]!).toNat]!)).1).length) rc49a,yI ((xB s (g.qY[(from_[(((itF g.fNext z.toNat q):Nat):Int).toNat]!).toNat]!)).2)] ?_
  refine zjcc (sps [yI ((xB s (g.qY[(from_[(((itF g.fNext z.toNat q):Nat):Int).toNat]!).toNat]!)).2),.bool (((xB s (g.qY[(from_[(((itF g.fNext z.toNat q):Nat):Int).toNat]!).toNat]!)).2:Int) != 0)] (zjn (xK (((xB s (g.qY[(from_[(((itF g.fNext z.toNat q):Nat):Int).toNat]!).toNat]!)).2:Int) != 0) rfl (fun h55=>?_) (fun h55=>?_))))
  ·skip
   replace h55:=bne_iff_ne.1 h55
   exact absurd wb.1 ql
  replace h55:=xq h55
  refine qU (t_n (zcc (sp (.slice ra49a (((xB s (g.qY[(from_[(((itF g.fNext z.toNat q):Nat):Int).toNat]!).toNat]!)).1).length) rc49a) (oN rfl (sp (yI 0) (zjn (qX ?_)))))))
  have H0:=H
  obtain ⟨G56,hg58,hn57,H⟩:=H.Qs (α:=yLI) 0 rfl 0 rfl qj
  replace N:Fresh w.heap.size [G56,jR]:=Fresh.ice N H0 0 hg58.1 hg58.2 (H0.jQ [5])
  clear H0
  obtain ⟨xs59,B60,P61,N,H⟩:=H.pool (α:=yLI) 0 rfl N
  refine zu (fun m' ρ w62=>∃ (xU:Env) (a_out_1:yOA) (yB:Nat) (Q7:Nat) (out_1:yLL) (Xe:List Value) (Qz:yLN) (k:Nat) (P_k:yLN),ρ=upd (upd (upd (upd (upd (upd (upd (upd (upd xU 2 (yI (((itF g.fNext z.toNat q):Nat):Int))) 3 (pp b1 0)) 4 (pp b3 0)) 8 (.slice (aa b5 0) g.qY.length g.qY.length)) 12 (.slice a_out_1 yB Q7)) 13 (pp b29 0)) 67 (.slice ra49a (((xB s (g.qY[(from_[(((itF g.fNext z.toNat q):Nat):Int).toNat]!).toNat]!)).1).length) rc49a)) 68 (yI (((xB s (g.qY[(from_[(((itF g.fNext z.toNat q):Nat):Int).toNat]!).toNat]!)).1).length))) 69 (yI k)∧out_1=(backTo s g.qY g.fNext z.toNat q)∧((k:Int)≤(((xB s (g.qY[(from_[(((itF g.fNext z.toNat q):Nat):Int).toNat]!).toNat]!)).1).length))∧(∀ j,j < k→¬ xN s (g.qY[((from_[((((itF g.fNext z.toNat q):Nat):Int)).toNat]!).toNat)]!) ((xB s (g.qY[((from_[((((itF g.fNext z.toNat q):Nat):Int)).toNat]!).toNat)]!)).1[j]!)=(g.qY[(itF g.fNext z.toNat q)]!,0))∧m' =((((xB s (g.qY[(from_[(((itF g.fNext z.toNat q):Nat):Int).toNat]!).toNat]!)).1).length) - (k:Int)).toNat∧Fresh w.heap.size [Qz,P_k]∧St w w62 [.box b29 [.slice a30 (((g.qY[(from_[(((itF g.fNext z.toNat q):Nat):Int).toNat]!).toNat]!).qA).length) c31,.slice a32 (((g.qY[(from_[(((itF g.fNext z.toNat q):Nat):Int).toNat]!).toNat]!).qE).length) c33,.slice a34 (((g.qY[(from_[(((itF g.fNext z.toNat q):Nat):Int).toNat]!).toNat]!).qC).length) c35] 38,rr a_out_1 yB Q7 22 1 Xe,rr (aa b5 0) g.qY.length g.qY.length 2 1 (from_.map (Value.int .i64)),.box b3 [.slice (aa b26 o27) g.qY.length QJ,.slice agNext g.fNext.length cgNext] 59,.box b1 (yS s qB qy qL qI) 36] [zi true P_k (xs59.drop (k * 1)) (((xB s (g.qY[(from_[(((itF g.fNext z.toNat q):Nat):Int).toNat]!).toNat]!)).1).drop k),cellsF B60 (.slice ra49a (((xB s (g.qY[(from_[(((itF g.fNext z.toNat q):Nat):Int).toNat]!).toNat]!)).1).length) rc49a) xs59,sF true G56 ra49a rc49a ((xB s (g.qY[(from_[(((itF g.fNext z.toNat q):Nat):Int).toNat]!).toNat]!)).1),sF false F36 a30 c31 ((g.qY[(from_[(((itF g.fNext z.toNat q):Nat):Int).toNat]!).toNat]!).qA),sF false F37 a32 c33 ((g.qY[(from_[(((itF g.fNext z.toNat q):Nat):Int).toNat]!).toNat]!).qE),sF false F38 a34 c35 ((g.qY[(from_[(((itF g.fNext z.toNat q):Nat):Int).toNat]!).toNat]!).qC),atF b26 (o27+(from_[(((itF g.fNext z.toNat q):Nat):Int).toNat]! :Int).toNat * 3) [.slice a30 (((g.qY[(from_[(((itF g.fNext z.toNat q):Nat):Int).toNat]!).toNat]!).qA).length) c31,.slice a32 (((g.qY[(from_[(((itF g.fNext z.toNat q):Nat):Int).toNat]!).toNat]!).qE).length) c33,.slice a34 (((g.qY[(from_[(((itF g.fNext z.toNat q):Nat):Int).toNat]!).toNat]!).qC).length) c35],zi true Qz Xe out_1,sF false qZ qB qy s.qw,sF false xE qL qI s.qx,sF false FgStates (aa b26 o27) QJ g.qY,sF false FgNext agNext cgNext g.fNext]) (((((xB s (g.qY[(from_[(((itF g.fNext z.toNat q):Nat):Int).toNat]!).toNat]!)).1).length) - (0:Int)).toNat) ⟨_,zW,zt,zL,(backTo s g.qY g.fNext z.toNat q),Qr,jR,0,P61,uE9,(by rfl),qf,(by exact fun j hj=>by omega),rfl,(N.pick [1,0]),H.pick [1,2,3,4,5] [0,1,2,4,5,6,7,8,9,10,11,12]⟩ ?_
  clear H N
  rintro m' ρ w63 ⟨xU,a_out_1,yB,Q7,out_1,Xe,Qz,k,P_k,rfl,rfl,i0,b1,rfl,N,H⟩
  have hn_out:=H.zh (α:=yLI) 1 rfl 7 rfl qj
  refine zcr (sp (.bool (decide ((k:Int) < (((xB s (g.qY[(from_[(((itF g.fNext z.toNat q):Nat):Int).toNat]!).toNat]!)).1).length)))) (zjn (xQ (cD rfl (fun h64=>?_) (fun h64=>?_)))))
  ·skip
   refine qU (t_n (xQ (qX (zcr ?_))))
   obtain ⟨b65,o66,rfl⟩:=H.addr 2 rfl qf
   obtain ⟨ae68,ce68,Fe68,P69,N,H⟩:=H.drainList 1 rfl 0 rfl ((N.pick [1,0]):Fresh w.heap.size [P_k,Qz]) k k qf qf qf
   refine oI rfl rfl (oL rfl (H.xW 1 rfl 0 rfl) (sp (.slice ae68 ((((xB s (g.qY[(from_[(((itF g.fNext z.toNat q):Nat):Int).toNat]!).toNat]!)).1)[k]!).length) ce68) (zjc (sw (zn (yS s qB qy qL qI) isAgg36 sizeOf36 rfl (qF (H.cells 4 rfl) 0 3) ?_)))))
   refine sw (zn [.slice a30 (((g.qY[(from_[(((itF g.fNext z.toNat q):Nat):Int).toNat]!).toNat]!).qA).length) c31,.slice a32 (((g.qY[(from_[(((itF g.fNext z.toNat q):Nat):Int).toNat]!).toNat]!).qE).length) c33,.slice a34 (((g.qY[(from_[(((itF g.fNext z.toNat q):Nat):Int).toNat]!).toNat]!).qC).length) c35] isAgg38 sizeOf38 rfl (qF (H.cells 0 rfl) 0 3) (sp (.slice ae68 ((((xB s (g.qY[(from_[(((itF g.fNext z.toNat q):Nat):Int).toNat]!).toNat]!)).1)[k]!).length) ce68) ?_))
   obtain ⟨cc1,cc2⟩:=cho_ok (k:=k) p0 ks1 qf
   have sz73:=H.base.size
   have lt74:=H.ltN (L:=[Fe68,P69,Qz]) [0,2,10]
   refine sw (oc (step_ok _ s (g.qY[(from_[(((itF g.fNext z.toNat q):Nat):Int).toNat]!).toNat]!) (((xB s (g.qY[(from_[(((itF g.fNext z.toNat q):Nat):Int).toNat]!).toNat]!)).1)[k]!) (H.get 11 rfl).1 (H.get 12 rfl).1 (H.get 6 rfl).1 (H.get 7 rfl).1 (H.get 8 rfl).1 (H.get 0 rfl).1 qg qg qg qg) ?_)
   rintro _ w71 ⟨ra70aAlive,rn70aAlive,rc70aAlive,ra70aBags,rn70aBags,rc70aBags,rx70aBags,rF70aBags,ra70aAround,rn70aAround,rc70aAround,rfl,M,K⟩ _
   replace N:=N.merge sz73 lt74 M
   replace H:=H.merge K M
   obtain rfl:=H.rowNB 0 rfl
   obtain rfl:=H.zh (α:=yLI) 1 rfl 0 rfl qj
   obtain rfl:=H.Vq 2 rfl
   refine sps [.tuple #[.agg #[.slice ra70aAlive ((((xN s (g.qY[(from_[(((itF g.fNext z.toNat q):Nat):Int).toNat]!).toNat]!) (((xB s (g.qY[(from_[(((itF g.fNext z.toNat q):Nat):Int).toNat]!).toNat]!)).1)[k]!)).1).qA).length) rc70aAlive,.slice ra70aBags ((((xN s (g.qY[(from_[(((itF g.fNext z.toNat q):Nat):Int).toNat]!).toNat]!) (((xB s (g.qY[(from_[(((itF g.fNext z.toNat q):Nat):Int).toNat]!).toNat]!)).1)[k]!)).1).qE).length) rc70aBags,.slice ra70aAround ((((xN s (g.qY[(from_[(((itF g.fNext z.toNat q):Nat):Int).toNat]!).toNat]!) (((xB s (g.qY[(from_[(((itF g.fNext z.toNat q):Nat):Int).toNat]!).toNat]!)).1)[k]!)).1).qC).length) rc70aAround],yI ((xN s (g.qY[(from_[(((itF g.fNext z.toNat q):Nat):Int).toNat]!).toNat]!) (((xB s (g.qY[(from_[(((itF g.fNext z.toNat q):Nat):Int).toNat]!).toNat]!)).1)[k]!)).2)],.agg #[.slice ra70aAlive ((((xN s (g.qY[(from_[(((itF g.fNext z.toNat q):Nat):Int).toNat]!).toNat]!) (((xB s (g.qY[(from_[(((itF g.fNext z.toNat q):Nat):Int).toNat]!).toNat]!)).1)[k]!)).1).qA).length) rc70aAlive,.slice ra70aBags ((((xN s (g.qY[(from_[(((itF g.fNext z.toNat q):Nat):Int).toNat]!).toNat]!) (((xB s (g.qY[(from_[(((itF g.fNext z.toNat q):Nat):Int).toNat]!).toNat]!)).1)[k]!)).1).qE).length) rc70aBags,.slice ra70aAround ((((xN s (g.qY[(from_[(((itF g.fNext z.toNat q):Nat):Int).toNat]!).toNat]!) (((xB s (g.qY[(from_[(((itF g.fNext z.toNat q):Nat):Int).toNat]!).toNat]!)).1)[k]!)).1).qC).length) rc70aAround],yI ((xN s (g.qY[(from_[(((itF g.fNext z.toNat q):Nat):Int).toNat]!).toNat]!) (((xB s (g.qY[(from_[(((itF g.fNext z.toNat q):Nat):Int).toNat]!).toNat]!)).1)[k]!)).2)] ?_
   refine sw (zf H ti38 [yN,yN,yN] fun b78 w79 H=>?_)
   refine sw (zB H 0 [.slice ra70aAlive ((((xN s (g.qY[(from_[(((itF g.fNext z.toNat q):Nat):Int).toNat]!).toNat]!) (((xB s (g.qY[(from_[(((itF g.fNext z.toNat q):Nat):Int).toNat]!).toNat]!)).1)[k]!)).1).qA).length) rc70aAlive,.slice ra70aBags ((((xN s (g.qY[(from_[(((itF g.fNext z.toNat q):Nat):Int).toNat]!).toNat]!) (((xB s (g.qY[(from_[(((itF g.fNext z.toNat q):Nat):Int).toNat]!).toNat]!)).1)[k]!)).1).qE).length) rc70aBags,.slice ra70aAround ((((xN s (g.qY[(from_[(((itF g.fNext z.toNat q):Nat):Int).toNat]!).toNat]!) (((xB s (g.qY[(from_[(((itF g.fNext z.toNat q):Nat):Int).toNat]!).toNat]!)).1)[k]!)).1).qC).length) rc70aAround] sizeOf38 fun w80 H=>?_)
   refine sp (yI ((xN s (g.qY[(from_[(((itF g.fNext z.toNat q):Nat):Int).toNat]!).toNat]!) (((xB s (g.qY[(from_[(((itF g.fNext z.toNat q):Nat):Int).toNat]!).toNat]!)).1)[k]!)).2)) (zjn (xQ ?_))
   refine vT rfl H fun H=>rtp 0 (yI ((xN s (g.qY[(from_[(((itF g.fNext z.toNat q):Nat):Int).toNat]!).toNat]!) (((xB s (g.qY[(from_[(((itF g.fNext z.toNat q):Nat):Int).toNat]!).toNat]!)).1)[k]!)).2)) H ?_
   refine rtp 1 (.bool (((xN s (g.qY[(from_[(((itF g.fNext z.toNat q):Nat):Int).toNat]!).toNat]!) (((xB s (g.qY[(from_[(((itF g.fNext z.toNat q):Nat):Int).toNat]!).toNat]!)).1)[k]!)).2:Int) == 0)) H ?_
   refine rtp 2 (.bool (((xN s (g.qY[(from_[(((itF g.fNext z.toNat q):Nat):Int).toNat]!).toNat]!) (((xB s (g.qY[(from_[(((itF g.fNext z.toNat q):Nat):Int).toNat]!).toNat]!)).1)[k]!)).2:Int) == 0)) H ?_
   cases h82:(((xN s (g.qY[(from_[(((itF g.fNext z.toNat q):Nat):Int).toNat]!).toNat]!) (((xB s (g.qY[(from_[(((itF g.fNext z.toNat q):Nat):Int).toNat]!).toNat]!)).1)[k]!)).2:Int) == 0)
   ·skip
    replace h82:=ne_of_beq_false h82
    refine zT [3,4,5,6,7,8,9] 7 (H) (rtp 10 (.bool false) H ?_)
    refine xO qh (t_n (xK false rfl (fun h=>absurd h qj) (fun _=>qU (b_n (t_n (xY (sw (zC k 1 rfl rfl qf (sp (yI (k+1)) (xZ (xf (m' :=((((xB s (g.qY[(from_[(((itF g.fNext z.toNat q):Nat):Int).toNat]!).toNat]!)).1).length) - ((k+1):Int)).toNat) qf ⟨_,a_out_1,yB,Q7,(backTo s g.qY g.fNext z.toNat q),Xe,Qz,k+1,P69,uE9,?_,?_,?_,rfl,(N.pick [3,2]),H.pick [4,5,6,7,8] [3,5,6,7,8,9,10,11,12,13,14,15]⟩)))))))))))
    · rfl
    · omega
    · first | exact betw_step b1 (.inl ql) | exact betw_step b1 (.inr ql)
   replace h82:=eq_of_beq h82
   refine rg 3 (.agg #[.slice ra70aAlive ((((xN s (g.qY[(from_[(((itF g.fNext z.toNat q):Nat):Int).toNat]!).toNat]!) (((xB s (g.qY[(from_[(((itF g.fNext z.toNat q):Nat):Int).toNat]!).toNat]!)).1)[k]!)).1).qA).length) rc70aAlive,.slice ra70aBags ((((xN s (g.qY[(from_[(((itF g.fNext z.toNat q):Nat):Int).toNat]!).toNat]!) (((xB s (g.qY[(from_[(((itF g.fNext z.toNat q):Nat):Int).toNat]!).toNat]!)).1)[k]!)).1).qE).length) rc70aBags,.slice ra70aAround ((((xN s (g.qY[(from_[(((itF g.fNext z.toNat q):Nat):Int).toNat]!).toNat]!) (((xB s (g.qY[(from_[(((itF g.fNext z.toNat q):Nat):Int).toNat]!).toNat]!)).1)[k]!)).1).qC).length) rc70aAround]) 82 (Qe (cs:=[.slice ra70aAlive ((((xN s (g.qY[(from_[(((itF g.fNext z.toNat q):Nat):Int).toNat]!).toNat]!) (((xB s (g.qY[(from_[(((itF g.fNext z.toNat q):Nat):Int).toNat]!).toNat]!)).1)[k]!)).1).qA).length) rc70aAlive,.slice ra70aBags ((((xN s (g.qY[(from_[(((itF g.fNext z.toNat q):Nat):Int).toNat]!).toNat]!) (((xB s (g.qY[(from_[(((itF g.fNext z.toNat q):Nat):Int).toNat]!).toNat]!)).1)[k]!)).1).qE).length) rc70aBags,.slice ra70aAround ((((xN s (g.qY[(from_[(((itF g.fNext z.toNat q):Nat):Int).toNat]!).toNat]!) (((xB s (g.qY[(from_[(((itF g.fNext z.toNat q):Nat):Int).toNat]!).toNat]!)).1)[k]!)).1).qC).length) rc70aAround]) isAgg38 sizeOf38 rfl (fun _ h=>qF (h.cells 0 rfl) 0 3)) H ?_
   refine gF 4 rfl rfl H ?_
   refine gL 5 rfl rfl (fun _ h=>h.cell 7 rfl rfl) H ?_
   refine rgp 6 (yI (((itF g.fNext z.toNat q):Nat):Int)) 82 H ?_
   obtain ⟨ae83Alive,ce83Alive,Fe83Alive,ae83Bags,ce83Bags,Fe83Bags,ae83Around,ce83Around,Fe83Around,H⟩:=H.YJ 14 rfl (((itF g.fNext z.toNat q):Nat):Int) ((((itF g.fNext z.toNat q):Nat):Int).toNat) qf qf qf
   refine gI 7 rfl rfl rfl (H.pick [0,1,2,3,4,5,6,7,8] [4,5,6,7,8,9,10,11,12,13,14,15,16,17,18,19]) ?_
   refine ji [8] qh qm (YE rfl (e:=82) rfl rfl (zn [.slice ae83Alive (((g.qY[(((itF g.fNext z.toNat q):Nat):Int).toNat]!).qA).length) ce83Alive,.slice ae83Bags (((g.qY[(((itF g.fNext z.toNat q):Nat):Int).toNat]!).qE).length) ce83Bags,.slice ae83Around (((g.qY[(((itF g.fNext z.toNat q):Nat):Int).toNat]!).qC).length) ce83Around] isAgg38 sizeOf38 rfl (qF (H.get 3 rfl) 0 3) (⟨H.pick [0,1,2,3,4,5,6,7,8] [4,5,6,7,8,9,10,11,12,13,14,15,16,17,18,19],(ji [9] qh qm (YE rfl (e:=82) rfl rfl ?_ jk))⟩)) jk)
   obtain ⟨G84,hn85,h86⟩:=H.rowIsB 1 rfl
   obtain ⟨G87,hn88,h89⟩:=H.rowIsR (α:=yLI) 2 rfl 4 rfl qj
   obtain ⟨G90,hn91,h92⟩:=H.rowIsI 3 rfl
   refine oq (sameState_ok _ ((xN s (g.qY[(from_[(((itF g.fNext z.toNat q):Nat):Int).toNat]!).toNat]!) (((xB s (g.qY[(from_[(((itF g.fNext z.toNat q):Nat):Int).toNat]!).toNat]!)).1)[k]!)).1) (g.qY[(((itF g.fNext z.toNat q):Nat):Int).toNat]!) h86 h89 h92 (H.get 0 rfl).1 (H.get 1 rfl).1 (H.get 2 rfl).1) H fun w94 H=>⟨H.pick [0,1,2,3,4,5,6,7,8] [4,5,6,7,8,9,10,11,12,13,14,15,16,17,18,19],?_⟩
   refine rtp 10 (.bool (decide (((xN s (g.qY[(from_[(((itF g.fNext z.toNat q):Nat):Int).toNat]!).toNat]!) (((xB s (g.qY[(from_[(((itF g.fNext z.toNat q):Nat):Int).toNat]!).toNat]!)).1)[k]!)).1)=(g.qY[(((itF g.fNext z.toNat q):Nat):Int).toNat]!)))) (H.pick [0,1,2,3,4,5,6,7,8] [4,5,6,7,8,9,10,11,12,13,14,15,16,17,18,19]) ?_
   refine xO qh (t_n (cD rfl (fun h96=>?_) (fun h96=>?_)))
   ·skip
    refine zcr (sps [.slice a_out_1 yB Q7,.slice ae68 ((((xB s (g.qY[(from_[(((itF g.fNext z.toNat q):Nat):Int).toNat]!).toNat]!)).1)[k]!).length) ce68] (sw (zG H underlying27 ti22 [.slice ae68 ((((xB s (g.qY[(from_[(((itF g.fNext z.toNat q):Nat):Int).toNat]!).toNat]!)).1)[k]!).length) ce68] fun b97 w98 H=>sw (zQ H 6 rfl 0 rfl underlying27 ti22 rfl qj rfl rfl rfl (by simp [Value.oneCell',Value.cells]) qp qf fun a99 c100 w101 H=>?_))))
    replace H:=H.jW 15 rfl 5 rfl
    replace N:Fresh w.heap.size [(Qz++Fe68),rF70aBags,P69]:=(N.pick [3,1,0,2]).join
    refine sp (.slice a99 (yB+1) c100) (zjn (c_exit (b_o rfl (t_x (t_x (b_x (t_n (xY (sps [.slice (aa b5 0) g.qY.length g.qY.length,yI (((itF g.fNext z.toNat q):Nat):Int)] (oI rfl rfl (oL rfl (H.rowInt 7 rfl (iv:=(((itF g.fNext z.toNat q):Nat):Int)) (i:=((((itF g.fNext z.toNat q):Nat):Int).toNat)) qf qf) (sp (yI (from_[(((itF g.fNext z.toNat q):Nat):Int).toNat]!)) (xZ (b_n ?_))))))))))))))
    refine xf (m' :=(itF g.fNext z.toNat (q+1))) (by exact fk) ⟨_,from_[(((itF g.fNext z.toNat q):Nat):Int).toNat]!,a99,yB+1,c100,((backTo s g.qY g.fNext z.toNat q)++[((xB s (g.qY[(from_[(((itF g.fNext z.toNat q):Nat):Int).toNat]!).toNat]!)).1)[k]!]),Xe++[.slice ae68 ((((xB s (g.qY[(from_[(((itF g.fNext z.toNat q):Nat):Int).toNat]!).toNat]!)).1)[k]!).length) ce68],(Qz++Fe68),q+1,uE5,?_,?_,?_,rfl,(N.pick [0]),H.pick [6,7,8,9] [0,17,18,19,20]⟩
    · exact fe
    · exact back_step fa b1 qf ql ql
    · exact kz_step kz q0
   refine qU (b_n (t_n (xY (sw (zC k 1 rfl rfl qf (sp (yI (k+1)) (xZ (xf (m' :=((((xB s (g.qY[(from_[(((itF g.fNext z.toNat q):Nat):Int).toNat]!).toNat]!)).1).length) - ((k+1):Int)).toNat) qf ⟨_,a_out_1,yB,Q7,(backTo s g.qY g.fNext z.toNat q),Xe,Qz,k+1,P69,uE9,?_,?_,?_,rfl,(N.pick [3,2]),H.pick [4,5,6,7,8] [7,9,10,11,12,13,14,15,16,17,18,19]⟩))))))))
   · rfl
   · omega
   · first | exact betw_step b1 (.inl ql) | exact betw_step b1 (.inr ql)
  obtain ⟨x,hx,he⟩:=wb.2
  exact absurd he (b1 x qf)
 replace h25:=xq h25
 refine zx4 (zcr (sp (.slice zW zt zL) (sw (o_callF #[.slice zW zt zL] rfl rfl call126 (revRow revL H 0 rfl 0 rfl) ?_))))
 rintro _ w102 ⟨F103,rfl,hF104,H⟩
 replace N:Fresh w.heap.size [F103]:=Fresh.perm N hF104
 refine zjc (sps [.slice zW zt zL,.slice zW zt zL,yI 0] (zjr ?_))
 have H0:=H
 obtain ⟨G105,hg107,hn106,H⟩:=H.Qs (α:=yLI) 0 rfl 0 rfl qj
 replace N:Fresh w.heap.size [G105]:=Fresh.ice N H0 0 hg107.1 hg107.2 (H0.jQ [])
 clear H0
 obtain rfl:=H.isLen 0 rfl
 refine ret2 (.slice zW (((backTo s g.qY g.fNext z.toNat q).reverse).length) zL) (yI 0) rfl rfl rfl ⟨_,rfl,?_,H.base⟩
 rw [path_end qf kz]
 exact ⟨zW,zL,G105,rfl,N,H.pick [] [0]⟩
theorem specSH_ok (w:World) (s:qG) (t:qJ) {qB:yOA} {qZ:yLN} {qL:yOA} {xE:yLN} {qV:yOA} {xR:yLN} {xn:yOA} {zy:yLN} {qN:yOA} {xH:yLN} (xe:qO.rep w qZ [.slice qB s.qw.length qy] s.qw) (xJ:qO.rep w xE [.slice qL s.qx.length qI] s.qx) (zl:qO.rep w xR [.slice qV t.qA.length qR] t.qA) (zK:qO.rep w zy [.slice xn t.qE.length xk] t.qE) (xP:qO.rep w xH [.slice qN t.qC.length qM] t.qC):Calls Tryz.prog 47 #[.agg #[yI s.xC,.slice qB s.qw.length qy,.slice qL s.qx.length qI],.agg #[.slice qV t.qA.length qR,.slice xn t.qE.length xk,.slice qN t.qC.length qM]] w (Ret (fun v w' =>∃ (ra0:yOA) (rc0:Nat) (rF0:yLN),v=.tuple #[.slice ra0 (((zX s t).1).length) rc0,yI ((zX s t).2)]∧Fresh w.heap.size [rF0]∧St w w' [] [sF true rF0 ra0 rc0 ((zX s t).1)]) w):=by
 refine en func47 ntmps47 ?_
 have H:=(((((St.start w).arg xP).arg zK).arg zl).arg xJ).arg xe
 have zY:=qK xe
 have jb:=qK xJ
 have Qd:=qK zl
 have QQ:=qK zK
 have jP:=qK xP
 clear xe xJ zl zK xP
 have N:=Fresh.nil w.heap.size
 refine zcr (sw (vH H (yS s qB qy qL qI) fun b1 w2 H=>sw (vH H (yT t qV qR xn xk qN qM) fun b3 w4 H=>sps [yN,yI 0] (zjcc (sw (oq (l03Both_ok _ s t (qF (H.cells 1 rfl) 0 3) (H.get 0 rfl).1 (H.get 1 rfl).1 (qF (H.cells 0 rfl) 0 3) (H.get 2 rfl).1 (H.get 3 rfl).1 (H.get 4 rfl).1) H fun w6 H=>sp (.bool (!(dec (jO s∧zF s t)))) (zjn (cQ rfl (fun h8=>?_) (fun h8=>?_)))))))))
 ·skip
  refine zcr (sw (vG H underlying27 ti22 fun b9 w10 H=>sps [.slice (aa b9 0) 0 0,yI 1] (zjr (t_r ?_))))
  replace H:=H.boxRow 0 rfl 1 0 rfl qj
  replace H:=H.vI (α:=yLI)
  have H0:=H
  obtain ⟨G11,hg13,hn12,H⟩:=H.Qs (α:=yLI) 0 rfl 0 rfl qj
  replace N:Fresh w.heap.size [G11]:=Fresh.ice N.emp H0 0 hg13.1 hg13.2 (H0.jQ [])
  clear H0
  refine ret2 (.slice (aa b9 0) 0 0) (yI 1) rfl rfl rfl ⟨_,rfl,?_,H.base⟩
  rw [sh_1' ‹_›]
  exact ⟨(aa b9 0),0,G11,rfl,N,H.pick [] [0]⟩
 have k0:=(‹jO s∧zF s t›:jO s∧zF s t)
 have k1:=k0.1
 have k2:=k0.2
 obtain ⟨q7,q8,q9,q10⟩:=k2.sizes k1.1
 have q13:=fun k hk=>Nat.le_trans (q10 k hk) (by decide:8≤1000000)
 refine qU (t_n (zcr (sw (vF #[pp b1 0,pp b3 0] rfl rfl call85 (en func85 ntmps85 ?_)))))
 refine zcr (sw (zf H ti59 [yN,yN] fun b14 w15 H=>sps [yN,yI 0] (zjc (sp (pp b3 0) ?_))))
 have sz19:=H.base.size
 refine sw (oc (l02Own_ok _ t (qF (H.cells 1 rfl) 0 3) (H.get 2 rfl).1 (H.get 3 rfl).1 (H.get 4 rfl).1 qg qg qg qg) ?_)
 rintro _ w17 ⟨ra16Alive,rn16Alive,rc16Alive,ra16Bags,rn16Bags,rc16Bags,rx16Bags,rF16Bags,ra16Around,rn16Around,rc16Around,rfl,M,K⟩ _
 replace N:=N.merge sz19 qm M
 replace H:=H.merge K M
 obtain rfl:=H.rowNB 0 rfl
 obtain rfl:=H.zh (α:=yLI) 1 rfl 0 rfl qj
 obtain rfl:=H.Vq 2 rfl
 refine sw (zG H underlying47 ti38 (yT t ra16Alive rc16Alive ra16Bags rc16Bags ra16Around rc16Around) fun b24 w25 H=>sw (jB [.slice (aa b24 0) 1 1,yN] [(0,.slice (aa b24 0) 1 1)] (sw (zf H ti59 [yN,yN] fun b26 w27 H=>sw (zB H 0 [.slice (aa b24 0) 1 1,yN] sizeOf59 fun w28 H=>zjc (sw (zG H underlying22 ti2 [yI (-1)] fun b29 w30 H=>sp (.slice (aa b29 0) 1 1) (zjcc (sp (yI 0) ?_)))))))))
 refine zjn (qX ?_)
 replace H:=H.boxRowI 0 [(-1)] 1
 replace H:=H.boxRow 2 rfl 3 1 rfl qj
 replace H:=H.vI (α:=qJ)
 obtain ⟨G31,N,hn32,H⟩:=H.freezeB 3 rfl N (H.jQ [1])
 have H0:=H
 obtain ⟨G33,hg35,hn34,H⟩:=H.Qs (α:=yLI) 4 rfl 2 rfl qj
 replace N:Fresh w.heap.size [G33,G31]:=Fresh.ice (N.pick [1,0]) H0 4 hg35.1 hg35.2 (H0.jQ [0])
 clear H0
 obtain ⟨G36,N,hn37,H⟩:=H.vS 5 rfl N (H.jQ [0,1])
 replace H:=H.YD 3 rfl 2 rfl 1 rfl 0 rfl
 replace N:Fresh w.heap.size [([]++(G31++G33++G36))]:=(N.emp.pick [3,2,1,0]).join.join.swap.join
 replace H:St _ _ [rr (aa b29 0) 1 1 2 1 ([(-1)].map (Value.int .i64)),.box b26 [.slice (aa b24 0) 1 1,yN] 59,rr (aa b24 0) 1 1 38 3 (yT t ra16Alive rc16Alive ra16Bags rc16Bags ra16Around rc16Around),rr none 0 0 0 1 [],rr none 0 0 0 1 [],rr none 0 0 0 1 [],.box b14 [yN,yN] 59,.box b3 (yT t qV qR xn xk qN qM) 38,.box b1 (yS s qB qy qL qI) 36] [zi true ([]++(G31++G33++G36)) (yT t ra16Alive rc16Alive ra16Bags rc16Bags ra16Around rc16Around) [t],sF true G36 ra16Around rc16Around t.qC,sF true G33 ra16Bags rc16Bags t.qE,sF true G31 ra16Alive rc16Alive t.qA,zi true [] [] ([]:List qJ),zi true rF16Bags rx16Bags t.qE,sF false qZ qB qy s.qw,sF false xE qL qI s.qx,sF false xR qV qR t.qA,sF false zy xn xk t.qE,sF false xH qN qM t.qC]:=H
 replace H:=H.nilRow 22 1
 replace H:=H.vI (α:=yLI)
 refine zu (fun m' ρ w38=>∃ (xU:Env) (a_from:yOA) (n_from:Nat) (c_from:Nat) (from_:yLI) (i:Nat) (yw:yOA) (vP:Nat) (jJ:Nat) (g_States:List qJ) (XF:List Value) (XO:yLN) (jY:yOA) (jD:Nat) (jX:Nat) (g_Next:yLL) (Xh:List Value) (jG:yLN),ρ=upd (upd (upd (upd (upd xU 0 (pp b1 0)) 4 (pp b14 0)) 7 (pp b26 0)) 8 (.slice a_from n_from c_from)) 9 (yI i)∧(grRes s t=grGo s (302 - i) i g_States g_Next)∧(∀ u∈g_States,zF s u)∧(0 < g_States.length∧g_States.length≤300)∧(g_Next.length=i)∧(i≤g_States.length)∧(GrOk g_States g_Next)∧(from_.length=g_States.length)∧(FromOk g_States g_Next from_)∧m' =(301 - i)∧Fresh w.heap.size [jG]∧St w w38 [rr jY jD jX 22 1 Xh,rr a_from n_from c_from 2 1 (from_.map (Value.int .i64)),.box b26 [.slice yw vP jJ,.slice jY jD jX] 59,rr yw vP jJ 38 3 XF,.box b14 [yN,yN] 59,.box b3 (yT t qV qR xn xk qN qM) 38,.box b1 (yS s qB qy qL qI) 36] [zi true jG Xh g_Next,zi true XO XF g_States,sF false qZ qB qy s.qw,sF false xE qL qI s.qx,sF false xR qV qR t.qA,sF false zy xn xk t.qE,sF false xH qN qM t.qC]) ((301 - 0)) ⟨_,(aa b29 0),1,1,[(-1)],0,(aa b24 0),1,1,[t],(yT t ra16Alive rc16Alive ra16Bags rc16Bags ra16Around rc16Around),([]++(G31++G33++G36)),none,0,0,([]:yLL),[],[],uE5,(by rfl),(by exact fun u hu=>by obtain rfl:=List.mem_singleton.1 hu;exact k2),qm,(by rfl),qm,(by exact GrOk.start t),(by rfl),(by exact FromOk.start t),rfl,(N.emp.pick [0]),H.pick [0,1,2,3,7,8,9] [0,1,7,8,9,10,11]⟩ ?_
 clear H N
 rintro m' ρ w39 ⟨xU,a_from,n_from,c_from,from_,i,yw,vP,jJ,g_States,XF,XO,jY,jD,jX,g_Next,Xh,jG,rfl,kr,ka,kl,kn,ki,ko,kf,kfo,rfl,N,H⟩
 have hn_from:=H.Vq 1 rfl
 have hn_g_States:=H.zh (α:=qJ) 3 rfl 1 rfl qj
 have hn_g_Next:=H.zh (α:=yLI) 0 rfl 0 rfl qj
 refine zcc (sp (yI i) (oF rfl (oL rfl (H.cell 2 rfl rfl) (oN rfl (sp (.bool (decide ((i:Int) < vP))) (zjn (cD rfl (fun h40=>?_) (fun h40=>?_))))))))
 ·skip
  refine qU (t_n (xQ (qX (zcr (oF rfl (oL rfl (H.cell 2 rfl rfl) (sp (yI i) ?_)))))))
  obtain ⟨b41,rfl⟩:=H.Qh 3 rfl qf
  obtain ⟨ae42Alive,ce42Alive,Fe42Alive,ae42Bags,ce42Bags,Fe42Bags,ae42Around,ce42Around,Fe42Around,hx43,H⟩:=H.rowel_StateD 3 rfl 1 rfl (iv:=i) i qf qf
  refine oI rfl rfl (sw (zn [.slice ae42Alive (((g_States[i]!).qA).length) ce42Alive,.slice ae42Bags (((g_States[i]!).qE).length) ce42Bags,.slice ae42Around (((g_States[i]!).qC).length) ce42Around] isAgg38 sizeOf38 rfl (qF (fun j v hj=>H.rowGet 3 rfl (hx43 j v hj)) 0 3) (sw (zf H ti38 [yN,yN,yN] fun b44 w45 H=>sw (zB H 0 [.slice ae42Alive (((g_States[i]!).qA).length) ce42Alive,.slice ae42Bags (((g_States[i]!).qE).length) ce42Bags,.slice ae42Around (((g_States[i]!).qC).length) ce42Around] sizeOf38 fun w46 H=>zjc ?_)))))
  refine sp (pp b1 0) ?_
  have ks:=ka (g_States[i]!) (mem_at (k:=i) qf rfl)
  have nl:=succ_len s (g_States[i]!)
  have sz50:=H.base.size
  have lt51:=H.ltN (L:=[jG]) [3]
  refine sw (oc (l03Succ_ok _ s (g_States[i]!) (qF (H.cells 7 rfl) 0 3) (H.get 5 rfl).1 (H.get 6 rfl).1 (qF (H.cells 0 rfl) 0 3) (H.get 0 rfl).1 (H.get 1 rfl).1 (H.get 2 rfl).1 qg qg) ?_)
  rintro _ w48 ⟨ra47a,rn47a,rc47a,rx47a,rF47a,rfl,M,K⟩ _
  replace N:=N.merge sz50 lt51 M
  replace H:=H.merge K M
  obtain rfl:=H.zh (α:=qJ) 0 rfl 0 rfl qj
  refine sps [.tuple #[.slice ra47a (((qW s (g_States[i]!)).1).length) rc47a,yI ((qW s (g_States[i]!)).2)],.slice ra47a (((qW s (g_States[i]!)).1).length) rc47a,yI ((qW s (g_States[i]!)).2),.slice ra47a (((qW s (g_States[i]!)).1).length) rc47a,yI ((qW s (g_States[i]!)).2)] (zjcc (sps [yI ((qW s (g_States[i]!)).2),.bool (((qW s (g_States[i]!)).2:Int) != 0)] (zjn (xK (((qW s (g_States[i]!)).2:Int) != 0) rfl (fun h53=>?_) (fun h53=>?_)))))
  ·skip
   replace h53:=bne_iff_ne.1 h53
   refine zcr (sw (jB [yN,yN] [] (sps [.slice a_from n_from c_from,yI ((qW s (g_States[i]!)).2)] (sw (zB H 6 [yN,yN] sizeOf59 fun w54 H=>sps [.slice a_from n_from c_from,yI ((qW s (g_States[i]!)).2)] (zjr (t_r (zr5 (retC3 H 6 rfl (.slice a_from n_from c_from) (yI ((qW s (g_States[i]!)).2)) rfl isAgg59 sizeOf59 rfl rfl rfl ⟨_,rfl,?_⟩)))))))))
   replace H:=H.erases [6,5,4,2,1,0]
   dsimp only [vU,List.eraseIdx] at H
   refine sps [.tuple #[.agg #[yN,yN],.slice a_from n_from c_from,yI ((qW s (g_States[i]!)).2)],.agg #[yN,yN],.slice a_from n_from c_from,yI ((qW s (g_States[i]!)).2)] (sw (zf H ti59 [yN,yN] fun b55 w56 H=>sw (zB H 0 [yN,yN] sizeOf59 fun w57 H=>sps [.slice a_from n_from c_from,yI ((qW s (g_States[i]!)).2)] (zjcc (sps [yI ((qW s (g_States[i]!)).2),.bool (((qW s (g_States[i]!)).2:Int) != 0)] (zjn ?_))))))
   refine xK (((qW s (g_States[i]!)).2:Int) != 0) rfl (fun h58=>?_) (fun h=>absurd (xq h) h53)
   replace h58:=bne_iff_ne.1 h58
   refine zcr (sw (vG H underlying27 ti22 fun b59 w60 H=>sps [yI ((qW s (g_States[i]!)).2),.slice (aa b59 0) 0 0,yI ((qW s (g_States[i]!)).2)] (zjr (t_r ?_))))
   replace H:=H.boxRow 0 rfl 1 0 rfl qj
   replace H:=H.vI (α:=yLI)
   have H0:=H
   obtain ⟨G61,hg63,hn62,H⟩:=H.Qs (α:=yLI) 0 rfl 0 rfl qj
   replace N:Fresh w.heap.size [G61,rF47a,jG]:=Fresh.ice N.emp H0 0 hg63.1 hg63.2 (H0.jQ [1,5])
   clear H0
   refine ret2 (.slice (aa b59 0) 0 0) (yI ((qW s (g_States[i]!)).2)) rfl rfl rfl ⟨_,rfl,?_,H.base⟩
   rw [sh_c' (ex_of k0 (kr.trans (gr_code qf qf ql))).2 (by first | assumption | decide)]
   exact ⟨(aa b59 0),0,G61,rfl,(N.pick [0]),H.pick [] [0]⟩
  replace h53:=xq h53
  refine qU (t_n (zcr (sw (vG H underlying22 ti2 fun b64 w65 H=>sp (.slice (aa b64 0) 0 0) (zjcc (sp (yI 0) (zjn (qX ?_))))))))
  have H0:=H
  obtain ⟨G66,hg68,hn67,H⟩:=H.Qs (α:=qJ) 1 rfl 0 rfl qj
  replace N:Fresh w.heap.size [G66,jG]:=Fresh.ice N H0 1 hg68.1 hg68.2 (H0.jQ [4])
  clear H0
  replace H:=H.boxRowI 0 [] 0
  refine zu (fun m' ρ w69=>∃ (xU:Env) (Vm:yOA) (Xx:Nat) (Vf:Nat) (from__1:yLI) (a_row:yOA) (n_row:Nat) (c_row:Nat) (row:yLI) (k:Nat) (yj:yOA) (zU:Nat) (yg:Nat) (g_States_1:List qJ) (jZ:List Value) (jK:yLN),ρ=upd (upd (upd (upd (upd (upd (upd (upd xU 0 (pp b1 0)) 4 (pp b14 0)) 7 (pp b26 0)) 8 (.slice Vm Xx Vf)) 9 (yI i)) 11 (.slice ra47a (((qW s (g_States[i]!)).1).length) rc47a)) 13 (.slice a_row n_row c_row)) 14 (yI k)∧from__1=(from_++List.replicate ((zI g_States (qW s (g_States[i]!)).1 k).1.length - g_States.length) (i:Int))∧row=(zI g_States (qW s (g_States[i]!)).1 k).2∧g_States_1=(zI g_States (qW s (g_States[i]!)).1 k).1∧((k:Int)≤(((qW s (g_States[i]!)).1).length))∧m' =((((qW s (g_States[i]!)).1).length) - (k:Int)).toNat∧Fresh w.heap.size [G66,jG]∧St w w69 [rr a_row n_row c_row 2 1 (row.map (Value.int .i64)),.box b44 [.slice ae42Alive (((g_States[i]!).qA).length) ce42Alive,.slice ae42Bags (((g_States[i]!).qE).length) ce42Bags,.slice ae42Around (((g_States[i]!).qC).length) ce42Around] 38,rr jY jD jX 22 1 Xh,rr Vm Xx Vf 2 1 (from__1.map (Value.int .i64)),.box b26 [.slice yj zU yg,.slice jY jD jX] 59,rr yj zU yg 38 3 jZ,.box b14 [yN,yN] 59,.box b3 (yT t qV qR xn xk qN qM) 38,.box b1 (yS s qB qy qL qI) 36] [sF true G66 ra47a rc47a ((qW s (g_States[i]!)).1),sF true Fe42Alive ae42Alive ce42Alive ((g_States[i]!).qA),sF true Fe42Bags ae42Bags ce42Bags ((g_States[i]!).qE),sF true Fe42Around ae42Around ce42Around ((g_States[i]!).qC),zi true jG Xh g_Next,zi true jK jZ g_States_1,sF false qZ qB qy s.qw,sF false xE qL qI s.qx,sF false xR qV qR t.qA,sF false zy xn xk t.qE,sF false xH qN qM t.qC]) (((((qW s (g_States[i]!)).1).length) - (0:Int)).toNat) ⟨_,a_from,n_from,c_from,from_,(aa b64 0),0,0,([]:yLI),0,(aa b41 0),vP,jJ,g_States,XF,XO,uE8,(by exact rep_zero rfl),(by rfl),(by rfl),qf,rfl,N,H.pick [0,2,3,4,5,6,7,8,9] [0,2,3,4,5,6,7,8,9,10,11]⟩ ?_
  clear H N
  rintro m' ρ w70 ⟨xU,Vm,Xx,Vf,from__1,a_row,n_row,c_row,row,k,yj,zU,yg,g_States_1,jZ,jK,rfl,rfl,rfl,rfl,i0,rfl,N,H⟩
  have hn_from:=H.Vq 3 rfl
  have hn_row:=H.Vq 0 rfl
  have hn_g_States:=H.zh (α:=qJ) 5 rfl 5 rfl qj
  obtain ⟨al1,al2,al3⟩:=Yp (S:=g_States) (nx:=(qW s (g_States[i]!)).1) k
  have fq:(from_++List.replicate ((zI g_States (qW s (g_States[i]!)).1 k).1.length - g_States.length) (i:Int)).length=from_.length+((zI g_States (qW s (g_States[i]!)).1 k).1.length - g_States.length):=by simp
  have fr:=kfo.len
  refine zcc (sps [yI k,.slice ra47a (((qW s (g_States[i]!)).1).length) rc47a] (oN rfl (sp (.bool (decide ((k:Int) < (((qW s (g_States[i]!)).1).length)))) (zjn (cD rfl (fun h71=>?_) (fun h71=>?_))))))
  ·skip
   refine qU (t_n (xQ (qX (xQ ?_))))
   refine vT rfl H fun H=>tF 0 rfl rfl H ?_
   refine tL 1 rfl rfl (fun _ h=>h.cell 4 rfl rfl) H ?_
   refine rtp 2 (.slice ra47a (((qW s (g_States[i]!)).1).length) rc47a) H ?_
   refine rtp 3 (yI k) H ?_
   obtain ⟨b73,o74,rfl⟩:=H.addr 0 rfl qf
   obtain ⟨ae76Alive,ce76Alive,Fe76Alive,ae76Bags,ce76Bags,Fe76Bags,VI,VD,Fe76Around,H⟩:=H.YJ 0 rfl k k qf qf qf
   refine tI 4 rfl rfl rfl (H.pick [0,1,2,3,4,5,6,7,8] [4,5,6,7,8,9,10,11,12,13,14]) ?_
   refine ro 5 rfl ?_
   obtain ⟨G77,hn78,h79⟩:=H.rowIsR (α:=qJ) 5 rfl 9 rfl qj
   refine oq (YM (by rw [← hn78]) (l03Find_ok _ ((zI g_States (qW s (g_States[i]!)).1 k).1) (((qW s (g_States[i]!)).1)[k]!) (hn78▸h79) (qF (H.get 3 rfl) 0 3) (H.get 0 rfl).1 (H.get 1 rfl).1 (H.get 2 rfl).1)) H fun w81 H=>⟨H.pick [0,1,2,3,4,5,6,7,8] [4,5,6,7,8,9,10,11,12,13,14],(rtp 6 (yI (firstIdx (fun zz=>decide (((zI g_States (qW s (g_States[i]!)).1 k).1)[zz]! =(((qW s (g_States[i]!)).1)[k]!))) ((zI g_States (qW s (g_States[i]!)).1 k).1).length)) (H.pick [0,1,2,3,4,5,6,7,8] [4,5,6,7,8,9,10,11,12,13,14]) ?_)⟩
   refine xO qh (t_n (zcc (sps [yI (firstIdx (fun zz=>decide (((zI g_States (qW s (g_States[i]!)).1 k).1)[zz]! =(((qW s (g_States[i]!)).1)[k]!))) ((zI g_States (qW s (g_States[i]!)).1 k).1).length),.bool (decide ((firstIdx (fun zz=>decide (((zI g_States (qW s (g_States[i]!)).1 k).1)[zz]! =(((qW s (g_States[i]!)).1)[k]!))) ((zI g_States (qW s (g_States[i]!)).1 k).1).length:Int) < 0))] (zjn (cD rfl (fun h83=>?_) (fun h83=>?_))))))
   ·skip
    refine zcr (oF rfl (oL rfl (H.cell 4 rfl rfl) (oN rfl (sp (yI zU) (zjn (xQ ?_))))))
    refine c_cut (fun ρ w86=>∃ (xU:Env) (a84:yOA) (c85:Nat),ρ=upd (upd (upd (upd (upd (upd (upd (upd (upd xU 0 (pp b1 0)) 4 (pp b14 0)) 7 (pp b26 0)) 8 (.slice Vm Xx Vf)) 9 (yI i)) 11 (.slice (aa b73 o74) (((qW s (g_States[i]!)).1).length) rc47a)) 13 (.slice a_row n_row c_row)) 14 (yI k)) 15 (yI zU)∧Fresh w.heap.size [G66,jG]∧St w w86 [rr a_row n_row c_row 2 1 (((zI g_States (qW s (g_States[i]!)).1 k).2).map (Value.int .i64)),.box b44 [.slice ae42Alive (((g_States[i]!).qA).length) ce42Alive,.slice ae42Bags (((g_States[i]!).qE).length) ce42Bags,.slice ae42Around (((g_States[i]!).qC).length) ce42Around] 38,rr jY jD jX 22 1 Xh,rr Vm Xx Vf 2 1 ((from_++List.replicate ((zI g_States (qW s (g_States[i]!)).1 k).1.length - g_States.length) (i:Int)).map (Value.int .i64)),.box b26 [.slice a84 (zU+1) c85,.slice jY jD jX] 59,rr a84 (zU+1) c85 38 3 (jZ++[.slice ae76Alive (((((qW s (g_States[i]!)).1)[k]!).qA).length) ce76Alive,.slice ae76Bags (((((qW s (g_States[i]!)).1)[k]!).qE).length) ce76Bags,.slice VI (((((qW s (g_States[i]!)).1)[k]!).qC).length) VD]),.box b14 [yN,yN] 59,.box b3 (yT t qV qR xn xk qN qM) 38,.box b1 (yS s qB qy qL qI) 36] [zi true (jK++(Fe76Alive++Fe76Bags++Fe76Around)) (jZ++[.slice ae76Alive (((((qW s (g_States[i]!)).1)[k]!).qA).length) ce76Alive,.slice ae76Bags (((((qW s (g_States[i]!)).1)[k]!).qE).length) ce76Bags,.slice VI (((((qW s (g_States[i]!)).1)[k]!).qC).length) VD]) (((zI g_States (qW s (g_States[i]!)).1 k).1)++[⟨(((qW s (g_States[i]!)).1)[k]!).qA,(((qW s (g_States[i]!)).1)[k]!).qE,(((qW s (g_States[i]!)).1)[k]!).qC⟩]),sF true Fe76Alive ae76Alive ce76Alive ((((qW s (g_States[i]!)).1)[k]!).qA),sF true Fe76Bags ae76Bags ce76Bags ((((qW s (g_States[i]!)).1)[k]!).qE),sF true Fe76Around VI VD ((((qW s (g_States[i]!)).1)[k]!).qC),atF b73 (o74+(k:Int).toNat * 3) [.slice ae76Alive (((((qW s (g_States[i]!)).1)[k]!).qA).length) ce76Alive,.slice ae76Bags (((((qW s (g_States[i]!)).1)[k]!).qE).length) ce76Bags,.slice VI (((((qW s (g_States[i]!)).1)[k]!).qC).length) VD],sF true G66 (aa b73 o74) rc47a ((qW s (g_States[i]!)).1),sF true Fe42Alive ae42Alive ce42Alive ((g_States[i]!).qA),sF true Fe42Bags ae42Bags ce42Bags ((g_States[i]!).qE),sF true Fe42Around ae42Around ce42Around ((g_States[i]!).qC),zi true jG Xh g_Next,sF false qZ qB qy s.qw,sF false xE qL qI s.qx,sF false xR qV qR t.qA,sF false zy xn xk t.qE,sF false xH qN qM t.qC]) ?_ ?_
    ·skip
     refine Qn rfl H [0,1,2,3,6,7,8] fun H=>?_
     have S:=H.yl [0,1,2,3,6,7,8] [0,1,2,3,4,5,6,7,8,9,10,11,12,13,14]
     refine tF 0 rfl rfl S ?_
     refine rtp 2 (.slice (aa b73 o74) (((qW s (g_States[i]!)).1).length) rc47a) S ?_
     refine rtp 3 (yI k) S ?_
     refine tI 4 rfl rfl rfl S ?_
     refine rt 5 (.agg #[.slice ae76Alive (((((qW s (g_States[i]!)).1)[k]!).qA).length) ce76Alive,.slice ae76Bags (((((qW s (g_States[i]!)).1)[k]!).qE).length) ce76Bags,.slice VI (((((qW s (g_States[i]!)).1)[k]!).qC).length) VD]) (Qe (cs:=[.slice ae76Alive (((((qW s (g_States[i]!)).1)[k]!).qA).length) ce76Alive,.slice ae76Bags (((((qW s (g_States[i]!)).1)[k]!).qE).length) ce76Bags,.slice VI (((((qW s (g_States[i]!)).1)[k]!).qC).length) VD]) isAgg38 sizeOf38 rfl (fun _ h=>qF (h.get 3 rfl) 0 3)) S ?_
     refine ji [1,6] qh qm (Qg rfl ?_ (Qg rfl ?_ jk))
     ·skip
      refine zN (.slice yj zU yg) isAgg47 rfl (H.cell 4 rfl rfl) (⟨H.pick [0,1,2,3,6,7,8] [0,1,2,3,4,5,6,7,8,9,10,11,12,13,14],(ro 6 rfl (zG H underlying47 ti38 [.slice ae76Alive (((((qW s (g_States[i]!)).1)[k]!).qA).length) ce76Alive,.slice ae76Bags (((((qW s (g_States[i]!)).1)[k]!).qE).length) ce76Bags,.slice VI (((((qW s (g_States[i]!)).1)[k]!).qC).length) VD] fun b88 w89 H=>⟨H.pick [1,2,3,4,7,8,9] [0,1,2,3,4,5,6,7,8,9,10,11,12,13,14],(ro 7 rfl ?_)⟩))⟩)
      refine zQ H 6 rfl 0 rfl underlying47 ti38 rfl qj rfl rfl rfl (by simp [Value.oneCell',Value.cells]) qp qf fun a90 c91 w92 H=>?_
      replace H:=H.YD 9 rfl 0 rfl 1 rfl 2 rfl
      refine ⟨H.pick [1,2,3,4,7,8,9] [1,2,3,4,5,6,7,8,9,10,11,12,13,14,15],(tF 8 rfl rfl (H.pick [1,2,3,4,7,8,9] [1,2,3,4,5,6,7,8,9,10,11,12,13,14,15]) ?_)⟩
      refine ro 9 rfl (zJ H 5 [.slice a90 (zU+1) c91,.slice jY jD jX] sizeOf47 fun w93 H=>⟨H.pick [1,2,3,4,7,8,9] [1,2,3,4,5,6,7,8,9,10,11,12,13,14,15],(xO qh ((meet ⟨_,a90,c91,uE9,N,H.pick [1,2,3,4,5,6,7,8,9] [0,1,2,3,4,5,6,7,8,9,11,12,13,14,15]⟩)))⟩)
     refine zG H underlying47 ti38 [.slice ae76Alive (((((qW s (g_States[i]!)).1)[k]!).qA).length) ce76Alive,.slice ae76Bags (((((qW s (g_States[i]!)).1)[k]!).qE).length) ce76Bags,.slice VI (((((qW s (g_States[i]!)).1)[k]!).qC).length) VD] fun b94 w95 H=>⟨H.pick [1,2,3,4,7,8,9] [0,1,2,3,4,5,6,7,8,9,10,11,12,13,14],(ro 1 rfl (zN (.slice yj zU yg) isAgg47 rfl (H.cell 5 rfl rfl) (⟨H.pick [1,2,3,4,7,8,9] [0,1,2,3,4,5,6,7,8,9,10,11,12,13,14],(ro 7 rfl ?_)⟩)))⟩
     refine zQ H 6 rfl 0 rfl underlying47 ti38 rfl qj rfl rfl rfl (by simp [Value.oneCell',Value.cells]) qp qf fun a96 c97 w98 H=>?_
     replace H:=H.YD 9 rfl 0 rfl 1 rfl 2 rfl
     refine ⟨H.pick [1,2,3,4,7,8,9] [1,2,3,4,5,6,7,8,9,10,11,12,13,14,15],(tF 8 rfl rfl (H.pick [1,2,3,4,7,8,9] [1,2,3,4,5,6,7,8,9,10,11,12,13,14,15]) ?_)⟩
     refine ro 9 rfl (zJ H 5 [.slice a96 (zU+1) c97,.slice jY jD jX] sizeOf47 fun w99 H=>⟨H.pick [1,2,3,4,7,8,9] [1,2,3,4,5,6,7,8,9,10,11,12,13,14,15],(xO qh ((meet ⟨_,a96,c97,uE9,N,H.pick [1,2,3,4,5,6,7,8,9] [0,1,2,3,4,5,6,7,8,9,11,12,13,14,15]⟩)))⟩)
    clear H N
    rintro ρ w100 ⟨xU,a84,c85,rfl,N,H⟩
    refine t_n (xY (sps [.slice Vm Xx Vf,yI i] (sw (zG H underlying22 ti2 [yI i] fun b101 w102 H=>sw (zQ H 4 rfl 0 rfl underlying22 ti2 rfl qj rfl rfl rfl (by simp [Value.oneCell',Value.cells]) qp qf fun a103 c104 w105 H=>?_)))))
    rw [snocI] at H
    refine sp (.slice a103 (Xx+1) c104) (zjn (xY (sps [.slice a_row n_row c_row,yI zU] (sw (zG H underlying22 ti2 [yI zU] fun b106 w107 H=>sw (zQ H 2 rfl 0 rfl underlying22 ti2 rfl qj rfl rfl rfl (by simp [Value.oneCell',Value.cells]) qp qf fun a108 c109 w110 H=>?_))))))
    rw [snocI] at H
    refine sp (.slice a108 (n_row+1) c109) (xZ (b_n (t_n (xY (sp (yI k) (sw (zC k 1 rfl rfl qf (sp (yI (k+1)) (xZ ?_)))))))))
    refine xf (m' :=((((qW s (g_States[i]!)).1).length) - ((k+1):Int)).toNat) qf ⟨_,a103,Xx+1,c104,((from_++List.replicate ((zI g_States (qW s (g_States[i]!)).1 k).1.length - g_States.length) (i:Int))++[(i:Int)]),a108,n_row+1,c109,(((zI g_States (qW s (g_States[i]!)).1 k).2)++[(zU:Int)]),k+1,a84,zU+1,c85,(((zI g_States (qW s (g_States[i]!)).1 k).1)++[⟨(((qW s (g_States[i]!)).1)[k]!).qA,(((qW s (g_States[i]!)).1)[k]!).qE,(((qW s (g_States[i]!)).1)[k]!).qC⟩]),jZ++[.slice ae76Alive (((((qW s (g_States[i]!)).1)[k]!).qA).length) ce76Alive,.slice ae76Bags (((((qW s (g_States[i]!)).1)[k]!).qE).length) ce76Bags,.slice VI (((((qW s (g_States[i]!)).1)[k]!).qC).length) VD],(jK++(Fe76Alive++Fe76Bags++Fe76Around)),uE8,?_,?_,?_,?_,rfl,N,H.pick [2,3,4,5,6,7,8,9,10] [5,6,7,8,9,0,10,11,12,13,14]⟩
    · first | exact rep_new (by rw [← (Yo (k:=k) ‹_›).1,List.length_append,List.length_singleton];omega) | rw [← (Yn (k:=k) ‹_›).1]
    · first | exact (Yn (k:=k) ‹_›).2 | (refine Eq.trans ?_ (Yo (k:=k) ‹_›).2;congr 2 <;> omega)
    · first | exact (Yo (k:=k) ‹_›).1 | exact (Yn (k:=k) ‹_›).1
    · omega
   refine qU (t_n (xY (sps [.slice a_row n_row c_row,yI (firstIdx (fun zz=>decide (((zI g_States (qW s (g_States[i]!)).1 k).1)[zz]! =(((qW s (g_States[i]!)).1)[k]!))) ((zI g_States (qW s (g_States[i]!)).1 k).1).length)] (sw (zG H underlying22 ti2 [yI (firstIdx (fun zz=>decide (((zI g_States (qW s (g_States[i]!)).1 k).1)[zz]! =(((qW s (g_States[i]!)).1)[k]!))) ((zI g_States (qW s (g_States[i]!)).1 k).1).length)] fun b111 w112 H=>?_)))))
   refine sw (zQ H 1 rfl 0 rfl underlying22 ti2 rfl qj rfl rfl rfl (by simp [Value.oneCell',Value.cells]) qp qf fun a113 c114 w115 H=>?_)
   rw [snocI] at H
   refine sp (.slice a113 (n_row+1) c114) (xZ (b_n (t_n (xY (sp (yI k) (sw (zC k 1 rfl rfl qf (sp (yI (k+1)) (xZ ?_)))))))))
   refine xf (m' :=((((qW s (g_States[i]!)).1).length) - ((k+1):Int)).toNat) qf ⟨_,Vm,Xx,Vf,(from_++List.replicate ((zI g_States (qW s (g_States[i]!)).1 k).1.length - g_States.length) (i:Int)),a113,n_row+1,c114,(((zI g_States (qW s (g_States[i]!)).1 k).2)++[firstIdx (fun zz=>decide (((zI g_States (qW s (g_States[i]!)).1 k).1)[zz]! =(((qW s (g_States[i]!)).1)[k]!))) ((zI g_States (qW s (g_States[i]!)).1 k).1).length]),k+1,yj,zU,yg,((zI g_States (qW s (g_States[i]!)).1 k).1),jZ,jK,uE8,?_,?_,?_,?_,rfl,N,H.pick [1,2,3,4,5,6,7,8,9] [4,5,6,7,8,9,10,11,12,13,14]⟩
   · first | exact rep_new (by rw [← (Yo (k:=k) ‹_›).1,List.length_append,List.length_singleton];omega) | rw [← (Yn (k:=k) ‹_›).1]
   · first | exact (Yn (k:=k) ‹_›).2 | (refine Eq.trans ?_ (Yo (k:=k) ‹_›).2;congr 2 <;> omega)
   · first | exact (Yo (k:=k) ‹_›).1 | exact (Yn (k:=k) ‹_›).1
   · omega
  refine zx4 (zcr (oF rfl (oL rfl (H.cell 4 rfl rfl) (sp (.slice a_row n_row c_row) (sw (zG H underlying27 ti22 [.slice a_row n_row c_row] fun b116 w117 H=>?_))))))
  obtain ⟨G121,N,hn122,H⟩:=H.vS 1 rfl N (H.jQ [0,4])
  refine sw (zQ H 3 rfl 0 rfl underlying27 ti22 rfl qj rfl rfl rfl (by simp [Value.oneCell',Value.cells]) qp qf fun a118 c119 w120 H=>?_)
  replace H:=H.jW 5 rfl 0 rfl
  replace N:Fresh w.heap.size [(jG++G121),G66]:=(N.pick [2,0,1]).join
  refine oF rfl (sw (zJ H 5 [.slice yj zU yg,.slice a118 (jD+1) c119] sizeOf27 fun w123 H=>zjc (oF rfl (oL rfl (H.cell 5 rfl rfl) (oN rfl (sp (.bool (decide ((zU:Int) > 300))) (zjn (cD rfl (fun h124=>?_) (fun h124=>?_)))))))))
  ·skip
   refine zcr (sw (jB [yN,yN] [] (sp (.slice Vm Xx Vf) (sw (zB H 7 [yN,yN] sizeOf59 fun w125 H=>sps [.slice Vm Xx Vf,yI 3] (zjr (zr5 (retC3 H 7 rfl (.slice Vm Xx Vf) (yI 3) rfl isAgg59 sizeOf59 rfl rfl rfl ⟨_,rfl,?_⟩))))))))
   replace H:=H.erases [7,6,5,3,2,1,0]
   dsimp only [vU,List.eraseIdx] at H
   refine sps [.tuple #[.agg #[yN,yN],.slice Vm Xx Vf,yI 3],.agg #[yN,yN],.slice Vm Xx Vf,yI 3] (sw (zf H ti59 [yN,yN] fun b126 w127 H=>sw (zB H 0 [yN,yN] sizeOf59 fun w128 H=>sps [.slice Vm Xx Vf,yI 3] (zjcc (sps [yI 3,.bool true] (zjn (xK true rfl (fun _=>zcr (sw (vG H underlying27 ti22 fun b129 w130 H=>?_))) (fun h=>absurd h qj))))))))
   refine sps [yI 3,.slice (aa b129 0) 0 0,yI 3] (zjr (t_r ?_))
   replace H:=H.boxRow 0 rfl 1 0 rfl qj
   replace H:=H.vI (α:=yLI)
   have H0:=H
   obtain ⟨G131,hg133,hn132,H⟩:=H.Qs (α:=yLI) 0 rfl 0 rfl qj
   replace N:Fresh w.heap.size [G131,(jG++G121),G66]:=Fresh.ice N.emp H0 0 hg133.1 hg133.2 (H0.jQ [1,3])
   clear H0
   refine ret2 (.slice (aa b129 0) 0 0) (yI 3) rfl rfl rfl ⟨_,rfl,?_,H.base⟩
   rw [sh_c' (ex_of k0 (kr.trans (gr_many qf qf qf (k:=k) qf qf))).2 (by first | assumption | decide)]
   exact ⟨(aa b129 0),0,G131,rfl,(N.pick [0]),H.pick [] [0]⟩
  refine qU (b_n (t_n (xY (sp (yI i) (sw (zC i 1 rfl rfl qf (sp (yI (i+1)) (xZ ?_))))))))
  refine xf (m' :=(301 - (i+1))) qf ⟨_,Vm,Xx,Vf,(from_++List.replicate ((zI g_States (qW s (g_States[i]!)).1 k).1.length - g_States.length) (i:Int)),i+1,yj,zU,yg,((zI g_States (qW s (g_States[i]!)).1 k).1),jZ,jK,a118,jD+1,c119,(g_Next++[((zI g_States (qW s (g_States[i]!)).1 k).2)]),Xh++[.slice a_row n_row c_row],(jG++G121),uE5,?_,?_,?_,?_,?_,?_,?_,?_,rfl,(N.pick [0]),H.pick [3,4,5,6,7,8,9] [0,7,8,9,10,11,12]⟩
  · exact kr.trans (gr_go qf qf qf (k:=k) qf qf)
  · exact addSt_mem ka succ_ok k qf
  · omega
  · simp;omega
  · omega
  · exact ko.next qf qf
  · have h:=(kfo.next ko (nx:=(qW s (g_States[i]!)).1) (k:=k) (i:=i) qf qf).len;omega
  · exact kfo.next ko qf qf
 refine zx4 (zcr (sw (zn [.slice yw vP jJ,.slice jY jD jX] isAgg59 sizeOf59 rfl (qF (H.cells 2 rfl) 0 2) (sp (.slice a_from n_from c_from) (sw (zB H 4 [.slice yw vP jJ,.slice jY jD jX] sizeOf59 fun w134 H=>sps [.slice a_from n_from c_from,yI 0] (zjr (retC3 H 4 rfl (.slice a_from n_from c_from) (yI 0) rfl isAgg59 sizeOf59 rfl rfl rfl ⟨_,rfl,?_⟩))))))))
 replace H:=H.erases [4,2]
 dsimp only [vU,List.eraseIdx] at H
 refine sps [.tuple #[.agg #[.slice yw vP jJ,.slice jY jD jX],.slice a_from n_from c_from,yI 0],.agg #[.slice yw vP jJ,.slice jY jD jX],.slice a_from n_from c_from,yI 0] (sw (zf H ti59 [yN,yN] fun b135 w136 H=>sw (zB H 0 [.slice yw vP jJ,.slice jY jD jX] sizeOf59 fun w137 H=>sps [.slice a_from n_from c_from,yI 0] (zjcc (sps [yI 0,.bool false] (zjn (xK false rfl (fun h=>absurd h qj) (fun _=>?_))))))))
 refine qU (t_n (zcc (sp (yI 0) (zjn (qX ?_)))))
 have ee:=ex_of k0 (kr.trans (gr_end qf))
 have ga:=ex_all ee.2
 have gx:=ex_nx ee.2
 rw [ee.1] at ga gx
 have g1:GrOk g_States g_Next:=ga.ok
 have g2:GrNx s g_States g_Next:=gx
 have g3:g_States.length≤300:=ga.le
 have g4:∀ u∈g_States,zF s u:=ga.st
 refine zu (fun m' ρ w138=>∃ (xU:Env) (i_1:Nat),ρ=upd (upd (upd (upd xU 2 (pp b1 0)) 6 (pp b135 0)) 7 (.slice a_from n_from c_from)) 9 (yI i_1)∧((i_1:Int)≤vP)∧(∀ j,j < i_1→¬ Halted s (g_States[j]!))∧m' =(vP - (i_1:Int)).toNat∧Fresh w.heap.size [jG]∧St w w138 [.box b135 [.slice yw vP jJ,.slice jY jD jX] 59,rr jY jD jX 22 1 Xh,rr a_from n_from c_from 2 1 (from_.map (Value.int .i64)),rr yw vP jJ 38 3 XF,.box b3 (yT t qV qR xn xk qN qM) 38,.box b1 (yS s qB qy qL qI) 36] [zi true jG Xh g_Next,zi true XO XF g_States,sF false qZ qB qy s.qw,sF false xE qL qI s.qx,sF false xR qV qR t.qA,sF false zy xn xk t.qE,sF false xH qN qM t.qC]) ((vP - (0:Int)).toNat) ⟨_,0,uE4,qf,(by exact fun j hj=>by omega),rfl,N,H⟩ ?_
 clear H N
 rintro m' ρ w139 ⟨xU,i_1,rfl,i0,h1,rfl,N,H⟩
 refine zcc (sp (yI i_1) (oF rfl (oL rfl (H.cell 0 rfl rfl) (oN rfl (sp (.bool (decide ((i_1:Int) < vP))) (zjn (cD rfl (fun h140=>?_) (fun h140=>?_))))))))
 ·skip
  have kj:=g4 (g_States[i_1]!) (mem_at (k:=i_1) qf rfl)
  have fi:0≤((i_1:Nat):Int)∧((i_1:Nat):Int).toNat < g_States.length:=⟨by omega,by omega⟩
  refine qU (t_n (xQ (qX (zcr (oF rfl (oL rfl (H.cell 0 rfl rfl) (sp (yI i_1) ?_)))))))
  obtain ⟨b141,rfl⟩:=H.Qh 3 rfl qf
  obtain ⟨ae142Alive,ce142Alive,Fe142Alive,ae142Bags,ce142Bags,Fe142Bags,ae142Around,ce142Around,Fe142Around,hx143,H⟩:=H.rowel_StateD 3 rfl 1 rfl (iv:=i_1) i_1 qf qf
  refine oI rfl rfl (sw (oq (l03Halted_ok _ s (g_States[i_1]!) (qF (H.cells 5 rfl) 0 3) (H.get 5 rfl).1 (H.get 6 rfl).1 (qF (fun j v hj=>H.rowGet 3 rfl (hx143 j v hj)) 0 3) (H.get 0 rfl).1 (H.get 1 rfl).1 (H.get 2 rfl).1 qg qg) H fun w145 H=>zjn (cP rfl (fun h147=>?_) (fun h147=>?_))))
  ·skip
   refine zcr (sps [.slice a_from n_from c_from,yI i_1] ?_)
   obtain ⟨G148,hn149,h150⟩:=H.rowIsR (α:=qJ) 3 rfl 4 rfl qj
   obtain ⟨G151,hn152,h153⟩:=H.rowIsR (α:=yLI) 1 rfl 3 rfl qj
   obtain ⟨G154,hn155,h156⟩:=H.rowIsI 2 rfl
   have sz160:=H.base.size
   have lt161:=H.ltN (L:=[jG]) [3]
   refine sw (oc (YM (by rw [← hn155]) (way_ok _ s (⟨g_States,g_Next⟩:GraphD) from_ i_1 (qF (H.cells 5 rfl) 0 3) (H.get 5 rfl).1 (H.get 6 rfl).1 (by have hz:=(qF (H.cells 0 rfl) 0 2);rw [hn149,hn152] at hz;exact hz) (hn149▸h150) (hn152▸h153) (hn155▸h156) qg qg qg qg qg qg qg)) ?_)
   rintro _ w158 ⟨ra157,rn157,rc157,rx157,rF157,rfl,M,K⟩ _
   replace N:=N.merge sz160 lt161 M
   replace H:=H.merge K M
   obtain rfl:=H.zh (α:=yLI) 0 rfl 0 rfl qj
   refine sps [.slice ra157 ((wayL s (⟨g_States,g_Next⟩:GraphD).qY (⟨g_States,g_Next⟩:GraphD).fNext (i_1:Int).toNat).length) rc157,yI 0] (zjr (zr5 ?_))
   have H0:=H
   obtain ⟨G163,hg165,hn164,H⟩:=H.Qs (α:=yLI) 0 rfl 0 rfl qj
   replace N:Fresh w.heap.size [G163,jG]:=Fresh.ice N H0 0 hg165.1 hg165.2 (H0.jQ [4])
   clear H0
   refine ret2 (.slice ra157 ((wayL s (⟨g_States,g_Next⟩:GraphD).qY (⟨g_States,g_Next⟩:GraphD).fNext (i_1:Int).toNat).length) rc157) (yI 0) rfl rfl rfl ⟨_,rfl,?_,H.base⟩
   rw [sh_0' ee qf h1 ql]
   exact ⟨ra157,rc157,G163,rfl,(N.pick [0]),H.pick [] [0]⟩
  refine qU (b_n (t_n (xY (sp (yI i_1) (sw (zC i_1 1 rfl rfl qf (sp (yI (i_1+1)) (xZ (xf (m' :=(vP - ((i_1+1):Int)).toNat) qf ⟨_,i_1+1,uE4,?_,?_,rfl,N,H.pick [0,1,2,3,4,5] [3,4,5,6,7,8,9]⟩)))))))))
  · omega
  · exact below_succ h1 ql
 refine zx4 (zcr (sw (vG H underlying27 ti22 fun b166 w167 H=>sps [.slice (aa b166 0) 0 0,yI 6] (zjr ?_))))
 replace H:=H.boxRow 0 rfl 1 0 rfl qj
 replace H:=H.vI (α:=yLI)
 have H0:=H
 obtain ⟨G168,hg170,hn169,H⟩:=H.Qs (α:=yLI) 0 rfl 0 rfl qj
 replace N:Fresh w.heap.size [G168,jG]:=Fresh.ice N.emp H0 0 hg170.1 hg170.2 (H0.jQ [1])
 clear H0
 refine ret2 (.slice (aa b166 0) 0 0) (yI 6) rfl rfl rfl ⟨_,rfl,?_,H.base⟩
 rw [sh_6' ee (fun j hj=>h1 j qf)]
 exact ⟨(aa b166 0),0,G168,rfl,(N.pick [0]),H.pick [] [0]⟩

theorem implSH_ok (w:World) (s:qG) (t:qJ) {qB:yOA} {qZ:yLN} {qL:yOA} {xE:yLN} {qV:yOA} {xR:yLN} {xn:yOA} {zy:yLN} {qN:yOA} {xH:yLN} (xe:qO.rep w qZ [.slice qB s.qw.length qy] s.qw) (xJ:qO.rep w xE [.slice qL s.qx.length qI] s.qx) (zl:qO.rep w xR [.slice qV t.qA.length qR] t.qA) (zK:qO.rep w zy [.slice xn t.qE.length xk] t.qE) (xP:qO.rep w xH [.slice qN t.qC.length qM] t.qC):Calls Tryz.prog 48 #[.agg #[yI s.xC,.slice qB s.qw.length qy,.slice qL s.qx.length qI],.agg #[.slice qV t.qA.length qR,.slice xn t.qE.length xk,.slice qN t.qC.length qM]] w (Ret (fun v w' =>∃ (ra0:yOA) (rc0:Nat) (rF0:yLN),v=.tuple #[.slice ra0 (((zX s t).1).length) rc0,yI ((zX s t).2)]∧Fresh w.heap.size [rF0]∧St w w' [] [sF true rF0 ra0 rc0 ((zX s t).1)]) w):=by
 refine en func48 ntmps48 ?_
 have H:=(((((St.start w).arg xP).arg zK).arg zl).arg xJ).arg xe
 have zY:=qK xe
 have jb:=qK xJ
 have Qd:=qK zl
 have QQ:=qK zK
 have jP:=qK xP
 clear xe xJ zl zK xP
 have N:=Fresh.nil w.heap.size
 refine zcr (sw (vH H (yS s qB qy qL qI) fun b1 w2 H=>sw (vH H (yT t qV qR xn xk qN qM) fun b3 w4 H=>sps [yN,yI 0] (zjc (sw (zn (yS s qB qy qL qI) isAgg36 sizeOf36 rfl (qF (H.cells 1 rfl) 0 3) ?_))))))
 refine sw (zn (yT t qV qR xn xk qN qM) isAgg38 sizeOf38 rfl (qF (H.cells 0 rfl) 0 3) ?_)
 have sz8:=H.base.size
 refine sw (oc (implEx_ok _ s t (H.get 0 rfl).1 (H.get 1 rfl).1 (H.get 2 rfl).1 (H.get 3 rfl).1 (H.get 4 rfl).1) ?_)
 rintro _ w6 ⟨ra5aStates,rc5aStates,rF5aStates,ra5aNext,rc5aNext,rF5aNext,rfl,M,K⟩ _
 replace N:=N.merge sz8 qm M
 replace H:=H.merge K M
 refine sps [.tuple #[.agg #[.slice ra5aStates (((exG s t).qY).length) rc5aStates,.slice ra5aNext (((exG s t).fNext).length) rc5aNext],yI ((VT s t).2)],.agg #[.slice ra5aStates (((exG s t).qY).length) rc5aStates,.slice ra5aNext (((exG s t).fNext).length) rc5aNext],yI ((VT s t).2)] (sw (zf H ti59 [yN,yN] fun b10 w11 H=>sw (zB H 0 [.slice ra5aStates (((exG s t).qY).length) rc5aStates,.slice ra5aNext (((exG s t).fNext).length) rc5aNext] sizeOf59 fun w12 H=>sp (yI ((VT s t).2)) (zjcc (sps [yI ((VT s t).2),.bool (((VT s t).2:Int) != 0)] ?_)))))
 refine zjn (xK (((VT s t).2:Int) != 0) rfl (fun h13=>?_) (fun h13=>?_))
 ·skip
  replace h13:=bne_iff_ne.1 h13
  refine zcr (sps [yI ((VT s t).2),yN,yI ((VT s t).2)] (zjr (t_r ?_)))
  replace H:=H.addNil (α:=yLI)
  refine ret2 yN (yI ((VT s t).2)) rfl rfl rfl ⟨_,rfl,?_,H.base⟩
  rw [sh_c ql]
  exact ⟨none,0,[],rfl,(N.emp.pick [0]),H.pick [] [0]⟩
 replace h13:=xq h13
 have k1:=(ex_valid (s:=s) (t:=t) qf).1
 have c0:(VT s t).2=0:=by omega
 have ga:=ex_all c0
 have gx:=ex_nx c0
 have gn:=ga.len
 have gl:=ga.le
 have g1:=ga.ok
 have g4:=ga.st
 refine qU (t_n (zcr (sw (zn [.slice ra5aStates (((exG s t).qY).length) rc5aStates,.slice ra5aNext (((exG s t).fNext).length) rc5aNext] isAgg59 sizeOf59 rfl (qF (H.cells 0 rfl) 0 2) (sw (vF #[.agg #[.slice ra5aStates (((exG s t).qY).length) rc5aStates,.slice ra5aNext (((exG s t).fNext).length) rc5aNext]] rfl rfl call84 (en func84 ntmps84 ?_)))))))
 refine zcr (sw (vH H [.slice ra5aStates (((exG s t).qY).length) rc5aStates,.slice ra5aNext (((exG s t).fNext).length) rc5aNext] fun b14 w15 H=>sp yN (zjc (sw (vG H underlying22 ti2 fun b16 w17 H=>sp (.slice (aa b16 0) 0 0) (zjcc (oF rfl (oL rfl (H.cell 1 rfl rfl) (oN rfl (sp (yI 0) (zjn (qX ?_))))))))))))
 replace H:=H.boxRowI 0 [] 0
 refine zu (fun m' ρ w18=>∃ (xU:Env) (zW:yOA) (zt:Nat) (zL:Nat) (out:yLI) (i:Nat),ρ=upd (upd (upd (upd xU 3 (.slice zW zt zL)) 8 (.slice ra5aNext (((exG s t).fNext).length) rc5aNext)) 9 (yI (((exG s t).fNext).length))) 10 (yI i)∧out=(idxL (exG s t).fNext i)∧((i:Int)≤(((exG s t).fNext).length))∧m' =((((exG s t).fNext).length) - (i:Int)).toNat∧Fresh w.heap.size [rF5aStates,rF5aNext]∧St w w18 [rr zW zt zL 2 1 (out.map (Value.int .i64)),.box b14 [.slice ra5aStates (((exG s t).qY).length) rc5aStates,.slice ra5aNext (((exG s t).fNext).length) rc5aNext] 59,.box b10 [.slice ra5aStates (((exG s t).qY).length) rc5aStates,.slice ra5aNext (((exG s t).fNext).length) rc5aNext] 59,.box b3 (yT t qV qR xn xk qN qM) 38,.box b1 (yS s qB qy qL qI) 36] [sF true rF5aStates ra5aStates rc5aStates ((exG s t).qY),sF true rF5aNext ra5aNext rc5aNext ((exG s t).fNext),sF false qZ qB qy s.qw,sF false xE qL qI s.qx,sF false xR qV qR t.qA,sF false zy xn xk t.qE,sF false xH qN qM t.qC]) (((((exG s t).fNext).length) - (0:Int)).toNat) ⟨_,(aa b16 0),0,0,([]:yLI),0,uE4,(by rfl),qf,rfl,N,H⟩ ?_
 clear H N
 rintro m' ρ w19 ⟨xU,zW,zt,zL,out,i,rfl,rfl,i0,rfl,N,H⟩
 have hn_out:=H.Vq 0 rfl
 have il:=idx_len (exG s t).fNext i
 refine zcr (sp (.bool (decide ((i:Int) < (((exG s t).fNext).length)))) (zjn (xQ (cD rfl (fun h20=>?_) (fun h20=>?_)))))
 ·skip
  refine qU (t_n (xQ (qX (zcr (sp (yI i) ?_)))))
  obtain ⟨b21,o22,rfl⟩:=H.addr 1 rfl qf
  obtain ⟨ae24,ce24,Fe24,H⟩:=H.vM 1 rfl i i qf qf qf
  refine oI rfl rfl (oL rfl (H.xW 1 rfl 0 rfl) (sps [yI i,.slice ae24 ((((exG s t).fNext)[i]!).length) ce24] (zjc (sp (.slice ae24 ((((exG s t).fNext)[i]!).length) ce24) (oN rfl (sp (.bool (((((exG s t).fNext)[i]!).length:Int) == 0)) (zjn (cE rfl (fun h25=>?_) (fun h25=>?_)))))))))
  ·skip
   refine xY (sps [.slice zW zt zL,yI i] (sw (zG H underlying22 ti2 [yI i] fun b26 w27 H=>sw (zQ H 1 rfl 0 rfl underlying22 ti2 rfl qj rfl rfl rfl (by simp [Value.oneCell',Value.cells]) qp qf fun a28 c29 w30 H=>?_))))
   rw [snocI] at H
   refine sp (.slice a28 (zt+1) c29) (xZ (b_n (t_n (xY (sw (zC i 1 rfl rfl qf (sp (yI (i+1)) (xZ (xf (m' :=((((exG s t).fNext).length) - ((i+1):Int)).toNat) qf ⟨_,a28,zt+1,c29,((idxL (exG s t).fNext i)++[(i:Int)]),i+1,uE4,?_,?_,rfl,N,H.pick [1,2,3,4,5] [2,3,4,5,6,7,8]⟩)))))))))
   · first | exact idx_yes qf | exact idx_no qf
   · omega
  refine qU (b_n (t_n (xY (sw (zC i 1 rfl rfl qf (sp (yI (i+1)) (xZ (xf (m' :=((((exG s t).fNext).length) - ((i+1):Int)).toNat) qf ⟨_,zW,zt,zL,(idxL (exG s t).fNext i),i+1,uE4,?_,?_,rfl,N,H.pick [0,1,2,3,4] [2,3,4,5,6,7,8]⟩))))))))
  · first | exact idx_yes qf | exact idx_no qf
  · omega
 refine zx4 (zcr (sps [.slice zW zt zL,.slice zW zt zL] (zjr (ret1 (.slice zW zt zL) rfl rfl ⟨_,rfl,?_⟩))))
 replace H:=H.erases [1]
 dsimp only [vU,List.eraseIdx] at H
 refine sp (.slice zW zt zL) (zjcc (sp (.slice zW zt zL) (oN rfl (sp (.bool ((zt:Int) == 0)) (zjn (cE rfl (fun h31=>?_) (fun h31=>?_)))))))
 ·skip
  refine zcr (sps [yN,yI 6] (zjr (t_r ?_)))
  replace H:=H.addNil (α:=yLI)
  refine ret2 yN (yI 6) rfl rfl rfl ⟨_,rfl,?_,H.base⟩
  rw [sh_6 c0 (n:=i) qf qf]
  exact ⟨none,0,[],rfl,(N.emp.pick [0]),H.pick [] [0]⟩
 obtain ⟨ia,ib⟩:=idx_at (R:=(exG s t).fNext) (k:=i) (q:=0) qf
 refine qU (t_n (xQ ?_))
 refine vT rfl H fun H=>rt 0 (.agg #[yI s.xC,.slice qB s.qw.length qy,.slice qL s.qx.length qI]) (Qe (cs:=(yS s qB qy qL qI)) isAgg36 sizeOf36 rfl (fun _ h=>qF (h.cells 3 rfl) 0 3)) H ?_
 refine rt 1 (.agg #[.slice ra5aStates (((exG s t).qY).length) rc5aStates,.slice ra5aNext (((exG s t).fNext).length) rc5aNext]) (Qe (cs:=[.slice ra5aStates (((exG s t).qY).length) rc5aStates,.slice ra5aNext (((exG s t).fNext).length) rc5aNext]) isAgg59 sizeOf59 rfl (fun _ h=>qF (h.cells 1 rfl) 0 2)) H ?_
 refine rtp 2 (.slice zW zt zL) H ?_
 obtain ⟨b33,rfl⟩:=H.Qh 0 rfl qf
 refine tI 3 rfl rfl rfl H ?_
 refine tL 4 rfl rfl (fun _ h=>h.rowInt 0 rfl (iv:=0) (i:=0) qf qf) H ?_
 refine ro 5 rfl ?_
 have sz37:=H.base.size
 have lt38:=H.ltN (L:=[rF5aStates,rF5aNext]) [0,1]
 refine oc (path_ok _ s (exG s t) ((idxL (exG s t).fNext i)[0]!) (H.get 2 rfl).1 (H.get 3 rfl).1 (H.get 0 rfl).1 (H.get 1 rfl).1 qg qg qg qg qg qg qg) ?_
 rintro _ w35 ⟨ra34a,rc34a,rF34a,rfl,M,K⟩ _
 replace N:=N.merge sz37 lt38 M
 replace H:=H.merge K M
 refine ⟨H.pick [0,1,2,3] [1,2,3,4,5,6,7],?_⟩
 have S:=H.yl [0,1,2,3] [1,2,3,4,5,6,7]
 refine rtp 6 (.slice ra34a ((wayL s (exG s t).qY (exG s t).fNext (((idxL (exG s t).fNext i)[0]!):Int).toNat).length) rc34a) S ?_
 refine rtp 7 (yI 0) S ?_
 refine rtp 8 (.slice ra34a ((wayL s (exG s t).qY (exG s t).fNext (((idxL (exG s t).fNext i)[0]!):Int).toNat).length) rc34a) S ?_
 refine rtp 9 (yI 0) S ?_
 refine xO qh (t_n (c_ret (ret2 (.slice ra34a ((wayL s (exG s t).qY (exG s t).fNext (((idxL (exG s t).fNext i)[0]!):Int).toNat).length) rc34a) (yI 0) rfl rfl rfl ⟨_,rfl,?_,H.base⟩)))
 rw [sh_0 c0 (n:=i) qf qf]
 exact ⟨ra34a,rc34a,rF34a,rfl,(N.pick [0]),H.pick [] [0]⟩

theorem law_ShortestHalt (w:World) (aS:qG) (aT:qJ) (Qc:yOA) (Qb:Nat) (YU:yLN) (Xq:yOA) (Xm:Nat) (FaSRules:yLN) (Xp:yOA) (Xl:Nat) (FaTAlive:yLN) (Vx:yOA) (Vu:Nat) (FaTBags:yLN) (QG:yOA) (QF:Nat) (FaTAround:yLN) (haSParents:qO.rep w YU [.slice Qc aS.qw.length Qb] aS.qw) (haSRules:qO.rep w FaSRules [.slice Xq aS.qx.length Xm] aS.qx) (haTAlive:qO.rep w FaTAlive [.slice Xp aT.qA.length Xl] aT.qA) (haTBags:qO.rep w FaTBags [.slice Vx aT.qE.length Vu] aT.qE) (haTAround:qO.rep w FaTAround [.slice QG aT.qC.length QF] aT.qC):Calls Tryz.prog 11 #[.agg #[yI aS.xC,.slice Qc aS.qw.length Qb,.slice Xq aS.qx.length Xm],.agg #[.slice Xp aT.qA.length Xl,.slice Vx aT.qE.length Vu,.slice QG aT.qC.length QF]] w (Ret (fun v w' =>v=.bool true) w):=by
 refine en func11 ntmps11 ?_
 have H:=(((((St.start w).arg haTAround).arg haTBags).arg haTAlive).arg haSRules).arg haSParents
 have nhaSParents:=qK haSParents
 have nhaSRules:=qK haSRules
 have nhaTAlive:=qK haTAlive
 have nhaTBags:=qK haTBags
 have nhaTAround:=qK haTAround
 clear haSParents haSRules haTAlive haTBags haTAround
 have N:=Fresh.nil w.heap.size
 have A:=H.ltN (L:=[YU,FaSRules,FaTAlive,FaTBags,FaTAround]) [0,1,2,3,4]
 have t1:=tot_SystemD aS
 have t2:=tot_StateD aT
 have c0:=VC aS.qw
 have c1:=VC aS.qx
 have c2:=VC aT.qA
 have c3:=VC aT.qE
 have c4:=VC aT.qC
 have f1:=few_sh aS aT
 refine zcr (sw (vH H (yS aS Qc Qb Xq Xm) fun b1 w2 H=>sw (vH H (yT aT Xp Xl Vx Vu QG QF) fun b3 w4 H=>sp (.bool false) (zjc (sp (yI 1048576) (zjc (sw (zn (yS aS Qc Qb Xq Xm) isAgg25 sizeOf25 rfl (qF (H.cells 1 rfl) 0 3) (sp (yI 1048576) ?_)))))))))
 refine sw (oq (szSystem_ok _ aS 1048576 (H.get 0 rfl).1 (H.get 1 rfl).1 qf) H fun w5 H=>?_)
 have:=zO (tot aS) 1048576
 refine sp (yI (szR (tot aS) 1048576)) (zjcc (sps [yI (szR (tot aS) 1048576),.bool (decide ((szR (tot aS) 1048576:Int) < 0))] (zjn (cD rfl (fun h7=>?_) (fun h7=>?_)))))
 ·skip
  refine zcr (sp (.bool true) (zjr (t_r (ret1 (.bool true) rfl rfl ⟨_,rfl,?_,H.base⟩))))
  rfl
 refine qU (t_n (zcr (sw (zn (yT aT Xp Xl Vx Vu QG QF) isAgg29 sizeOf29 rfl (qF (H.cells 0 rfl) 0 3) (sp (yI (szR (tot aS) 1048576)) (sw (oq (szState_ok _ aT (szR (tot aS) 1048576) (H.get 2 rfl).1 (H.get 3 rfl).1 (H.get 4 rfl).1 qf) H fun w8 H=>?_)))))))
 have:=zO (tot aT) (szR (tot aS) 1048576)
 refine sp (yI (szR (tot aT) (szR (tot aS) 1048576))) (zjcc (sps [yI (szR (tot aT) (szR (tot aS) 1048576)),.bool (decide ((szR (tot aT) (szR (tot aS) 1048576):Int) < 0))] (zjn (cD rfl (fun h10=>?_) (fun h10=>?_)))))
 ·skip
  refine zcr (sp (.bool true) (zjr (t_r (ret1 (.bool true) rfl rfl ⟨_,rfl,?_,H.base⟩))))
  rfl
 refine qU (t_n (xQ ?_))
 refine vT rfl H fun H=>rt 0 (.agg #[yI aS.xC,.slice Qc aS.qw.length Qb,.slice Xq aS.qx.length Xm]) (Qe (cs:=(yS aS Qc Qb Xq Xm)) isAgg25 sizeOf25 rfl (fun _ h=>qF (h.cells 1 rfl) 0 3)) H ?_
 refine rt 2 (.agg #[.slice Xp aT.qA.length Xl,.slice Vx aT.qE.length Vu,.slice QG aT.qC.length QF]) (Qe (cs:=(yT aT Xp Xl Vx Vu QG QF)) isAgg29 sizeOf29 rfl (fun _ h=>qF (h.cells 0 rfl) 0 3)) H ?_
 refine ro 1 rfl ?_
 have sz12:=H.base.size
 refine oc (toSystem_ok _ aS (H.get 0 rfl).1 (H.get 1 rfl).1 qg) ?_
 rintro v17 w15 r17 x16
 obtain ⟨a17Parents,c17Parents,yz,a17Rules,c17Rules,QX,rfl,f17,H⟩:=H.add_SystemD x16 r17
 replace N:=N.cons f17 sz12 (by intro F hF;simp at hF)
 replace N:=N.split
 refine ⟨H.pick [0,1] [2,3,4,5,6],(ro 3 rfl ?_)⟩
 have sz18:=H.base.size
 have lt19:=H.ltN (L:=[yz,QX]) [0,1]
 refine oc (toState_ok _ aT (H.get 4 rfl).1 (H.get 5 rfl).1 (H.get 6 rfl).1 qg) ?_
 rintro v23 w21 r23 x22
 obtain ⟨a23Alive,c23Alive,Xd,a23Bags,c23Bags,Va,a23Around,c23Around,Qv,rfl,f23,H⟩:=H.add_StateD x22 r23
 replace N:=N.cons f23 sz18 lt19
 replace N:=N.split
 replace N:=N.split
 refine ⟨H.pick [0,1] [5,6,7,8,9],(ro 4 rfl ?_)⟩
 have sz27:=H.base.size
 have lt28:=H.ltN (L:=[Xd,Va,Qv,yz,QX]) [0,1,2,3,4]
 refine oc (specSH_ok _ aS aT (H.get 3 rfl).1 (H.get 4 rfl).1 (H.get 0 rfl).1 (H.get 1 rfl).1 (H.get 2 rfl).1) ?_
 rintro _ w25 ⟨ra24a,rc24a,rF24a,rfl,M,K⟩ _
 replace N:=N.merge sz27 lt28 M
 replace H:=H.merge K M
 refine ⟨H.pick [0,1] [6,7,8,9,10],?_⟩
 have S:=H.yl [0,1] [6,7,8,9,10]
 refine rtp 5 (.tuple #[.slice ra24a (((zX aS aT).1).length) rc24a,yI ((zX aS aT).2)]) S ?_
 refine rtp 6 (.slice ra24a (((zX aS aT).1).length) rc24a) S ?_
 refine rtp 7 (yI ((zX aS aT).2)) S ?_
 refine rtp 8 (.slice ra24a (((zX aS aT).1).length) rc24a) S ?_
 refine rtp 9 (yI ((zX aS aT).2)) S ?_
 refine xO qh (t_n (zcr (sw (zn (yS aS Qc Qb Xq Xm) isAgg25 sizeOf25 rfl (qF (H.cells 1 rfl) 0 3) ?_))))
 have sz29:=H.base.size
 have lt30:=H.ltN (L:=[rF24a,Xd,Va,Qv,yz,QX]) [0,1,2,3,4,5]
 refine sw (oc (toSystem_ok _ aS (H.get 6 rfl).1 (H.get 7 rfl).1 qg) ?_)
 rintro v34 w32 r34 x33
 obtain ⟨QL,QK,yx,Vp,Vh,QW,rfl,f34,H⟩:=H.add_SystemD x33 r34
 replace N:=N.cons f34 sz29 lt30
 replace N:=N.split
 refine sw (zf H ti36 [yI 0,yN,yN] fun b35 w36 H=>sw (zB H 0 (yS aS QL QK Vp Vh) sizeOf36 fun w37 H=>zjc (sw (zn (yT aT Xp Xl Vx Vu QG QF) isAgg29 sizeOf29 rfl (qF (H.cells 1 rfl) 0 3) ?_))))
 have sz38:=H.base.size
 have lt39:=H.ltN (L:=[yx,QW,rF24a,Xd,Va,Qv,yz,QX]) [0,1,2,3,4,5,6,7]
 refine sw (oc (toState_ok _ aT (H.get 10 rfl).1 (H.get 11 rfl).1 (H.get 12 rfl).1 qg) ?_)
 rintro v43 w41 r43 x42
 obtain ⟨Vo,Vg,Xc,a43Bags,c43Bags,X9,Xr,Xo,Qu,rfl,f43,H⟩:=H.add_StateD x42 r43
 replace N:=N.cons f43 sz38 lt39
 replace N:=N.split
 replace N:=N.split
 refine sw (zf H ti38 [yN,yN,yN] fun b44 w45 H=>sw (zB H 0 (yT aT Vo Vg a43Bags c43Bags Xr Xo) sizeOf38 fun w46 H=>zjc (sw (zn (yS aS QL QK Vp Vh) isAgg36 sizeOf36 rfl (qF (H.cells 1 rfl) 0 3) ?_))))
 refine sw (zn (yT aT Vo Vg a43Bags c43Bags Xr Xo) isAgg38 sizeOf38 rfl (qF (H.cells 0 rfl) 0 3) ?_)
 have sz50:=H.base.size
 have lt51:=H.ltN (L:=[Xc,X9,Qu,yx,QW,rF24a,Xd,Va,Qv,yz,QX]) [0,1,2,3,4,5,6,7,8,9,10]
 refine sw (oc (implSH_ok _ aS aT (H.get 3 rfl).1 (H.get 4 rfl).1 (H.get 0 rfl).1 (H.get 1 rfl).1 (H.get 2 rfl).1) ?_)
 rintro _ w48 ⟨ra47a,rc47a,rF47a,rfl,M,K⟩ _
 replace N:=N.merge sz50 lt51 M
 replace H:=H.merge K M
 refine sps [.tuple #[.slice ra47a (((zX aS aT).1).length) rc47a,yI ((zX aS aT).2)],.slice ra47a (((zX aS aT).1).length) rc47a,yI ((zX aS aT).2),.slice ra47a (((zX aS aT).1).length) rc47a,yI ((zX aS aT).2)] (zjcc (sps [.slice ra47a (((zX aS aT).1).length) rc47a,.slice ra24a (((zX aS aT).1).length) rc24a] (sw (oq (eqInt64SS_ok _ ((zX aS aT).1) ((zX aS aT).1) (H.get 0 rfl).1 (H.get 6 rfl).1) H fun w52 H=>sps [.bool (!(decide (((zX aS aT).1)=((zX aS aT).1)))),.bool (!(decide (((zX aS aT).1)=((zX aS aT).1))))] ?_))))
 cases h54:(!(decide (((zX aS aT).1)=((zX aS aT).1))))
 ·skip
  replace h54:=xh h54
  refine qP 49 rfl rfl (sp (yI ((zX aS aT).2)) (qP 49 rfl rfl (sp (yI ((zX aS aT).2)) (qP 49 rfl rfl (sps [.bool (((zX aS aT).2:Int) != ((zX aS aT).2)),.bool (((zX aS aT).2:Int) != ((zX aS aT).2))] (zjn (xK (((zX aS aT).2:Int) != ((zX aS aT).2)) rfl (fun h=>absurd rfl (bne_iff_ne.1 h)) (fun h55=>?_))))))))
  replace h55:=xq h55
  refine qU (t_n (xQ (xQ ?_)))
  refine vT rfl H fun H=>rt 0 (.agg #[yI aS.xC,.slice QL aS.qw.length QK,.slice Vp aS.qx.length Vh]) (Qe (cs:=(yS aS QL QK Vp Vh)) isAgg36 sizeOf36 rfl (fun _ h=>qF (h.cells 1 rfl) 0 3)) H ?_
  refine rt 1 (.agg #[yI aS.xC,.slice Qc aS.qw.length Qb,.slice Xq aS.qx.length Xm]) (Qe (cs:=(yS aS Qc Qb Xq Xm)) isAgg25 sizeOf25 rfl (fun _ h=>qF (h.cells 3 rfl) 0 3)) H ?_
  refine ro 2 rfl ?_
  have sz57:=H.base.size
  have lt58:=H.ltN (L:=[rF47a,Xc,X9,Qu,yx,QW,rF24a,Xd,Va,Qv,yz,QX]) [0,1,2,3,4,5,6,7,8,9,10,11]
  refine oc (toSystem_ok _ aS (H.get 12 rfl).1 (H.get 13 rfl).1 qg) ?_
  rintro v62 w60 r62 x61
  obtain ⟨a62Parents,c62Parents,Q3,a62Rules,c62Rules,VM,rfl,f62,H⟩:=H.add_SystemD x61 r62
  replace N:=N.cons f62 sz57 lt58
  replace N:=N.split
  refine ⟨H.pick [0,1,2,3] [2,3,4,5,6,7,8,9,10,11,12,13,14,15,16,17,18],(ro 3 rfl (oq (eqSystem_ok _ aS aS (H.get 6 rfl).1 (H.get 7 rfl).1 (H.get 0 rfl).1 (H.get 1 rfl).1) H fun w63 H=>⟨H.pick [0,1,2,3] [2,3,4,5,6,7,8,9,10,11,12,13,14,15,16,17,18],(rtp 4 (.bool (!(decide (aS=aS)))) (H.pick [0,1,2,3] [2,3,4,5,6,7,8,9,10,11,12,13,14,15,16,17,18]) ?_)⟩))⟩
  refine xO qh (t_n (xK (!(decide (aS=aS))) rfl (fun h=>absurd (xw h) qm) (fun h65=>?_)))
  replace h65:=xh h65
  refine qU (t_n (xQ (xQ ?_)))
  refine vT rfl H fun H=>rt 0 (.agg #[.slice Vo aT.qA.length Vg,.slice a43Bags aT.qE.length c43Bags,.slice Xr aT.qC.length Xo]) (Qe (cs:=(yT aT Vo Vg a43Bags c43Bags Xr Xo)) isAgg38 sizeOf38 rfl (fun _ h=>qF (h.cells 0 rfl) 0 3)) H ?_
  refine rt 1 (.agg #[.slice Xp aT.qA.length Xl,.slice Vx aT.qE.length Vu,.slice QG aT.qC.length QF]) (Qe (cs:=(yT aT Xp Xl Vx Vu QG QF)) isAgg29 sizeOf29 rfl (fun _ h=>qF (h.cells 2 rfl) 0 3)) H ?_
  refine ro 2 rfl ?_
  have sz67:=H.base.size
  have lt68:=H.ltN (L:=[Q3,VM,rF47a,Xc,X9,Qu,yx,QW,rF24a,Xd,Va,Qv,yz,QX]) [0,1,2,3,4,5,6,7,8,9,10,11,12,13]
  refine oc (toState_ok _ aT (H.get 16 rfl).1 (H.get 17 rfl).1 (H.get 18 rfl).1 qg) ?_
  rintro v72 w70 r72 x71
  obtain ⟨a72Alive,c72Alive,Yz,a72Bags,c72Bags,F72Bags,a72Around,c72Around,X5,rfl,f72,H⟩:=H.add_StateD x71 r72
  replace N:=N.cons f72 sz67 lt68
  replace N:=N.split
  replace N:=N.split
  refine ⟨H.pick [0,1,2,3] [3,4,5,6,7,8,9,10,11,12,13,14,15,16,17,18,19,20,21],(ro 3 rfl (oq (eqState_ok _ aT aT (H.get 6 rfl).1 (H.get 7 rfl).1 (H.get 8 rfl).1 (H.get 0 rfl).1 (H.get 1 rfl).1 (H.get 2 rfl).1) H fun w73 H=>⟨H.pick [0,1,2,3] [3,4,5,6,7,8,9,10,11,12,13,14,15,16,17,18,19,20,21],(rtp 4 (.bool (!(decide (aT=aT)))) (H.pick [0,1,2,3] [3,4,5,6,7,8,9,10,11,12,13,14,15,16,17,18,19,20,21]) ?_)⟩))⟩
  refine xO qh (t_n (xK (!(decide (aT=aT))) rfl (fun h=>absurd (xw h) qm) (fun h75=>?_)))
  replace h75:=xh h75
  refine qU (t_n (zcr (sp (yI 1) (zjc (sw (zn (yS aS QL QK Vp Vh) isAgg36 sizeOf36 rfl (qF (H.cells 1 rfl) 0 3) (sp (yI 1) ?_)))))))
  have N76:Fresh w.heap.size [yx,QW,Yz,F72Bags,X5,Q3,VM,rF47a,Xc,X9,Qu,rF24a,Xd,Va,Qv,yz,QX]:=(N.pick [9,10,0,1,2,3,4,5,6,7,8,11,12,13,14,15,16])
  refine sw (VQ #[.agg #[yI aS.xC,.slice QL aS.qw.length QK,.slice Vp aS.qx.length Vh],yI 1] rfl rfl call23 (markSystem_ok w73 aS 1 QL QK yx Vp Vh QW (H.get 9 rfl).1 (H.get 10 rfl).1 (N76.pick [0,1]:Fresh _ [yx,QW]).join.one.2 (((H.get 9 rfl).2 rfl).app ((H.get 10 rfl).2 rfl)) qf qf) ?_)
  rintro _ w77 ⟨rfl,m79⟩ x78
  replace H:St _ _ [.box b44 (yT aT Vo Vg a43Bags c43Bags Xr Xo) 38,.box b35 (yS aS QL QK Vp Vh) 36,.box b3 (yT aT Xp Xl Vx Vu QG QF) 29,.box b1 (yS aS Qc Qb Xq Xm) 25] [isF true yx (.slice QL aS.qw.length QK) (mrk aS.qw (1)),isF true QW (.slice Vp aS.qx.length Vh) (mrk aS.qx (1+(cnt aS.qw:Nat))),sF true Yz a72Alive c72Alive aT.qA,sF true F72Bags a72Bags c72Bags aT.qE,sF true X5 a72Around c72Around aT.qC,sF true Q3 a62Parents c62Parents aS.qw,sF true VM a62Rules c62Rules aS.qx,sF true rF47a ra47a rc47a ((zX aS aT).1),sF true Xc Vo Vg aT.qA,sF true X9 a43Bags c43Bags aT.qE,sF true Qu Xr Xo aT.qC,sF true rF24a ra24a rc24a ((zX aS aT).1),sF true Xd a23Alive c23Alive aT.qA,sF true Va a23Bags c23Bags aT.qE,sF true Qv a23Around c23Around aT.qC,sF true yz a17Parents c17Parents aS.qw,sF true QX a17Rules c17Rules aS.qx,sF false YU Qc Qb aS.qw,sF false FaSRules Xq Xm aS.qx,sF false FaTAlive Xp Xl aT.qA,sF false FaTBags Vx Vu aT.qE,sF false FaTAround QG QF aT.qC]:=H.chgFacts (Fs:=[yx,QW]) (L:=[Yz,F72Bags,X5,Q3,VM,rF47a,Xc,X9,Qu,rF24a,Xd,Va,Qv,yz,QX]) (A:=[YU,FaSRules,FaTAlive,FaTBags,FaTAround]) N76 A (x78.mono (by intro z hz;simpa using hz)) [9,10] [isF true yx (.slice QL aS.qw.length QK) (mrk aS.qw (1)),isF true QW (.slice Vp aS.qx.length Vh) (mrk aS.qx (1+(cnt aS.qw:Nat)))] (all_of ⟨m79.1,⟨m79.2,trivial⟩⟩) [0,1,2,3,4,5,6,7,8,11,12,13,14,15,16,17,18,19,20,21] [0,1,2,3,4,5,6,7,8,9,10,11,12,13,14,15,16,17,18,19]
  replace N:=N76
  refine sp (yI (1+(cnt aS.qw:Nat)+(cnt aS.qx:Nat))) (zjc (sw (zn (yT aT Vo Vg a43Bags c43Bags Xr Xo) isAgg38 sizeOf38 rfl (qF (H.cells 0 rfl) 0 3) (sp (yI (1+(cnt aS.qw:Nat)+(cnt aS.qx:Nat))) ?_))))
  have N80:Fresh w.heap.size [Xc,X9,Qu,yx,QW,Yz,F72Bags,X5,Q3,VM,rF47a,rF24a,Xd,Va,Qv,yz,QX]:=(N.pick [8,9,10,0,1,2,3,4,5,6,7,11,12,13,14,15,16])
  refine sw (VQ #[.agg #[.slice Vo aT.qA.length Vg,.slice a43Bags aT.qE.length c43Bags,.slice Xr aT.qC.length Xo],yI (1+(cnt aS.qw:Nat)+(cnt aS.qx:Nat))] rfl rfl call24 (markState_ok w77 aT (1+(cnt aS.qw:Nat)+(cnt aS.qx:Nat)) Vo Vg Xc a43Bags c43Bags X9 Xr Xo Qu (H.get 8 rfl).1 (H.get 9 rfl).1 (H.get 10 rfl).1 (N80.pick [0,1,2]:Fresh _ [Xc,X9,Qu]).join.join.one.2 ((((H.get 8 rfl).2 rfl).app ((H.get 9 rfl).2 rfl)).app ((H.get 10 rfl).2 rfl)) qf qf) ?_)
  rintro _ w81 ⟨rfl,m83⟩ x82
  replace H:St _ _ [.box b44 (yT aT Vo Vg a43Bags c43Bags Xr Xo) 38,.box b35 (yS aS QL QK Vp Vh) 36,.box b3 (yT aT Xp Xl Vx Vu QG QF) 29,.box b1 (yS aS Qc Qb Xq Xm) 25] [isF true Xc (.slice Vo aT.qA.length Vg) (mrk aT.qA (1+(cnt aS.qw:Nat)+(cnt aS.qx:Nat))),isF true X9 (.slice a43Bags aT.qE.length c43Bags) (mrk aT.qE (1+(cnt aS.qw:Nat)+(cnt aS.qx:Nat)+(cnt aT.qA:Nat))),isF true Qu (.slice Xr aT.qC.length Xo) (mrk aT.qC (1+(cnt aS.qw:Nat)+(cnt aS.qx:Nat)+(cnt aT.qA:Nat)+(cnt aT.qE:Nat))),isF true yx (.slice QL aS.qw.length QK) (mrk aS.qw (1)),isF true QW (.slice Vp aS.qx.length Vh) (mrk aS.qx (1+(cnt aS.qw:Nat))),sF true Yz a72Alive c72Alive aT.qA,sF true F72Bags a72Bags c72Bags aT.qE,sF true X5 a72Around c72Around aT.qC,sF true Q3 a62Parents c62Parents aS.qw,sF true VM a62Rules c62Rules aS.qx,sF true rF47a ra47a rc47a ((zX aS aT).1),sF true rF24a ra24a rc24a ((zX aS aT).1),sF true Xd a23Alive c23Alive aT.qA,sF true Va a23Bags c23Bags aT.qE,sF true Qv a23Around c23Around aT.qC,sF true yz a17Parents c17Parents aS.qw,sF true QX a17Rules c17Rules aS.qx,sF false YU Qc Qb aS.qw,sF false FaSRules Xq Xm aS.qx,sF false FaTAlive Xp Xl aT.qA,sF false FaTBags Vx Vu aT.qE,sF false FaTAround QG QF aT.qC]:=H.chgFacts (Fs:=[Xc,X9,Qu]) (L:=[yx,QW,Yz,F72Bags,X5,Q3,VM,rF47a,rF24a,Xd,Va,Qv,yz,QX]) (A:=[YU,FaSRules,FaTAlive,FaTBags,FaTAround]) N80 A (x82.mono (by intro z hz;simpa using hz)) [8,9,10] [isF true Xc (.slice Vo aT.qA.length Vg) (mrk aT.qA (1+(cnt aS.qw:Nat)+(cnt aS.qx:Nat))),isF true X9 (.slice a43Bags aT.qE.length c43Bags) (mrk aT.qE (1+(cnt aS.qw:Nat)+(cnt aS.qx:Nat)+(cnt aT.qA:Nat))),isF true Qu (.slice Xr aT.qC.length Xo) (mrk aT.qC (1+(cnt aS.qw:Nat)+(cnt aS.qx:Nat)+(cnt aT.qA:Nat)+(cnt aT.qE:Nat)))] (all_of ⟨m83.1,⟨m83.2.1,⟨m83.2.2,trivial⟩⟩⟩) [0,1,2,3,4,5,6,7,11,12,13,14,15,16,17,18,19,20,21] [0,1,2,3,4,5,6,7,8,9,10,11,12,13,14,15,16,17,18]
  replace N:=N80
  refine sp (yI (1+(cnt aS.qw:Nat)+(cnt aS.qx:Nat)+(cnt aT.qA:Nat)+(cnt aT.qE:Nat)+(cnt aT.qC:Nat))) (zjcc (sps [yI (1+(cnt aS.qw:Nat)+(cnt aS.qx:Nat)+(cnt aT.qA:Nat)+(cnt aT.qE:Nat)+(cnt aT.qC:Nat)),.bool (decide ((1+(cnt aS.qw:Nat)+(cnt aS.qx:Nat)+(cnt aT.qA:Nat)+(cnt aT.qE:Nat)+(cnt aT.qC:Nat):Int) < 0)),.bool (decide ((1+(cnt aS.qw:Nat)+(cnt aS.qx:Nat)+(cnt aT.qA:Nat)+(cnt aT.qE:Nat)+(cnt aT.qC:Nat):Int) < 0))] ?_))
  cases h84:(decide ((1+(cnt aS.qw:Nat)+(cnt aS.qx:Nat)+(cnt aT.qA:Nat)+(cnt aT.qE:Nat)+(cnt aT.qC:Nat):Int) < 0))
  ·skip
   replace h84:=of_decide_eq_false h84
   refine qP 72 rfl rfl (sp (.slice ra47a (((zX aS aT).1).length) rc47a) (qP 72 rfl rfl (sp (.slice ra24a (((zX aS aT).1).length) rc24a) (qP 72 rfl rfl (sw (oq (eqInt64SS_ok _ ((zX aS aT).1) ((zX aS aT).1) (H.get 10 rfl).1 (H.get 11 rfl).1) H fun w85 H=>qP 72 rfl rfl (sps [.bool (!(decide (((zX aS aT).1)=((zX aS aT).1)))),.bool (!(decide (((zX aS aT).1)=((zX aS aT).1)))),.bool (!(decide (((zX aS aT).1)=((zX aS aT).1))))] ?_)))))))
   cases h87:(!(decide (((zX aS aT).1)=((zX aS aT).1))))
   ·skip
    replace h87:=xh h87
    refine qP 78 rfl rfl (sp (yI ((zX aS aT).2)) (qP 78 rfl rfl (sp (yI ((zX aS aT).2)) (qP 78 rfl rfl (sps [.bool (((zX aS aT).2:Int) != ((zX aS aT).2)),.bool (((zX aS aT).2:Int) != ((zX aS aT).2))] (zjn (xK (((zX aS aT).2:Int) != ((zX aS aT).2)) rfl (fun h=>absurd rfl (bne_iff_ne.1 h)) (fun h88=>?_))))))))
    replace h88:=xq h88
    refine qU (t_n (zcr (sp (yI 1) (zjc (sps [.slice ra47a (((zX aS aT).1).length) rc47a,yI 1] ?_)))))
    have N89:Fresh w.heap.size [rF47a,Xc,X9,Qu,yx,QW,Yz,F72Bags,X5,Q3,VM,rF24a,Xd,Va,Qv,yz,QX]:=(N.pick [10,0,1,2,3,4,5,6,7,8,9,11,12,13,14,15,16])
    refine sw (VQ #[.slice ra47a (((zX aS aT).1).length) rc47a,yI 1] rfl rfl call25 (markInt64SS_ok w85 ((zX aS aT).1) 1 ra47a rc47a rF47a (H.get 10 rfl).1 (N89.pick [0]:Fresh _ [rF47a]).one.2 ((H.get 10 rfl).2 rfl) qf qf) ?_)
    rintro _ w90 ⟨rfl,m92⟩ x91
    replace H:St _ _ [.box b44 (yT aT Vo Vg a43Bags c43Bags Xr Xo) 38,.box b35 (yS aS QL QK Vp Vh) 36,.box b3 (yT aT Xp Xl Vx Vu QG QF) 29,.box b1 (yS aS Qc Qb Xq Xm) 25] [isF true rF47a (.slice ra47a (((zX aS aT).1).length) rc47a) (mrk ((zX aS aT).1) (1)),isF true Xc (.slice Vo aT.qA.length Vg) (mrk aT.qA (1+(cnt aS.qw:Nat)+(cnt aS.qx:Nat))),isF true X9 (.slice a43Bags aT.qE.length c43Bags) (mrk aT.qE (1+(cnt aS.qw:Nat)+(cnt aS.qx:Nat)+(cnt aT.qA:Nat))),isF true Qu (.slice Xr aT.qC.length Xo) (mrk aT.qC (1+(cnt aS.qw:Nat)+(cnt aS.qx:Nat)+(cnt aT.qA:Nat)+(cnt aT.qE:Nat))),isF true yx (.slice QL aS.qw.length QK) (mrk aS.qw (1)),isF true QW (.slice Vp aS.qx.length Vh) (mrk aS.qx (1+(cnt aS.qw:Nat))),sF true Yz a72Alive c72Alive aT.qA,sF true F72Bags a72Bags c72Bags aT.qE,sF true X5 a72Around c72Around aT.qC,sF true Q3 a62Parents c62Parents aS.qw,sF true VM a62Rules c62Rules aS.qx,sF true rF24a ra24a rc24a ((zX aS aT).1),sF true Xd a23Alive c23Alive aT.qA,sF true Va a23Bags c23Bags aT.qE,sF true Qv a23Around c23Around aT.qC,sF true yz a17Parents c17Parents aS.qw,sF true QX a17Rules c17Rules aS.qx,sF false YU Qc Qb aS.qw,sF false FaSRules Xq Xm aS.qx,sF false FaTAlive Xp Xl aT.qA,sF false FaTBags Vx Vu aT.qE,sF false FaTAround QG QF aT.qC]:=H.chgFacts (Fs:=[rF47a]) (L:=[Xc,X9,Qu,yx,QW,Yz,F72Bags,X5,Q3,VM,rF24a,Xd,Va,Qv,yz,QX]) (A:=[YU,FaSRules,FaTAlive,FaTBags,FaTAround]) N89 A (x91.mono (by intro z hz;simpa using hz)) [10] [isF true rF47a (.slice ra47a (((zX aS aT).1).length) rc47a) (mrk ((zX aS aT).1) (1))] (all_of ⟨m92,trivial⟩) [0,1,2,3,4,5,6,7,8,9,11,12,13,14,15,16,17,18,19,20,21] [0,1,2,3,4,5,6,7,8,9,10,11,12,13,14,15,16,17,18,19,20]
    replace N:=N89
    refine sp (yI (1+(cnt ((zX aS aT).1):Nat))) (zjc (sp (yI 1) (zjc (sps [.slice ra47a (((zX aS aT).1).length) rc47a,yI 1] ?_))))
    have hn93:=H.isLen 0 rfl
    refine sw (oq (YM (by rw [← hn93]) (heldInt64SS_ok _ (mrk ((zX aS aT).1) (1)) 1 (hn93▸(H.get 0 rfl).1) (by first | exact mkd_mark _ _ | omega | (simp only [cnt_mark];first | exact mkd_mark _ _ | omega)) (by first | exact mkd_mark _ _ | omega | (simp only [cnt_mark];first | exact mkd_mark _ _ | omega)) (by first | exact mkd_mark _ _ | omega | (simp only [cnt_mark];first | exact mkd_mark _ _ | omega)))) H fun w94 H=>sp (yI (1+(cnt (mrk ((zX aS aT).1) (1)):Nat))) (zjcc (sps [yI (1+(cnt (mrk ((zX aS aT).1) (1)):Nat)),.bool (decide ((1+(cnt (mrk ((zX aS aT).1) (1)):Nat):Int) < 0))] (zjn ?_))))
    refine cD rfl (fun h96=>?_) (fun h96=>?_)
    ·skip
     refine zcr (sp (.bool false) (zjr (t_r (ret1 (.bool false) rfl rfl ⟨_,rfl,?_,H.base⟩))))
     exfalso;first | omega | contradiction
    refine qU (t_n (zcc (sps [yI (1+(cnt (mrk ((zX aS aT).1) (1)):Nat)),yI (1+(cnt ((zX aS aT).1):Nat)),.bool ((1+(cnt (mrk ((zX aS aT).1) (1)):Nat):Int) != (1+(cnt ((zX aS aT).1):Nat)))] (zjn (xK ((1+(cnt (mrk ((zX aS aT).1) (1)):Nat):Int) != (1+(cnt ((zX aS aT).1):Nat))) rfl (fun h97=>?_) (fun h97=>?_))))))
    ·skip
     replace h97:=bne_iff_ne.1 h97
     refine zcr (sp (.bool false) (zjr (t_r (ret1 (.bool false) rfl rfl ⟨_,rfl,?_,H.base⟩))))
     exfalso;first | omega | contradiction | exact h97 (by simp only [cnt_mark])
    replace h97:=xq h97
    refine qU (t_n (xQ ?_))
    refine vT rfl H fun H=>rt 0 (.agg #[yI aS.xC,.slice Qc aS.qw.length Qb,.slice Xq aS.qx.length Xm]) (Qe (cs:=(yS aS Qc Qb Xq Xm)) isAgg25 sizeOf25 rfl (fun _ h=>qF (h.cells 3 rfl) 0 3)) H ?_
    refine rt 2 (.agg #[.slice Xp aT.qA.length Xl,.slice Vx aT.qE.length Vu,.slice QG aT.qC.length QF]) (Qe (cs:=(yT aT Xp Xl Vx Vu QG QF)) isAgg29 sizeOf29 rfl (fun _ h=>qF (h.cells 2 rfl) 0 3)) H ?_
    refine ro 1 rfl ?_
    have sz99:=H.base.size
    have lt100:=H.ltN (L:=[rF47a,Xc,X9,Qu,yx,QW,Yz,F72Bags,X5,Q3,VM,rF24a,Xd,Va,Qv,yz,QX]) [0,1,2,3,4,5,6,7,8,9,10,11,12,13,14,15,16]
    refine oc (toSystem_ok _ aS (H.get 17 rfl).1 (H.get 18 rfl).1 qg) ?_
    rintro v104 w102 r104 x103
    obtain ⟨a104Parents,c104Parents,F104Parents,a104Rules,c104Rules,F104Rules,rfl,f104,H⟩:=H.add_SystemD x103 r104
    replace N:=N.cons f104 sz99 lt100
    replace N:=N.split
    refine ⟨H.pick [0,1,2,3] [2,3,4,5,6,7,8,9,10,11,12,13,14,15,16,17,18,19,20,21,22,23],(ro 3 rfl ?_)⟩
    have sz105:=H.base.size
    have lt106:=H.ltN (L:=[F104Parents,F104Rules,rF47a,Xc,X9,Qu,yx,QW,Yz,F72Bags,X5,Q3,VM,rF24a,Xd,Va,Qv,yz,QX]) [0,1,2,3,4,5,6,7,8,9,10,11,12,13,14,15,16,17,18]
    refine oc (toState_ok _ aT (H.get 21 rfl).1 (H.get 22 rfl).1 (H.get 23 rfl).1 qg) ?_
    rintro v110 w108 r110 x109
    obtain ⟨a110Alive,c110Alive,F110Alive,a110Bags,c110Bags,F110Bags,a110Around,c110Around,F110Around,rfl,f110,H⟩:=H.add_StateD x109 r110
    replace N:=N.cons f110 sz105 lt106
    replace N:=N.split
    replace N:=N.split
    refine ⟨H.pick [0,1,2,3] [5,6,7,8,9,10,11,12,13,14,15,16,17,18,19,20,21,22,23,24,25,26],(ro 4 rfl ?_)⟩
    have sz114:=H.base.size
    have lt115:=H.ltN (L:=[F110Alive,F110Bags,F110Around,F104Parents,F104Rules,rF47a,Xc,X9,Qu,yx,QW,Yz,F72Bags,X5,Q3,VM,rF24a,Xd,Va,Qv,yz,QX]) [0,1,2,3,4,5,6,7,8,9,10,11,12,13,14,15,16,17,18,19,20,21]
    refine oc (implSH_ok _ aS aT (H.get 3 rfl).1 (H.get 4 rfl).1 (H.get 0 rfl).1 (H.get 1 rfl).1 (H.get 2 rfl).1) ?_
    rintro _ w112 ⟨ra111a,rc111a,rF111a,rfl,M,K⟩ _
    replace N:=N.merge sz114 lt115 M
    replace H:=H.merge K M
    refine ⟨H.pick [0,1,2,3] [6,7,8,9,10,11,12,13,14,15,16,17,18,19,20,21,22,23,24,25,26,27],?_⟩
    have S:=H.yl [0,1,2,3] [6,7,8,9,10,11,12,13,14,15,16,17,18,19,20,21,22,23,24,25,26,27]
    refine rtp 5 (.tuple #[.slice ra111a (((zX aS aT).1).length) rc111a,yI ((zX aS aT).2)]) S ?_
    refine rtp 6 (.slice ra111a (((zX aS aT).1).length) rc111a) S ?_
    refine rtp 7 (yI ((zX aS aT).2)) S ?_
    refine rtp 8 (.slice ra111a (((zX aS aT).1).length) rc111a) S ?_
    refine rtp 9 (yI ((zX aS aT).2)) S ?_
    refine xO qh (t_n (zcc (sps [.slice ra111a (((zX aS aT).1).length) rc111a,.slice ra24a (((zX aS aT).1).length) rc24a] (sw (oq (eqInt64SS_ok _ ((zX aS aT).1) ((zX aS aT).1) (H.get 0 rfl).1 (H.get 17 rfl).1) H fun w116 H=>sps [.bool (!(decide (((zX aS aT).1)=((zX aS aT).1)))),.bool (!(decide (((zX aS aT).1)=((zX aS aT).1))))] ?_)))))
    cases h118:(!(decide (((zX aS aT).1)=((zX aS aT).1))))
    ·skip
     replace h118:=xh h118
     refine qP 106 rfl rfl (sp (yI ((zX aS aT).2)) (qP 106 rfl rfl (sp (yI ((zX aS aT).2)) (qP 106 rfl rfl (sps [.bool (((zX aS aT).2:Int) != ((zX aS aT).2)),.bool (((zX aS aT).2:Int) != ((zX aS aT).2))] (zjn (xK (((zX aS aT).2:Int) != ((zX aS aT).2)) rfl (fun h=>absurd rfl (bne_iff_ne.1 h)) (fun h119=>?_))))))))
     replace h119:=xq h119
     refine qU (t_n (zcr (sp (yI 1) (zjc (sps [.slice ra47a (((zX aS aT).1).length) rc47a,yI 1] ?_)))))
     have hn120:=H.isLen 6 rfl
     refine sw (oq (YM (by rw [← hn120]) (heldInt64SS_ok _ (mrk ((zX aS aT).1) (1)) 1 (hn120▸(H.get 6 rfl).1) (by first | exact mkd_mark _ _ | omega | (simp only [cnt_mark];first | exact mkd_mark _ _ | omega)) (by first | exact mkd_mark _ _ | omega | (simp only [cnt_mark];first | exact mkd_mark _ _ | omega)) (by first | exact mkd_mark _ _ | omega | (simp only [cnt_mark];first | exact mkd_mark _ _ | omega)))) H fun w121 H=>sp (yI (1+(cnt (mrk ((zX aS aT).1) (1)):Nat))) (zjcc (sps [yI (1+(cnt (mrk ((zX aS aT).1) (1)):Nat)),.bool (decide ((1+(cnt (mrk ((zX aS aT).1) (1)):Nat):Int) < 0))] ?_)))
     refine zjn (cD rfl (fun h123=>?_) (fun h123=>?_))
     ·skip
      refine zcr (sp (.bool false) (zjr (t_r (ret1 (.bool false) rfl rfl ⟨_,rfl,?_,H.base⟩))))
      exfalso;first | omega | contradiction
     refine qU (t_n (zcc (sps [yI (1+(cnt (mrk ((zX aS aT).1) (1)):Nat)),yI (1+(cnt ((zX aS aT).1):Nat)),.bool ((1+(cnt (mrk ((zX aS aT).1) (1)):Nat):Int) != (1+(cnt ((zX aS aT).1):Nat)))] (zjn (xK ((1+(cnt (mrk ((zX aS aT).1) (1)):Nat):Int) != (1+(cnt ((zX aS aT).1):Nat))) rfl (fun h=>absurd h97 (bne_iff_ne.1 h)) (fun h124=>?_))))))
     replace h124:=xq h124
     refine qU (t_n (zcr (sp (.bool true) (zjr (ret1 (.bool true) rfl rfl ⟨_,rfl,?_,H.base⟩)))))
     rfl
    · exact absurd (xw h118) qm
   · exact absurd (xw h87) qm
  replace h84:=of_decide_eq_true h84
  refine zo [73,74,75,76] (sps [.bool true,.bool true] (zo [79,80,81] (sp (.bool true) (zjn (xK true rfl (fun _=>zcr (sp (.bool false) (zjr (t_r (ret1 (.bool false) rfl rfl ⟨_,rfl,?_,H.base⟩))))) (fun h=>absurd h qj))))))
  exfalso;first | omega | contradiction
 · exact absurd (xw h54) qm
end
end Go.Proofs.YtgjnaocffdhnbaaGreat
