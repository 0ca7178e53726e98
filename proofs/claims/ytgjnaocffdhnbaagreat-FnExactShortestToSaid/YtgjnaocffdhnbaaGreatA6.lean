/- Walks and laws, printed by program and by hand: what each function comes to, for all arguments, part 6. -/
import Derived.Test.YtgjnaocffdhnbaaGreatA5
namespace Go.Proofs.YtgjnaocffdhnbaaGreat
set_option linter.unusedVariables false
set_option linter.unusedSimpArgs false
open Go.Proofs.YtgjnaocffdhnbaaGreat.Tot (tot)
open Go.Proofs.YtgjnaocffdhnbaaGreat.Mark (cnt mrk mkd mkd_mark cnt_mark)
section
open Go.Proofs.Tryz
open Go.RowKit
set_option linter.unusedVariables false
set_option linter.unusedSimpArgs false
set_option maxRecDepth 100000
set_option maxHeartbeats 4000000
variable {cl cb qB qJ qU xm qN bs os bt ot yB Q5 jl Q7 cgNext : Nat}
theorem isBag_ok (w:World) (l:yLI) {al:yOA} {Fl:yLN} (hl:qM.rep w Fl [.slice al l.length cl] l):Calls Tryz.prog 209 #[.slice al l.length cl] w (Ret (fun v w' =>v=.bool (dec (Ym l))) w):=by
 refine en func209 ntmps209 ?_
 have H:=(St.start w).arg hl
 have nhl:=qK hl
 clear hl
 have N:=Fresh.nil w.heap.size
 refine zcr (sp (.bool false) (zjc (sp (.slice al l.length cl) (sw (oq (sizeI_ok _ l (H.get 0 rfl).1) H fun w1 H=>sp (.slice al l.length cl) (sw (oq (Y9 _ (l.length:Int) l (H.get 0 rfl).1) H fun w3 H=>sp (.bool (dec (vw (l.length:Int) l))) (zjr (ret1 (.bool (dec (vw (l.length:Int) l))) rfl rfl ⟨_,rfl,?_,H.base⟩)))))))))
 rw [dec_congr bagAny_okH]

theorem isFull_ok (w:World) (rest:yLI) (parts:yLL) {arest:yOA} {crest:Nat} {Frest:yLN} {zk:yOA} {xX:Nat} {Fparts:yLN} (hrest:qM.rep w Frest [.slice arest rest.length crest] rest) (hparts:qM.rep w Fparts [.slice zk parts.length xX] parts) (p0:YY parts rest):Calls Tryz.prog 178 #[.slice arest rest.length crest,.slice zk parts.length xX] w (Ret (fun v w' =>v=.bool (dec (FullOk parts rest))) w):=by
 refine en func178 ntmps178 ?_
 have H:=((St.start w).arg hparts).arg hrest
 have nhrest:=qK hrest
 have nhparts:=qK hparts
 clear hrest hparts
 have N:=Fresh.nil w.heap.size
 refine zcr (sw (vF H [.slice arest rest.length crest] fun b1 w2 H=>sp (.bool false) (zjc (sps [.slice zk parts.length xX,.func (.func 206) #[] #[pp b1 0]] (sw (vH #[.slice zk parts.length xX,.func (.func 206) #[] #[pp b1 0]] rfl rfl call205 (en func205 ntmps205 ?_)))))))
 refine zcr (sp (.bool false) (zjc (sps [.slice zk parts.length xX,.func (.func 206) #[] #[pp b1 0]] (sw (vH #[.slice zk parts.length xX,.func (.func 206) #[] #[pp b1 0]] rfl rfl call211 (en func211 ntmps211 ?_))))))
 refine zcr (sp (yI 0) (zjcc (sp (.slice zk parts.length xX) (oN rfl (sp (yI 0) (zjn (qY ?_)))))))
 refine zu (fun m' ρ w3=>∃ (xU:Env) (i:Nat),ρ=upd (upd (upd (upd xU 0 (.slice zk parts.length xX)) 1 (.func (.func 206) #[] #[pp b1 0])) 7 (yI parts.length)) 8 (yI i)∧((i:Int)≤parts.length)∧(FullTo parts rest i)∧m' =(parts.length - (i:Int)).toNat∧Fresh w.heap.size []∧St w w3 [.box b1 [.slice arest rest.length crest] 22] [sF false Frest arest crest rest,sF false Fparts zk xX parts]) ((parts.length - (0:Int)).toNat) ⟨_,0,uE4,qf,(by first | trivial | exact fun j hj=>by omega),rfl,N,H⟩ ?_
 clear H N
 rintro m' ρ w4 ⟨xU,i,rfl,i0,i1,rfl,N,H⟩
 refine zcr (sp (.bool (decide ((i:Int) < parts.length))) (zjn (xQ (cD rfl (fun h5=>?_) (fun h5=>?_)))))
 ·skip
  obtain ⟨t1,t2,t3,t4,t5⟩:=p0.times (k:=i) qf
  refine qV (t_n (xQ (qY (zcr (sps [yI i,yI i] (zjc (sps [.func (.func 206) #[] #[pp b1 0],.slice zk parts.length xX,yI i] ?_)))))))
  obtain ⟨b6,o7,rfl⟩:=H.addr 1 rfl qf
  obtain ⟨ae9,ce9,Fe9,H⟩:=H.vM 1 rfl i i qf qf qf
  refine oI rfl rfl (oL rfl (H.xW 1 rfl 0 rfl) (sw (vH #[.slice ae9 ((parts[i]!).length) ce9,pp b1 0] rfl rfl call206 (en func206 ntmps206 ?_))))
  refine zcr (sp (.bool false) (zjc (sp (.slice ae9 ((parts[i]!).length) ce9) (oL rfl (H.cell 0 rfl rfl) (sw (oq (isWithin_ok _ (parts[i]!) rest (H.get 0 rfl).1 (H.get 2 rfl).1 qg qg) H fun w10 H=>sp (.bool (within (parts[i]!) rest)) (zjr (ret1 (.bool (within (parts[i]!) rest)) rfl rfl ⟨_,rfl,(zjn (xI (within (parts[i]!) rest) rfl (fun h12=>?_) (fun h12=>?_)))⟩))))))))
  ·skip
   refine zcr (sps [yI i,yI i] (zjr (zr5 (ret1 (yI i) rfl rfl ⟨_,rfl,(sw (o_pure (.bool true) (by show some (Value.bool (decide ((i:Int)≥0)))=some (Value.bool true);rw [decide_eq_true qf]) (sp (.bool true) (zjr (ret1 (.bool true) rfl rfl ⟨_,rfl,(sps [.bool false,.bool false] (zjr (ret1 (.bool false) rfl rfl ⟨_,rfl,?_,H.base⟩)))⟩)))))⟩))))
   rw [xx (fun h=>by have:=h i qf;simp_all)]
  refine qV (b_n (t_n (xZ (sw (zD i 1 rfl rfl qf (sp (yI (i+1)) (zf (xf (m' :=(parts.length - ((i+1):Int)).toNat) qf ⟨_,i+1,uE4,?_,?_,rfl,N,H.pick [0] [2,3]⟩))))))))
  · omega
  · first | trivial | exact i1.succ ‹_›
 refine zx4 (zcr (sp (yI (-1)) (zjr (ret1 (yI (-1)) rfl rfl ⟨_,rfl,(sps [.bool false,.bool false] (zjr (ret1 (.bool false) rfl rfl ⟨_,rfl,(sps [.bool true,.bool true] (zjr (ret1 (.bool true) rfl rfl ⟨_,rfl,?_,H.base⟩)))⟩)))⟩))))
 rw [yL (show FullOk parts rest from fun j hj=>i1 j qf)]

theorem bagAndParts_ok (w:World) (b:yLI) (parts:yLL) {ab:yOA} {Fb:yLN} {zk:yOA} {xX:Nat} {Fparts:yLN} (hb:qM.rep w Fb [.slice ab b.length cb] b) (hparts:qM.rep w Fparts [.slice zk parts.length xX] parts) (p0:YY parts b) (p1:1≤parts.length):Calls Tryz.prog 200 #[.slice ab b.length cb,.slice zk parts.length xX] w (Ret (fun v w' =>v=yI 0) w):=by
 refine en func200 ntmps200 ?_
 have H:=((St.start w).arg hparts).arg hb
 have nhb:=qK hb
 have nhparts:=qK hparts
 clear hb hparts
 have N:=Fresh.nil w.heap.size
 obtain ⟨pb,pl,pk⟩:=p0.bags p1
 refine zcr (sp (yI 0) (zjcc (sp (.slice ab b.length cb) (sw (oq (isBag_ok _ b (H.get 0 rfl).1) H fun w2 H=>sp (.bool (!(dec (Ym b)))) (zjn (cQ rfl (fun h4=>?_) (fun h4=>?_))))))))
 ·skip
  refine zcr (sp (yI 1) (zjr (t_r (ret1 (yI 1) rfl rfl ⟨_,rfl,?_,H.base⟩))))
  exfalso;first | omega | exact ‹¬ Ym _› pb
 refine qV (t_n (zcr (sp (.slice ab b.length cb) (oN rfl (sps [.slice zk parts.length xX,.slice zk parts.length xX] (oN rfl (sw (Vh H underlying22 ti2 parts.length rfl rfl qf qf qf fun b5 w6 H=>sw (vH #[yI b.length,.slice zk parts.length xX,.slice (aa b5 0) parts.length parts.length] rfl rfl call210 (en func210 ntmps210 ?_))))))))))
 refine zcr (sp (yI 0) (zjcc (sp (.slice zk parts.length xX) (sw (vH #[.slice zk parts.length xX,.func (.func 212) #[] #[]] rfl rfl call205 (en func205 ntmps205 ?_))))))
 refine zcr (sp (.bool false) (zjc (sps [.slice zk parts.length xX,.func (.func 212) #[] #[]] (sw (vH #[.slice zk parts.length xX,.func (.func 212) #[] #[]] rfl rfl call211 (en func211 ntmps211 ?_))))))
 refine zcr (sp (yI 0) (zjcc (sp (.slice zk parts.length xX) (oN rfl (sp (yI 0) (zjn (qY ?_)))))))
 refine zu (fun m' ρ w7=>∃ (xU:Env) (i:Nat),ρ=upd (upd (upd (upd xU 0 (.slice zk parts.length xX)) 1 (.func (.func 212) #[] #[])) 7 (yI parts.length)) 8 (yI i)∧((i:Int)≤parts.length)∧(True)∧m' =(parts.length - (i:Int)).toNat∧Fresh w.heap.size []∧St w w7 [rr (aa b5 0) parts.length parts.length 2 1 ((List.replicate parts.length (0:Int)).map (Value.int .i64))] [sF false Fb ab cb b,sF false Fparts zk xX parts]) ((parts.length - (0:Int)).toNat) ⟨_,0,uE4,qf,(by first | trivial | exact fun j hj=>by omega),rfl,N,H⟩ ?_
 clear H N
 rintro m' ρ w8 ⟨xU,i,rfl,i0,i1,rfl,N,H⟩
 refine zcr (sp (.bool (decide ((i:Int) < parts.length))) (zjn (xQ (cD rfl (fun h9=>?_) (fun h9=>?_)))))
 ·skip
  refine qV (t_n (xQ (qY (zcr (sps [yI i,yI i] (zjc (sps [.func (.func 212) #[] #[],.slice zk parts.length xX,yI i] ?_)))))))
  obtain ⟨b10,o11,rfl⟩:=H.addr 1 rfl qf
  obtain ⟨ae13,ce13,Fe13,H⟩:=H.vM 1 rfl i i qf qf qf
  refine oI rfl rfl (oL rfl (H.xW 1 rfl 0 rfl) (sw (vH #[.slice ae13 ((parts[i]!).length) ce13] rfl rfl call212 (en func212 ntmps212 ?_))))
  refine zcr (sp (.bool false) (zjc (sp (.slice ae13 ((parts[i]!).length) ce13) (sw (oq (isBag_ok _ (parts[i]!) (H.get 0 rfl).1) H fun w15 H=>sps [.bool (!(dec (Ym (parts[i]!)))),.bool (!(dec (Ym (parts[i]!))))] (zjr (ret1 (.bool (!(dec (Ym (parts[i]!))))) rfl rfl ⟨_,rfl,(zjn (cQ rfl (fun h17=>?_) (fun h17=>?_)))⟩)))))))
  ·skip
   exact absurd (pk i qf).1 h17
  refine qV (b_n (t_n (xZ (sw (zD i 1 rfl rfl qf (sp (yI (i+1)) (zf (xf (m' :=(parts.length - ((i+1):Int)).toNat) qf ⟨_,i+1,uE4,?_,?_,rfl,N,H.pick [0] [2,3]⟩))))))))
  · omega
  · first | trivial | exact i1.succ ‹_›
 refine zx4 (zcr (sp (yI (-1)) (zjr (ret1 (yI (-1)) rfl rfl ⟨_,rfl,(sps [.bool false,.bool false] (zjr (ret1 (.bool false) rfl rfl ⟨_,rfl,(zjn (xI false rfl (fun h=>absurd h qj) (fun _=>qV (t_n (zcc (sp (.slice zk parts.length xX) (oN rfl (sps [.bool (decide ((parts.length:Int) > 8)),.bool (decide ((parts.length:Int) > 8))] ?_))))))))⟩)))⟩))))
 cases h18:(decide ((parts.length:Int) > 8))
 ·skip
  replace h18:=of_decide_eq_false h18
  refine qP 14 rfl rfl (sp (.slice (aa b5 0) parts.length parts.length) (qP 14 rfl rfl (oN rfl (qP 14 rfl rfl (sp (.slice zk parts.length xX) (qP 14 rfl rfl (oN rfl (qP 14 rfl rfl (sps [.bool ((parts.length:Int) != parts.length),.bool ((parts.length:Int) != parts.length)] (zjn (xI ((parts.length:Int) != parts.length) rfl (fun h=>absurd rfl (bne_iff_ne.1 h)) (fun h19=>?_))))))))))))
  replace h19:=xq h19
  refine qV (t_n (zcc (sp (.slice zk parts.length xX) (oN rfl (sp (yI 0) (zjn (qY ?_)))))))
  refine zu (fun m' ρ w20=>∃ (xU:Env) (i_1:Nat),ρ=upd (upd (upd (upd (upd xU 0 (yI b.length)) 2 (.slice (aa b5 0) parts.length parts.length)) 21 (.slice zk parts.length xX)) 22 (yI parts.length)) 23 (yI i_1)∧((i_1:Int)≤parts.length)∧m' =(parts.length - (i_1:Int)).toNat∧Fresh w.heap.size []∧St w w20 [rr (aa b5 0) parts.length parts.length 2 1 ((List.replicate parts.length (0:Int)).map (Value.int .i64))] [sF false Fb ab cb b,sF false Fparts zk xX parts]) ((parts.length - (0:Int)).toNat) ⟨_,0,uE5,qf,rfl,N,H⟩ ?_
  clear H N
  rintro m' ρ w21 ⟨xU,i_1,rfl,i0,rfl,N,H⟩
  refine zcr (sp (.bool (decide ((i_1:Int) < parts.length))) (zjn (xQ (cD rfl (fun h22=>?_) (fun h22=>?_)))))
  ·skip
   obtain ⟨r1,r2,r3⟩:=pk i_1 qf
   have r4:=QF r1
   have r5:(List.replicate parts.length (0:Int))[i_1]! =0:=by rw [getElem!_pos _ i_1 (by simp;omega)];simp
   refine qV (t_n (xQ (qY (zcr (sp (yI i_1) ?_)))))
   obtain ⟨b23,o24,rfl⟩:=H.addr 1 rfl qf
   obtain ⟨ae26,ce26,Fe26,H⟩:=H.vM 1 rfl i_1 i_1 qf qf qf
   refine oI rfl rfl (oL rfl (H.xW 1 rfl 0 rfl) (sps [yI i_1,.slice ae26 ((parts[i_1]!).length) ce26] (zjc (sp (.slice ae26 ((parts[i_1]!).length) ce26) (oN rfl (sps [yI b.length,.bool (((parts[i_1]!).length:Int) != b.length),.bool (((parts[i_1]!).length:Int) != b.length)] ?_))))))
   cases h27:(((parts[i_1]!).length:Int) != b.length)
   ·skip
    replace h27:=xq h27
    refine qP 32 rfl rfl (sp (.slice ae26 ((parts[i_1]!).length) ce26) (qP 32 rfl rfl (sw (oq (Yf _ (parts[i_1]!) (H.get 0 rfl).1 (by first | assumption | exact vJ ql | exact QF ql)) H fun w28 H=>qP 32 rfl rfl (sps [.bool ((Yk (parts[i_1]!):Int) == 0),.bool ((Yk (parts[i_1]!):Int) == 0),.bool ((Yk (parts[i_1]!):Int) == 0)] ?_)))))
    cases h30:((Yk (parts[i_1]!):Int) == 0)
    ·skip
     replace h30:=ne_of_beq_false h30
     refine qP 37 rfl rfl (sp (.slice (aa b5 0) parts.length parts.length) (qP 37 rfl rfl (sp (yI i_1) (qP 37 rfl rfl (oI rfl rfl (qP 37 rfl rfl (oL rfl (H.rowInt 0 rfl (iv:=i_1) (i:=i_1) qf qf) (qP 37 rfl rfl (sw (oq (Jq w28 ((List.replicate parts.length (0:Int))[i_1]!) 0 1000) H fun w31 H=>qP 37 rfl rfl (sps [.bool (!(inR ((List.replicate parts.length (0:Int))[i_1]!) 0 1000)),.bool (!(inR ((List.replicate parts.length (0:Int))[i_1]!) 0 1000))] (zjn (xI (!(inR ((List.replicate parts.length (0:Int))[i_1]!) 0 1000)) rfl (fun h33=>?_) (fun h33=>?_))))))))))))))
     ·skip
      replace h33:=xn h33
      replace h33:=VY h33
      refine zcr (sp (yI 2) (zjr (zr5 (ret1 (yI 2) rfl rfl ⟨_,rfl,(sp (yI 2) (zjr (ret1 (yI 2) rfl rfl ⟨_,rfl,?_,H.base⟩)))⟩))))
      exfalso;first | omega | exact ‹¬ Ym _› pb
     replace h33:=xh h33
     replace h33:=Vl.1 h33
     refine qV (b_n (t_n (xZ (sw (zD i_1 1 rfl rfl qf (sp (yI (i_1+1)) (zf (xf (m' :=(parts.length - ((i_1+1):Int)).toNat) qf ⟨_,i_1+1,uE5,?_,rfl,N,H.pick [0] [2,3]⟩))))))))
     · omega
    replace h30:=eq_of_beq h30
    refine zo [38,39,40,41,42,43] (sp (.bool true) (zjn (xI true rfl (fun _=>zcr (sp (yI 2) (zjr (zr5 (ret1 (yI 2) rfl rfl ⟨_,rfl,(sp (yI 2) (zjr (ret1 (yI 2) rfl rfl ⟨_,rfl,?_,H.base⟩)))⟩))))) (fun h=>absurd h qj))))
    exfalso;first | omega | exact ‹¬ Ym _› pb
   replace h27:=bne_iff_ne.1 h27
   refine zo [33,34,35] (sps [.bool true,.bool true] (zo [38,39,40,41,42,43] (sp (.bool true) (zjn (xI true rfl (fun _=>zcr (sp (yI 2) (zjr (zr5 (ret1 (yI 2) rfl rfl ⟨_,rfl,(sp (yI 2) (zjr (ret1 (yI 2) rfl rfl ⟨_,rfl,?_,H.base⟩)))⟩))))) (fun h=>absurd h qj))))))
   exfalso;first | omega | exact ‹¬ Ym _› pb
  refine zx4 (zcr (sp (yI 0) (zjr (ret1 (yI 0) rfl rfl ⟨_,rfl,(sp (yI 0) (zjr (ret1 (yI 0) rfl rfl ⟨_,rfl,?_,H.base⟩)))⟩))))
  rfl
 replace h18:=of_decide_eq_true h18
 refine zo [15,16,17,18,19] (sp (.bool true) (zjn (xI true rfl (fun _=>zcr (sp (yI 2) (zjr (t_r (ret1 (yI 2) rfl rfl ⟨_,rfl,(sp (yI 2) (zjr (ret1 (yI 2) rfl rfl ⟨_,rfl,?_,H.base⟩)))⟩))))) (fun h=>absurd h qj))))
 exfalso;first | omega | exact ‹¬ Ym _› pb

def packFrom_ok_S (f:Nat):Prop:=∀ {W0 w:World} {ps:List Prv} {Γ:List Fact} {Ns:List yLN} (i:Nat) (rest:yLI) (parts:yLL) (out:yLL) (cs:yLI) (arest:yOA) (crest:Nat) (Frest:yLN) (zk:yOA) (xX:Nat) (Fparts:yLN) (bp:Nat) (bi:Nat) (bq:Nat) (bo:Nat) (bl:Nat) (bc:Nat) (bf:Nat) (raout:yOA) (rnout:Nat) (rcout:Nat) (rxout:List Value) (rFout:yLN) (racs:yOA) (rncs:Nat) (rccs:Nat) (H:St W0 w ((.box bp [.slice zk parts.length xX] 27) :: (.box bi [.func (.func 177) #[] #[pp bq 0]] 170) :: (.box bq [.slice zk parts.length xX] 27) :: (.box bo [pp bl 0] 219) :: (.box bl [.slice raout rnout rcout] 221) :: (.box bc [.slice racs rncs rccs] 22) :: (.box bf [.func (.func 201) #[] #[pp bp 0,pp bi 0,pp bo 0,pp bc 0,pp bf 0]] 222) :: (rr raout rnout rcout 22 1 rxout) :: (rr racs rncs rccs 2 1 (cs.map (Value.int .i64))) :: ps) ((sF false Frest arest crest rest) :: (sF false Fparts zk xX parts) :: (zl true rFout rxout out) :: Γ)) (N:Fresh W0.heap.size (rFout :: Ns)) (K0:Kept Ns Γ) (p0:i+f=parts.length) (p1:YY parts rest) (p2:out.length≤2000) (p3:cs.length=parts.length),Calls Tryz.prog 201 #[yI i,.slice arest rest.length crest,pp bp 0,pp bi 0,pp bo 0,pp bc 0,pp bf 0] w (fun e w' =>∃ v,e=.returned v∧∃ (cs_:yLI) (raout_:yOA) (rnout_:Nat) (rcout_:Nat) (rxout_:List Value) (rFout_:yLN),(cs_.length=cs.length)∧(cs_.take i=cs.take i)∧v=.bool (dec ((gath out (begins (cs.take i) (packs parts (parts.length - i) i rest))).length≤2000))∧Fresh W0.heap.size (rFout_ :: Ns)∧St W0 w' ((.box bp [.slice zk parts.length xX] 27) :: (.box bi [.func (.func 177) #[] #[pp bq 0]] 170) :: (.box bq [.slice zk parts.length xX] 27) :: (.box bo [pp bl 0] 219) :: (.box bl [.slice raout_ rnout_ rcout_] 221) :: (.box bc [.slice racs rncs rccs] 22) :: (.box bf [.func (.func 201) #[] #[pp bp 0,pp bi 0,pp bo 0,pp bc 0,pp bf 0]] 222) :: (rr raout_ rnout_ rcout_ 22 1 rxout_) :: (rr racs rncs rccs 2 1 (cs_.map (Value.int .i64))) :: ps) ((sF false Frest arest crest rest) :: (sF false Fparts zk xX parts) :: (zl true rFout_ rxout_ (gath out (begins (cs.take i) (packs parts (parts.length - i) i rest)))) :: Γ))
theorem packFrom_ok_step (f:Nat) (IH:∀ k,k < f→packFrom_ok_S k) {W0 w:World} {ps:List Prv} {Γ:List Fact} {Ns:List yLN} (i:Nat) (rest:yLI) (parts:yLL) (out:yLL) (cs:yLI) (arest:yOA) (crest:Nat) (Frest:yLN) (zk:yOA) (xX:Nat) (Fparts:yLN) (bp:Nat) (bi:Nat) (bq:Nat) (bo:Nat) (bl:Nat) (bc:Nat) (bf:Nat) (raout:yOA) (rnout:Nat) (rcout:Nat) (rxout:List Value) (rFout:yLN) (racs:yOA) (rncs:Nat) (rccs:Nat) (H:St W0 w ((.box bp [.slice zk parts.length xX] 27) :: (.box bi [.func (.func 177) #[] #[pp bq 0]] 170) :: (.box bq [.slice zk parts.length xX] 27) :: (.box bo [pp bl 0] 219) :: (.box bl [.slice raout rnout rcout] 221) :: (.box bc [.slice racs rncs rccs] 22) :: (.box bf [.func (.func 201) #[] #[pp bp 0,pp bi 0,pp bo 0,pp bc 0,pp bf 0]] 222) :: (rr raout rnout rcout 22 1 rxout) :: (rr racs rncs rccs 2 1 (cs.map (Value.int .i64))) :: ps) ((sF false Frest arest crest rest) :: (sF false Fparts zk xX parts) :: (zl true rFout rxout out) :: Γ)) (N:Fresh W0.heap.size (rFout :: Ns)) (K0:Kept Ns Γ) (p0:i+f=parts.length) (p1:YY parts rest) (p2:out.length≤2000) (p3:cs.length=parts.length):Calls Tryz.prog 201 #[yI i,.slice arest rest.length crest,pp bp 0,pp bi 0,pp bo 0,pp bc 0,pp bf 0] w (fun e w' =>∃ v,e=.returned v∧∃ (cs_:yLI) (raout_:yOA) (rnout_:Nat) (rcout_:Nat) (rxout_:List Value) (rFout_:yLN),(cs_.length=cs.length)∧(cs_.take i=cs.take i)∧v=.bool (dec ((gath out (begins (cs.take i) (packs parts (parts.length - i) i rest))).length≤2000))∧Fresh W0.heap.size (rFout_ :: Ns)∧St W0 w' ((.box bp [.slice zk parts.length xX] 27) :: (.box bi [.func (.func 177) #[] #[pp bq 0]] 170) :: (.box bq [.slice zk parts.length xX] 27) :: (.box bo [pp bl 0] 219) :: (.box bl [.slice raout_ rnout_ rcout_] 221) :: (.box bc [.slice racs rncs rccs] 22) :: (.box bf [.func (.func 201) #[] #[pp bp 0,pp bi 0,pp bo 0,pp bc 0,pp bf 0]] 222) :: (rr raout_ rnout_ rcout_ 22 1 rxout_) :: (rr racs rncs rccs 2 1 (cs_.map (Value.int .i64))) :: ps) ((sF false Frest arest crest rest) :: (sF false Fparts zk xX parts) :: (zl true rFout_ rxout_ (gath out (begins (cs.take i) (packs parts (parts.length - i) i rest)))) :: Γ)):=by
 refine en func201 ntmps201 ?_
 have nrest:=qK (H.get 0 rfl).1
 have nparts:=qK (H.get 1 rfl).1
 obtain rfl:=H.zi (α:=yLI) 7 rfl 2 rfl qj
 obtain rfl:=H.V9 8 rfl
 have p4:=p1.small
 refine zcr (sp (.bool false) (zjcc (sp (yI i) (oL rfl (H.cell 0 rfl rfl) (oN rfl (sp (.bool ((i:Int) == parts.length)) (zjn (cE rfl (fun h1=>?_) (fun h1=>?_)))))))))
 ·skip
  refine zcr (oL rfl (H.cell 1 rfl rfl) (sp (.slice arest rest.length crest) (sw (vH #[.slice arest rest.length crest,pp bq 0] rfl rfl call177 (en func177 ntmps177 ?_)))))
  refine zcr (sp (.bool false) (zjc (sp (.slice arest rest.length crest) (oL rfl (H.cell 2 rfl rfl) (sw (oq (isFull_ok _ rest parts (H.get 0 rfl).1 (H.get 1 rfl).1 qg) H fun w3 H=>sp (.bool (dec (FullOk parts rest))) (zjr (ret1 (.bool (dec (FullOk parts rest))) rfl rfl ⟨_,rfl,(sps [.bool (!(dec (FullOk parts rest))),.bool (!(dec (FullOk parts rest)))] ?_)⟩))))))))
  cases h5:(!(dec (FullOk parts rest)))
  ·skip
   replace h5:=xh h5
   replace h5:=QU h5
   refine qP 19 rfl rfl (oL rfl (H.cell 3 rfl rfl) (qP 19 rfl rfl (oL rfl (H.cell 5 rfl rfl) (qP 19 rfl rfl (sw (vH #[pp bl 0,.slice racs cs.length rccs] rfl rfl call202 (en func202 ntmps202 ?_)))))))
   refine zcr (sp (.bool false) (zjcc (sps [pp bl 0,pp bl 0] (oF rfl (oL rfl (H.cell 4 rfl rfl) (oN rfl (sp (.bool (decide ((out.length:Int) > 2000))) (zjn (cD rfl (fun h6=>?_) (fun h6=>?_))))))))))
   ·skip
    refine zcr (sp (.bool false) (zjr (t_r (ret1 (.bool false) rfl rfl ⟨_,rfl,(sps [.bool false,.bool false] (zjr (t_r (ret1 (.bool false) rfl rfl ⟨_,rfl,?_⟩))))⟩))))
    exfalso;omega
   refine qV (t_n (xQ ?_))
   refine c_cut (fun ρ w12=>∃ (xU:Env) (a7:yOA) (c8:Nat) (a9:yOA) (c10:Nat) (G11:yLN),ρ=upd xU 0 (pp bl 0)∧Fresh W0.heap.size ((rFout++G11) :: Ns)∧St W0 w12 ((.box bp [.slice zk parts.length xX] 27) :: (.box bi [.func (.func 177) #[] #[pp bq 0]] 170) :: (.box bq [.slice zk parts.length xX] 27) :: (.box bo [pp bl 0] 219) :: (.box bl [.slice a7 (out.length+1) c8] 221) :: (.box bc [.slice racs cs.length rccs] 22) :: (.box bf [.func (.func 201) #[] #[pp bp 0,pp bi 0,pp bo 0,pp bc 0,pp bf 0]] 222) :: (rr a7 (out.length+1) c8 22 1 (rxout++[.slice a9 cs.length c10])) :: (rr racs cs.length rccs 2 1 (cs.map (Value.int .i64))) :: ps) ((zl true (rFout++G11) (rxout++[.slice a9 cs.length c10]) (out++[cs])) :: (sF true G11 a9 c10 cs) :: (sF false Frest arest crest rest) :: (sF false Fparts zk xX parts) :: Γ)) ?_ ?_
   ·skip
    refine c_drawK2 rfl H [0,1,2,3,5,6,8] [0,1,2] fun H=>?_
    have S:=H.yG [0,1,2,3,5,6,8] [0,1,2]
    refine rtp 0 (pp bl 0) S ?_
    refine rtp 1 (pp bl 0) S ?_
    refine rtp 2 (pp bl 0) S ?_
    refine tF 3 rfl rfl S ?_
    refine rtp 5 (.slice racs cs.length rccs) S ?_
    refine jo [4,6] qh qm (Qv rfl ?_ (Qv rfl ?_ jq))
    ·skip
     refine zN (.slice raout out.length rcout) isAgg27 rfl (H.cell 4 rfl rfl) (⟨H.pick [0,1,2,3,5,6,8] [0,1,2],(ro 6 rfl ?_)⟩)
     obtain ⟨G14,hn15,h16⟩:=H.rowIsI 8 rfl
     have sz17:=H.base.size
     have lt18:=all_two (H.ltN (L:=[rFout]) [2]) (H.ltK (K0.behind 3 rfl))
     refine oc (cloneI_ok _ cs h16 qg) ?_
     rintro v22 w20 r22 x21
     replace H:=H.zF x21 r22
     obtain ⟨a23,c24,rfl,hc25,hm26⟩:=H.jw 0 rfl
     refine ⟨H.pick [1,2,3,4,6,7,9] [0,1,2],(ro 7 rfl (zG H underlying27 ti22 [.slice a23 cs.length c24] fun b27 w28 H=>⟨H.pick [2,3,4,5,7,8,10] [0,1,2],(ro 8 rfl ?_)⟩))⟩
     obtain ⟨G32,N,hn33,H⟩:=H.vP 1 rfl N (fun F hF b hb=>(List.mem_append.1 (show F∈[rFout]++Ns from hF)).elim (fun h=>(H.jQ (L:=[rFout]) [2]) F h b hb) fun h=>H.awayK (K0.behind 3 rfl) F h b hb)
     try dsimp only [List.set] at H
     refine zQ H 9 rfl 0 rfl underlying27 ti22 rfl qj rfl rfl rfl (by simp [Value.oneCell',Value.cells]) qp qf fun a29 c30 w31 H=>?_
     try dsimp only [List.set] at H
     replace H:=H.yg 3 rfl 0 rfl
     replace N:Fresh W0.heap.size ((rFout++G32) :: Ns):=(N.Ju 2 [1,0] qo).join
     refine ⟨H.pick [2,3,4,5,7,8,10] [2,3,4],?_⟩
     have S:=H.yG [2,3,4,5,7,8,10] [2,3,4]
     refine rtp 9 (pp bl 0) S ?_
     refine tF 10 rfl rfl S ?_
     refine ro 11 rfl (zJ H 6 [.slice a29 (out.length+1) c30] sizeOf27 fun w34 H=>?_)
     try dsimp only [List.set] at H
     refine ⟨H.pick [2,3,4,5,7,8,10] [2,3,4],(xO qh ((meet ⟨_,a29,c30,a23,c24,G32,uE1,N,H.Ju 11 5 [2,3,4,5,6,7,8,9,10] [0,1,2,3] qo qo⟩)))⟩
    obtain ⟨G35,hn36,h37⟩:=H.rowIsI 8 rfl
    have sz38:=H.base.size
    have lt39:=all_two (H.ltN (L:=[rFout]) [2]) (H.ltK (K0.behind 3 rfl))
    refine oc (cloneI_ok _ cs h37 qg) ?_
    rintro v43 w41 r43 x42
    replace H:=H.zF x42 r43
    obtain ⟨a44,c45,rfl,hc46,hm47⟩:=H.jw 0 rfl
    refine ⟨H.pick [1,2,3,4,6,7,9] [0,1,2],(jo [4,7] qh qm (Qv rfl ?_ (Qv rfl ?_ jq)))⟩
    ·skip
     refine zN (.slice raout out.length rcout) isAgg27 rfl (H.cell 5 rfl rfl) (⟨H.pick [1,2,3,4,6,7,9] [0,1,2],(ro 7 rfl (zG H underlying27 ti22 [.slice a44 cs.length c45] fun b48 w49 H=>⟨H.pick [2,3,4,5,7,8,10] [0,1,2],(ro 8 rfl ?_)⟩))⟩)
     obtain ⟨G53,N,hn54,H⟩:=H.vP 1 rfl N (fun F hF b hb=>(List.mem_append.1 (show F∈[rFout]++Ns from hF)).elim (fun h=>(H.jQ (L:=[rFout]) [2]) F h b hb) fun h=>H.awayK (K0.behind 3 rfl) F h b hb)
     try dsimp only [List.set] at H
     refine zQ H 9 rfl 0 rfl underlying27 ti22 rfl qj rfl rfl rfl (by simp [Value.oneCell',Value.cells]) qp qf fun a50 c51 w52 H=>?_
     try dsimp only [List.set] at H
     replace H:=H.yg 3 rfl 0 rfl
     replace N:Fresh W0.heap.size ((rFout++G53) :: Ns):=(N.Ju 2 [1,0] qo).join
     refine ⟨H.pick [2,3,4,5,7,8,10] [2,3,4],?_⟩
     have S:=H.yG [2,3,4,5,7,8,10] [2,3,4]
     refine rtp 9 (pp bl 0) S ?_
     refine tF 10 rfl rfl S ?_
     refine ro 11 rfl (zJ H 6 [.slice a50 (out.length+1) c51] sizeOf27 fun w55 H=>?_)
     try dsimp only [List.set] at H
     refine ⟨H.pick [2,3,4,5,7,8,10] [2,3,4],(xO qh ((meet ⟨_,a50,c51,a44,c45,G53,uE1,N,H.Ju 11 5 [2,3,4,5,6,7,8,9,10] [0,1,2,3] qo qo⟩)))⟩
    refine zG H underlying27 ti22 [.slice a44 cs.length c45] fun b56 w57 H=>⟨H.pick [2,3,4,5,7,8,10] [0,1,2],(ro 4 rfl (zN (.slice raout out.length rcout) isAgg27 rfl (H.cell 6 rfl rfl) (⟨H.pick [2,3,4,5,7,8,10] [0,1,2],(ro 8 rfl ?_)⟩)))⟩
    obtain ⟨G61,N,hn62,H⟩:=H.vP 1 rfl N (fun F hF b hb=>(List.mem_append.1 (show F∈[rFout]++Ns from hF)).elim (fun h=>(H.jQ (L:=[rFout]) [2]) F h b hb) fun h=>H.awayK (K0.behind 3 rfl) F h b hb)
    try dsimp only [List.set] at H
    refine zQ H 9 rfl 0 rfl underlying27 ti22 rfl qj rfl rfl rfl (by simp [Value.oneCell',Value.cells]) qp qf fun a58 c59 w60 H=>?_
    try dsimp only [List.set] at H
    replace H:=H.yg 3 rfl 0 rfl
    replace N:Fresh W0.heap.size ((rFout++G61) :: Ns):=(N.Ju 2 [1,0] qo).join
    refine ⟨H.pick [2,3,4,5,7,8,10] [2,3,4],?_⟩
    have S:=H.yG [2,3,4,5,7,8,10] [2,3,4]
    refine rtp 9 (pp bl 0) S ?_
    refine tF 10 rfl rfl S ?_
    refine ro 11 rfl (zJ H 6 [.slice a58 (out.length+1) c59] sizeOf27 fun w63 H=>?_)
    try dsimp only [List.set] at H
    refine ⟨H.pick [2,3,4,5,7,8,10] [2,3,4],(xO qh ((meet ⟨_,a58,c59,a44,c45,G61,uE1,N,H.Ju 11 5 [2,3,4,5,6,7,8,9,10] [0,1,2,3] qo qo⟩)))⟩
   clear H N
   rintro ρ w64 ⟨xU,a7,c8,a9,c10,G11,rfl,N,H⟩
   refine t_n (zcr (sps [pp bl 0,pp bl 0] (oF rfl (oL rfl (H.cell 4 rfl rfl) (oN rfl (sps [.bool (decide ((out.length+1:Int)≤2000)),.bool (decide ((out.length+1:Int)≤2000))] (zjr (ret1 (.bool (decide ((out.length+1:Int)≤2000))) rfl rfl ⟨_,rfl,(sps [.bool (decide ((out.length+1:Int)≤2000)),.bool (decide ((out.length+1:Int)≤2000))] (zjr (t_r (ret1 (.bool (decide ((out.length+1:Int)≤2000))) rfl rfl ⟨_,rfl,?_⟩))))⟩))))))))
   rw [pack_fullI qf p3 ‹FullOk _ _› p2,show decide ((out.length+1:Int)≤2000)=dec ((out++[cs]).length≤2000) from dec_eq (by simp;omega)]
   exact ⟨cs,a7,out.length+1,c8,rxout++[Value.slice a9 cs.length c10],(rFout++G11),(by first | rfl | omega | (have:=‹_=(List.set _ _ _).length›;rw [List.length_set] at this;omega)),(by first | rfl | assumption | exact pack_keep ‹_› j2),rfl,N,H.Ju 9 4 [0,1,2,3,4,5,6,7,8] [2,3,0] qo qo⟩
  replace h5:=xn h5
  replace h5:=zX h5
  refine zo [20,21,22] (sps [.bool true,.bool true] (zjr (t_r (ret1 (.bool true) rfl rfl ⟨_,rfl,?_⟩))))
  rw [pack_noneI qf ‹_› p2,yL p2]
  exact ⟨cs,raout,out.length,rcout,rxout,rFout,(by first | rfl | omega | (have:=‹_=(List.set _ _ _).length›;rw [List.length_set] at this;omega)),(by first | rfl | assumption | exact pack_keep ‹_› j2),rfl,N,H.Ju 9 3 [0,1,2,3,4,5,6,7,8] [0,1,2] qo qo⟩
 refine qV (t_n (zcc (sp (yI 0) (zjn (qY ?_)))))
 obtain ⟨t1,t2,t3,t4,t5,t6⟩:=p1.times (k:=i) qf
 refine zu (fun m' ρ w65=>∃ (xU:Env) (n:Nat) (Jk:yOA) (Je:Nat) (Jj:Nat) (out_lists:yLL) (Y8:List Value) (XW:yLN) (cs_1:yLI),ρ=upd (upd (upd (upd (upd (upd xU 0 (yI i)) 1 (.slice arest rest.length crest)) 2 (pp bp 0)) 5 (pp bc 0)) 6 (pp bf 0)) 10 (yI n)∧out_lists=(gath out (begins (cs.take i) (jE parts (f - 1) i rest n)))∧((n:Int)≤jv (parts[i]!) rest+1)∧(cs_1.length=parts.length)∧(cs_1.take i=cs.take i)∧((gath out (begins (cs.take i) (jE parts (f - 1) i rest n))).length≤2000)∧m' =(jv (parts[i]!) rest+1 - (n:Int)).toNat∧Fresh W0.heap.size (XW :: Ns)∧St W0 w65 ((.box bp [.slice zk parts.length xX] 27) :: (.box bi [.func (.func 177) #[] #[pp bq 0]] 170) :: (.box bq [.slice zk parts.length xX] 27) :: (.box bo [pp bl 0] 219) :: (.box bl [.slice Jk Je Jj] 221) :: (.box bc [.slice racs cs.length rccs] 22) :: (.box bf [.func (.func 201) #[] #[pp bp 0,pp bi 0,pp bo 0,pp bc 0,pp bf 0]] 222) :: (rr Jk Je Jj 22 1 Y8) :: (rr racs cs.length rccs 2 1 (cs_1.map (Value.int .i64))) :: ps) ((sF false Frest arest crest rest) :: (sF false Fparts zk xX parts) :: (zl true XW Y8 out_lists) :: Γ)) ((jv (parts[i]!) rest+1 - (0:Int)).toNat) ⟨_,0,raout,out.length,rcout,out,rxout,rFout,cs,uE6,(by exact pack_startI p2),qf,ql,(by rfl),(by rw [← pack_startI p2];exact p2),rfl,N,H⟩ ?_
 clear H N
 rintro m' ρ w66 ⟨xU,n,Jk,Je,Jj,out_lists,Y8,XW,cs_1,rfl,rfl,i0,j1,j2,j3,rfl,N,H⟩
 have hn_out_lists:=H.zi (α:=yLI) 7 rfl 2 rfl qj
 have hn_cs:=H.V9 8 rfl
 refine zcc (sp (yI n) (oL rfl (H.cell 0 rfl rfl) (sp (yI i) ?_)))
 obtain ⟨b67,o68,rfl⟩:=H.addr 1 rfl qf
 obtain ⟨ae70,ce70,Fe70,H⟩:=H.vM 1 rfl i i qf qf qf
 refine oI rfl rfl (oL rfl (H.xW 1 rfl 0 rfl) (sp (.slice arest rest.length crest) ?_))
 obtain ⟨t1,t2,t3,t4,t5,t6⟩:=p1.times (k:=i) qf
 refine sw (oq (timesIn_ok _ (parts[i]!) rest (H.get 0 rfl).1 (H.get 2 rfl).1 qg qg) H fun w72 H=>sp (.bool (decide ((n:Int)≤(jv (parts[i]!) rest)))) (zjn (cD rfl (fun h74=>?_) (fun h74=>?_))))
 ·skip
  refine qV (t_n (xQ (qY (zcr (oL rfl (H.cell 5 rfl rfl) (sps [yI i,yI n] ?_))))))
  obtain ⟨b75,rfl⟩:=H.QP 8 rfl qf
  refine oI rfl rfl (sw (o_storeInt H 8 rfl n sizeOf2 rfl rfl (i:=i) qf qf fun w76 H=>?_))
  try dsimp only [List.set] at H
  refine zjn (xQ ?_)
  refine c_drawK2 rfl H [0,1,2,3,5,6] [0,1,2,3] fun H=>?_
  have S:=H.yG [0,1,2,3,5,6] [0,1,2,3]
  refine tL 0 rfl rfl (fun _ h=>h.cell 5 rfl rfl) S ?_
  refine rtp 1 (yI i) S ?_
  refine rt 2 (yI (i+1)) (y_add i 1 rfl rfl qf) S ?_
  refine rtp 3 (.slice arest rest.length crest) S ?_
  refine tL 4 rfl rfl (fun _ h=>h.cell 0 rfl rfl) S ?_
  refine rtp 5 (yI i) S ?_
  refine tI 6 rfl rfl rfl S ?_
  refine tL 7 rfl rfl (fun _ h=>h.xW 1 rfl 0 rfl) S ?_
  refine rtp 8 (yI n) S ?_
  refine rt 9 (yI (-n)) (y_neg n rfl qf) S ?_
  refine ro 10 rfl ?_
  obtain ⟨u1,u2,u3,u4⟩:=p1.plus (k:=i) qf (n:=(n:Int)) qf qf
  have sz78:=H.base.size
  have lt79:=all_two (H.ltN (L:=[XW]) [4]) (H.ltK (K0.behind 5 rfl))
  refine oc (plus_ok _ rest (parts[i]!) (-n) (H.get 2 rfl).1 (H.get 0 rfl).1 qg qg qg) ?_
  rintro v83 w81 r83 x82
  replace H:=H.zF x82 r83
  obtain ⟨a84,c85,rfl,hc86,hm87⟩:=H.jw 0 rfl
  refine ⟨H.pick [1,2,3,4,6,7] [0,1,2,3],(ro 11 rfl ?_)⟩
  obtain ⟨G88,N,hn89,H⟩:=H.vP 0 rfl N (fun F hF b hb=>(List.mem_append.1 (show F∈[XW]++Ns from hF)).elim (fun h=>(H.jQ (L:=[XW]) [4]) F h b hb) fun h=>H.awayK (K0.behind 5 rfl) F h b hb)
  try dsimp only [List.set] at H
  replace H:=H.unfreeI 0 rfl
  have H1:St W0 w81 ((.box bp [.slice (aa b67 o68) parts.length xX] 27) :: (.box bi [.func (.func 177) #[] #[pp bq 0]] 170) :: (.box bq [.slice (aa b67 o68) parts.length xX] 27) :: (.box bo [pp bl 0] 219) :: (.box bl [.slice Jk Je Jj] 221) :: (.box bc [.slice (aa b75 0) cs.length rccs] 22) :: (.box bf [.func (.func 201) #[] #[pp bp 0,pp bi 0,pp bo 0,pp bc 0,pp bf 0]] 222) :: (rr Jk Je Jj 22 1 Y8) :: (rr (aa b75 0) cs.length rccs 2 1 ((cs_1.set i n).map (Value.int .i64))) :: (rr none 0 0 0 1 []) :: ps) ((sF false G88 a84 c85 (vX rest (parts[i]!) (-n))) :: (sF false Fparts (aa b67 o68) xX parts) :: (zl true XW Y8 (gath out (begins (cs.take i) (jE parts (f - 1) i rest n)))) :: (sF false G88 a84 c85 (vX rest (parts[i]!) (-n))) :: (sF true G88 a84 c85 (vX rest (parts[i]!) (-n))) :: (sF false Fe70 ae70 ce70 (parts[i]!)) :: (atF b67 (o68+(i:Int).toNat * 1) [.slice ae70 ((parts[i]!).length) ce70]) :: (sF false Frest arest crest rest) :: (sF false Fparts (aa b67 o68) xX parts) :: Γ):=H.Ju 10 7 [1,2,3,4,5,6,7,8,9,0] [0,5,6,0,1,2,3,4,5] qo qo
  have N1:Fresh _ (XW :: G88 :: Ns):=(N.Ju 2 [1,0] qo)
  have K1:Kept (Ns) ((sF false G88 a84 c85 (vX rest (parts[i]!) (-n))) :: (sF true G88 a84 c85 (vX rest (parts[i]!) (-n))) :: (sF false Fe70 ae70 ce70 (parts[i]!)) :: (atF b67 (o68+(i:Int).toNat * 1) [.slice ae70 ((parts[i]!).length) ce70]) :: (sF false Frest arest crest rest) :: (sF false Fparts (aa b67 o68) xX parts) :: Γ):=K0.behind 6 rfl
  replace K1:=K1.cons (F:=G88) 0 rfl rfl
  refine o_callF #[yI (i+1),.slice a84 ((vX rest (parts[i]!) (-n)).length) c85,pp bp 0,pp bi 0,pp bo 0,pp bc 0,pp bf 0] rfl rfl call201 (IH (f - 1) qf (i+1) (vX rest (parts[i]!) (-n)) parts (gath out (begins (cs.take i) (jE parts (f - 1) i rest n))) (cs_1.set i n) a84 c85 G88 (aa b67 o68) xX Fparts bp bi bq bo bl bc bf Jk Je Jj Y8 XW (aa b75 0) cs.length rccs H1 N1 K1 qf (by first | assumption | exact u4) (by first | assumption | exact j3 | (simp;done)) (by first | assumption | (rw [List.length_set];exact j1) | (simp;done))) ?_
  clear H H1 N1 K1
  rintro _ w90 ⟨cs91,raout91,rnout91,rcout91,rxout91,rFout91,hx92,hx93,rfl,N,H⟩
  obtain rfl:=H.zi (α:=yLI) 7 rfl 2 rfl qj
  refine ⟨H.pick [0,1,2,3,5,6] [5,6,7,8],(rtp 12 (.bool (!(dec ((gath (gath out (begins (cs.take i) (jE parts (f - 1) i rest n))) (begins ((cs_1.set i n).take (i+1)) (packs parts (parts.length - (i+1)) (i+1) (vX rest (parts[i]!) (-n))))).length≤2000)))) (H.pick [0,1,2,3,5,6] [5,6,7,8]) ?_)⟩
  refine xO qh (t_n (cQ rfl (fun h94=>?_) (fun h94=>?_)))
  ·skip
   refine zcr (sp (.bool false) (zjr (zr5 (ret1 (.bool false) rfl rfl ⟨_,rfl,?_⟩))))
   have e1:=pack_stepI (out:=out) p0 qf j1 j2 j3
   have e2:=‹¬ (gath (gath _ _) _).length≤2000›
   rw [e1] at e2
   rw [pack_endI (n:=n+1) p0 qf qf qf (.inr e2),← e1,xx (by rw [e1];exact e2)]
   exact ⟨cs91,raout91,(gath (gath out (begins (cs.take i) (jE parts (f - 1) i rest n))) (begins ((cs_1.set i n).take (i+1)) (packs parts (parts.length - (i+1)) (i+1) (vX rest (parts[i]!) (-n))))).length,rcout91,rxout91,rFout91,(by first | rfl | omega | (have:=‹_=(List.set _ _ _).length›;rw [List.length_set] at this;omega)),(by first | rfl | assumption | exact pack_keep ‹_› j2),rfl,(N.Ju 2 [0] qo),H.Ju 10 9 [0,1,2,3,4,5,6,7,8] [7,1,2] qo qo⟩
  refine qV (b_n (t_n (xZ (sp (yI n) (sw (zD n 1 rfl rfl qf (sp (yI (n+1)) (zf ?_))))))))
  refine xf (m' :=(jv (parts[i]!) rest+1 - ((n+1):Int)).toNat) qf ⟨_,n+1,raout91,(gath (gath out (begins (cs.take i) (jE parts (f - 1) i rest n))) (begins ((cs_1.set i n).take (i+1)) (packs parts (parts.length - (i+1)) (i+1) (vX rest (parts[i]!) (-n))))).length,rcout91,(gath (gath out (begins (cs.take i) (jE parts (f - 1) i rest n))) (begins ((cs_1.set i n).take (i+1)) (packs parts (parts.length - (i+1)) (i+1) (vX rest (parts[i]!) (-n))))),rxout91,rFout91,cs91,uE6,?_,?_,?_,?_,?_,rfl,(N.Ju 2 [0] qo),H.Ju 10 9 [0,1,2,3,4,5,6,7,8] [7,8,2] qo qo⟩
  · exact pack_stepI p0 qf j1 j2 j3
  · omega
  · have:=‹_=(List.set _ _ _).length›;rw [List.length_set] at this;omega
  · exact pack_keep ‹_› j2
  · rw [← pack_stepI p0 qf j1 j2 j3];assumption
 refine zx4 (zcr (sp (.bool true) (zjr (ret1 (.bool true) rfl rfl ⟨_,rfl,?_⟩))))
 rw [pack_endI (f:=f) (n:=n) p0 qf i0 qf (.inl qf),yL j3]
 exact ⟨cs_1,Jk,Je,Jj,Y8,XW,(by first | rfl | omega | (have:=‹_=(List.set _ _ _).length›;rw [List.length_set] at this;omega)),(by first | rfl | assumption | exact pack_keep ‹_› j2),rfl,N,H.Ju 9 5 [0,1,2,3,4,5,6,7,8] [2,3,4] qo qo⟩

theorem packFrom_ok (f:Nat):packFrom_ok_S f:=Nat.strongRecOn (motive:=packFrom_ok_S) f fun f IH=>by unfold packFrom_ok_S;intros;apply packFrom_ok_step f IH <;> assumption

theorem maxPack_ok (w:World) (b:yLI) (parts:yLL) {ab:yOA} {Fb:yLN} {zk:yOA} {xX:Nat} {Fparts:yLN} (hb:qM.rep w Fb [.slice ab b.length cb] b) (hparts:qM.rep w Fparts [.slice zk parts.length xX] parts) (p0:YY parts b) (p1:1≤parts.length):Calls Tryz.prog 142 #[.slice ab b.length cb,.slice zk parts.length xX] w (Ret (fun v w' =>∃ (ra0:yOA) (rn0:Nat) (rc0:Nat) (rx0:List Value) (rF0:yLN),v=.tuple #[.slice ra0 rn0 rc0,yI ((vg b parts).2)]∧Fresh w.heap.size [rF0]∧St w w' [rr ra0 rn0 rc0 22 1 rx0] [zl true rF0 rx0 ((vg b parts).1)]) w):=by
 refine en func142 ntmps142 ?_
 have H:=((St.start w).arg hparts).arg hb
 have nhb:=qK hb
 have nhparts:=qK hparts
 clear hb hparts
 have N:=Fresh.nil w.heap.size
 have p3:=p0.small
 have p4:=p0.smallB
 refine zcr (sw (vF H [.slice zk parts.length xX] fun b1 w2 H=>sps [yN,yI 0] (zjc (sp (.slice ab b.length cb) (oL rfl (H.cell 0 rfl rfl) (sp (.func (.func 177) #[] #[pp b1 0]) (sw (vH #[.slice ab b.length cb,.slice zk parts.length xX,.func (.func 177) #[] #[pp b1 0]] rfl rfl call176 (en func176 ntmps176 ?_)))))))))
 refine zcr (sw (vF H [.slice zk parts.length xX] fun b3 w4 H=>sw (vF H [.func (.func 177) #[] #[pp b1 0]] fun b5 w6 H=>sps [yN,yI 0] (zjcc (sp (.slice ab b.length cb) (oL rfl (H.cell 1 rfl rfl) (sw (oq (bagAndParts_ok _ b parts (H.get 0 rfl).1 (H.get 1 rfl).1 qg qg) H fun w8 H=>sp (yI 0) (zjc (sps [yI 0,.bool false] (zjn (xI false rfl (fun h=>absurd h qj) (fun _=>qV (t_n (zcc (sp (.slice ab b.length cb) ?_))))))))))))))))
 refine sw (oq (Yf _ b (H.get 0 rfl).1 (by first | assumption | exact vJ ql | exact QF ql)) H fun w10 H=>sp (.bool (decide ((Yk b:Int) > 16))) (zjn (cD rfl (fun h12=>?_) (fun h12=>?_))))
 ·skip
  refine zcr (sps [yN,yI 3] (zjr (t_r (ret2 yN (yI 3) rfl rfl rfl ⟨_,rfl,?_⟩))))
  replace H:=H.erases [1,0]
  dsimp only [vZ,List.eraseIdx] at H
  refine sps [yN,yI 3,yN,yI 3] (zjr ?_)
  replace H:=H.nilRow 22 1
  replace H:=H.vG (α:=yLI)
  refine ret2 yN (yI 3) rfl rfl rfl ⟨_,rfl,?_,H.base⟩
  first | rw [all_a ql] | rw [all_bI (cs:=(List.replicate parts.length (0:Int))) ql qf]
  exact ⟨none,0,0,[],[],rfl,N.emp,H.pick [0] [0]⟩
 refine qV (t_n (xQ ?_))
 refine c_cut (fun ρ w17=>∃ (xU:Env) (b13:Nat) (b14:Nat) (b15:Nat) (b16:Nat),ρ=upd (upd (upd (upd (upd xU 0 (.slice ab b.length cb)) 4 (pp b3 0)) 5 (pp b5 0)) 9 (pp b13 0)) 10 (pp b14 0)∧Fresh w.heap.size []∧St w w17 [.box b14 [.slice (aa b15 0) parts.length parts.length] 22,.box b13 [pp b16 0] 219,rr (aa b15 0) parts.length parts.length 2 1 ((List.replicate parts.length (0:Int)).map (Value.int .i64)),.box b16 [yN] 221,.box b5 [.func (.func 177) #[] #[pp b1 0]] 170,.box b3 [.slice zk parts.length xX] 27,.box b1 [.slice zk parts.length xX] 27] [sF false Fb ab cb b,sF false Fparts zk xX parts]) ?_ ?_
 ·skip
  refine vS rfl H fun H=>?_
  refine r_have (fun ρ w23=>∃ (xU:Env) (b19:Nat) (b20:Nat) (b21:Nat),ρ=upd (upd (upd (upd (upd (upd (upd xU 0 (.slice ab b.length cb)) 4 (pp b3 0)) 5 (pp b5 0)) 9 (pp b20 0)) 10 (pp b21 0)) 22 (pp b19 0)) 24 (yI parts.length)∧Fresh w.heap.size []∧St w w23 [.box b21 [yN] 22,.box b20 [.pointer none] 219,.box b19 [yN] 221,.box b5 [.func (.func 177) #[] #[pp b1 0]] 170,.box b3 [.slice zk parts.length xX] 27,.box b1 [.slice zk parts.length xX] 27] [sF false Fb ab cb b,sF false Fparts zk xX parts]) 3 #[true,true,true,true,false,true,true,false,false] ?_ fun L22=>?_
  ·skip
   rintro ρ w24 ⟨xU,b19,b20,b21,rfl,N,H⟩
   refine jo [4,7] qh qm (Qv rfl ?_ (Qv rfl ?_ jq))
   ·skip
    refine Vh H underlying22 ti2 parts.length rfl rfl qf qf qf fun b25 w26 H=>⟨H.pick [4,5,6] [0,1],(ro 7 rfl (zJ H 2 [pp b19 0] sizeOf219 fun w27 H=>⟨H.pick [4,5,6] [0,1],(ro 8 rfl (zJ H 1 [.slice (aa b25 0) parts.length parts.length] sizeOf22 fun w28 H=>⟨H.pick [4,5,6] [0,1],(xO qh ((meet ⟨_,b20,b21,b25,b19,uE5,N,H.pick [1,2,0,3,4,5,6] [0,1]⟩)))⟩))⟩))⟩
   refine zJ H 1 [pp b19 0] sizeOf219 fun w29 H=>⟨H.pick [3,4,5] [0,1],(ro 4 rfl (Vh H underlying22 ti2 parts.length rfl rfl qf qf qf fun b30 w31 H=>⟨H.pick [4,5,6] [0,1],(ro 8 rfl (zJ H 1 [.slice (aa b30 0) parts.length parts.length] sizeOf22 fun w32 H=>⟨H.pick [4,5,6] [0,1],(xO qh ((meet ⟨_,b20,b21,b30,b19,uE5,N,H.pick [1,2,0,3,4,5,6] [0,1]⟩)))⟩))⟩))⟩
  refine r_have (fun ρ w36=>∃ (xU:Env) (b33:Nat) (b34:Nat),ρ=upd (upd (upd (upd (upd xU 0 (.slice ab b.length cb)) 4 (pp b3 0)) 5 (pp b5 0)) 22 (pp b33 0)) 25 (.slice (aa b34 0) parts.length parts.length)∧Fresh w.heap.size []∧St w w36 [rr (aa b34 0) parts.length parts.length 2 1 ((List.replicate parts.length (0:Int)).map (Value.int .i64)),.box b33 [yN] 221,.box b5 [.func (.func 177) #[] #[pp b1 0]] 170,.box b3 [.slice zk parts.length xX] 27,.box b1 [.slice zk parts.length xX] 27] [sF false Fb ab cb b,sF false Fparts zk xX parts]) 4 #[true,true,true,true,true,false,false,false,false] ?_ fun L35=>?_
  ·skip
   rintro ρ w37 ⟨xU,b33,b34,rfl,N,H⟩
   refine jo [5,6] qh qm (Qv rfl ?_ (Qv rfl ?_ jq))
   ·skip
    refine xY H ti219 [.pointer none] fun b38 w39 H=>⟨H.pick [3,4,5] [0,1],(ro 6 rfl (xY H ti22 [yN] fun b40 w41 H=>⟨H.pick [4,5,6] [0,1],(ro 7 rfl (zJ H 1 [pp b33 0] sizeOf219 fun w42 H=>⟨H.pick [4,5,6] [0,1],(ro 8 rfl (zJ H 0 [.slice (aa b34 0) parts.length parts.length] sizeOf22 fun w43 H=>⟨H.pick [4,5,6] [0,1],(xO qh ((meet ⟨_,b38,b40,b34,b33,uE5,N,H⟩)))⟩))⟩))⟩))⟩
   refine xY H ti22 [yN] fun b44 w45 H=>⟨H.pick [3,4,5] [0,1],(ro 5 rfl (xY H ti219 [.pointer none] fun b46 w47 H=>⟨H.pick [4,5,6] [0,1],(ro 7 rfl (zJ H 0 [pp b33 0] sizeOf219 fun w48 H=>⟨H.pick [4,5,6] [0,1],(ro 8 rfl (zJ H 1 [.slice (aa b34 0) parts.length parts.length] sizeOf22 fun w49 H=>⟨H.pick [4,5,6] [0,1],(xO qh ((meet ⟨_,b46,b44,b34,b33,uE5,N,H.pick [1,0,2,3,4,5,6] [0,1]⟩)))⟩))⟩))⟩))⟩
  refine r_have (fun ρ w53=>∃ (xU:Env) (b50:Nat) (b51:Nat),ρ=upd (upd (upd (upd (upd (upd xU 0 (.slice ab b.length cb)) 4 (pp b3 0)) 5 (pp b5 0)) 9 (pp b51 0)) 22 (pp b50 0)) 24 (yI parts.length)∧Fresh w.heap.size []∧St w w53 [.box b51 [.pointer none] 219,.box b50 [yN] 221,.box b5 [.func (.func 177) #[] #[pp b1 0]] 170,.box b3 [.slice zk parts.length xX] 27,.box b1 [.slice zk parts.length xX] 27] [sF false Fb ab cb b,sF false Fparts zk xX parts]) 4 #[true,true,true,true,false,true,false,false,false] ?_ fun L52=>?_
  ·skip
   rintro ρ w54 ⟨xU,b50,b51,rfl,N,H⟩
   refine jo [4,6] qh qm (Qv rfl ?_ (Qv rfl ?_ jq))
   ·skip
    refine Vh H underlying22 ti2 parts.length rfl rfl qf qf qf fun b55 w56 H=>⟨H.pick [3,4,5] [0,1],(ro 6 rfl (xY H ti22 [yN] fun b57 w58 H=>⟨H.pick [4,5,6] [0,1],(ro 7 rfl (zJ H 2 [pp b50 0] sizeOf219 fun w59 H=>⟨H.pick [4,5,6] [0,1],(ro 8 rfl (zJ H 0 [.slice (aa b55 0) parts.length parts.length] sizeOf22 fun w60 H=>⟨H.pick [4,5,6] [0,1],(xO qh ((meet ⟨_,b51,b57,b55,b50,uE5,N,H.pick [0,2,1,3,4,5,6] [0,1]⟩)))⟩))⟩))⟩))⟩
   refine xY H ti22 [yN] fun b61 w62 H=>⟨H.pick [3,4,5] [0,1],(VG L22 ⟨_,b50,b51,b61,uE7,N,H⟩)⟩
  refine r_have (fun ρ w66=>∃ (xU:Env) (b63:Nat) (b64:Nat),ρ=upd (upd (upd (upd (upd (upd xU 0 (.slice ab b.length cb)) 4 (pp b3 0)) 5 (pp b5 0)) 10 (pp b64 0)) 22 (pp b63 0)) 24 (yI parts.length)∧Fresh w.heap.size []∧St w w66 [.box b64 [yN] 22,.box b63 [yN] 221,.box b5 [.func (.func 177) #[] #[pp b1 0]] 170,.box b3 [.slice zk parts.length xX] 27,.box b1 [.slice zk parts.length xX] 27] [sF false Fb ab cb b,sF false Fparts zk xX parts]) 4 #[true,true,true,true,false,false,true,false,false] ?_ fun L65=>?_
  ·skip
   rintro ρ w67 ⟨xU,b63,b64,rfl,N,H⟩
   refine jo [4,5] qh qm (Qv rfl ?_ (Qv rfl ?_ jq))
   ·skip
    refine Vh H underlying22 ti2 parts.length rfl rfl qf qf qf fun b68 w69 H=>⟨H.pick [3,4,5] [0,1],(ro 5 rfl (xY H ti219 [.pointer none] fun b70 w71 H=>⟨H.pick [4,5,6] [0,1],(ro 7 rfl (zJ H 0 [pp b63 0] sizeOf219 fun w72 H=>⟨H.pick [4,5,6] [0,1],(ro 8 rfl (zJ H 2 [.slice (aa b68 0) parts.length parts.length] sizeOf22 fun w73 H=>⟨H.pick [4,5,6] [0,1],(xO qh ((meet ⟨_,b70,b64,b68,b63,uE5,N,H.pick [2,0,1,3,4,5,6] [0,1]⟩)))⟩))⟩))⟩))⟩
   refine xY H ti219 [.pointer none] fun b74 w75 H=>⟨H.pick [3,4,5] [0,1],(VG L22 ⟨_,b63,b74,b64,uE7,N,H.pick [1,0,2,3,4,5] [0,1]⟩)⟩
  refine r_have (fun ρ w79=>∃ (xU:Env) (b76:Nat) (b77:Nat),ρ=upd (upd (upd (upd (upd (upd xU 0 (.slice ab b.length cb)) 4 (pp b3 0)) 5 (pp b5 0)) 9 (pp b77 0)) 21 (.agg #[yN])) 25 (.slice (aa b76 0) parts.length parts.length)∧Fresh w.heap.size []∧St w w79 [.box b77 [.pointer none] 219,rr (aa b76 0) parts.length parts.length 2 1 ((List.replicate parts.length (0:Int)).map (Value.int .i64)),.box b5 [.func (.func 177) #[] #[pp b1 0]] 170,.box b3 [.slice zk parts.length xX] 27,.box b1 [.slice zk parts.length xX] 27] [sF false Fb ab cb b,sF false Fparts zk xX parts]) 4 #[true,false,true,true,true,true,false,false,false] ?_ fun L78=>?_
  ·skip
   rintro ρ w80 ⟨xU,b76,b77,rfl,N,H⟩
   refine jo [1,6] qh qm (Qv rfl ?_ (Qv rfl ?_ jq))
   ·skip
    refine vF H [yN] fun b81 w82 H=>⟨H.pick [3,4,5] [0,1],(ro 6 rfl (xY H ti22 [yN] fun b83 w84 H=>⟨H.pick [4,5,6] [0,1],(ro 7 rfl (zJ H 2 [pp b81 0] sizeOf219 fun w85 H=>⟨H.pick [4,5,6] [0,1],(ro 8 rfl (zJ H 0 [.slice (aa b76 0) parts.length parts.length] sizeOf22 fun w86 H=>⟨H.pick [4,5,6] [0,1],(xO qh ((meet ⟨_,b77,b83,b76,b81,uE5,N,H.pick [0,2,3,1,4,5,6] [0,1]⟩)))⟩))⟩))⟩))⟩
   refine xY H ti22 [yN] fun b87 w88 H=>⟨H.pick [3,4,5] [0,1],(ro 1 rfl (vF H [yN] fun b89 w90 H=>⟨H.pick [4,5,6] [0,1],(ro 7 rfl (zJ H 2 [pp b89 0] sizeOf219 fun w91 H=>⟨H.pick [4,5,6] [0,1],(ro 8 rfl (zJ H 1 [.slice (aa b76 0) parts.length parts.length] sizeOf22 fun w92 H=>⟨H.pick [4,5,6] [0,1],(xO qh ((meet ⟨_,b77,b87,b76,b89,uE5,N,H.pick [1,2,3,0,4,5,6] [0,1]⟩)))⟩))⟩))⟩))⟩
  refine r_have (fun ρ w96=>∃ (xU:Env) (b93:Nat) (b94:Nat),ρ=upd (upd (upd (upd (upd (upd xU 0 (.slice ab b.length cb)) 4 (pp b3 0)) 5 (pp b5 0)) 10 (pp b94 0)) 21 (.agg #[yN])) 25 (.slice (aa b93 0) parts.length parts.length)∧Fresh w.heap.size []∧St w w96 [.box b94 [yN] 22,rr (aa b93 0) parts.length parts.length 2 1 ((List.replicate parts.length (0:Int)).map (Value.int .i64)),.box b5 [.func (.func 177) #[] #[pp b1 0]] 170,.box b3 [.slice zk parts.length xX] 27,.box b1 [.slice zk parts.length xX] 27] [sF false Fb ab cb b,sF false Fparts zk xX parts]) 4 #[true,false,true,true,true,false,true,false,false] ?_ fun L95=>?_
  ·skip
   rintro ρ w97 ⟨xU,b93,b94,rfl,N,H⟩
   refine jo [1,5] qh qm (Qv rfl ?_ (Qv rfl ?_ jq))
   ·skip
    refine vF H [yN] fun b98 w99 H=>⟨H.pick [3,4,5] [0,1],(ro 5 rfl (xY H ti219 [.pointer none] fun b100 w101 H=>⟨H.pick [4,5,6] [0,1],(ro 7 rfl (zJ H 0 [pp b98 0] sizeOf219 fun w102 H=>⟨H.pick [4,5,6] [0,1],(ro 8 rfl (zJ H 2 [.slice (aa b93 0) parts.length parts.length] sizeOf22 fun w103 H=>⟨H.pick [4,5,6] [0,1],(xO qh ((meet ⟨_,b100,b94,b93,b98,uE5,N,H.pick [2,0,3,1,4,5,6] [0,1]⟩)))⟩))⟩))⟩))⟩
   refine xY H ti219 [.pointer none] fun b104 w105 H=>⟨H.pick [3,4,5] [0,1],(ro 1 rfl (vF H [yN] fun b106 w107 H=>⟨H.pick [4,5,6] [0,1],(ro 7 rfl (zJ H 1 [pp b106 0] sizeOf219 fun w108 H=>⟨H.pick [4,5,6] [0,1],(ro 8 rfl (zJ H 2 [.slice (aa b93 0) parts.length parts.length] sizeOf22 fun w109 H=>⟨H.pick [4,5,6] [0,1],(xO qh ((meet ⟨_,b104,b94,b93,b106,uE5,N,H.pick [2,1,3,0,4,5,6] [0,1]⟩)))⟩))⟩))⟩))⟩
  refine r_have (fun ρ w113=>∃ (xU:Env) (b110:Nat) (b111:Nat),ρ=upd (upd (upd (upd (upd (upd (upd xU 0 (.slice ab b.length cb)) 4 (pp b3 0)) 5 (pp b5 0)) 9 (pp b110 0)) 10 (pp b111 0)) 21 (.agg #[yN])) 24 (yI parts.length)∧Fresh w.heap.size []∧St w w113 [.box b111 [yN] 22,.box b110 [.pointer none] 219,.box b5 [.func (.func 177) #[] #[pp b1 0]] 170,.box b3 [.slice zk parts.length xX] 27,.box b1 [.slice zk parts.length xX] 27] [sF false Fb ab cb b,sF false Fparts zk xX parts]) 4 #[true,false,true,true,false,true,true,false,false] ?_ fun L112=>?_
  ·skip
   rintro ρ w114 ⟨xU,b110,b111,rfl,N,H⟩
   refine jo [1,4] qh qm (Qv rfl ?_ (Qv rfl ?_ jq))
   ·skip
    refine vF H [yN] fun b115 w116 H=>⟨H.pick [3,4,5] [0,1],(VG L22 ⟨_,b115,b110,b111,uE7,N,H.pick [1,2,0,3,4,5] [0,1]⟩)⟩
   refine Vh H underlying22 ti2 parts.length rfl rfl qf qf qf fun b117 w118 H=>⟨H.pick [3,4,5] [0,1],(ro 1 rfl (vF H [yN] fun b119 w120 H=>⟨H.pick [4,5,6] [0,1],(ro 7 rfl (zJ H 3 [pp b119 0] sizeOf219 fun w121 H=>⟨H.pick [4,5,6] [0,1],(ro 8 rfl (zJ H 2 [.slice (aa b117 0) parts.length parts.length] sizeOf22 fun w122 H=>⟨H.pick [4,5,6] [0,1],(xO qh ((meet ⟨_,b110,b111,b117,b119,uE5,N,H.pick [2,3,1,0,4,5,6] [0,1]⟩)))⟩))⟩))⟩))⟩
  refine r_have (fun ρ w125=>∃ (xU:Env) (b123:Nat),ρ=upd (upd (upd (upd (upd xU 0 (.slice ab b.length cb)) 4 (pp b3 0)) 5 (pp b5 0)) 21 (.agg #[yN])) 25 (.slice (aa b123 0) parts.length parts.length)∧Fresh w.heap.size []∧St w w125 [rr (aa b123 0) parts.length parts.length 2 1 ((List.replicate parts.length (0:Int)).map (Value.int .i64)),.box b5 [.func (.func 177) #[] #[pp b1 0]] 170,.box b3 [.slice zk parts.length xX] 27,.box b1 [.slice zk parts.length xX] 27] [sF false Fb ab cb b,sF false Fparts zk xX parts]) 5 #[true,false,true,true,true,false,false,false,false] ?_ fun L124=>?_
  ·skip
   rintro ρ w126 ⟨xU,b123,rfl,N,H⟩
   refine jo [1,5,6] qh qm (Qv rfl ?_ (Qv rfl ?_ (Qv rfl ?_ jq)))
   ·skip
    refine vF H [yN] fun b127 w128 H=>⟨H.pick [2,3,4] [0,1],(VG L35 ⟨_,b127,b123,uE5,N,H.pick [1,0,2,3,4] [0,1]⟩)⟩
   ·skip
    refine xY H ti219 [.pointer none] fun b129 w130 H=>⟨H.pick [2,3,4] [0,1],(VG L78 ⟨_,b123,b129,uE6,N,H⟩)⟩
   refine xY H ti22 [yN] fun b131 w132 H=>⟨H.pick [2,3,4] [0,1],(VG L95 ⟨_,b123,b131,uE6,N,H⟩)⟩
  refine r_have (fun ρ w135=>∃ (xU:Env) (b133:Nat),ρ=upd (upd (upd (upd (upd (upd xU 0 (.slice ab b.length cb)) 4 (pp b3 0)) 5 (pp b5 0)) 9 (pp b133 0)) 21 (.agg #[yN])) 24 (yI parts.length)∧Fresh w.heap.size []∧St w w135 [.box b133 [.pointer none] 219,.box b5 [.func (.func 177) #[] #[pp b1 0]] 170,.box b3 [.slice zk parts.length xX] 27,.box b1 [.slice zk parts.length xX] 27] [sF false Fb ab cb b,sF false Fparts zk xX parts]) 5 #[true,false,true,true,false,true,false,false,false] ?_ fun L134=>?_
  ·skip
   rintro ρ w136 ⟨xU,b133,rfl,N,H⟩
   refine jo [1,4,6] qh qm (Qv rfl ?_ (Qv rfl ?_ (Qv rfl ?_ jq)))
   ·skip
    refine vF H [yN] fun b137 w138 H=>⟨H.pick [2,3,4] [0,1],(VG L52 ⟨_,b137,b133,uE6,N,H.pick [1,0,2,3,4] [0,1]⟩)⟩
   ·skip
    refine Vh H underlying22 ti2 parts.length rfl rfl qf qf qf fun b139 w140 H=>⟨H.pick [2,3,4] [0,1],(VG L78 ⟨_,b139,b133,uE6,N,H.pick [1,0,2,3,4] [0,1]⟩)⟩
   refine xY H ti22 [yN] fun b141 w142 H=>⟨H.pick [2,3,4] [0,1],(VG L112 ⟨_,b133,b141,uE7,N,H⟩)⟩
  refine r_have (fun ρ w145=>∃ (xU:Env) (b143:Nat),ρ=upd (upd (upd (upd (upd (upd xU 0 (.slice ab b.length cb)) 4 (pp b3 0)) 5 (pp b5 0)) 10 (pp b143 0)) 21 (.agg #[yN])) 24 (yI parts.length)∧Fresh w.heap.size []∧St w w145 [.box b143 [yN] 22,.box b5 [.func (.func 177) #[] #[pp b1 0]] 170,.box b3 [.slice zk parts.length xX] 27,.box b1 [.slice zk parts.length xX] 27] [sF false Fb ab cb b,sF false Fparts zk xX parts]) 5 #[true,false,true,true,false,false,true,false,false] ?_ fun L144=>?_
  ·skip
   rintro ρ w146 ⟨xU,b143,rfl,N,H⟩
   refine jo [1,4,5] qh qm (Qv rfl ?_ (Qv rfl ?_ (Qv rfl ?_ jq)))
   ·skip
    refine vF H [yN] fun b147 w148 H=>⟨H.pick [2,3,4] [0,1],(VG L65 ⟨_,b147,b143,uE6,N,H.pick [1,0,2,3,4] [0,1]⟩)⟩
   ·skip
    refine Vh H underlying22 ti2 parts.length rfl rfl qf qf qf fun b149 w150 H=>⟨H.pick [2,3,4] [0,1],(VG L95 ⟨_,b149,b143,uE6,N,H.pick [1,0,2,3,4] [0,1]⟩)⟩
   refine xY H ti219 [.pointer none] fun b151 w152 H=>⟨H.pick [2,3,4] [0,1],(VG L112 ⟨_,b151,b143,uE7,N,H.pick [1,0,2,3,4] [0,1]⟩)⟩
  refine r_have (fun ρ w156=>∃ (xU:Env) (b153:Nat) (b154:Nat),ρ=upd (upd (upd (upd (upd xU 0 (.slice ab b.length cb)) 4 (pp b3 0)) 5 (pp b5 0)) 9 (pp b154 0)) 25 (.slice (aa b153 0) parts.length parts.length)∧Fresh w.heap.size []∧St w w156 [.box b154 [.pointer none] 219,rr (aa b153 0) parts.length parts.length 2 1 ((List.replicate parts.length (0:Int)).map (Value.int .i64)),.box b5 [.func (.func 177) #[] #[pp b1 0]] 170,.box b3 [.slice zk parts.length xX] 27,.box b1 [.slice zk parts.length xX] 27] [sF false Fb ab cb b,sF false Fparts zk xX parts]) 5 #[false,false,true,true,true,true,false,false,false] ?_ fun L155=>?_
  ·skip
   rintro ρ w157 ⟨xU,b153,b154,rfl,N,H⟩
   refine jo [0,6] qh qm (Qv rfl ?_ (Qv rfl ?_ jq))
   ·skip
    refine jF [yN] [] (⟨H.pick [2,3,4] [0,1],(VG L78 ⟨_,b153,b154,uE6,N,H⟩)⟩)
   refine xY H ti22 [yN] fun b158 w159 H=>⟨H.pick [3,4,5] [0,1],(ro 0 rfl (jF [yN] [] (⟨H.pick [3,4,5] [0,1],(ro 1 rfl (vF H [yN] fun b160 w161 H=>⟨H.pick [4,5,6] [0,1],(ro 7 rfl (zJ H 2 [pp b160 0] sizeOf219 fun w162 H=>⟨H.pick [4,5,6] [0,1],(ro 8 rfl (zJ H 1 [.slice (aa b153 0) parts.length parts.length] sizeOf22 fun w163 H=>⟨H.pick [4,5,6] [0,1],(xO qh ((meet ⟨_,b154,b158,b153,b160,uE5,N,H.pick [1,2,3,0,4,5,6] [0,1]⟩)))⟩))⟩))⟩))⟩)))⟩
  refine r_have (fun ρ w167=>∃ (xU:Env) (b164:Nat) (b165:Nat),ρ=upd (upd (upd (upd (upd xU 0 (.slice ab b.length cb)) 4 (pp b3 0)) 5 (pp b5 0)) 10 (pp b165 0)) 25 (.slice (aa b164 0) parts.length parts.length)∧Fresh w.heap.size []∧St w w167 [.box b165 [yN] 22,rr (aa b164 0) parts.length parts.length 2 1 ((List.replicate parts.length (0:Int)).map (Value.int .i64)),.box b5 [.func (.func 177) #[] #[pp b1 0]] 170,.box b3 [.slice zk parts.length xX] 27,.box b1 [.slice zk parts.length xX] 27] [sF false Fb ab cb b,sF false Fparts zk xX parts]) 5 #[false,false,true,true,true,false,true,false,false] ?_ fun L166=>?_
  ·skip
   rintro ρ w168 ⟨xU,b164,b165,rfl,N,H⟩
   refine jo [0,5] qh qm (Qv rfl ?_ (Qv rfl ?_ jq))
   ·skip
    refine jF [yN] [] (⟨H.pick [2,3,4] [0,1],(VG L95 ⟨_,b164,b165,uE6,N,H⟩)⟩)
   refine xY H ti219 [.pointer none] fun b169 w170 H=>⟨H.pick [3,4,5] [0,1],(ro 0 rfl (jF [yN] [] (⟨H.pick [3,4,5] [0,1],(ro 1 rfl (vF H [yN] fun b171 w172 H=>⟨H.pick [4,5,6] [0,1],(ro 7 rfl (zJ H 1 [pp b171 0] sizeOf219 fun w173 H=>⟨H.pick [4,5,6] [0,1],(ro 8 rfl (zJ H 2 [.slice (aa b164 0) parts.length parts.length] sizeOf22 fun w174 H=>⟨H.pick [4,5,6] [0,1],(xO qh ((meet ⟨_,b169,b165,b164,b171,uE5,N,H.pick [2,1,3,0,4,5,6] [0,1]⟩)))⟩))⟩))⟩))⟩)))⟩
  refine r_have (fun ρ w178=>∃ (xU:Env) (b175:Nat) (b176:Nat),ρ=upd (upd (upd (upd (upd (upd xU 0 (.slice ab b.length cb)) 4 (pp b3 0)) 5 (pp b5 0)) 9 (pp b175 0)) 10 (pp b176 0)) 24 (yI parts.length)∧Fresh w.heap.size []∧St w w178 [.box b176 [yN] 22,.box b175 [.pointer none] 219,.box b5 [.func (.func 177) #[] #[pp b1 0]] 170,.box b3 [.slice zk parts.length xX] 27,.box b1 [.slice zk parts.length xX] 27] [sF false Fb ab cb b,sF false Fparts zk xX parts]) 5 #[false,false,true,true,false,true,true,false,false] ?_ fun L177=>?_
  ·skip
   rintro ρ w179 ⟨xU,b175,b176,rfl,N,H⟩
   refine jo [0,4] qh qm (Qv rfl ?_ (Qv rfl ?_ jq))
   ·skip
    refine jF [yN] [] (⟨H.pick [2,3,4] [0,1],(VG L112 ⟨_,b175,b176,uE7,N,H⟩)⟩)
   refine Vh H underlying22 ti2 parts.length rfl rfl qf qf qf fun b180 w181 H=>⟨H.pick [3,4,5] [0,1],(ro 0 rfl (jF [yN] [] (⟨H.pick [3,4,5] [0,1],(ro 1 rfl (vF H [yN] fun b182 w183 H=>⟨H.pick [4,5,6] [0,1],(ro 7 rfl (zJ H 3 [pp b182 0] sizeOf219 fun w184 H=>⟨H.pick [4,5,6] [0,1],(ro 8 rfl (zJ H 2 [.slice (aa b180 0) parts.length parts.length] sizeOf22 fun w185 H=>⟨H.pick [4,5,6] [0,1],(xO qh ((meet ⟨_,b175,b176,b180,b182,uE5,N,H.pick [2,3,1,0,4,5,6] [0,1]⟩)))⟩))⟩))⟩))⟩)))⟩
  refine tL 2 rfl rfl (fun _ h=>h.cell 1 rfl rfl) H ?_
  refine tN 3 rfl rfl H ?_
  refine jo [0,4,5,6] qh qm (Qv rfl ?_ (Qv rfl ?_ (Qv rfl ?_ (Qv rfl ?_ jq))))
  ·skip
   refine jF [yN] [] (⟨H,(jo [1,4,5,6] qh qm (Qv rfl ?_ (Qv rfl ?_ (Qv rfl ?_ (Qv rfl ?_ jq)))))⟩)
   ·skip
    refine vF H [yN] fun b186 w187 H=>⟨H.pick [1,2,3] [0,1],(jo [4,5,6] qh qm (Qv rfl ?_ (Qv rfl ?_ (Qv rfl ?_ jq))))⟩
    ·skip
     refine Vh H underlying22 ti2 parts.length rfl rfl qf qf qf fun b188 w189 H=>⟨H.pick [2,3,4] [0,1],(VG L35 ⟨_,b186,b188,uE5,N,H⟩)⟩
    ·skip
     refine xY H ti219 [.pointer none] fun b190 w191 H=>⟨H.pick [2,3,4] [0,1],(VG L52 ⟨_,b186,b190,uE6,N,H⟩)⟩
    refine xY H ti22 [yN] fun b192 w193 H=>⟨H.pick [2,3,4] [0,1],(VG L65 ⟨_,b186,b192,uE6,N,H⟩)⟩
   ·skip
    refine Vh H underlying22 ti2 parts.length rfl rfl qf qf qf fun b194 w195 H=>⟨H.pick [1,2,3] [0,1],(VG L124 ⟨_,b194,uE5,N,H⟩)⟩
   ·skip
    refine xY H ti219 [.pointer none] fun b196 w197 H=>⟨H.pick [1,2,3] [0,1],(VG L134 ⟨_,b196,uE6,N,H⟩)⟩
   refine xY H ti22 [yN] fun b198 w199 H=>⟨H.pick [1,2,3] [0,1],(VG L144 ⟨_,b198,uE6,N,H⟩)⟩
  ·skip
   refine Vh H underlying22 ti2 parts.length rfl rfl qf qf qf fun b200 w201 H=>⟨H.pick [1,2,3] [0,1],(jo [0,5,6] qh qm (Qv rfl ?_ (Qv rfl ?_ (Qv rfl ?_ jq))))⟩
   ·skip
    refine jF [yN] [] (⟨H.pick [1,2,3] [0,1],(VG L124 ⟨_,b200,uE5,N,H⟩)⟩)
   ·skip
    refine xY H ti219 [.pointer none] fun b202 w203 H=>⟨H.pick [2,3,4] [0,1],(VG L155 ⟨_,b200,b202,uE5,N,H⟩)⟩
   refine xY H ti22 [yN] fun b204 w205 H=>⟨H.pick [2,3,4] [0,1],(VG L166 ⟨_,b200,b204,uE5,N,H⟩)⟩
  ·skip
   refine xY H ti219 [.pointer none] fun b206 w207 H=>⟨H.pick [1,2,3] [0,1],(jo [0,4,6] qh qm (Qv rfl ?_ (Qv rfl ?_ (Qv rfl ?_ jq))))⟩
   ·skip
    refine jF [yN] [] (⟨H.pick [1,2,3] [0,1],(VG L134 ⟨_,b206,uE6,N,H⟩)⟩)
   ·skip
    refine Vh H underlying22 ti2 parts.length rfl rfl qf qf qf fun b208 w209 H=>⟨H.pick [2,3,4] [0,1],(VG L155 ⟨_,b208,b206,uE5,N,H.pick [1,0,2,3,4] [0,1]⟩)⟩
   refine xY H ti22 [yN] fun b210 w211 H=>⟨H.pick [2,3,4] [0,1],(VG L177 ⟨_,b206,b210,uE6,N,H⟩)⟩
  refine xY H ti22 [yN] fun b212 w213 H=>⟨H.pick [1,2,3] [0,1],(jo [0,4,5] qh qm (Qv rfl ?_ (Qv rfl ?_ (Qv rfl ?_ jq))))⟩
  ·skip
   refine jF [yN] [] (⟨H.pick [1,2,3] [0,1],(VG L144 ⟨_,b212,uE6,N,H⟩)⟩)
  ·skip
   refine Vh H underlying22 ti2 parts.length rfl rfl qf qf qf fun b214 w215 H=>⟨H.pick [2,3,4] [0,1],(VG L166 ⟨_,b214,b212,uE5,N,H.pick [1,0,2,3,4] [0,1]⟩)⟩
  refine xY H ti219 [.pointer none] fun b216 w217 H=>⟨H.pick [2,3,4] [0,1],(VG L177 ⟨_,b216,b212,uE6,N,H.pick [1,0,2,3,4] [0,1]⟩)⟩
 clear H N
 rintro ρ w218 ⟨xU,b13,b14,b15,b16,rfl,N,H⟩
 refine t_n (zcr (sw (xY H ti222 [.nilFunc] fun b219 w220 H=>zjc (sp (.func (.func 201) #[] #[pp b3 0,pp b5 0,pp b13 0,pp b14 0,pp b219 0]) (sw (zJ H 0 [.func (.func 201) #[] #[pp b3 0,pp b5 0,pp b13 0,pp b14 0,pp b219 0]] sizeOf222 fun w221 H=>zjc (oL rfl (H.cell 0 rfl rfl) (sp (.slice ab b.length cb) ?_))))))))
 replace H:=H.nilRow 22 1
 replace H:=H.vG (α:=yLI)
 have H1:St w w221 [.box b3 [.slice zk parts.length xX] 27,.box b5 [.func (.func 177) #[] #[pp b1 0]] 170,.box b1 [.slice zk parts.length xX] 27,.box b13 [pp b16 0] 219,.box b16 [yN] 221,.box b14 [.slice (aa b15 0) parts.length parts.length] 22,.box b219 [.func (.func 201) #[] #[pp b3 0,pp b5 0,pp b13 0,pp b14 0,pp b219 0]] 222,rr none 0 0 22 1 [],rr (aa b15 0) parts.length parts.length 2 1 ((List.replicate parts.length (0:Int)).map (Value.int .i64))] [sF false Fb ab cb b,sF false Fparts zk xX parts,zl true [] [] ([]:yLL),sF false Fb ab cb b,sF false Fparts zk xX parts]:=H.pick [7,6,8,3,5,2,1,0,4] [1,2,0,1,2]
 have N1:Fresh _ [[]]:=N.emp
 have K1:Kept [] [sF false Fb ab cb b,sF false Fparts zk xX parts]:=Kept.nil _
 refine sw (o_callF #[yI 0,.slice ab b.length cb,pp b3 0,pp b5 0,pp b13 0,pp b14 0,pp b219 0] rfl rfl call201 (packFrom_ok parts.length 0 b parts ([]:yLL) (List.replicate parts.length (0:Int)) ab cb Fb zk xX Fparts b3 b5 b1 b13 b16 b14 b219 none 0 0 [] [] (aa b15 0) parts.length parts.length H1 N1 K1 qf (by first | assumption | exact u4) (by first | assumption | exact j3 | (simp;done)) (by first | assumption | (rw [List.length_set];exact j1) | (simp;done))) ?_)
 clear H H1 N1 K1
 rintro _ w222 ⟨cs223,raout223,rnout223,rcout223,rxout223,rFout223,hx224,hx225,rfl,N,H⟩
 obtain rfl:=H.zi (α:=yLI) 7 rfl 2 rfl qj
 refine zjc (oL rfl (H.cell 3 rfl rfl) (sw (vH #[pp b16 0] rfl rfl call204 (en func204 ntmps204 ?_))))
 refine zcr (sps [yN,yI 0] (zjcc (sps [pp b16 0,pp b16 0] (oF rfl (oL rfl (H.cell 4 rfl rfl) (oN rfl (sp (.bool (decide (((gath ([]:yLL) (begins ((List.replicate parts.length (0:Int)).take 0) (packs parts (parts.length - 0) 0 b))).length:Int) > 2000))) (zjn (cD rfl (fun h226=>?_) (fun h226=>?_))))))))))
 ·skip
  refine zcr (sps [yN,yI 3] (zjr (t_r (ret2 yN (yI 3) rfl rfl rfl ⟨_,rfl,(sps [yN,yI 3,yN,yI 3] (zjr (ret2 yN (yI 3) rfl rfl rfl ⟨_,rfl,?_⟩)))⟩))))
  replace H:=H.erases [8,7,6,5,4,3,1,0]
  dsimp only [vZ,List.eraseIdx] at H
  refine sps [yN,yI 3,yN,yI 3] (zjr ?_)
  replace H:=H.nilRow 22 1
  replace H:=H.vG (α:=yLI)
  refine ret2 yN (yI 3) rfl rfl rfl ⟨_,rfl,?_,H.base⟩
  first | rw [all_a ql] | rw [all_bI (cs:=(List.replicate parts.length (0:Int))) ql qf]
  exact ⟨none,0,0,[],[],rfl,(N.emp.pick [0]),H.pick [0] [0]⟩
 refine qV (t_n (zcr (sps [pp b16 0,pp b16 0] (oF rfl (oL rfl (H.cell 4 rfl rfl) (sps [.slice raout223 ((gath ([]:yLL) (begins ((List.replicate parts.length (0:Int)).take 0) (packs parts (parts.length - 0) 0 b))).length) rcout223,yI 0] (zjr (ret2 (.slice raout223 ((gath ([]:yLL) (begins ((List.replicate parts.length (0:Int)).take 0) (packs parts (parts.length - 0) 0 b))).length) rcout223) (yI 0) rfl rfl rfl ⟨_,rfl,?_⟩))))))))
 refine sps [.slice raout223 ((gath ([]:yLL) (begins ((List.replicate parts.length (0:Int)).take 0) (packs parts (parts.length - 0) 0 b))).length) rcout223,yI 0,.slice raout223 ((gath ([]:yLL) (begins ((List.replicate parts.length (0:Int)).take 0) (packs parts (parts.length - 0) 0 b))).length) rcout223,yI 0] (zjr (ret2 (.slice raout223 ((gath ([]:yLL) (begins ((List.replicate parts.length (0:Int)).take 0) (packs parts (parts.length - 0) 0 b))).length) rcout223) (yI 0) rfl rfl rfl ⟨_,rfl,?_⟩))
 replace H:=H.erases [8,6,5,4,3,1,0]
 dsimp only [vZ,List.eraseIdx] at H
 refine sps [.slice raout223 ((gath ([]:yLL) (begins ((List.replicate parts.length (0:Int)).take 0) (packs parts (parts.length - 0) 0 b))).length) rcout223,yI 0,.slice raout223 ((gath ([]:yLL) (begins ((List.replicate parts.length (0:Int)).take 0) (packs parts (parts.length - 0) 0 b))).length) rcout223,yI 0] (zjr (ret2 (.slice raout223 ((gath ([]:yLL) (begins ((List.replicate parts.length (0:Int)).take 0) (packs parts (parts.length - 0) 0 b))).length) rcout223) (yI 0) rfl rfl rfl ⟨_,rfl,?_,H.base⟩))
 rw [all_0I (cs:=(List.replicate parts.length (0:Int))) ql qf]
 exact ⟨raout223,(gath ([]:yLL) (begins ((List.replicate parts.length (0:Int)).take 0) (packs parts (parts.length - 0) 0 b))).length,rcout223,rxout223,rFout223,rfl,N,H.pick [1] [2]⟩
theorem compareL_ok (w:World) (a:yLI) (b:yLI) (aa:yOA) (ca:Nat) (Fa:yLN) (ab:yOA) (cb:Nat) (Fb:yLN) (ha:qM.rep w Fa [.slice aa a.length ca] a) (hb:qM.rep w Fb [.slice ab b.length cb] b):Calls Tryz.prog 94 #[.slice aa a.length ca,.slice ab b.length cb] w (Ret (fun v w' =>v=yI (cmpL a b)∧w' =w) w):=by
 refine en func94 ntmps94 ?_
 have H:=((St.start w).arg hb).arg ha
 have nha:=qK ha
 have nhb:=qK hb
 clear ha hb
 have N:=Fresh.nil w.heap.size
 refine zcr (sp (yI 0) (zjcc (sp (.slice aa a.length ca) (oN rfl (sp (yI 0) (zjn (qY ?_)))))))
 refine zu (fun m' ρ w1=>∃ (xU:Env) (i:Nat),ρ=upd (upd (upd (upd (upd xU 0 (.slice aa a.length ca)) 1 (.slice ab b.length cb)) 9 (.slice aa a.length ca)) 10 (yI a.length)) 11 (yI i)∧((i:Int)≤a.length)∧(w1=w)∧(cmpL a b=cmpL (a.drop i) (b.drop i))∧(i≤b.length)∧m' =(a.length - (i:Int)).toNat∧Fresh w.heap.size []∧St w w1 [] [sF false Fa aa ca a,sF false Fb ab cb b]) ((a.length - (0:Int)).toNat) ⟨_,0,uE5,qf,(by rfl),(by rfl),qf,rfl,N,H⟩ ?_
 clear H N
 rintro m' ρ w2 ⟨xU,i,rfl,i0,wk,i1,i2,rfl,N,H⟩
 refine zcr (sp (.bool (decide ((i:Int) < a.length))) (zjn (xQ (cD rfl (fun h3=>?_) (fun h3=>?_)))))
 ·skip
  refine qV (t_n (xQ (qY (zcr (sp (yI i) ?_)))))
  obtain ⟨b4,o5,rfl⟩:=H.addr 0 rfl qf
  refine oI rfl rfl (oL rfl (H.jG 0 rfl i qf qf) (sps [yI i,yI (a[i]!)] (zjcc (sps [yI i,.slice ab b.length cb] (oN rfl (sp (.bool (decide ((i:Int)≥b.length))) (zjn (cD rfl (fun h7=>?_) (fun h7=>?_)))))))))
  ·skip
   refine zcr (sp (yI 1) (zjr (t_r (zr5 (ret1 (yI 1) rfl rfl ⟨_,rfl,(⟨?_,wk⟩),H.base⟩)))))
   rw [i1,show cmpL (a.drop i) (b.drop i)=1 by first | exact cmp_a qf qf | exact cmp_e qf qf ‹_›]
  refine qV (t_n (zcr (sps [.slice ab b.length cb,yI i] ?_)))
  obtain ⟨b8,o9,rfl⟩:=H.addr 1 rfl qf
  refine oI rfl rfl (oL rfl (H.jG 1 rfl i qf qf) (sp (yI (b[i]!)) (zjc (sps [yI (a[i]!),yI (b[i]!)] (sw (vH #[yI (a[i]!),yI (b[i]!)] rfl rfl call131 (en func131 ntmps131 ?_)))))))
  refine zcr (sp (yI 0) (zjc (sp (yI (a[i]!)) (sw (vH #[yI (a[i]!)] rfl rfl call168 (en func168 ntmps168 ?_))))))
  refine zcr (sp (.bool false) (zjc (sps [yI (a[i]!),yI (a[i]!),.bool ((a[i]! :Int) != (a[i]!)),.bool ((a[i]! :Int) != (a[i]!))] (zjr (ret1 (.bool ((a[i]! :Int) != (a[i]!))) rfl rfl ⟨_,rfl,(sp (.bool ((a[i]! :Int) != (a[i]!))) (zjc (sp (yI (b[i]!)) (sw (vH #[yI (b[i]!)] rfl rfl call168 (en func168 ntmps168 ?_))))))⟩)))))
  refine zcr (sp (.bool false) (zjc (sps [yI (b[i]!),yI (b[i]!),.bool ((b[i]! :Int) != (b[i]!)),.bool ((b[i]! :Int) != (b[i]!))] (zjr (ret1 (.bool ((b[i]! :Int) != (b[i]!))) rfl rfl ⟨_,rfl,(sp (.bool ((b[i]! :Int) != (b[i]!))) (zjcc (sp (.bool ((a[i]! :Int) != (a[i]!))) (zjn (xI ((a[i]! :Int) != (a[i]!)) rfl (fun h=>absurd rfl (bne_iff_ne.1 h)) (fun h11=>?_))))))⟩)))))
  replace h11:=xq h11
  refine qV (t_n (zcc (sp (.bool ((b[i]! :Int) != (b[i]!))) (zjn (xI ((b[i]! :Int) != (b[i]!)) rfl (fun h=>absurd rfl (bne_iff_ne.1 h)) (fun h12=>?_))))))
  replace h12:=xq h12
  refine qV (t_n (zcc (sps [yI (a[i]!),yI (b[i]!),.bool (decide ((a[i]! :Int) < (b[i]!)))] (zjn (cD rfl (fun h13=>?_) (fun h13=>?_))))))
  ·skip
   refine zcr (sp (yI (-1)) (zjr (t_r (ret1 (yI (-1)) rfl rfl ⟨_,rfl,(sp (yI (-1)) (zjc (sps [yI (-1),.bool true] (zjn (xI true rfl (fun _=>zcr (sps [yI (-1),yI (-1)] (zjr (zr5 (ret1 (yI (-1)) rfl rfl ⟨_,rfl,(⟨?_,wk⟩),H.base⟩))))) (fun h=>absurd h qj))))))⟩))))
   rw [i1,show cmpL (a.drop i) (b.drop i)= -1 by first | exact cmp_b qf qf | exact cmp_d qf qf ‹_›]
  refine qV (t_n (zcc (sps [yI (a[i]!),yI (b[i]!),.bool (decide ((a[i]! :Int) > (b[i]!)))] (zjn (cD rfl (fun h14=>?_) (fun h14=>?_))))))
  ·skip
   refine zcr (sp (yI 1) (zjr (t_r (ret1 (yI 1) rfl rfl ⟨_,rfl,(sp (yI 1) (zjc (sps [yI 1,.bool true] (zjn (xI true rfl (fun _=>zcr (sps [yI 1,yI 1] (zjr (zr5 (ret1 (yI 1) rfl rfl ⟨_,rfl,(⟨?_,wk⟩),H.base⟩))))) (fun h=>absurd h qj))))))⟩))))
   rw [i1,show cmpL (a.drop i) (b.drop i)=1 by first | exact cmp_a qf qf | exact cmp_e qf qf ‹_›]
  refine qV (t_n (zcr (sp (yI 0) (zjr (ret1 (yI 0) rfl rfl ⟨_,rfl,(sp (yI 0) (zjc (sps [yI 0,.bool false] (zjn (xI false rfl (fun h=>absurd h qj) (fun _=>qV (b_n (t_n (xZ (sw (zD i 1 rfl rfl qf (sp (yI (i+1)) (zf (xf (m' :=(a.length - ((i+1):Int)).toNat) qf ⟨_,i+1,uE5,?_,?_,?_,?_,rfl,N,H⟩))))))))))))))⟩)))))
  · omega
  · exact wk
  · exact i1.trans (cmp_f qf qf ‹_› ‹_›)
  · omega
 refine zx4 (zcc (sp (.slice aa a.length ca) (oN rfl (sp (.slice ab b.length cb) (oN rfl (sp (.bool (decide ((a.length:Int) < b.length))) (zjn (cD rfl (fun h15=>?_) (fun h15=>?_)))))))))
 ·skip
  refine zcr (sp (yI (-1)) (zjr (t_r (ret1 (yI (-1)) rfl rfl ⟨_,rfl,(⟨?_,wk⟩),H.base⟩))))
  rw [i1,show cmpL (a.drop i) (b.drop i)= -1 by first | exact cmp_b qf qf | exact cmp_d qf qf ‹_›]
 refine qV (t_n (zcr (sp (yI 0) (zjr (ret1 (yI 0) rfl rfl ⟨_,rfl,(⟨?_,wk⟩),H.base⟩)))))
 rw [i1,cmp_c qf qf]
def sortL_ren:Go.Shelf.Ren:=⟨fun | 6=>93 | 15=>130 | 14=>129 | 28=>166 | 29=>167 | 20=>158 | 21=>159 | 22=>160 | 23=>161 | 24=>162 | 25=>163 | 26=>164 | 27=>165 | 46=>193 | 47=>194 | 48=>195 | 49=>196 | 50=>197 | 57=>208 | n=>n,fun | 22=>27 | 24=>22 | 25=>106 | 3=>3 | 39=>149 | 0=>0 | 53=>186 | 55=>188 | 4=>4 | 46=>179 | 45=>178 | 50=>183 | 5=>5 | 9=>9 | 66=>211 | 70=>215 | 76=>226 | 77=>227 | n=>n,fun | n=>n⟩
theorem sortL:Go.Proofs.SlLaysF.n6 Tryz.prog sortL_ren:={
  mixed:=by kernel_rfl
  f6:=⟨Tryz.f93.name,by decide,Tryz.func93.trans (congrArg some (by kernel_rfl))⟩
  f14:=⟨Tryz.f129.name,by decide,Tryz.func129.trans (congrArg some (by kernel_rfl))⟩
  f15:=Tryz.func130.trans (congrArg some (by kernel_rfl))
  f20:=⟨Tryz.f158.name,by decide,Tryz.func158.trans (congrArg some (by kernel_rfl))⟩
  f21:=⟨Tryz.f159.name,by decide,Tryz.func159.trans (congrArg some (by kernel_rfl))⟩
  f22:=⟨Tryz.f160.name,by decide,Tryz.func160.trans (congrArg some (by kernel_rfl))⟩
  f23:=⟨Tryz.f161.name,by decide,Tryz.func161.trans (congrArg some (by kernel_rfl))⟩
  f24:=⟨Tryz.f162.name,by decide,Tryz.func162.trans (congrArg some (by kernel_rfl))⟩
  f25:=⟨Tryz.f163.name,by decide,Tryz.func163.trans (congrArg some (by kernel_rfl))⟩
  f26:=⟨Tryz.f164.name,by decide,Tryz.func164.trans (congrArg some (by kernel_rfl))⟩
  f27:=⟨Tryz.f165.name,by decide,Tryz.func165.trans (congrArg some (by kernel_rfl))⟩
  f28:=Tryz.func166.trans (congrArg some (by kernel_rfl))
  f29:=Tryz.func167.trans (congrArg some (by kernel_rfl))
  f46:=⟨Tryz.f193.name,by decide,Tryz.func193.trans (congrArg some (by kernel_rfl))⟩
  f47:=Tryz.func194.trans (congrArg some (by kernel_rfl))
  f48:=Tryz.func195.trans (congrArg some (by kernel_rfl))
  f49:=⟨Tryz.f196.name,by decide,Tryz.func196.trans (congrArg some (by kernel_rfl))⟩
  f50:=⟨Tryz.f197.name,by decide,Tryz.func197.trans (congrArg some (by kernel_rfl))⟩
  f57:=⟨Tryz.f208.name,by decide,Tryz.func208.trans (congrArg some (by kernel_rfl))⟩
  t0:=Tryz.underlying0
  a0:=Tryz.isAgg0
  z0:=Tryz.sizeOf0
  v0:=Tryz.zeroValue0
  t3:=Tryz.underlying3
  a3:=Tryz.isAgg3
  z3:=Tryz.sizeOf3
  v3:=Tryz.zeroValue3
  t4:=Tryz.underlying4
  a4:=Tryz.isAgg4
  z4:=Tryz.sizeOf4
  v4:=Tryz.zeroValue4
  t5:=Tryz.underlying5
  a5:=Tryz.isAgg5
  z5:=Tryz.sizeOf5
  v5:=Tryz.zeroValue5
  t9:=Tryz.underlying9
  a9:=Tryz.isAgg9
  z9:=Tryz.sizeOf9
  v9:=Tryz.zeroValue9
  t22:=Tryz.underlying27
  a22:=Tryz.isAgg27
  z22:=Tryz.sizeOf27
  v22:=Tryz.zeroValue27
  a24:=Tryz.isAgg22
  z24:=Tryz.sizeOf22
  t25:=Tryz.underlying106
  a25:=Tryz.isAgg106
  z25:=Tryz.sizeOf106
  v25:=Tryz.zeroValue106
  t39:=Tryz.underlying149
  a39:=Tryz.isAgg149
  z39:=Tryz.sizeOf149
  v39:=Tryz.zeroValue149
  t45:=Tryz.underlying178
  a45:=Tryz.isAgg178
  z45:=Tryz.sizeOf178
  v45:=Tryz.zeroValue178
  t46:=Tryz.underlying179
  a46:=Tryz.isAgg179
  z46:=Tryz.sizeOf179
  v46:=Tryz.zeroValue179
  t50:=Tryz.underlying183
  a50:=Tryz.isAgg183
  z50:=Tryz.sizeOf183
  v50:=Tryz.zeroValue183
  t53:=Tryz.underlying186
  a53:=Tryz.isAgg186
  z53:=Tryz.sizeOf186
  v53:=Tryz.zeroValue186
  t55:=Tryz.underlying188
  a55:=Tryz.isAgg188
  z55:=Tryz.sizeOf188
  v55:=Tryz.zeroValue188
  t66:=Tryz.underlying211
  a66:=Tryz.isAgg211
  z66:=Tryz.sizeOf211
  v66:=Tryz.zeroValue211
  t70:=Tryz.underlying215
  a70:=Tryz.isAgg215
  z70:=Tryz.sizeOf215
  v70:=Tryz.zeroValue215
  t76:=Tryz.underlying226
  a76:=Tryz.isAgg226
  z76:=Tryz.sizeOf226
  v76:=Tryz.zeroValue226
  t77:=Tryz.underlying227
  a77:=Tryz.isAgg227
  z77:=Tryz.sizeOf227
  v77:=Tryz.zeroValue227 }
theorem cmpSort (W:World) (x y:yLI) (a:yOA) (c:Nat) (F:yLN) (a' :yOA) (c' :Nat) (F' :yLN) (hx:qM.rep W F [.slice a x.length c] x) (hy:qM.rep W F' [.slice a' y.length c'] y):
    Calls Tryz.prog 94 #[.slice a x.length c,.slice a' y.length c'] W fun e w' =>e=.returned (yI (cmpL x y))∧w' =W:=
  (compareL_ok W x y a c F a' c' F' hx hy).mono fun _ _ ⟨_,he,⟨hv,hw⟩,_⟩=>⟨he.trans (by rw [hv]),hw⟩

theorem choices_ok (w:World) (s:qG) (t:qI) {qC:yOA} {qZ:yLN} {qL:yOA} {xE:yLN} {qW:yOA} {xR:yLN} {xw:yOA} {zC:yLN} {qO:yOA} {xK:yLN} (xe:qM.rep w qZ [.slice qC s.qw.length qB] s.qw) (xJ:qM.rep w xE [.slice qL s.qx.length qJ] s.qx) (zn:qM.rep w xR [.slice qW t.qy.length qU] t.qy) (zK:qM.rep w zC [.slice xw t.qE.length xm] t.qE) (xP:qM.rep w xK [.slice qO t.qA.length qN] t.qA) (p0:ja s) (p1:zt s t):Calls Tryz.prog 64 #[.agg #[yI s.xC,.slice qC s.qw.length qB,.slice qL s.qx.length qJ],.agg #[.slice qW t.qy.length qU,.slice xw t.qE.length xm,.slice qO t.qA.length qN]] w (Ret (fun v w' =>∃ (ra0:yOA) (rn0:Nat) (rc0:Nat) (rx0:List Value) (rF0:yLN),v=.tuple #[.slice ra0 rn0 rc0,yI ((xB s t).2)]∧Fresh w.heap.size [rF0]∧St w w' [rr ra0 rn0 rc0 22 1 rx0] [zl true rF0 rx0 ((xB s t).1)]) w):=by
 refine en func64 ntmps64 ?_
 have H:=(((((St.start w).arg xP).arg zK).arg zn).arg xJ).arg xe
 have zY:=qK xe
 have je:=qK xJ
 have Qr:=qK zn
 have Xj:=qK zK
 have jR:=qK xP
 clear xe xJ zn zK xP
 have N:=Fresh.nil w.heap.size
 have A:=H.ltN (L:=[qZ,xE,xR,zC,xK]) [0,1,2,3,4]
 have p2:=p0.2.1
 have p3:=p0.1.2.1
 have p4:=p1.1
 have p5:=p1.2.1
 refine zcr (sw (vF H (yS s qC qB qL qJ) fun b1 w2 H=>sw (vF H (yT t qW qU xw xm qO qN) fun b3 w4 H=>sps [yN,yI 0] (zjc (sw (zg (yS s qC qB qL qJ) isAgg36 sizeOf36 rfl (qF (H.cells 1 rfl) 0 3) ?_))))))
 refine sw (zg (yT t qW qU xw xm qO qN) isAgg38 sizeOf38 rfl (qF (H.cells 0 rfl) 0 3) (sw (vH #[.agg #[yI s.xC,.slice qC s.qw.length qB,.slice qL s.qx.length qJ],.agg #[.slice qW t.qy.length qU,.slice xw t.qE.length xm,.slice qO t.qA.length qN]] rfl rfl call107 (en func107 ntmps107 ?_))))
 refine zcr (sw (vF H (yS s qC qB qL qJ) fun b5 w6 H=>sw (vF H (yT t qW qU xw xm qO qN) fun b7 w8 H=>sps [yN,yI 0] (zjc (oF rfl (oL rfl (H.cell 1 rfl rfl) (oN rfl (sw (o_makeZ (⟨[]⟩:OwnI 2) H underlying27 ti22 qj (fun _=>⟨yN,rfl,Or.inl ⟨rfl,rfl,rfl⟩⟩) s.qw.length rfl rfl qf qf qf fun b9 w10 xs11 H=>?_)))))))))
 refine sp (.slice (aa b9 0) s.qw.length s.qw.length) (zjcc (sw (zg (yS s qC qB qL qJ) isAgg36 sizeOf36 rfl (qF (H.cells 2 rfl) 0 3) (sw (zg (yT t qW qU xw xm qO qN) isAgg38 sizeOf38 rfl (qF (H.cells 1 rfl) 0 3) ?_)))))
 have sz15:=H.base.size
 refine sw (oc (applicable_ok _ s t (H.get 1 rfl).1 (H.get 2 rfl).1 (H.get 3 rfl).1 (H.get 4 rfl).1 (H.get 5 rfl).1 qg qg) ?_)
 rintro _ w13 ⟨ra12,rn12,rc12,rfl,M,K⟩ _
 replace H:=H.merge K M
 obtain rfl:=H.V9 0 rfl
 have al:(appls s t).length≤s.qx.length:=applL_le s t s.qx.length
 refine oN rfl (sp (yI 0) (zjn (qY ?_)))
 refine zu (fun m' ρ w18=>∃ (xU:Env) (k:Nat) (own:List (OwnI 2)) (x_own:List Value) (F_own:yLN),ρ=upd (upd (upd (upd (upd (upd xU 2 (pp b5 0)) 3 (pp b7 0)) 6 (.slice (aa b9 0) s.qw.length s.qw.length)) 24 (.slice ra12 ((appls s t).length) rc12)) 25 (yI ((appls s t).length))) 26 (yI k)∧own=(ownL 2 s t s.qw.length k)∧((k:Int)≤((appls s t).length))∧m' =(((appls s t).length) - (k:Int)).toNat∧Fresh w.heap.size [F_own]∧St w w18 [rr ra12 ((appls s t).length) rc12 2 1 ((appls s t).map (Value.int .i64)),rr (aa b9 0) s.qw.length s.qw.length 22 1 x_own,.box b7 (yT t qW qU xw xm qO qN) 38,.box b5 (yS s qC qB qL qJ) 36,.box b3 (yT t qW qU xw xm qO qN) 38,.box b1 (yS s qC qB qL qJ) 36] [zl true F_own x_own own,sF false qZ qC qB s.qw,sF false xE qL qJ s.qx,sF false xR qW qU t.qy,sF false zC xw xm t.qE,sF false xK qO qN t.qA]) ((((appls s t).length) - (0:Int)).toNat) ⟨_,0,(List.replicate s.qw.length (⟨[]⟩:OwnI 2)),xs11,[],uE6,(by exact ownL_zero 2 s t _),qf,rfl,N.emp,H⟩ ?_
 clear H N
 rintro m' ρ w19 ⟨xU,k,own,x_own,F_own,rfl,rfl,i0,rfl,N,H⟩
 have hn_own:=H.zi (α:=OwnI 2) 1 rfl 0 rfl qj
 have ol:=ownL_len 2 s t s.qw.length k
 refine zcr (sp (.bool (decide ((k:Int) < ((appls s t).length)))) (zjn (xQ (cD rfl (fun h20=>?_) (fun h20=>?_)))))
 ·skip
  obtain ⟨a0,a1,a2⟩:=appls_inH (s:=s) (t:=t) (q:=k) qf
  have q:=p0.rule (i:=((appls s t)[k]!).toNat) qf
  have qc:=q.1
  have qk:(s.qx[((appls s t)[k]!).toNat]!).qH.toNat < s.qw.length:=q.cell
  have le:=ownL_le (e:=2) (s:=s) (t:=t) (n:=s.qw.length) (q:=k) (c:=(s.qx[((appls s t)[k]!).toNat]!).qH.toNat) qf
  have sm:=vJ (p1.2.2.2.2 (s.qx[((appls s t)[k]!).toNat]!).qH.toNat qf).1
  refine qV (t_n (xQ (qY (zcr ?_))))
  obtain ⟨b21,rfl⟩:=H.QP 0 rfl qf
  refine oI rfl rfl (oL rfl (H.rowInt 0 rfl (iv:=k) (i:=k) qf qf) (sp (yI ((appls s t)[k]!)) (zjc (oF rfl (oL rfl (H.cell 3 rfl rfl) (sp (yI ((appls s t)[k]!)) ?_))))))
  obtain ⟨b22,o23,rfl⟩:=H.addr 2 rfl qf
  obtain ⟨ae25Need,ce25Need,Fe25Need,ae25Have,ce25Have,Fe25Have,ae25Lack,ce25Lack,Fe25Lack,ae25Here,ce25Here,Fe25Here,ae25Out,ce25Out,Fe25Out,ae25Into,ce25Into,Fe25Into,H⟩:=H.yz 2 rfl ((appls s t)[k]!) (((appls s t)[k]!).toNat) qf qf qf
  refine oI rfl rfl (oF rfl (oL rfl (H.xW 6 rfl 0 rfl) (sp (yI ((s.qx[((appls s t)[k]!).toNat]!).qH)) (zjcc (oF rfl (oL rfl (H.cell 2 rfl rfl) (sp (yI ((s.qx[((appls s t)[k]!).toNat]!).qH)) ?_)))))))
  obtain ⟨b26,o27,rfl⟩:=H.addr 11 rfl qf
  obtain ⟨ae29,ce29,Fe29,H⟩:=H.vM 11 rfl ((s.qx[((appls s t)[k]!).toNat]!).qH) (((s.qx[((appls s t)[k]!).toNat]!).qH).toNat) qf qf qf
  refine oI rfl rfl (oL rfl (H.xW 1 rfl 0 rfl) (sw (oq (Yf _ (t.qE[((s.qx[((appls s t)[k]!).toNat]!).qH).toNat]!) (H.get 0 rfl).1 (by first | assumption | exact vJ ql | exact QF ql)) H fun w30 H=>sp (.bool (decide ((Yk (t.qE[((s.qx[((appls s t)[k]!).toNat]!).qH).toNat]!):Int) > 16))) (zjn (cD rfl (fun h32=>?_) (fun h32=>?_))))))
  ·skip
   refine zcr (sps [yN,yI 3] (zjr (t_r (zr5 (ret2 yN (yI 3) rfl rfl rfl ⟨_,rfl,?_⟩)))))
   replace H:=H.erases [3,2,1,0]
   dsimp only [vZ,List.eraseIdx] at H
   refine sps [.tuple #[yN,yI 3],yN,yI 3,yN,yI 3] (zjcc (sps [yI 3,.bool true] (zjn (xI true rfl (fun _=>zcr (sps [yI 3,yN,yI 3] (zjr (t_r ?_)))) (fun h=>absurd h qj)))))
   replace H:=H.nilRow 22 1
   replace H:=H.vG (α:=yLI)
   refine ret2 yN (yI 3) rfl rfl rfl ⟨_,rfl,?_,H.base⟩
   first | rw [cho_3 (.inl (own_bad p0 (q:=k) qf qf))] | rw [cho_3 (.inr (prod_stop (G:=(jh s.qx.length (xg s t s.qw.length) (xG s t s.qw.length) k_1)) (r:=((xg s t s.qw.length)[k_1]!)) (k:=k_51+1) (i:=k_1) kn qf (Vg _) qf (by rw [← nextX_end (x:=k_52) qf qf];omega)))]
   exact ⟨none,0,0,[],[],rfl,(N.emp.pick [0]),H.pick [0] [0]⟩
  refine qV (t_n (xZ (sps [.slice (aa b9 0) s.qw.length s.qw.length,yI ((s.qx[((appls s t)[k]!).toNat]!).qH),.slice (aa b9 0) s.qw.length s.qw.length,yI ((s.qx[((appls s t)[k]!).toNat]!).qH)] (oI rfl rfl ?_))))
  replace N:Fresh w.heap.size [F_own]:=N
  obtain ⟨a33,c34,F35,h36,N,H⟩:=H.openI 1 rfl 9 rfl N (iv:=(s.qx[((appls s t)[k]!).toNat]!).qH) (((s.qx[((appls s t)[k]!).toNat]!).qH).toNat) qf qf [sF false qZ qC qB s.qw,sF false xE (aa b22 o23) qJ s.qx,sF false xR qW qU t.qy,sF false zC (aa b26 o27) xm t.qE,sF false xK qO qN t.qA] (keepA A N [10,11,12,13,14] rfl rfl)
  refine oL rfl h36 (sp (yI ((appls s t)[k]!)) (sw (zG H underlying22 ti2 [yI ((appls s t)[k]!)] fun b37 w38 H=>sw (zQ H 1 rfl 0 rfl underlying22 ti2 rfl qj rfl rfl rfl (by simp [Value.oneCell',Value.cells]) qp qf fun a39 c40 w41 H=>?_))))
  rw [snocI] at H
  refine oI rfl rfl (sw (o_closeI H 3 rfl 1 qj rfl 0 rfl (c:=(((s.qx[((appls s t)[k]!).toNat]!).qH).toNat)) (N:Fresh w.heap.size [F35]) (H.jQ []) sizeOf22 rfl rfl qf qf fun w42 F43 N H=>zf (b_n (t_n (xZ (sw (zD k 1 rfl rfl qf (sp (yI (k+1)) (zf ?_)))))))))
  refine xf (m' :=(((appls s t).length) - ((k+1):Int)).toNat) qf ⟨_,k+1,(((ownL 2 s t s.qw.length k).set (((s.qx[((appls s t)[k]!).toNat]!).qH).toNat) ⟨[]⟩).set (((s.qx[((appls s t)[k]!).toNat]!).qH).toNat) ⟨(((ownL 2 s t s.qw.length k)[((s.qx[((appls s t)[k]!).toNat]!).qH).toNat]!).l++[(appls s t)[k]!])⟩),(x_own.set (((s.qx[((appls s t)[k]!).toNat]!).qH).toNat) (.slice a39 ((((ownL 2 s t s.qw.length k)[((s.qx[((appls s t)[k]!).toNat]!).qH).toNat]!).l.length)+1) c40)),F43,uE6,?_,?_,rfl,N,H.pick [2,3,4,5,6,7] [0,2,3,4,5,6]⟩
  · exact ownL_set qf rfl qf qf (by rw [List.set_set])
  · omega
 refine zx4 (zcr (sw (vI H underlying125 ti129 fun b44 w45 H=>sp (.slice (aa b44 0) 0 0) (zjcc (sp (.slice (aa b9 0) s.qw.length s.qw.length) (oN rfl (sp (yI 0) (zjn (qY ?_)))))))))
 replace H:=H.ofOwn 0 rfl
 rw [ownL_end qf] at H
 have cl:=cellsR_len s t s.qw.length
 replace H:=H.boxRow 0 rfl 2 0 rfl qj
 replace H:=H.vG (α:=inCellD)
 replace H:St _ _ [rr (aa b44 0) 0 0 129 2 [],rr ra12 ((appls s t).length) rc12 2 1 ((appls s t).map (Value.int .i64)),rr (aa b9 0) s.qw.length s.qw.length 22 1 x_own,.box b7 (yT t qW qU xw xm qO qN) 38,.box b5 (yS s qC qB qL qJ) 36,.box b3 (yT t qW qU xw xm qO qN) 38,.box b1 (yS s qC qB qL qJ) 36] [zl true [] [] ([]:List inCellD),zl true F_own x_own (cellsR s t s.qw.length),zl true F_own x_own (ownL 2 s t s.qw.length k),sF false qZ qC qB s.qw,sF false xE qL qJ s.qx,sF false xR qW qU t.qy,sF false zC xw xm t.qE,sF false xK qO qN t.qA]:=H
 refine zu (fun m' ρ w46=>∃ (xU:Env) (vk:yOA) (zy:Nat) (zU:Nat) (out:List inCellD) (QO:List Value) (jW:yLN) (c:Nat),ρ=upd (upd (upd (upd (upd (upd xU 2 (pp b5 0)) 3 (pp b7 0)) 10 (.slice vk zy zU)) 55 (.slice (aa b9 0) s.qw.length s.qw.length)) 56 (yI s.qw.length)) 57 (yI c)∧out=(Xn s t c)∧((c:Int)≤s.qw.length)∧(GoodP s t c)∧m' =(s.qw.length - (c:Int)).toNat∧Fresh w.heap.size [F_own]∧St w w46 [rr vk zy zU 129 2 QO,rr ra12 ((appls s t).length) rc12 2 1 ((appls s t).map (Value.int .i64)),rr (aa b9 0) s.qw.length s.qw.length 22 1 x_own,.box b7 (yT t qW qU xw xm qO qN) 38,.box b5 (yS s qC qB qL qJ) 36,.box b3 (yT t qW qU xw xm qO qN) 38,.box b1 (yS s qC qB qL qJ) 36] [zl true jW QO out,zl true F_own x_own (cellsR s t s.qw.length),zl true F_own x_own (ownL 2 s t s.qw.length k),sF false qZ qC qB s.qw,sF false xE qL qJ s.qx,sF false xR qW qU t.qy,sF false zC xw xm t.qE,sF false xK qO qN t.qA]) ((s.qw.length - (0:Int)).toNat) ⟨_,(aa b44 0),0,0,([]:List inCellD),[],[],0,uE6,(by rfl),qf,(by exact fun j hj=>by omega),rfl,N,H⟩ ?_
 clear H N
 rintro m' ρ w47 ⟨xU,vk,zy,zU,out,QO,jW,c,rfl,rfl,i0,gp,rfl,N,H⟩
 have hn_out:=H.zi (α:=inCellD) 0 rfl 0 rfl qj
 have ce:=cells_len s t c
 have rl:=rules_le s t c
 refine zcr (sp (.bool (decide ((c:Int) < s.qw.length))) (zjn (xQ (cD rfl (fun h48=>?_) (fun h48=>?_)))))
 ·skip
  refine qV (t_n (xQ (qY (zcr (sp (yI c) (oI rfl rfl ?_))))))
  obtain ⟨a49,c50,G51,s52,h53,H⟩:=H.yf 2 rfl 1 rfl (iv:=c) c qf qf
  refine oL rfl (h53) (sps [yI c,.slice a49 (((cellsR s t s.qw.length)[c]!).length) c50] (zjcc (sp (.slice a49 (((cellsR s t s.qw.length)[c]!).length) c50) (oN rfl (sp (.bool ((((cellsR s t s.qw.length)[c]!).length:Int) == 0)) (zjn (cE rfl (fun h54=>?_) (fun h54=>?_))))))))
  ·skip
   rw [cellsR_get (s:=s) (t:=t) (n:=s.qw.length) (c:=c) qf] at H h54 ⊢
   refine c_exit (t_x (b_x (t_n (xZ (sw (zD c 1 rfl rfl qf (sp (yI (c+1)) (zf (xf (m' :=(s.qw.length - ((c+1):Int)).toNat) qf ⟨_,vk,zy,zU,(Xn s t c),QO,jW,c+1,uE6,?_,?_,?_,rfl,N,H.pick [0,1,2,3,4,5,6] [1,2,3,4,5,6,7,8]⟩)))))))))
   · first | exact cells_yes qf | exact cells_no qf
   · omega
   · exact gp.succ (by first | exact .inl qf | exact .inr (show (vg _ _).2=0 from ‹_›))
  rw [cellsR_get (s:=s) (t:=t) (n:=s.qw.length) (c:=c) qf] at H h54 ⊢
  refine qV (t_n (zcr (sw (vI H underlying27 ti22 fun b55 w56 H=>sp (.slice (aa b55 0) 0 0) (zjcc (sp (.slice a49 ((zH s t c).length) c50) (oN rfl (sp (yI 0) (zjn (qY ?_))))))))))
  replace H:=H.boxRow 0 rfl 1 0 rfl qj
  replace H:=H.vG (α:=yLI)
  replace H:=H.unfree 0 rfl
  refine zu (fun m' ρ w57=>∃ (xU:Env) (Qe:yOA) (jK:Nat) (y9:Nat) (needs:yLL) (VM:List Value) (Jl:yLN) (k_1:Nat),ρ=upd (upd (upd (upd (upd (upd (upd (upd (upd (upd (upd (upd xU 2 (pp b5 0)) 3 (pp b7 0)) 10 (.slice vk zy zU)) 11 (yI c)) 12 (.slice a49 ((zH s t c).length) c50)) 13 (.slice Qe jK y9)) 55 (.slice (aa b9 0) s.qw.length s.qw.length)) 56 (yI s.qw.length)) 57 (yI c)) 66 (.slice a49 ((zH s t c).length) c50)) 67 (yI ((zH s t c).length))) 68 (yI k_1)∧needs=(zq s ((zH s t c).take k_1))∧((k_1:Int)≤((zH s t c).length))∧m' =(((zH s t c).length) - (k_1:Int)).toNat∧Fresh w.heap.size [F_own]∧St w w57 [rr Qe jK y9 22 1 VM,rr vk zy zU 129 2 QO,rr ra12 ((appls s t).length) rc12 2 1 ((appls s t).map (Value.int .i64)),rr (aa b9 0) s.qw.length s.qw.length 22 1 x_own,.box b7 (yT t qW qU xw xm qO qN) 38,.box b5 (yS s qC qB qL qJ) 36,.box b3 (yT t qW qU xw xm qO qN) 38,.box b1 (yS s qC qB qL qJ) 36] [zl false Jl VM needs,sF true G51 a49 c50 (zH s t c),zl true jW QO (Xn s t c),zl true F_own x_own (cellsR s t s.qw.length),zl true F_own x_own (ownL 2 s t s.qw.length k),sF false qZ qC qB s.qw,sF false xE qL qJ s.qx,sF false xR qW qU t.qy,sF false zC xw xm t.qE,sF false xK qO qN t.qA]) ((((zH s t c).length) - (0:Int)).toNat) ⟨_,(aa b55 0),0,0,([]:yLL),[],[],0,uE12,(by rfl),qf,rfl,N,H.pick [0,1,2,3,4,5,6,7] [0,2,3,4,5,6,7,8,9,10]⟩ ?_
  clear H N
  rintro m' ρ w58 ⟨xU,Qe,jK,y9,needs,VM,Jl,k_1,rfl,rfl,i0,rfl,N,H⟩
  have hn_needs:=H.zi (α:=yLI) 0 rfl 0 rfl qj
  have nl:=VX s ((zH s t c).take k_1)
  have tl:=List.length_take_le k_1 (zH s t c)
  have cl8:=cellR_len (t:=t) p0 c
  refine zcr (sp (.bool (decide ((k_1:Int) < ((zH s t c).length)))) (zjn (xQ (cD rfl (fun h59=>?_) (fun h59=>?_)))))
  ·skip
   obtain ⟨e1,e2,e3,e4⟩:=cellR_at (s:=s) (t:=t) (c:=c) (j:=k_1) qf
   refine qV (t_n (xQ (qY (zcr ?_))))
   obtain ⟨b60,o61,rfl⟩:=H.addr 1 rfl qf
   refine oI rfl rfl (oL rfl (H.jG 1 rfl k_1 qf qf) (sp (yI ((zH s t c)[k_1]!)) (zjn (xZ (sp (.slice Qe jK y9) (oF rfl (oL rfl (H.cell 5 rfl rfl) (sp (yI ((zH s t c)[k_1]!)) ?_))))))))
   obtain ⟨b63,o64,rfl⟩:=H.addr 6 rfl qf
   obtain ⟨ae66Need,ce66Need,Fe66Need,ae66Have,ce66Have,Fe66Have,ae66Lack,ce66Lack,Fe66Lack,ae66Here,ce66Here,Fe66Here,ae66Out,ce66Out,Fe66Out,ae66Into,ce66Into,Fe66Into,H⟩:=H.yz 6 rfl ((zH s t c)[k_1]!) (((zH s t c)[k_1]!).toNat) qf qf qf
   refine oI rfl rfl (oF rfl (oL rfl (H.xW 6 rfl 2 rfl) (sw (zG H underlying27 ti22 [.slice ae66Need (((s.qx[((zH s t c)[k_1]!).toNat]!).xk).length) ce66Need] fun b67 w68 H=>sw (zQ H 1 rfl 0 rfl underlying27 ti22 rfl qj rfl rfl rfl (by simp [Value.oneCell',Value.cells]) qp qf fun a69 c70 w71 H=>?_)))))
   replace H:=H.yg 7 rfl 0 rfl
   refine sp (.slice a69 (jK+1) c70) (zf (b_n (t_n (xZ (sw (zD k_1 1 rfl rfl qf (sp (yI (k_1+1)) (zf (xf (m' :=(((zH s t c).length) - ((k_1+1):Int)).toNat) qf ⟨_,a69,jK+1,c70,((zq s ((zH s t c).take k_1))++[(s.qx[((zH s t c)[k_1]!).toNat]!).xk]),VM++[.slice ae66Need (((s.qx[((zH s t c)[k_1]!).toNat]!).xk).length) ce66Need],(Jl++Fe66Need),k_1+1,uE12,?_,?_,rfl,N,H.pick [1,2,3,4,5,6,7,8] [0,9,10,11,12,13,14,15,16,17]⟩)))))))))
   · exact needs_take qf
   · omega
  rw [List.take_of_length_le (l:=zH s t c) (i:=k_1) qf] at H
  refine zx4 (zcr (oF rfl (oL rfl (H.cell 4 rfl rfl) (sp (yI c) ?_))))
  obtain ⟨b72,o73,rfl⟩:=H.addr 8 rfl qf
  obtain ⟨ae75,ce75,Fe75,H⟩:=H.vM 8 rfl c c qf qf qf
  refine oI rfl rfl (oL rfl (H.xW 1 rfl 0 rfl) (sp (.slice Qe jK y9) ?_))
  obtain ⟨G76,hn77,h78⟩:=H.Jn (α:=yLI) 0 rfl 2 rfl qj
  have cp:=cell_pack p0 p1 (c:=c) qf
  have nl2:=VX s (zH s t c)
  have sz82:=H.base.size
  have lt83:=H.ltN (L:=[F_own]) [5]
  refine sw (oc (Yt (by rw [← hn77]) (maxPack_ok _ (t.qE[c]!) (zq s (zH s t c)) (H.get 0 rfl).1 (hn77▸h78) qg qg)) ?_)
  rintro _ w80 ⟨ra79a,rn79a,rc79a,rx79a,rF79a,rfl,M,K⟩ _
  replace N:=N.merge sz82 lt83 M
  replace H:=H.merge K M
  obtain rfl:=H.zi (α:=yLI) 0 rfl 0 rfl qj
  refine sps [.tuple #[.slice ra79a (((vg (t.qE[c]!) (zq s (zH s t c))).1).length) rc79a,yI ((vg (t.qE[c]!) (zq s (zH s t c))).2)],.slice ra79a (((vg (t.qE[c]!) (zq s (zH s t c))).1).length) rc79a,yI ((vg (t.qE[c]!) (zq s (zH s t c))).2),.slice ra79a (((vg (t.qE[c]!) (zq s (zH s t c))).1).length) rc79a,yI ((vg (t.qE[c]!) (zq s (zH s t c))).2)] (zjcc (sps [yI ((vg (t.qE[c]!) (zq s (zH s t c))).2),.bool (((vg (t.qE[c]!) (zq s (zH s t c))).2:Int) != 0)] (zjn ?_)))
  refine xI (((vg (t.qE[c]!) (zq s (zH s t c))).2:Int) != 0) rfl (fun h85=>?_) (fun h85=>?_)
  ·skip
   replace h85:=bne_iff_ne.1 h85
   refine zcr (sps [yI ((vg (t.qE[c]!) (zq s (zH s t c))).2),yN,yI ((vg (t.qE[c]!) (zq s (zH s t c))).2)] (zjr (t_r (zr5 (ret2 yN (yI ((vg (t.qE[c]!) (zq s (zH s t c))).2)) rfl rfl rfl ⟨_,rfl,?_⟩)))))
   replace H:=H.erases [6,5,4,3,2,1,0]
   dsimp only [vZ,List.eraseIdx] at H
   refine sps [.tuple #[yN,yI ((vg (t.qE[c]!) (zq s (zH s t c))).2)],yN,yI ((vg (t.qE[c]!) (zq s (zH s t c))).2),yN,yI ((vg (t.qE[c]!) (zq s (zH s t c))).2)] (zjcc (sps [yI ((vg (t.qE[c]!) (zq s (zH s t c))).2),.bool (((vg (t.qE[c]!) (zq s (zH s t c))).2:Int) != 0)] (zjn (xI (((vg (t.qE[c]!) (zq s (zH s t c))).2:Int) != 0) rfl (fun h86=>?_) (fun h=>absurd (xq h) h85)))))
   replace h86:=bne_iff_ne.1 h86
   refine zcr (sps [yI ((vg (t.qE[c]!) (zq s (zH s t c))).2),yN,yI ((vg (t.qE[c]!) (zq s (zH s t c))).2)] (zjr (t_r ?_)))
   replace H:=H.nilRow 22 1
   replace H:=H.vG (α:=yLI)
   refine ret2 yN (yI ((vg (t.qE[c]!) (zq s (zH s t c))).2)) rfl rfl rfl ⟨_,rfl,?_,H.base⟩
   rw [cho_code (bad_code (c:=c) qf qf ‹_›) ‹_›]
   exact ⟨none,0,0,[],[],rfl,(N.emp.pick [0]),H.pick [0] [0]⟩
  replace h85:=xq h85
  refine qV (t_n (xZ (sps [.slice vk zy zU,.slice a49 ((zH s t c).length) c50,.slice ra79a (((vg (t.qE[c]!) (zq s (zH s t c))).1).length) rc79a] (sw (jF [.slice a49 ((zH s t c).length) c50,.slice ra79a (((vg (t.qE[c]!) (zq s (zH s t c))).1).length) rc79a] [(0,.slice a49 ((zH s t c).length) c50),(1,.slice ra79a (((vg (t.qE[c]!) (zq s (zH s t c))).1).length) rc79a)] (sw (zG H underlying125 ti129 [.slice a49 ((zH s t c).length) c50,.slice ra79a (((vg (t.qE[c]!) (zq s (zH s t c))).1).length) rc79a] fun b87 w88 H=>?_)))))))
  have H0:=H
  obtain ⟨G92,hg94,hn93,H⟩:=H.QA (α:=yLI) 1 rfl 0 rfl qj
  replace N:Fresh w.heap.size [G92,F_own]:=Fresh.ice N H0 1 hg94.1 hg94.2 (H0.jQ [6])
  clear H0
  refine sw (zQ H 3 rfl 0 rfl underlying125 ti129 rfl qj rfl rfl rfl (by simp [Value.oneCell',Value.cells]) qp qf fun a89 c90 w91 H=>?_)
  replace H:=H.snoc_inCellD 6 rfl 5 rfl 0 rfl
  refine sp (.slice a89 (zy+1) c90) (zf (b_n (t_n (xZ (sw (zD c 1 rfl rfl qf (sp (yI (c+1)) (zf (xf (m' :=(s.qw.length - ((c+1):Int)).toNat) qf ⟨_,a89,zy+1,c90,((Xn s t c)++[⟨zH s t c,(vg (t.qE[c]!) (zq s (zH s t c))).1⟩]),QO++[.slice a49 ((zH s t c).length) c50,.slice ra79a (((vg (t.qE[c]!) (zq s (zH s t c))).1).length) rc79a],(jW++(G51++G92)),c+1,uE6,?_,?_,?_,rfl,(N.pick [1]),H.pick [3,4,5,6,7,8,9] [0,8,9,10,11,12,13,14]⟩)))))))))
  · first | exact cells_yes qf | exact cells_no qf
  · omega
  · exact gp.succ (by first | exact .inl qf | exact .inr (show (vg _ _).2=0 from ‹_›))
 refine zx4 (zcr (sps [.slice vk zy zU,.slice vk zy zU,yI 0] (zjr (ret2 (.slice vk zy zU) (yI 0) rfl rfl rfl ⟨_,rfl,?_⟩))))
 replace H:=H.erases [4,3,2,1]
 dsimp only [vZ,List.eraseIdx] at H
 obtain rfl:c=s.qw.length:=by omega
 have kn:=packsL_ne p0 p1 (k:=s.qw.length) qf gp
 have kr:=rules_le s t s.qw.length
 have kl:=packsL_le s t s.qw.length
 have ce:=cells_len s t s.qw.length
 refine sps [.tuple #[.slice vk zy zU,yI 0],.slice vk zy zU,yI 0,.slice vk zy zU,yI 0] (zjcc (sps [yI 0,.bool false] (zjn (xI false rfl (fun h=>absurd h qj) (fun _=>qV (t_n (zcr (oF rfl (oL rfl (H.cell 2 rfl rfl) (oN rfl (sw (Vh H underlying22 ti2 s.qx.length rfl rfl qf qf qf fun b95 w96 H=>sw (zG H underlying27 ti22 [.slice (aa b95 0) s.qx.length s.qx.length] fun b97 w98 H=>sp (.slice (aa b97 0) 1 1) (zjcc ?_))))))))))))))
 refine sp (.slice vk zy zU) (oN rfl (sp (yI 0) (zjn (qY ?_))))
 obtain ⟨G99,hg101,hn100,H⟩:=H.QA (α:=inCellD) 2 rfl 0 rfl qj
 replace H:=H.boxRow 0 rfl 1 1 rfl qj
 replace H:=H.vG (α:=yLI)
 obtain ⟨G102,N,hn103,H⟩:=H.vP 1 rfl N (H.jQ [3])
 replace H:=H.Y6 true 0 rfl 1 rfl qm
 replace N:Fresh w.heap.size [(G102++[]),F_own]:=(N.emp.pick [1,0,2]).join
 refine zu (fun m' ρ w104=>∃ (xU:Env) (a_out_1:yOA) (yJ:Nat) (XD:Nat) (out_1:yLL) (XK:List Value) (QT:yLN) (k_1:Nat),ρ=upd (upd (upd (upd xU 8 (.slice a_out_1 yJ XD)) 33 (.slice vk zy zU)) 34 (yI zy)) 35 (yI k_1)∧out_1=(jh s.qx.length (xg s t s.qw.length) (xG s t s.qw.length) k_1)∧((k_1:Int)≤zy)∧((jh s.qx.length (xg s t s.qw.length) (xG s t s.qw.length) k_1).length≤300)∧m' =(zy - (k_1:Int)).toNat∧Fresh w.heap.size [QT]∧St w w104 [rr a_out_1 yJ XD 22 1 XK,.box b3 (yT t qW qU xw xm qO qN) 38,.box b1 (yS s qC qB qL qJ) 36] [zl true QT XK out_1,isF true G99 (.slice vk zy zU) (Xn s t s.qw.length),sF false qZ qC qB s.qw,sF false xE qL qJ s.qx,sF false xR qW qU t.qy,sF false zC xw xm t.qE,sF false xK qO qN t.qA]) ((zy - (0:Int)).toNat) ⟨_,(aa b97 0),1,1,[(List.replicate s.qx.length (0:Int))],[.slice (aa b95 0) s.qx.length s.qx.length],(G102++[]),0,uE4,(by rfl),qf,(by rw [Vg];show 1≤300;omega),rfl,(N.pick [0]),H.pick [0,3,4] [0,3,7,8,9,10,11]⟩ ?_
 clear H N
 rintro m' ρ w105 ⟨xU,a_out_1,yJ,XD,out_1,XK,QT,k_1,rfl,rfl,i0,g3,rfl,N,H⟩
 have hn_out:=H.zi (α:=yLI) 0 rfl 0 rfl qj
 refine zcr (sp (.bool (decide ((k_1:Int) < zy))) (zjn (xQ (cD rfl (fun h106=>?_) (fun h106=>?_)))))
 ·skip
  obtain ⟨gb,gc⟩:=cell_few (s:=s) (t:=t) (n:=s.qw.length) (i:=k_1) p0 qf
  refine qV (t_n (xQ (qY (zcr ?_))))
  have hl109:=H.isLen 1 rfl
  obtain ⟨b107,o108,rfl⟩:=H.addr 1 rfl qf
  obtain ⟨ae110rules,ce110rules,Fe110rules,ae110packings,ce110packings,Fe110packings,H⟩:=H.elem_inCellD 1 rfl k_1 k_1 qf qf qf
  refine oI rfl rfl (sw (zg [.slice ae110rules ((((Xn s t s.qw.length)[k_1]!).frules).length) ce110rules,.slice ae110packings ((((Xn s t s.qw.length)[k_1]!).fpackings).length) ce110packings] isAgg129 sizeOf129 rfl (qF (H.get 2 rfl) 0 2) (sw (xY H ti129 [yN,yN] fun b111 w112 H=>sw (zA H 0 [.slice ae110rules ((((Xn s t s.qw.length)[k_1]!).frules).length) ce110rules,.slice ae110packings ((((Xn s t s.qw.length)[k_1]!).fpackings).length) ce110packings] sizeOf129 fun w113 H=>zjc (sw (vI H underlying27 ti22 fun b114 w115 H=>?_)))))))
  refine sp (.slice (aa b114 0) 0 0) (zjcc (sp (.slice a_out_1 yJ XD) (oN rfl (sp (yI 0) (zjn (qY ?_))))))
  obtain ⟨ce1,ce2⟩:=cells_at (s:=s) (t:=t) (k:=s.qw.length) (i:=k_1) qf
  rw [ce1,ce2] at H
  replace H:=H.boxRow 0 rfl 1 0 rfl qj
  replace H:=H.vG (α:=yLI)
  refine zu (fun m' ρ w116=>∃ (xU:Env) (a_next:yOA) (n_next:Nat) (c_next:Nat) (next:yLL) (x_next:List Value) (F_next:yLN) (k_51:Nat),ρ=upd (upd (upd (upd (upd (upd (upd (upd xU 10 (pp b111 0)) 11 (.slice a_next n_next c_next)) 33 (.slice (aa b107 o108) zy zU)) 34 (yI zy)) 35 (yI k_1)) 40 (.slice a_out_1 yJ XD)) 41 (yI yJ)) 42 (yI k_51)∧next=(nextK (jh s.qx.length (xg s t s.qw.length) (xG s t s.qw.length) k_1) ((xg s t s.qw.length)[k_1]!) ((xG s t s.qw.length)[k_1]!) k_51)∧((k_51:Int)≤yJ)∧((nextK (jh s.qx.length (xg s t s.qw.length) (xG s t s.qw.length) k_1) ((xg s t s.qw.length)[k_1]!) ((xG s t s.qw.length)[k_1]!) k_51).length≤300)∧m' =(yJ - (k_51:Int)).toNat∧Fresh w.heap.size [QT,F_next]∧St w w116 [rr a_next n_next c_next 22 1 x_next,.box b111 [.slice ae110rules (((xg s t s.qw.length)[k_1]!).length) ce110rules,.slice ae110packings (((xG s t s.qw.length)[k_1]!).length) ce110packings] 129,rr a_out_1 yJ XD 22 1 XK,.box b3 (yT t qW qU xw xm qO qN) 38,.box b1 (yS s qC qB qL qJ) 36] [zl true F_next x_next next,sF true Fe110rules ae110rules ce110rules ((xg s t s.qw.length)[k_1]!),sF true Fe110packings ae110packings ce110packings ((xG s t s.qw.length)[k_1]!),atF b107 (o108+(k_1:Int).toNat * 2) [.slice ae110rules (((xg s t s.qw.length)[k_1]!).length) ce110rules,.slice ae110packings (((xG s t s.qw.length)[k_1]!).length) ce110packings],zl true QT XK (jh s.qx.length (xg s t s.qw.length) (xG s t s.qw.length) k_1),isF true G99 (.slice (aa b107 o108) zy zU) (Xn s t s.qw.length),sF false qZ qC qB s.qw,sF false xE qL qJ s.qx,sF false xR qW qU t.qy,sF false zC xw xm t.qE,sF false xK qO qN t.qA]) ((yJ - (0:Int)).toNat) ⟨_,(aa b114 0),0,0,([]:yLL),[],[],0,uE8,(by rfl),qf,(by show 0≤300;omega),rfl,(N.emp.pick [1,0]),H⟩ ?_
  clear H N
  rintro m' ρ w117 ⟨xU,a_next,n_next,c_next,next,x_next,F_next,k_51,rfl,rfl,i0,n3,rfl,N,H⟩
  have hn_next:=H.zi (α:=yLI) 0 rfl 0 rfl qj
  refine zcr (sp (.bool (decide ((k_51:Int) < yJ))) (zjn (xQ (cD rfl (fun h118=>?_) (fun h118=>?_)))))
  ·skip
   refine qV (t_n (xQ (qY (zcr ?_))))
   obtain ⟨b119,rfl⟩:=H.QP 2 rfl qf
   refine oI rfl rfl ?_
   obtain ⟨a120,c121,G122,s123,h124,H⟩:=H.yf 2 rfl 4 rfl (iv:=k_51) k_51 qf qf
   refine oL rfl (h124) (sp (.slice a120 (((jh s.qx.length (xg s t s.qw.length) (xG s t s.qw.length) k_1)[k_51]!).length) c121) (zjcc (oF rfl (oL rfl (H.cell 1 rfl rfl) (oN rfl (sp (yI 0) (zjn (qY ?_))))))))
   refine zu (fun m' ρ w125=>∃ (xU:Env) (X7:yOA) (QW:Nat) (X0:Nat) (next_1:yLL) (Vp:List Value) (Xw:yLN) (k_52:Nat),ρ=upd (upd (upd (upd (upd (upd (upd (upd (upd (upd (upd (upd xU 10 (pp b111 0)) 11 (.slice X7 QW X0)) 13 (.slice a120 (((jh s.qx.length (xg s t s.qw.length) (xG s t s.qw.length) k_1)[k_51]!).length) c121)) 33 (.slice (aa b107 o108) zy zU)) 34 (yI zy)) 35 (yI k_1)) 40 (.slice (aa b119 0) yJ XD)) 41 (yI yJ)) 42 (yI k_51)) 47 (.slice ae110packings (((xG s t s.qw.length)[k_1]!).length) ce110packings)) 48 (yI (((xG s t s.qw.length)[k_1]!).length))) 49 (yI k_52)∧next_1=(nextX (jh s.qx.length (xg s t s.qw.length) (xG s t s.qw.length) k_1) ((xg s t s.qw.length)[k_1]!) ((xG s t s.qw.length)[k_1]!) k_51 k_52)∧((k_52:Int)≤(((xG s t s.qw.length)[k_1]!).length))∧m' =((((xG s t s.qw.length)[k_1]!).length) - (k_52:Int)).toNat∧Fresh w.heap.size [QT,Xw]∧St w w125 [rr X7 QW X0 22 1 Vp,.box b111 [.slice ae110rules (((xg s t s.qw.length)[k_1]!).length) ce110rules,.slice ae110packings (((xG s t s.qw.length)[k_1]!).length) ce110packings] 129,rr (aa b119 0) yJ XD 22 1 XK,.box b3 (yT t qW qU xw xm qO qN) 38,.box b1 (yS s qC qB qL qJ) 36] [sF true G122 a120 c121 ((jh s.qx.length (xg s t s.qw.length) (xG s t s.qw.length) k_1)[k_51]!),zl true Xw Vp next_1,sF true Fe110rules ae110rules ce110rules ((xg s t s.qw.length)[k_1]!),sF true Fe110packings ae110packings ce110packings ((xG s t s.qw.length)[k_1]!),atF b107 (o108+(k_1:Int).toNat * 2) [.slice ae110rules (((xg s t s.qw.length)[k_1]!).length) ce110rules,.slice ae110packings (((xG s t s.qw.length)[k_1]!).length) ce110packings],zl true QT XK (jh s.qx.length (xg s t s.qw.length) (xG s t s.qw.length) k_1),isF true G99 (.slice (aa b107 o108) zy zU) (Xn s t s.qw.length),sF false qZ qC qB s.qw,sF false xE qL qJ s.qx,sF false xR qW qU t.qy,sF false zC xw xm t.qE,sF false xK qO qN t.qA]) (((((xG s t s.qw.length)[k_1]!).length) - (0:Int)).toNat) ⟨_,a_next,n_next,c_next,(nextK (jh s.qx.length (xg s t s.qw.length) (xG s t s.qw.length) k_1) ((xg s t s.qw.length)[k_1]!) ((xG s t s.qw.length)[k_1]!) k_51),x_next,F_next,0,uE12,(by exact nextX_zero _ _ _ _),qf,rfl,N,H⟩ ?_
   clear H N
   rintro m' ρ w126 ⟨xU,X7,QW,X0,next_1,Vp,Xw,k_52,rfl,rfl,i0,rfl,N,H⟩
   have hn_next:=H.zi (α:=yLI) 0 rfl 1 rfl qj
   refine zcr (sp (.bool (decide ((k_52:Int) < (((xG s t s.qw.length)[k_1]!).length)))) (zjn (xQ (cD rfl (fun h127=>?_) (fun h127=>?_)))))
   ·skip
    have nx:=nextX_len (r:=((xg s t s.qw.length)[k_1]!)) (show k_51 < (jh s.qx.length (xg s t s.qw.length) (xG s t s.qw.length) k_1).length by omega) (show k_52≤((xG s t s.qw.length)[k_1]!).length by omega)
    have nk:=nextK_len (r:=((xg s t s.qw.length)[k_1]!)) (P:=((xG s t s.qw.length)[k_1]!)) (show k_51≤(jh s.qx.length (xg s t s.qw.length) (xG s t s.qw.length) k_1).length by omega)
    have g1:=prodG_at (n:=s.qx.length) (rs:=(xg s t s.qw.length)) (all:=(xG s t s.qw.length)) (i:=k_1) (k:=k_51) qf
    have g2:=pack_at (s:=s) (t:=t) (n:=s.qw.length) (i:=k_1) (x:=k_52) qf qf
    refine qV (t_n (xQ (qY (zcr ?_))))
    obtain ⟨b128,o129,rfl⟩:=H.addr 3 rfl qf
    obtain ⟨ae131,ce131,Fe131,H⟩:=H.vM 3 rfl k_52 k_52 qf qf qf
    refine oI rfl rfl (oL rfl (H.xW 1 rfl 0 rfl) (sp (.slice ae131 ((((xG s t s.qw.length)[k_1]!)[k_52]!).length) ce131) (zjc (sp (.slice a120 (((jh s.qx.length (xg s t s.qw.length) (xG s t s.qw.length) k_1)[k_51]!).length) c121) ?_))))
    have sz132:=H.base.size
    have lt133:=H.ltN (L:=[QT,Xw]) [7,3]
    refine sw (oc (cloneI_ok _ ((jh s.qx.length (xg s t s.qw.length) (xG s t s.qw.length) k_1)[k_51]!) (H.get 2 rfl).1 qg) ?_)
    rintro v137 w135 r137 x136
    replace H:=H.zF x136 r137
    obtain ⟨a138,c139,rfl,hc140,hm141⟩:=H.jw 0 rfl
    refine sp (.slice a138 (((jh s.qx.length (xg s t s.qw.length) (xG s t s.qw.length) k_1)[k_51]!).length) c139) (zjcc (oF rfl (oL rfl (H.cell 2 rfl rfl) (oN rfl (sp (yI 0) (zjn (qY ?_)))))))
    refine zu (fun m' ρ w142=>∃ (xU:Env) (k_53:Nat) (own_1:yLI),ρ=upd (upd (upd (upd (upd (upd (upd (upd (upd (upd (upd (upd (upd (upd (upd (upd (upd xU 10 (pp b111 0)) 11 (.slice X7 QW X0)) 13 (.slice a120 (((jh s.qx.length (xg s t s.qw.length) (xG s t s.qw.length) k_1)[k_51]!).length) c121)) 15 (.slice ae131 ((((xG s t s.qw.length)[k_1]!)[k_52]!).length) ce131)) 16 (.slice a138 (((jh s.qx.length (xg s t s.qw.length) (xG s t s.qw.length) k_1)[k_51]!).length) c139)) 33 (.slice (aa b107 o108) zy zU)) 34 (yI zy)) 35 (yI k_1)) 40 (.slice (aa b119 0) yJ XD)) 41 (yI yJ)) 42 (yI k_51)) 47 (.slice (aa b128 o129) (((xG s t s.qw.length)[k_1]!).length) ce110packings)) 48 (yI (((xG s t s.qw.length)[k_1]!).length))) 49 (yI k_52)) 56 (.slice ae110rules (((xg s t s.qw.length)[k_1]!).length) ce110rules)) 57 (yI (((xg s t s.qw.length)[k_1]!).length))) 58 (yI k_53)∧own_1=(setTo ((jh s.qx.length (xg s t s.qw.length) (xG s t s.qw.length) k_1)[k_51]!) ((xg s t s.qw.length)[k_1]!) (((xG s t s.qw.length)[k_1]!)[k_52]!) k_53)∧((k_53:Int)≤(((xg s t s.qw.length)[k_1]!).length))∧m' =((((xg s t s.qw.length)[k_1]!).length) - (k_53:Int)).toNat∧Fresh w.heap.size [QT,Xw]∧St w w142 [rr a138 (((jh s.qx.length (xg s t s.qw.length) (xG s t s.qw.length) k_1)[k_51]!).length) c139 2 1 (own_1.map (Value.int .i64)),rr X7 QW X0 22 1 Vp,.box b111 [.slice ae110rules (((xg s t s.qw.length)[k_1]!).length) ce110rules,.slice (aa b128 o129) (((xG s t s.qw.length)[k_1]!).length) ce110packings] 129,rr (aa b119 0) yJ XD 22 1 XK,.box b3 (yT t qW qU xw xm qO qN) 38,.box b1 (yS s qC qB qL qJ) 36] [sF true Fe131 ae131 ce131 (((xG s t s.qw.length)[k_1]!)[k_52]!),atF b128 (o129+(k_52:Int).toNat * 1) [.slice ae131 ((((xG s t s.qw.length)[k_1]!)[k_52]!).length) ce131],sF true G122 a120 c121 ((jh s.qx.length (xg s t s.qw.length) (xG s t s.qw.length) k_1)[k_51]!),zl true Xw Vp (nextX (jh s.qx.length (xg s t s.qw.length) (xG s t s.qw.length) k_1) ((xg s t s.qw.length)[k_1]!) ((xG s t s.qw.length)[k_1]!) k_51 k_52),sF true Fe110rules ae110rules ce110rules ((xg s t s.qw.length)[k_1]!),sF true Fe110packings (aa b128 o129) ce110packings ((xG s t s.qw.length)[k_1]!),atF b107 (o108+(k_1:Int).toNat * 2) [.slice ae110rules (((xg s t s.qw.length)[k_1]!).length) ce110rules,.slice (aa b128 o129) (((xG s t s.qw.length)[k_1]!).length) ce110packings],zl true QT XK (jh s.qx.length (xg s t s.qw.length) (xG s t s.qw.length) k_1),isF true G99 (.slice (aa b107 o108) zy zU) (Xn s t s.qw.length),sF false qZ qC qB s.qw,sF false xE qL qJ s.qx,sF false xR qW qU t.qy,sF false zC xw xm t.qE,sF false xK qO qN t.qA]) (((((xg s t s.qw.length)[k_1]!).length) - (0:Int)).toNat) ⟨_,0,((jh s.qx.length (xg s t s.qw.length) (xG s t s.qw.length) k_1)[k_51]!),uE17,(by rfl),qf,rfl,N,H⟩ ?_
    clear H N
    rintro m' ρ w143 ⟨xU,k_53,own_1,rfl,rfl,i0,rfl,N,H⟩
    have hn_own:=H.V9 0 rfl
    have sl:=setTo_len ((jh s.qx.length (xg s t s.qw.length) (xG s t s.qw.length) k_1)[k_51]!) ((xg s t s.qw.length)[k_1]!) (((xG s t s.qw.length)[k_1]!)[k_52]!) k_53
    refine zcr (sp (.bool (decide ((k_53:Int) < (((xg s t s.qw.length)[k_1]!).length)))) (zjn (xQ (cD rfl (fun h144=>?_) (fun h144=>?_)))))
    ·skip
     obtain ⟨g3',g4⟩:=choice_at (s:=s) (t:=t) (n:=s.qw.length) (i:=k_1) (r:=k_53) qf qf
     refine qV (t_n (xQ (qY (zcr (sp (yI k_53) ?_)))))
     obtain ⟨b145,o146,rfl⟩:=H.addr 4 rfl qf
     refine oI rfl rfl (oL rfl (H.jG 4 rfl k_53 qf qf) (sps [yI k_53,yI (((xg s t s.qw.length)[k_1]!)[k_53]!)] (zjn (xZ (sps [.slice a138 (((jh s.qx.length (xg s t s.qw.length) (xG s t s.qw.length) k_1)[k_51]!).length) c139,yI (((xg s t s.qw.length)[k_1]!)[k_53]!),.slice ae131 ((((xG s t s.qw.length)[k_1]!)[k_52]!).length) ce131,yI k_53] ?_)))))
     obtain ⟨b148,o149,rfl⟩:=H.addr 0 rfl qf
     refine oI rfl rfl (oL rfl (H.jG 0 rfl k_53 qf qf) ?_)
     obtain ⟨b151,rfl⟩:=H.QP 0 rfl qf
     refine oI rfl rfl (sw (o_storeInt H 0 rfl ((((xG s t s.qw.length)[k_1]!)[k_52]!)[k_53]!) sizeOf2 rfl rfl (i:=((((xg s t s.qw.length)[k_1]!)[k_53]!).toNat)) qf qf fun w152 H=>zf (b_n (t_n (xZ (sw (zD k_53 1 rfl rfl qf (sp (yI (k_53+1)) (zf ?_)))))))))
     refine xf (m' :=((((xg s t s.qw.length)[k_1]!).length) - ((k_53+1):Int)).toNat) qf ⟨_,k_53+1,((setTo ((jh s.qx.length (xg s t s.qw.length) (xG s t s.qw.length) k_1)[k_51]!) ((xg s t s.qw.length)[k_1]!) (((xG s t s.qw.length)[k_1]!)[k_52]!) k_53).set ((((xg s t s.qw.length)[k_1]!)[k_53]!).toNat) ((((xG s t s.qw.length)[k_1]!)[k_52]!)[k_53]!)),uE17,?_,?_,rfl,N,H⟩
     · rfl
     · omega
    refine zx4 (xZ (sps [.slice X7 QW X0,.slice a138 (((jh s.qx.length (xg s t s.qw.length) (xG s t s.qw.length) k_1)[k_51]!).length) c139] (sw (zG H underlying27 ti22 [.slice a138 (((jh s.qx.length (xg s t s.qw.length) (xG s t s.qw.length) k_1)[k_51]!).length) c139] fun b153 w154 H=>?_))))
    obtain ⟨G158,N,hn159,H⟩:=H.vP 1 rfl N (H.jQ [7,3])
    refine sw (zQ H 2 rfl 0 rfl underlying27 ti22 rfl qj rfl rfl rfl (by simp [Value.oneCell',Value.cells]) qp qf fun a155 c156 w157 H=>?_)
    replace H:=H.yg 4 rfl 0 rfl
    replace N:Fresh w.heap.size [(Xw++G158),QT]:=(N.pick [2,0,1]).join
    refine sp (.slice a155 (QW+1) c156) (zf (b_n (t_n (xZ (sw (zD k_52 1 rfl rfl qf (sp (yI (k_52+1)) (zf ?_))))))))
    refine xf (m' :=((((xG s t s.qw.length)[k_1]!).length) - ((k_52+1):Int)).toNat) qf ⟨_,a155,QW+1,c156,((nextX (jh s.qx.length (xg s t s.qw.length) (xG s t s.qw.length) k_1) ((xg s t s.qw.length)[k_1]!) ((xG s t s.qw.length)[k_1]!) k_51 k_52)++[(setTo ((jh s.qx.length (xg s t s.qw.length) (xG s t s.qw.length) k_1)[k_51]!) ((xg s t s.qw.length)[k_1]!) (((xG s t s.qw.length)[k_1]!)[k_52]!) k_53)]),Vp++[.slice a138 (((jh s.qx.length (xg s t s.qw.length) (xG s t s.qw.length) k_1)[k_51]!).length) c139],(Xw++G158),k_52+1,uE12,?_,?_,rfl,(N.pick [1,0]),H.pick [2,3,4,5,6] [4,0,6,7,8,9,10,11,12,13,14,15]⟩
    · exact nextX_succ qf (by rw [show k_53=((xg s t s.qw.length)[k_1]!).length by omega];rfl)
    · omega
   refine zx4 (zcr (sp (.slice X7 QW X0) (oN rfl (sp (.bool (decide ((QW:Int) > 300))) (zjn (cD rfl (fun h160=>?_) (fun h160=>?_)))))))
   ·skip
    refine zcr (sps [yN,yI 3] (zjr (zr5 (zr5 ?_))))
    replace H:=H.nilRow 22 1
    replace H:=H.vG (α:=yLI)
    refine ret2 yN (yI 3) rfl rfl rfl ⟨_,rfl,?_,H.base⟩
    first | rw [cho_3 (.inl (own_bad p0 (q:=k) qf qf))] | rw [cho_3 (.inr (prod_stop (G:=(jh s.qx.length (xg s t s.qw.length) (xG s t s.qw.length) k_1)) (r:=((xg s t s.qw.length)[k_1]!)) (k:=k_51+1) (i:=k_1) kn qf (Vg _) qf (by rw [← nextX_end (x:=k_52) qf qf];omega)))]
    exact ⟨none,0,0,[],[],rfl,(N.emp.pick [0]),H.pick [0] [0]⟩
   refine qV (b_n (t_n (xZ (sw (zD k_51 1 rfl rfl qf (sp (yI (k_51+1)) (zf (xf (m' :=(yJ - ((k_51+1):Int)).toNat) qf ⟨_,X7,QW,X0,(nextX (jh s.qx.length (xg s t s.qw.length) (xG s t s.qw.length) k_1) ((xg s t s.qw.length)[k_1]!) ((xG s t s.qw.length)[k_1]!) k_51 k_52),Vp,Xw,k_51+1,uE8,?_,?_,?_,rfl,N,H.pick [0,1,2,3,4] [1,2,3,4,5,6,7,8,9,10,11]⟩))))))))
   · exact nextX_end qf qf
   · omega
   · rw [← nextX_end (x:=k_52) qf qf];omega
  refine zx4 (xZ (sps [.slice a_next n_next c_next,.slice a_next n_next c_next] (zf (b_n (t_n (xZ (sw (zD k_1 1 rfl rfl qf (sp (yI (k_1+1)) (zf (xf (m' :=(zy - ((k_1+1):Int)).toNat) qf ⟨_,a_next,n_next,c_next,(nextK (jh s.qx.length (xg s t s.qw.length) (xG s t s.qw.length) k_1) ((xg s t s.qw.length)[k_1]!) ((xG s t s.qw.length)[k_1]!) k_51),x_next,F_next,k_1+1,uE4,?_,?_,?_,rfl,(N.pick [1]),H.pick [0,3,4] [0,5,6,7,8,9,10]⟩)))))))))))
  · rw [show k_51=(jh s.qx.length (xg s t s.qw.length) (xG s t s.qw.length) k_1).length by omega];rfl
  · omega
  · show (nextK (jh s.qx.length (xg s t s.qw.length) (xG s t s.qw.length) k_1) ((xg s t s.qw.length)[k_1]!) ((xG s t s.qw.length)[k_1]!) (jh s.qx.length (xg s t s.qw.length) (xG s t s.qw.length) k_1).length).length≤300;rw [← show k_51=(jh s.qx.length (xg s t s.qw.length) (xG s t s.qw.length) k_1).length by omega];exact n3
 obtain rfl:k_1=(xG s t s.qw.length).length:=by omega
 have on:0 < (jh s.qx.length (xg s t s.qw.length) (xG s t s.qw.length) (xG s t s.qw.length).length).length:=by rw [Vg];exact prod_mono kn (Nat.zero_le _) (Nat.le_refl _)
 have kc:¬ XL (xG s t s.qw.length) (xG s t s.qw.length).length > 300:=by rw [Vg] at g3;omega
 refine zx4 (zcr (sp (.slice a_out_1 yJ XD) ?_))
 obtain ⟨b161,rfl⟩:=H.QP 0 rfl qf
 refine sw (o_callF #[.slice (aa b161 0) yJ XD,.func (.func 94) #[] #[]] rfl rfl call93 (sortRow sortL call94 cmpSort H 0 rfl 0 rfl qf qf) ?_)
 rintro _ w162 ⟨xs163,F164,l165,rfl,hF166,hp167,hs168,H⟩
 replace N:Fresh w.heap.size [F164]:=Fresh.perm N hF166
 refine zjc (sps [.slice (aa b161 0) yJ XD,.slice (aa b161 0) yJ XD,yI 0] (zjr (ret2 (.slice (aa b161 0) yJ XD) (yI 0) rfl rfl rfl ⟨_,rfl,?_,H.base⟩)))
 rw [cho_0 gp kc hp167 (in_order (Nat.le_refl _) fun a b h1 h2 h3=>hs168 a b h1 h2 ((cmpL_ahead ((perm_rows hp167 b qf).trans (perm_rows hp167 a qf).symm)).2 h3))]
 exact ⟨(aa b161 0),yJ,XD,xs163,F164,rfl,N,H.pick [0] [0]⟩
theorem l03Succ_ok (w:World) (s:qG) (t:qI) {qC:yOA} {qZ:yLN} {qL:yOA} {xE:yLN} {qW:yOA} {xR:yLN} {xw:yOA} {zC:yLN} {qO:yOA} {xK:yLN} (hs:ve w bs os (yS s qC qB qL qJ)) (xe:qM.rep w qZ [.slice qC s.qw.length qB] s.qw) (xJ:qM.rep w xE [.slice qL s.qx.length qJ] s.qx) (ht:ve w bt ot (yT t qW qU xw xm qO qN)) (zn:qM.rep w xR [.slice qW t.qy.length qU] t.qy) (zK:qM.rep w zC [.slice xw t.qE.length xm] t.qE) (xP:qM.rep w xK [.slice qO t.qA.length qN] t.qA) (p0:ja s) (p1:zt s t):Calls Tryz.prog 72 #[pp bs os,pp bt ot] w (Ret (fun v w' =>∃ (ra0:yOA) (rn0:Nat) (rc0:Nat) (rx0:List Value) (rF0:yLN),v=.tuple #[.slice ra0 rn0 rc0,yI ((qX s t).2)]∧Fresh w.heap.size [rF0]∧St w w' [rr ra0 rn0 rc0 38 3 rx0] [zl true rF0 rx0 ((qX s t).1)]) w):=by
 refine en func72 ntmps72 ?_
 have H:=(((((((St.start w).arg xP).arg zK).arg zn).VA ht).arg xJ).arg xe).VA hs
 have zY:=qK xe
 have je:=qK xJ
 have Qr:=qK zn
 have Xj:=qK zK
 have jR:=qK xP
 clear hs xe xJ ht zn zK xP
 have N:=Fresh.nil w.heap.size
 refine zcr (sps [yN,yI 0] (zjcc (sps [pp bs os,pp bt ot] (sw (oq (l03Halted_ok _ s t (qF (H.get 0 rfl) 0 3) (H.get 1 rfl).1 (H.get 2 rfl).1 (qF (H.get 3 rfl) 0 3) (H.get 4 rfl).1 (H.get 5 rfl).1 (H.get 6 rfl).1 qg qg) H fun w2 H=>zjn (cP rfl (fun h4=>?_) (fun h4=>?_)))))))
 ·skip
  refine zcr (sw (vI H underlying47 ti38 fun b5 w6 H=>sps [.slice (aa b5 0) 0 0,yI 0] (zjr (t_r ?_))))
  replace H:=H.boxRow 0 rfl 3 0 rfl qj
  replace H:=H.vG (α:=qI)
  replace H:St _ _ [rr (aa b5 0) 0 0 38 3 []] [zl true [] [] ([]:List qI),atF bs os (yS s qC qB qL qJ),sF false qZ qC qB s.qw,sF false xE qL qJ s.qx,atF bt ot (yT t qW qU xw xm qO qN),sF false xR qW qU t.qy,sF false zC xw xm t.qE,sF false xK qO qN t.qA]:=H
  refine ret2 (.slice (aa b5 0) 0 0) (yI 0) rfl rfl rfl ⟨_,rfl,?_,H.base⟩
  rw [succ_h (by first | assumption | exact appls_halt.1 qf)]
  exact ⟨(aa b5 0),0,0,[],[],rfl,N.emp,H.pick [0] [0]⟩
 refine qV (t_n (zcr (sps [pp bs os,pp bt ot] ?_)))
 have sz10:=H.base.size
 refine sw (oc (l03Choices_ok _ s t (qF (H.get 0 rfl) 0 3) (H.get 1 rfl).1 (H.get 2 rfl).1 (qF (H.get 3 rfl) 0 3) (H.get 4 rfl).1 (H.get 5 rfl).1 (H.get 6 rfl).1 qg qg) ?_)
 rintro _ w8 ⟨ra7a,rn7a,rc7a,rx7a,rF7a,rfl,M,K⟩ _
 replace N:=N.merge sz10 qm M
 replace H:=H.merge K M
 obtain rfl:=H.zi (α:=yLI) 0 rfl 0 rfl qj
 refine sps [.tuple #[.slice ra7a (((xB s t).1).length) rc7a,yI ((xB s t).2)],.slice ra7a (((xB s t).1).length) rc7a,yI ((xB s t).2),.slice ra7a (((xB s t).1).length) rc7a,yI ((xB s t).2)] (zjcc (sps [yI ((xB s t).2),.bool (((xB s t).2:Int) != 0)] (zjn (xI (((xB s t).2:Int) != 0) rfl (fun h13=>?_) (fun h13=>?_)))))
 ·skip
  replace h13:=bne_iff_ne.1 h13
  refine zcr (sw (vI H underlying47 ti38 fun b14 w15 H=>sps [yI ((xB s t).2),.slice (aa b14 0) 0 0,yI ((xB s t).2)] (zjr (t_r ?_))))
  replace H:=H.boxRow 0 rfl 3 0 rfl qj
  replace H:=H.vG (α:=qI)
  replace H:St _ _ [rr (aa b14 0) 0 0 38 3 [],rr ra7a (((xB s t).1).length) rc7a 22 1 rx7a] [zl true [] [] ([]:List qI),zl true rF7a rx7a ((xB s t).1),atF bs os (yS s qC qB qL qJ),sF false qZ qC qB s.qw,sF false xE qL qJ s.qx,atF bt ot (yT t qW qU xw xm qO qN),sF false xR qW qU t.qy,sF false zC xw xm t.qE,sF false xK qO qN t.qA]:=H
  refine ret2 (.slice (aa b14 0) 0 0) (yI ((xB s t).2)) rfl rfl rfl ⟨_,rfl,?_,H.base⟩
  rw [succ_c ‹_›]
  exact ⟨(aa b14 0),0,0,[],[],rfl,(N.emp.pick [0]),H.pick [0] [0]⟩
 replace h13:=xq h13
 refine qV (t_n (zcr (sps [pp bs os,pp bt ot,.slice ra7a (((xB s t).1).length) rc7a] ?_)))
 obtain ⟨G16,hn17,h18⟩:=H.Jn (α:=yLI) 0 rfl 0 rfl qj
 have ln:=cho_len s t
 have cc:=fun q (hq:q < (xB s t).1.length)=>(cho_ok p0 p1 hq).1
 have ci:=fun q (hq:q < (xB s t).1.length)=>(cho_ok p0 p1 hq).2
 have sz22:=H.base.size
 have lt23:=H.ltN (L:=[rF7a]) [0]
 refine sw (oc (l03Next_ok _ s t ((xB s t).1) (qF (H.get 1 rfl) 0 3) (H.get 2 rfl).1 (H.get 3 rfl).1 (qF (H.get 4 rfl) 0 3) (H.get 5 rfl).1 (H.get 6 rfl).1 (H.get 7 rfl).1 h18 qg qg qg qg) ?_)
 rintro _ w20 ⟨ra19a,rn19a,rc19a,rx19a,rF19a,rfl,M,K⟩ _
 replace N:=N.merge sz22 lt23 M
 replace H:=H.merge K M
 obtain rfl:=H.zi (α:=qI) 0 rfl 0 rfl qj
 refine sps [.slice ra19a (((Qy s t ((xB s t).1)).1).length) rc19a,yI ((Qy s t ((xB s t).1)).2),.slice ra19a (((Qy s t ((xB s t).1)).1).length) rc19a,yI ((Qy s t ((xB s t).1)).2)] (zjr (ret2 (.slice ra19a (((Qy s t ((xB s t).1)).1).length) rc19a) (yI ((Qy s t ((xB s t).1)).2)) rfl rfl rfl ⟨_,rfl,?_,H.base⟩))
 rw [succ_0 (by first | assumption | exact fun h=>by have:=appls_halt.2 h;omega) ql]
 exact ⟨ra19a,((Qy s t ((xB s t).1)).1).length,rc19a,rx19a,rF19a,rfl,(N.pick [0]),H.pick [0] [0]⟩

theorem nextStates_ok (w:World) (s:qG) (t:qI) {qC:yOA} {qZ:yLN} {qL:yOA} {xE:yLN} {qW:yOA} {xR:yLN} {xw:yOA} {zC:yLN} {qO:yOA} {xK:yLN} (xe:qM.rep w qZ [.slice qC s.qw.length qB] s.qw) (xJ:qM.rep w xE [.slice qL s.qx.length qJ] s.qx) (zn:qM.rep w xR [.slice qW t.qy.length qU] t.qy) (zK:qM.rep w zC [.slice xw t.qE.length xm] t.qE) (xP:qM.rep w xK [.slice qO t.qA.length qN] t.qA) (p0:ja s) (p1:zt s t):Calls Tryz.prog 73 #[.agg #[yI s.xC,.slice qC s.qw.length qB,.slice qL s.qx.length qJ],.agg #[.slice qW t.qy.length qU,.slice xw t.qE.length xm,.slice qO t.qA.length qN]] w (Ret (fun v w' =>∃ (ra0:yOA) (rn0:Nat) (rc0:Nat) (rx0:List Value) (rF0:yLN),v=.tuple #[.slice ra0 rn0 rc0,yI ((qX s t).2)]∧Fresh w.heap.size [rF0]∧St w w' [rr ra0 rn0 rc0 38 3 rx0] [zl true rF0 rx0 ((qX s t).1)]) w):=by
 refine en func73 ntmps73 ?_
 have H:=(((((St.start w).arg xP).arg zK).arg zn).arg xJ).arg xe
 have zY:=qK xe
 have je:=qK xJ
 have Qr:=qK zn
 have Xj:=qK zK
 have jR:=qK xP
 clear xe xJ zn zK xP
 have N:=Fresh.nil w.heap.size
 refine zcr (sw (vF H (yS s qC qB qL qJ) fun b1 w2 H=>sw (vF H (yT t qW qU xw xm qO qN) fun b3 w4 H=>sps [yN,yI 0] (zjc (sw (zg (yS s qC qB qL qJ) isAgg36 sizeOf36 rfl (qF (H.cells 1 rfl) 0 3) ?_))))))
 refine sw (zg (yT t qW qU xw xm qO qN) isAgg38 sizeOf38 rfl (qF (H.cells 0 rfl) 0 3) ?_)
 have sz8:=H.base.size
 refine sw (oc (choices_ok _ s t (H.get 0 rfl).1 (H.get 1 rfl).1 (H.get 2 rfl).1 (H.get 3 rfl).1 (H.get 4 rfl).1 qg qg) ?_)
 rintro _ w6 ⟨ra5a,rn5a,rc5a,rx5a,rF5a,rfl,M,K⟩ _
 replace N:=N.merge sz8 qm M
 replace H:=H.merge K M
 obtain rfl:=H.zi (α:=yLI) 0 rfl 0 rfl qj
 refine sps [.tuple #[.slice ra5a (((xB s t).1).length) rc5a,yI ((xB s t).2)],.slice ra5a (((xB s t).1).length) rc5a,yI ((xB s t).2),.slice ra5a (((xB s t).1).length) rc5a,yI ((xB s t).2)] (zjcc (sps [yI ((xB s t).2),.bool (((xB s t).2:Int) != 0)] (zjn (xI (((xB s t).2:Int) != 0) rfl (fun h11=>?_) (fun h11=>?_)))))
 ·skip
  replace h11:=bne_iff_ne.1 h11
  refine zcr (sps [yI ((xB s t).2),yN,yI ((xB s t).2)] (zjr (t_r ?_)))
  replace H:=H.nilRow 38 3
  replace H:=H.vG (α:=qI)
  refine ret2 yN (yI ((xB s t).2)) rfl rfl rfl ⟨_,rfl,?_,H.base⟩
  rw [succ_c ‹_›]
  exact ⟨none,0,0,[],[],rfl,(N.emp.pick [0]),H.pick [0] [0]⟩
 replace h11:=xq h11
 refine qV (t_n (zcc (sw (zg (yS s qC qB qL qJ) isAgg36 sizeOf36 rfl (qF (H.cells 2 rfl) 0 3) (sw (zg (yT t qW qU xw xm qO qN) isAgg38 sizeOf38 rfl (qF (H.cells 1 rfl) 0 3) ?_))))))
 have sz15:=H.base.size
 refine sw (oc (applicable_ok _ s t (H.get 1 rfl).1 (H.get 2 rfl).1 (H.get 3 rfl).1 (H.get 4 rfl).1 (H.get 5 rfl).1 qg qg) ?_)
 rintro _ w13 ⟨ra12,rn12,rc12,rfl,M,K⟩ _
 replace H:=H.merge K M
 obtain rfl:=H.V9 0 rfl
 refine oN rfl (sp (.bool (((appls s t).length:Int) == 0)) (zjn (cE rfl (fun h18=>?_) (fun h18=>?_))))
 ·skip
  refine zcr (sps [yN,yI 0] (zjr (t_r ?_)))
  replace H:=H.nilRow 38 3
  replace H:=H.vG (α:=qI)
  refine ret2 yN (yI 0) rfl rfl rfl ⟨_,rfl,?_,H.base⟩
  rw [succ_h (by first | assumption | exact appls_halt.1 qf)]
  exact ⟨none,0,0,[],[],rfl,(N.emp.pick [0]),H.pick [0] [0]⟩
 refine qV (t_n (zcr (sw (zg (yS s qC qB qL qJ) isAgg36 sizeOf36 rfl (qF (H.cells 3 rfl) 0 3) (sw (zg (yT t qW qU xw xm qO qN) isAgg38 sizeOf38 rfl (qF (H.cells 2 rfl) 0 3) (sp (.slice ra5a (((xB s t).1).length) rc5a) ?_)))))))
 obtain ⟨G19,hn20,h21⟩:=H.Jn (α:=yLI) 1 rfl 0 rfl qj
 have ln:=cho_len s t
 have cc:=fun q (hq:q < (xB s t).1.length)=>(cho_ok p0 p1 hq).1
 have ci:=fun q (hq:q < (xB s t).1.length)=>(cho_ok p0 p1 hq).2
 have sz25:=H.base.size
 have lt26:=H.ltN (L:=[rF5a]) [0]
 refine sw (oc (behind_ok _ s t ((xB s t).1) (H.get 1 rfl).1 (H.get 2 rfl).1 (H.get 3 rfl).1 (H.get 4 rfl).1 (H.get 5 rfl).1 h21 qg qg qg qg qg) ?_)
 rintro _ w23 ⟨ra22a,rn22a,rc22a,rx22a,rF22a,rfl,M,K⟩ _
 replace N:=N.merge sz25 lt26 M
 replace H:=H.merge K M
 obtain rfl:=H.zi (α:=qI) 0 rfl 0 rfl qj
 refine sps [.slice ra22a (((Qy s t ((xB s t).1)).1).length) rc22a,yI ((Qy s t ((xB s t).1)).2),.slice ra22a (((Qy s t ((xB s t).1)).1).length) rc22a,yI ((Qy s t ((xB s t).1)).2)] (zjr (ret2 (.slice ra22a (((Qy s t ((xB s t).1)).1).length) rc22a) (yI ((Qy s t ((xB s t).1)).2)) rfl rfl rfl ⟨_,rfl,?_,H.base⟩))
 rw [succ_0 (by first | assumption | exact fun h=>by have:=appls_halt.2 h;omega) ql]
 exact ⟨ra22a,((Qy s t ((xB s t).1)).1).length,rc22a,rx22a,rF22a,rfl,(N.pick [0]),H.pick [0] [0]⟩
theorem find_ok (w:World) (l:List qI) (u:qI) {al:yOA} {Fl:yLN} {yE:yOA} {Yx:yLN} {Q8:yOA} {FuBags:yLN} {jm:yOA} {Vd:yLN} (hl:qM.rep w Fl [.slice al l.length cl] l) (Vt:qM.rep w Yx [.slice yE u.qy.length yB] u.qy) (huBags:qM.rep w FuBags [.slice Q8 u.qE.length Q5] u.qE) (Xm:qM.rep w Vd [.slice jm u.qA.length jl] u.qA):Calls Tryz.prog 80 #[.slice al l.length cl,.agg #[.slice yE u.qy.length yB,.slice Q8 u.qE.length Q5,.slice jm u.qA.length jl]] w (Ret (fun v w' =>v=yI (firstIdx (fun zz=>decide (l[zz]! =u)) l.length)) w):=by
 refine en func80 ntmps80 ?_
 have H:=((((St.start w).arg Xm).arg huBags).arg Vt).arg hl
 have nhl:=qK hl
 have nhuAlive:=qK Vt
 have nhuBags:=qK huBags
 have nhuAround:=qK Xm
 clear hl Vt huBags Xm
 have N:=Fresh.nil w.heap.size
 refine zcr (sw (vF H (yT u yE yB Q8 Q5 jm jl) fun b1 w2 H=>sp (yI 0) (zjc (sps [.slice al l.length cl,.func (.func 117) #[] #[pp b1 0]] (sw (vH #[.slice al l.length cl,.func (.func 117) #[] #[pp b1 0]] rfl rfl call116 (en func116 ntmps116 ?_)))))))
 refine zcr (sp (yI 0) (zjcc (sp (.slice al l.length cl) (oN rfl (sp (yI 0) (zjn (qY ?_)))))))
 refine zu (fun m' ρ w3=>∃ (xU:Env) (i:Nat),ρ=upd (upd (upd (upd xU 0 (.slice al l.length cl)) 1 (.func (.func 117) #[] #[pp b1 0])) 7 (yI l.length)) 8 (yI i)∧((i:Int)≤l.length)∧(noneTo (fun zz=>decide (l[zz]! =u)) i)∧m' =(l.length - (i:Int)).toNat∧Fresh w.heap.size []∧St w w3 [.box b1 (yT u yE yB Q8 Q5 jm jl) 38] [sF false Fl al cl l,sF false Yx yE yB u.qy,sF false FuBags Q8 Q5 u.qE,sF false Vd jm jl u.qA]) ((l.length - (0:Int)).toNat) ⟨_,0,uE4,qf,(by exact fun j hj=>by omega),rfl,N,H⟩ ?_
 clear H N
 rintro m' ρ w4 ⟨xU,i,rfl,i0,i1,rfl,N,H⟩
 refine zcr (sp (.bool (decide ((i:Int) < l.length))) (zjn (xQ (cD rfl (fun h5=>?_) (fun h5=>?_)))))
 ·skip
  refine qV (t_n (xQ (qY (zcr (sps [yI i,yI i] (zjc (sps [.func (.func 117) #[] #[pp b1 0],.slice al l.length cl,yI i] ?_)))))))
  obtain ⟨b6,o7,rfl⟩:=H.addr 0 rfl qf
  obtain ⟨ae9Alive,ce9Alive,Fe9Alive,ae9Bags,ce9Bags,Fe9Bags,ae9Around,ce9Around,Fe9Around,H⟩:=H.Jh 0 rfl i i qf qf qf
  refine oI rfl rfl (sw (zg [.slice ae9Alive (((l[i]!).qy).length) ce9Alive,.slice ae9Bags (((l[i]!).qE).length) ce9Bags,.slice ae9Around (((l[i]!).qA).length) ce9Around] isAgg38 sizeOf38 rfl (qF (H.get 3 rfl) 0 3) (sw (vH #[.agg #[.slice ae9Alive (((l[i]!).qy).length) ce9Alive,.slice ae9Bags (((l[i]!).qE).length) ce9Bags,.slice ae9Around (((l[i]!).qA).length) ce9Around],pp b1 0] rfl rfl call117 (en func117 ntmps117 ?_)))))
  refine zcr (sw (vF H [.slice ae9Alive (((l[i]!).qy).length) ce9Alive,.slice ae9Bags (((l[i]!).qE).length) ce9Bags,.slice ae9Around (((l[i]!).qA).length) ce9Around] fun b10 w11 H=>sp (.bool false) (zjc (sw (zg [.slice ae9Alive (((l[i]!).qy).length) ce9Alive,.slice ae9Bags (((l[i]!).qE).length) ce9Bags,.slice ae9Around (((l[i]!).qA).length) ce9Around] isAgg38 sizeOf38 rfl (qF (H.cells 0 rfl) 0 3) ?_)))))
  refine sw (zg (yT u yE yB Q8 Q5 jm jl) isAgg38 sizeOf38 rfl (qF (H.cells 1 rfl) 0 3) (sw (oq (sameState_ok _ (l[i]!) u (H.get 0 rfl).1 (H.get 1 rfl).1 (H.get 2 rfl).1 (H.get 5 rfl).1 (H.get 6 rfl).1 (H.get 7 rfl).1) H fun w13 H=>sp (.bool (decide ((l[i]!)=u))) (zjr (ret1 (.bool (decide ((l[i]!)=u))) rfl rfl ⟨_,rfl,?_⟩)))))
  replace H:=H.erases [0]
  dsimp only [vZ,List.eraseIdx] at H
  refine zjn (cD rfl (fun h15=>?_) (fun h15=>?_))
  ·skip
   refine zcr (sps [yI i,yI i] (zjr (zr5 (ret1 (yI i) rfl rfl ⟨_,rfl,(sp (yI i) (zjr (ret1 (yI i) rfl rfl ⟨_,rfl,?_,H.base⟩)))⟩))))
   rw [firstIdx_some (k:=i) qf i1 (decide_eq_true ‹_›)]
  refine qV (b_n (t_n (xZ (sw (zD i 1 rfl rfl qf (sp (yI (i+1)) (zf (xf (m' :=(l.length - ((i+1):Int)).toNat) qf ⟨_,i+1,uE4,?_,?_,rfl,N,H.pick [0] [4,5,6,7]⟩))))))))
  · omega
  · exact noneTo_succ i1 (decide_eq_false ‹_›)
 refine zx4 (zcr (sp (yI (-1)) (zjr (ret1 (yI (-1)) rfl rfl ⟨_,rfl,(sp (yI (-1)) (zjr (ret1 (yI (-1)) rfl rfl ⟨_,rfl,?_,H.base⟩)))⟩))))
 rw [firstIdx_none (fun j hj=>i1 j qf)]

theorem sizeS_ok (w:World) (l:List qI) {al:yOA} {Fl:yLN} (hl:qM.rep w Fl [.slice al l.length cl] l):Calls Tryz.prog 121 #[.slice al l.length cl] w (Ret (fun v w' =>v=yI l.length) w):=by
 refine en func121 ntmps121 ?_
 have H:=(St.start w).arg hl
 have nhl:=qK hl
 clear hl
 have N:=Fresh.nil w.heap.size
 refine zcr (sp (yI 0) (zjc (sp (.slice al l.length cl) (oN rfl (sp (yI l.length) (zjr (ret1 (yI l.length) rfl rfl ⟨_,rfl,?_,H.base⟩)))))))
 rfl
theorem implEx_ok (w:World) (s:qG) (t:qI) {qC:yOA} {qZ:yLN} {qL:yOA} {xE:yLN} {qW:yOA} {xR:yLN} {xw:yOA} {zC:yLN} {qO:yOA} {xK:yLN} (xe:qM.rep w qZ [.slice qC s.qw.length qB] s.qw) (xJ:qM.rep w xE [.slice qL s.qx.length qJ] s.qx) (zn:qM.rep w xR [.slice qW t.qy.length qU] t.qy) (zK:qM.rep w zC [.slice xw t.qE.length xm] t.qE) (xP:qM.rep w xK [.slice qO t.qA.length qN] t.qA):Calls Tryz.prog 41 #[.agg #[yI s.xC,.slice qC s.qw.length qB,.slice qL s.qx.length qJ],.agg #[.slice qW t.qy.length qU,.slice xw t.qE.length xm,.slice qO t.qA.length qN]] w (Ret (fun v w' =>∃ (ra0States:yOA) (rc0States:Nat) (rF0States:yLN) (ra0Next:yOA) (rc0Next:Nat) (rF0Next:yLN),v=.tuple #[.agg #[.slice ra0States (((exG s t).qR).length) rc0States,.slice ra0Next (((exG s t).fNext).length) rc0Next],yI ((Yp s t).2)]∧Fresh w.heap.size [rF0States,rF0Next]∧St w w' [] [sF true rF0States ra0States rc0States ((exG s t).qR),sF true rF0Next ra0Next rc0Next ((exG s t).fNext)]) w):=by
 refine en func41 ntmps41 ?_
 have H:=(((((St.start w).arg xP).arg zK).arg zn).arg xJ).arg xe
 have zY:=qK xe
 have je:=qK xJ
 have Qr:=qK zn
 have Xj:=qK zK
 have jR:=qK xP
 clear xe xJ zn zK xP
 have N:=Fresh.nil w.heap.size
 refine zcr (sw (vF H (yS s qC qB qL qJ) fun b1 w2 H=>sw (vF H (yT t qW qU xw xm qO qN) fun b3 w4 H=>sw (xY H ti59 [yN,yN] fun b5 w6 H=>sp (yI 0) (zjcc (sw (zg (yS s qC qB qL qJ) isAgg36 sizeOf36 rfl (qF (H.cells 2 rfl) 0 3) ?_)))))))
 refine sw (zg (yT t qW qU xw xm qO qN) isAgg38 sizeOf38 rfl (qF (H.cells 1 rfl) 0 3) (sw (oq (validState_ok _ s t (H.get 0 rfl).1 (H.get 1 rfl).1 (H.get 2 rfl).1 (H.get 3 rfl).1 (H.get 4 rfl).1) H fun w8 H=>sp (.bool (!(dec (ja s∧zt s t)))) (zjn (cQ rfl (fun h10=>?_) (fun h10=>?_))))))
 ·skip
  refine zcr (sw (jF [yN,yN] [] (sw (zA H 0 [yN,yN] sizeOf59 fun w11 H=>sp (yI 1) (zjr (t_r ?_))))))
  replace H:=H.addNil (α:=qI)
  replace H:=H.addNil (α:=yLI)
  refine retC2 H 0 rfl (yI 1) rfl isAgg59 sizeOf59 rfl rfl ⟨_,rfl,?_,H.base⟩
  obtain ⟨z1,z2⟩:=exG_of (ex_1 ‹_›)
  rw [z1,z2]
  exact ⟨none,0,[],none,0,[],rfl,N.emp.emp,H.pick [] [1,0]⟩
 have k0:=(‹ja s∧zt s t›:ja s∧zt s t)
 have k1:=k0.1
 have k2:=k0.2
 obtain ⟨q7,q8,q9,q10⟩:=k2.sizes k1.1
 have q13:=fun k hk=>Nat.le_trans (q10 k hk) (by decide:8≤1000000)
 refine qV (t_n (zcr (sw (zg (yS s qC qB qL qJ) isAgg36 sizeOf36 rfl (qF (H.cells 2 rfl) 0 3) (sw (zg (yT t qW qU xw xm qO qN) isAgg38 sizeOf38 rfl (qF (H.cells 1 rfl) 0 3) ?_))))))
 refine sw (vH #[.agg #[yI s.xC,.slice qC s.qw.length qB,.slice qL s.qx.length qJ],.agg #[.slice qW t.qy.length qU,.slice xw t.qE.length xm,.slice qO t.qA.length qN]] rfl rfl call86 (en func86 ntmps86 ?_))
 refine zcr (sw (vF H (yS s qC qB qL qJ) fun b12 w13 H=>sw (vF H (yT t qW qU xw xm qO qN) fun b14 w15 H=>sw (xY H ti59 [yN,yN] fun b16 w17 H=>sp (yI 0) (zjc (sw (zg (yT t qW qU xw xm qO qN) isAgg38 sizeOf38 rfl (qF (H.cells 1 rfl) 0 3) ?_)))))))
 have sz21:=H.base.size
 refine sw (oc (YK _ t (H.get 2 rfl).1 (H.get 3 rfl).1 (H.get 4 rfl).1 qg qg qg qg) ?_)
 rintro _ w19 ⟨ra18Alive,rn18Alive,rc18Alive,ra18Bags,rn18Bags,rc18Bags,rx18Bags,rF18Bags,ra18Around,rn18Around,rc18Around,rfl,M,K⟩ _
 replace N:=N.merge sz21 qm M
 replace H:=H.merge K M
 obtain rfl:=H.rowNB 0 rfl
 obtain rfl:=H.zi (α:=yLI) 1 rfl 0 rfl qj
 obtain rfl:=H.V9 2 rfl
 refine sw (zG H underlying47 ti38 (yT t ra18Alive rc18Alive ra18Bags rc18Bags ra18Around rc18Around) fun b26 w27 H=>sw (jF [.slice (aa b26 0) 1 1,yN] [(0,.slice (aa b26 0) 1 1)] (sw (xY H ti59 [yN,yN] fun b28 w29 H=>sw (zA H 0 [.slice (aa b26 0) 1 1,yN] sizeOf59 fun w30 H=>zjcc (sp (yI 0) (zjn (qY ?_))))))))
 replace H:=H.boxRow 1 rfl 3 1 rfl qj
 replace H:=H.vG (α:=qI)
 obtain ⟨G31,N,hn32,H⟩:=H.freezeB 2 rfl N (H.jQ [1])
 have H0:=H
 obtain ⟨G33,hg35,hn34,H⟩:=H.QA (α:=yLI) 3 rfl 2 rfl qj
 replace N:Fresh w.heap.size [G33,G31]:=Fresh.ice (N.pick [1,0]) H0 3 hg35.1 hg35.2 (H0.jQ [0])
 clear H0
 obtain ⟨G36,N,hn37,H⟩:=H.vP 4 rfl N (H.jQ [0,1])
 replace H:=H.Jb 3 rfl 2 rfl 1 rfl 0 rfl
 replace N:Fresh w.heap.size [([]++(G31++G33++G36))]:=(N.emp.pick [3,2,1,0]).join.join.swap.join
 replace H:St _ _ [.box b28 [.slice (aa b26 0) 1 1,yN] 59,rr (aa b26 0) 1 1 38 3 (yT t ra18Alive rc18Alive ra18Bags rc18Bags ra18Around rc18Around),rr none 0 0 0 1 [],rr none 0 0 0 1 [],rr none 0 0 0 1 [],.box b16 [yN,yN] 59,.box b14 (yT t qW qU xw xm qO qN) 38,.box b12 (yS s qC qB qL qJ) 36,.box b5 [yN,yN] 59,.box b3 (yT t qW qU xw xm qO qN) 38,.box b1 (yS s qC qB qL qJ) 36] [zl true ([]++(G31++G33++G36)) (yT t ra18Alive rc18Alive ra18Bags rc18Bags ra18Around rc18Around) [t],sF true G36 ra18Around rc18Around t.qA,sF true G33 ra18Bags rc18Bags t.qE,sF true G31 ra18Alive rc18Alive t.qy,zl true [] [] ([]:List qI),zl true rF18Bags rx18Bags t.qE,sF false qZ qC qB s.qw,sF false xE qL qJ s.qx,sF false xR qW qU t.qy,sF false zC xw xm t.qE,sF false xK qO qN t.qA]:=H
 replace H:=H.nilRow 22 1
 replace H:=H.vG (α:=yLI)
 refine zu (fun m' ρ w38=>∃ (xU:Env) (i:Nat) (Qq:yOA) (jX:Nat) (yD:Nat) (g_States:List qI) (V6:List Value) (VL:yLN) (yO:yOA) (jS:Nat) (yM:Nat) (g_Next:yLL) (Vq:List Value) (jT:yLN),ρ=upd (upd (upd (upd xU 2 (pp b12 0)) 4 (pp b16 0)) 6 (pp b28 0)) 7 (yI i)∧(grRes s t=grGo s (302 - i) i g_States g_Next)∧(∀ u∈g_States,zt s u)∧(0 < g_States.length∧g_States.length≤300)∧(g_Next.length=i)∧(i≤g_States.length)∧(GrOk g_States g_Next)∧m' =(301 - i)∧Fresh w.heap.size [VL,jT]∧St w w38 [rr yO jS yM 22 1 Vq,.box b28 [.slice Qq jX yD,.slice yO jS yM] 59,rr Qq jX yD 38 3 V6,.box b16 [yN,yN] 59,.box b14 (yT t qW qU xw xm qO qN) 38,.box b12 (yS s qC qB qL qJ) 36,.box b5 [yN,yN] 59,.box b3 (yT t qW qU xw xm qO qN) 38,.box b1 (yS s qC qB qL qJ) 36] [zl true jT Vq g_Next,zl true VL V6 g_States,sF false qZ qC qB s.qw,sF false xE qL qJ s.qx,sF false xR qW qU t.qy,sF false zC xw xm t.qE,sF false xK qO qN t.qA]) ((301 - 0)) ⟨_,0,(aa b26 0),1,1,[t],(yT t ra18Alive rc18Alive ra18Bags rc18Bags ra18Around rc18Around),([]++(G31++G33++G36)),none,0,0,([]:yLL),[],[],uE4,(by rfl),(by exact fun u hu=>by obtain rfl:=List.mem_singleton.1 hu;exact k2),qm,(by rfl),qm,(by exact GrOk.start t),rfl,(N.emp.pick [1,0]),H.pick [0,1,2,6,7,8,9,10,11] [0,1,7,8,9,10,11]⟩ ?_
 clear H N
 rintro m' ρ w39 ⟨xU,i,Qq,jX,yD,g_States,V6,VL,yO,jS,yM,g_Next,Vq,jT,rfl,kr,ka,kl,kn,ki,ko,rfl,N,H⟩
 have hn_g_States:=H.zi (α:=qI) 2 rfl 1 rfl qj
 have hn_g_Next:=H.zi (α:=yLI) 0 rfl 0 rfl qj
 refine zcc (sp (yI i) (oF rfl (oL rfl (H.cell 1 rfl rfl) (oN rfl (sp (.bool (decide ((i:Int) < jX))) (zjn (cD rfl (fun h40=>?_) (fun h40=>?_))))))))
 ·skip
  have ks:=ka (g_States[i]!) (mem_at (k:=i) qf rfl)
  have nl:=succ_len s (g_States[i]!)
  refine qV (t_n (xQ (qY (xQ ?_))))
  refine vS rfl H fun H=>rt 0 (.agg #[yI s.xC,.slice qC s.qw.length qB,.slice qL s.qx.length qJ]) (yR (cs:=(yS s qC qB qL qJ)) isAgg36 sizeOf36 rfl (fun _ h=>qF (h.cells 5 rfl) 0 3)) H ?_
  refine tF 1 rfl rfl H ?_
  refine tL 2 rfl rfl (fun _ h=>h.cell 1 rfl rfl) H ?_
  refine rtp 3 (yI i) H ?_
  obtain ⟨b42,rfl⟩:=H.QP 2 rfl qf
  obtain ⟨ae43Alive,ce43Alive,Fe43Alive,ae43Bags,ce43Bags,Fe43Bags,ae43Around,ce43Around,Fe43Around,hx44,H⟩:=H.rowel_StateD 2 rfl 1 rfl (iv:=i) i qf qf
  have S:=H.yG [0,1,2,3,4,5,6,7,8] [3,4,5,6,7,8,9]
  refine tI 4 rfl rfl rfl S ?_
  refine rt 5 (.agg #[.slice ae43Alive (((g_States[i]!).qy).length) ce43Alive,.slice ae43Bags (((g_States[i]!).qE).length) ce43Bags,.slice ae43Around (((g_States[i]!).qA).length) ce43Around]) (yR (cs:=[.slice ae43Alive (((g_States[i]!).qy).length) ce43Alive,.slice ae43Bags (((g_States[i]!).qE).length) ce43Bags,.slice ae43Around (((g_States[i]!).qA).length) ce43Around]) isAgg38 sizeOf38 rfl (fun _ h=>qF (fun j v hj=>h.rowGet 2 rfl (hx44 j v hj)) 0 3)) S ?_
  refine ro 6 rfl ?_
  have sz48:=H.base.size
  have lt49:=H.ltN (L:=[VL,jT]) [4,3]
  refine oc (nextStates_ok _ s (g_States[i]!) (H.get 5 rfl).1 (H.get 6 rfl).1 (H.get 0 rfl).1 (H.get 1 rfl).1 (H.get 2 rfl).1 qg qg) ?_
  rintro _ w46 ⟨ra45a,rn45a,rc45a,rx45a,rF45a,rfl,M,K⟩ _
  replace N:=N.merge sz48 lt49 M
  replace H:=H.merge K M
  obtain rfl:=H.zi (α:=qI) 0 rfl 0 rfl qj
  refine ⟨H.pick [1,2,3,4,5,6,7,8,9] [4,5,6,7,8,9,10],?_⟩
  have S:=H.yG [1,2,3,4,5,6,7,8,9] [4,5,6,7,8,9,10]
  refine rtp 7 (.tuple #[.slice ra45a (((qX s (g_States[i]!)).1).length) rc45a,yI ((qX s (g_States[i]!)).2)]) S ?_
  refine rtp 8 (.slice ra45a (((qX s (g_States[i]!)).1).length) rc45a) S ?_
  refine rtp 9 (yI ((qX s (g_States[i]!)).2)) S ?_
  refine rtp 10 (.slice ra45a (((qX s (g_States[i]!)).1).length) rc45a) S ?_
  refine rtp 11 (yI ((qX s (g_States[i]!)).2)) S ?_
  refine xO qh (t_n (zcc (sps [yI ((qX s (g_States[i]!)).2),.bool (((qX s (g_States[i]!)).2:Int) != 0)] (zjn (xI (((qX s (g_States[i]!)).2:Int) != 0) rfl (fun h51=>?_) (fun h51=>?_))))))
  ·skip
   replace h51:=bne_iff_ne.1 h51
   refine zcr (sw (jF [yN,yN] [] (sp (yI ((qX s (g_States[i]!)).2)) (sw (zA H 4 [yN,yN] sizeOf59 fun w52 H=>sp (yI ((qX s (g_States[i]!)).2)) (zjr (t_r (zr5 (retC2 H 4 rfl (yI ((qX s (g_States[i]!)).2)) rfl isAgg59 sizeOf59 rfl rfl ⟨_,rfl,?_⟩)))))))))
   replace H:=H.erases [6,5,4,3,2,1,0]
   dsimp only [vZ,List.eraseIdx] at H
   refine sps [.agg #[yN,yN],yI ((qX s (g_States[i]!)).2)] (sw (zA H 0 [yN,yN] sizeOf59 fun w53 H=>sp (yI ((qX s (g_States[i]!)).2)) (zjr ?_)))
   replace H:=H.addNil (α:=qI)
   replace H:=H.addNil (α:=yLI)
   refine retC2 H 0 rfl (yI ((qX s (g_States[i]!)).2)) rfl isAgg59 sizeOf59 rfl rfl ⟨_,rfl,?_,H.base⟩
   obtain ⟨z1,z2⟩:=exG_of (ex_0 k0 (kr.trans (gr_code qf qf ql)))
   rw [z1,z2]
   exact ⟨none,0,[],none,0,[],rfl,(N.emp.emp.pick [0,1]),H.pick [] [1,0]⟩
  replace h51:=xq h51
  refine qV (t_n (zcr (sw (vI H underlying22 ti2 fun b54 w55 H=>sp (.slice (aa b54 0) 0 0) (zjcc (sp (.slice ra45a (((qX s (g_States[i]!)).1).length) rc45a) (oN rfl (sp (yI 0) (zjn (qY ?_))))))))))
  have H0:=H
  obtain ⟨G56,hg58,hn57,H⟩:=H.QA (α:=qI) 1 rfl 0 rfl qj
  replace N:Fresh w.heap.size [G56,VL,jT]:=Fresh.ice N H0 1 hg58.1 hg58.2 (H0.jQ [5,4])
  clear H0
  obtain ⟨xs59,B60,P61,N,H⟩:=H.pool (α:=qI) 0 rfl N
  replace H:=H.boxRowI 0 [] 0
  refine zu (fun m' ρ w62=>∃ (xU:Env) (a_own:yOA) (n_own:Nat) (c_own:Nat) (own:yLI) (k:Nat) (yw:yOA) (zT:Nat) (yt:Nat) (g_States_1:List qI) (yh:List Value) (jM:yLN) (P_k:yLN),ρ=upd (upd (upd (upd (upd (upd (upd (upd xU 2 (pp b12 0)) 4 (pp b16 0)) 6 (pp b28 0)) 7 (yI i)) 10 (.slice a_own n_own c_own)) 40 (.slice ra45a (((qX s (g_States[i]!)).1).length) rc45a)) 41 (yI (((qX s (g_States[i]!)).1).length))) 42 (yI k)∧own=(zI g_States (qX s (g_States[i]!)).1 k).2∧g_States_1=(zI g_States (qX s (g_States[i]!)).1 k).1∧((k:Int)≤(((qX s (g_States[i]!)).1).length))∧m' =((((qX s (g_States[i]!)).1).length) - (k:Int)).toNat∧Fresh w.heap.size [jT,jM,P_k]∧St w w62 [rr a_own n_own c_own 2 1 (own.map (Value.int .i64)),rr yO jS yM 22 1 Vq,.box b28 [.slice yw zT yt,.slice yO jS yM] 59,rr yw zT yt 38 3 yh,.box b16 [yN,yN] 59,.box b14 (yT t qW qU xw xm qO qN) 38,.box b12 (yS s qC qB qL qJ) 36,.box b5 [yN,yN] 59,.box b3 (yT t qW qU xw xm qO qN) 38,.box b1 (yS s qC qB qL qJ) 36] [zl true P_k (xs59.drop (k * 3)) (((qX s (g_States[i]!)).1).drop k),cellsF B60 (.slice ra45a (((qX s (g_States[i]!)).1).length) rc45a) xs59,sF true G56 ra45a rc45a ((qX s (g_States[i]!)).1),zl true jT Vq g_Next,zl true jM yh g_States_1,sF false qZ qC qB s.qw,sF false xE qL qJ s.qx,sF false xR qW qU t.qy,sF false zC xw xm t.qE,sF false xK qO qN t.qA]) (((((qX s (g_States[i]!)).1).length) - (0:Int)).toNat) ⟨_,(aa b54 0),0,0,([]:yLI),0,(aa b42 0),jX,yD,g_States,V6,VL,P61,uE8,(by rfl),(by rfl),qf,rfl,(N.pick [2,1,0]),H.pick [0,2,3,4,5,6,7,8,9,10] [0,1,2,7,8,9,10,11,12,13]⟩ ?_
  clear H N
  rintro m' ρ w63 ⟨xU,a_own,n_own,c_own,own,k,yw,zT,yt,g_States_1,yh,jM,P_k,rfl,rfl,rfl,i0,rfl,N,H⟩
  have hn_own:=H.V9 0 rfl
  have hn_g_States:=H.zi (α:=qI) 3 rfl 4 rfl qj
  obtain ⟨al1,al2,al3⟩:=YX (S:=g_States) (nx:=(qX s (g_States[i]!)).1) k
  refine zcr (sp (.bool (decide ((k:Int) < (((qX s (g_States[i]!)).1).length)))) (zjn (xQ (cD rfl (fun h64=>?_) (fun h64=>?_)))))
  ·skip
   obtain ⟨b65,o66,rfl⟩:=H.addr 2 rfl qf
   obtain ⟨ae68Alive,ce68Alive,Fe68Alive,ae68Bags,ce68Bags,Fe68Bags,ae68Around,ce68Around,Fe68Around,P69,N,H⟩:=H.drain_StateD 1 rfl 0 rfl ((N.pick [2,0,1]):Fresh w.heap.size [P_k,jT,jM]) k k qf qf qf
   refine qV (t_n (xQ (qY (zcr (oI rfl rfl (sw (zg [.slice ae68Alive (((((qX s (g_States[i]!)).1)[k]!).qy).length) ce68Alive,.slice ae68Bags (((((qX s (g_States[i]!)).1)[k]!).qE).length) ce68Bags,.slice ae68Around (((((qX s (g_States[i]!)).1)[k]!).qA).length) ce68Around] isAgg38 sizeOf38 rfl (qF (H.get 3 rfl) 0 3) (sw (xY H ti38 [yN,yN,yN] fun b70 w71 H=>?_)))))))))
   refine sw (zA H 0 [.slice ae68Alive (((((qX s (g_States[i]!)).1)[k]!).qy).length) ce68Alive,.slice ae68Bags (((((qX s (g_States[i]!)).1)[k]!).qE).length) ce68Bags,.slice ae68Around (((((qX s (g_States[i]!)).1)[k]!).qA).length) ce68Around] sizeOf38 fun w72 H=>zjc (oF rfl (oL rfl (H.cell 3 rfl rfl) ?_)))
   refine sw (zg [.slice ae68Alive (((((qX s (g_States[i]!)).1)[k]!).qy).length) ce68Alive,.slice ae68Bags (((((qX s (g_States[i]!)).1)[k]!).qE).length) ce68Bags,.slice ae68Around (((((qX s (g_States[i]!)).1)[k]!).qA).length) ce68Around] isAgg38 sizeOf38 rfl (qF (H.cells 0 rfl) 0 3) ?_)
   obtain ⟨G73,hn74,h75⟩:=H.Jn (α:=qI) 4 rfl 9 rfl qj
   refine sw (oq (Yt (by rw [← hn74]) (find_ok _ ((zI g_States (qX s (g_States[i]!)).1 k).1) (((qX s (g_States[i]!)).1)[k]!) (hn74▸h75) (H.get 0 rfl).1 (H.get 1 rfl).1 (H.get 2 rfl).1)) H fun w77 H=>sp (yI (firstIdx (fun zz=>decide (((zI g_States (qX s (g_States[i]!)).1 k).1)[zz]! =(((qX s (g_States[i]!)).1)[k]!))) ((zI g_States (qX s (g_States[i]!)).1 k).1).length)) (zjcc ?_))
   refine sps [yI (firstIdx (fun zz=>decide (((zI g_States (qX s (g_States[i]!)).1 k).1)[zz]! =(((qX s (g_States[i]!)).1)[k]!))) ((zI g_States (qX s (g_States[i]!)).1 k).1).length),.bool (decide ((firstIdx (fun zz=>decide (((zI g_States (qX s (g_States[i]!)).1 k).1)[zz]! =(((qX s (g_States[i]!)).1)[k]!))) ((zI g_States (qX s (g_States[i]!)).1 k).1).length:Int) < 0))] (zjn (cD rfl (fun h79=>?_) (fun h79=>?_)))
   ·skip
    refine zcr (oF rfl (oL rfl (H.cell 3 rfl rfl) ?_))
    obtain ⟨G80,hn81,h82⟩:=H.Jn (α:=qI) 4 rfl 9 rfl qj
    refine sw (oq (Yt (by rw [← hn81]) (sizeS_ok _ ((zI g_States (qX s (g_States[i]!)).1 k).1) (hn81▸h82))) H fun w84 H=>sp (yI (((zI g_States (qX s (g_States[i]!)).1 k).1).length)) (zjn (xZ (oF rfl (oL rfl (H.cell 3 rfl rfl) (sw (zg [.slice ae68Alive (((((qX s (g_States[i]!)).1)[k]!).qy).length) ce68Alive,.slice ae68Bags (((((qX s (g_States[i]!)).1)[k]!).qE).length) ce68Bags,.slice ae68Around (((((qX s (g_States[i]!)).1)[k]!).qA).length) ce68Around] isAgg38 sizeOf38 rfl (qF (H.cells 0 rfl) 0 3) ?_)))))))
    refine sw (zG H underlying47 ti38 [.slice ae68Alive (((((qX s (g_States[i]!)).1)[k]!).qy).length) ce68Alive,.slice ae68Bags (((((qX s (g_States[i]!)).1)[k]!).qE).length) ce68Bags,.slice ae68Around (((((qX s (g_States[i]!)).1)[k]!).qA).length) ce68Around] fun b86 w87 H=>sw (zQ H 5 rfl 0 rfl underlying47 ti38 rfl qj rfl rfl rfl (by simp [Value.oneCell',Value.cells]) qp qf fun a88 c89 w90 H=>?_))
    replace H:=H.Jb 9 rfl 0 rfl 1 rfl 2 rfl
    replace N:Fresh w.heap.size [(jM++(Fe68Alive++Fe68Bags++Fe68Around)),P69,jT]:=(N.pick [0,1,2,5,3,4]).join.join.swap.join
    refine oF rfl (sw (zJ H 4 [.slice a88 (zT+1) c89,.slice yO jS yM] sizeOf47 fun w91 H=>zjn (xZ (sps [.slice a_own n_own c_own,yI (((zI g_States (qX s (g_States[i]!)).1 k).1).length)] (sw (zG H underlying22 ti2 [yI (((zI g_States (qX s (g_States[i]!)).1 k).1).length)] fun b92 w93 H=>sw (zQ H 3 rfl 0 rfl underlying22 ti2 rfl qj rfl rfl rfl (by simp [Value.oneCell',Value.cells]) qp qf fun a94 c95 w96 H=>?_)))))))
    rw [snocI] at H
    refine sp (.slice a94 (n_own+1) c95) (zf (b_n (t_n (xZ (sw (zD k 1 rfl rfl qf (sp (yI (k+1)) (zf ?_))))))))
    refine xf (m' :=((((qX s (g_States[i]!)).1).length) - ((k+1):Int)).toNat) qf ⟨_,a94,n_own+1,c95,(((zI g_States (qX s (g_States[i]!)).1 k).2)++[(((zI g_States (qX s (g_States[i]!)).1 k).1).length:Int)]),k+1,a88,zT+1,c89,(((zI g_States (qX s (g_States[i]!)).1 k).1)++[⟨(((qX s (g_States[i]!)).1)[k]!).qy,(((qX s (g_States[i]!)).1)[k]!).qE,(((qX s (g_States[i]!)).1)[k]!).qA⟩]),yh++[.slice ae68Alive (((((qX s (g_States[i]!)).1)[k]!).qy).length) ce68Alive,.slice ae68Bags (((((qX s (g_States[i]!)).1)[k]!).qE).length) ce68Bags,.slice ae68Around (((((qX s (g_States[i]!)).1)[k]!).qA).length) ce68Around],(jM++(Fe68Alive++Fe68Bags++Fe68Around)),P69,uE8,?_,?_,?_,rfl,(N.pick [2,0,1]),H.pick [3,4,5,6,7,8,9,10,11,12] [5,7,8,9,0,11,12,13,14,15]⟩
    · first | exact (YV (k:=k) ‹_›).2 | (refine Eq.trans ?_ (YW (k:=k) ‹_›).2;congr 2 <;> omega)
    · first | exact (YW (k:=k) ‹_›).1 | exact (YV (k:=k) ‹_›).1
    · omega
   refine qV (t_n (xZ (sps [.slice a_own n_own c_own,yI (firstIdx (fun zz=>decide (((zI g_States (qX s (g_States[i]!)).1 k).1)[zz]! =(((qX s (g_States[i]!)).1)[k]!))) ((zI g_States (qX s (g_States[i]!)).1 k).1).length)] (sw (zG H underlying22 ti2 [yI (firstIdx (fun zz=>decide (((zI g_States (qX s (g_States[i]!)).1 k).1)[zz]! =(((qX s (g_States[i]!)).1)[k]!))) ((zI g_States (qX s (g_States[i]!)).1 k).1).length)] fun b97 w98 H=>?_)))))
   refine sw (zQ H 2 rfl 0 rfl underlying22 ti2 rfl qj rfl rfl rfl (by simp [Value.oneCell',Value.cells]) qp qf fun a99 c100 w101 H=>?_)
   rw [snocI] at H
   refine sp (.slice a99 (n_own+1) c100) (zf (b_n (t_n (xZ (sw (zD k 1 rfl rfl qf (sp (yI (k+1)) (zf ?_))))))))
   refine xf (m' :=((((qX s (g_States[i]!)).1).length) - ((k+1):Int)).toNat) qf ⟨_,a99,n_own+1,c100,(((zI g_States (qX s (g_States[i]!)).1 k).2)++[firstIdx (fun zz=>decide (((zI g_States (qX s (g_States[i]!)).1 k).1)[zz]! =(((qX s (g_States[i]!)).1)[k]!))) ((zI g_States (qX s (g_States[i]!)).1 k).1).length]),k+1,yw,zT,yt,((zI g_States (qX s (g_States[i]!)).1 k).1),yh,jM,P69,uE8,?_,?_,?_,rfl,(N.pick [4,5,3]),H.pick [2,3,4,5,6,7,8,9,10,11] [4,6,7,8,9,10,11,12,13,14]⟩
   · first | exact (YV (k:=k) ‹_›).2 | (refine Eq.trans ?_ (YW (k:=k) ‹_›).2;congr 2 <;> omega)
   · first | exact (YW (k:=k) ‹_›).1 | exact (YV (k:=k) ‹_›).1
   · omega
  refine zx4 (zcc (oF rfl (oL rfl (H.cell 2 rfl rfl) (oN rfl (sp (.bool (decide ((zT:Int) > 300))) (zjn (cD rfl (fun h102=>?_) (fun h102=>?_))))))))
  ·skip
   refine zcr (sw (jF [yN,yN] [] (sw (zA H 4 [yN,yN] sizeOf59 fun w103 H=>sp (yI 3) (zjr (t_r (zr5 (retC2 H 4 rfl (yI 3) rfl isAgg59 sizeOf59 rfl rfl ⟨_,rfl,?_⟩))))))))
   replace H:=H.erases [6,5,4,3,2,1,0]
   dsimp only [vZ,List.eraseIdx] at H
   refine sps [.agg #[yN,yN],yI 3] (sw (zA H 0 [yN,yN] sizeOf59 fun w104 H=>sp (yI 3) (zjr ?_)))
   replace H:=H.addNil (α:=qI)
   replace H:=H.addNil (α:=yLI)
   refine retC2 H 0 rfl (yI 3) rfl isAgg59 sizeOf59 rfl rfl ⟨_,rfl,?_,H.base⟩
   obtain ⟨z1,z2⟩:=exG_of (ex_0 k0 (kr.trans (gr_many qf qf qf (k:=k) qf qf)))
   rw [z1,z2]
   exact ⟨none,0,[],none,0,[],rfl,(N.emp.emp.pick [0,1]),H.pick [] [1,0]⟩
  refine qV (t_n (xZ (oF rfl (oL rfl (H.cell 2 rfl rfl) (sp (.slice a_own n_own c_own) (sw (zG H underlying27 ti22 [.slice a_own n_own c_own] fun b105 w106 H=>?_)))))))
  obtain ⟨G110,N,hn111,H⟩:=H.vP 1 rfl N (H.jQ [3,4,0])
  refine sw (zQ H 2 rfl 0 rfl underlying27 ti22 rfl qj rfl rfl rfl (by simp [Value.oneCell',Value.cells]) qp qf fun a107 c108 w109 H=>?_)
  replace H:=H.yg 4 rfl 0 rfl
  replace N:Fresh w.heap.size [(jT++G110),jM,P_k]:=(N.pick [1,0,2,3]).join
  refine oF rfl (sw (zJ H 3 [.slice yw zT yt,.slice a107 (jS+1) c108] sizeOf27 fun w112 H=>zf (b_n (t_n (xZ (sp (yI i) (sw (zD i 1 rfl rfl qf (sp (yI (i+1)) (zf ?_))))))))))
  refine xf (m' :=(301 - (i+1))) qf ⟨_,i+1,yw,zT,yt,((zI g_States (qX s (g_States[i]!)).1 k).1),yh,jM,a107,jS+1,c108,(g_Next++[((zI g_States (qX s (g_States[i]!)).1 k).2)]),Vq++[.slice a_own n_own c_own],(jT++G110),uE4,?_,?_,?_,?_,?_,?_,rfl,(N.pick [1,0]),H.pick [2,3,4,5,6,7,8,9,10] [0,6,7,8,9,10,11]⟩
  · exact kr.trans (gr_go qf qf qf (k:=k) qf qf)
  · exact addSt_mem ka succ_ok k qf
  · omega
  · simp;omega
  · omega
  · exact ko.next qf qf
 refine zx4 (zcr (sw (zg [.slice Qq jX yD,.slice yO jS yM] isAgg59 sizeOf59 rfl (qF (H.cells 1 rfl) 0 2) (sw (zA H 3 [.slice Qq jX yD,.slice yO jS yM] sizeOf59 fun w113 H=>sp (yI 0) (zjr (retC2 H 3 rfl (yI 0) rfl isAgg59 sizeOf59 rfl rfl ⟨_,rfl,?_⟩)))))))
 replace H:=H.erases [5,4,3,1]
 dsimp only [vZ,List.eraseIdx] at H
 refine sps [.agg #[.slice Qq jX yD,.slice yO jS yM],yI 0] (sw (zA H 2 [.slice Qq jX yD,.slice yO jS yM] sizeOf59 fun w114 H=>sp (yI 0) (zjr ?_)))
 have H0:=H
 obtain ⟨G115,hg117,hn116,H⟩:=H.QA (α:=qI) 1 rfl 1 rfl qj
 replace N:Fresh w.heap.size [G115,jT]:=Fresh.ice N H0 1 hg117.1 hg117.2 (H0.jQ [0])
 clear H0
 obtain rfl:=H.isLen 0 rfl
 have H0:=H
 obtain ⟨G118,hg120,hn119,H⟩:=H.QA (α:=yLI) 0 rfl 1 rfl qj
 replace N:Fresh w.heap.size [G118,G115]:=Fresh.ice (N.pick [1,0]) H0 0 hg120.1 hg120.2 (H0.jQ [0])
 clear H0
 obtain rfl:=H.isLen 0 rfl
 refine retC2 H 2 rfl (yI 0) rfl isAgg59 sizeOf59 rfl rfl ⟨_,rfl,?_,H.base⟩
 obtain ⟨z1,z2⟩:=exG_of (ex_0 k0 (kr.trans (gr_end qf)))
 rw [z1,z2]
 exact ⟨Qq,yD,G115,yO,yM,G118,rfl,(N.pick [1,0]),H.pick [] [1,0]⟩
def revL_ren:Go.Shelf.Ren:=⟨fun | 35=>126 | n=>n,fun | 22=>27 | 23=>22 | 3=>3 | 4=>4 | 0=>0 | n=>n,fun | n=>n⟩
theorem revL:Go.Proofs.SlLaysE.n35 Tryz.prog revL_ren:={
  mixed:=by kernel_rfl
  f35:=⟨Tryz.f126.name,by decide,Tryz.func126.trans (congrArg some (by kernel_rfl))⟩
  t0:=Tryz.underlying0
  a0:=Tryz.isAgg0
  z0:=Tryz.sizeOf0
  v0:=Tryz.zeroValue0
  t3:=Tryz.underlying3
  a3:=Tryz.isAgg3
  z3:=Tryz.sizeOf3
  v3:=Tryz.zeroValue3
  t4:=Tryz.underlying4
  a4:=Tryz.isAgg4
  z4:=Tryz.sizeOf4
  v4:=Tryz.zeroValue4
  t22:=Tryz.underlying27
  a22:=Tryz.isAgg27
  z22:=Tryz.sizeOf27
  v22:=Tryz.zeroValue27
  a23:=Tryz.isAgg22
  z23:=Tryz.sizeOf22 }

theorem between_ok (w:World) (s:qG) (t:qI) (u:qI) {qC:yOA} {qZ:yLN} {qL:yOA} {xE:yLN} {qW:yOA} {xR:yLN} {xw:yOA} {zC:yLN} {qO:yOA} {xK:yLN} {bu ou:Nat} {yE:yOA} {Yx:yLN} {Q8:yOA} {FuBags:yLN} {jm:yOA} {Vd:yLN} (hs:ve w bs os (yS s qC qB qL qJ)) (xe:qM.rep w qZ [.slice qC s.qw.length qB] s.qw) (xJ:qM.rep w xE [.slice qL s.qx.length qJ] s.qx) (ht:ve w bt ot (yT t qW qU xw xm qO qN)) (zn:qM.rep w xR [.slice qW t.qy.length qU] t.qy) (zK:qM.rep w zC [.slice xw t.qE.length xm] t.qE) (xP:qM.rep w xK [.slice qO t.qA.length qN] t.qA) (hu:ve w bu ou (yT u yE yB Q8 Q5 jm jl)) (Vt:qM.rep w Yx [.slice yE u.qy.length yB] u.qy) (huBags:qM.rep w FuBags [.slice Q8 u.qE.length Q5] u.qE) (Xm:qM.rep w Vd [.slice jm u.qA.length jl] u.qA) (p0:ja s) (p1:zt s t):Calls Tryz.prog 124 #[pp bs os,pp bt ot,pp bu ou] w (Ret (fun v w' =>∃ (ra:yOA) (rc:Nat) (rF:yLN),v=.slice ra ((betw s t u).length) rc∧Fresh w.heap.size [rF]∧St w w' [] [sF true rF ra rc (betw s t u)]) w):=by
 refine en func124 ntmps124 ?_
 have H:=(((((((((((St.start w).arg Xm).arg huBags).arg Vt).VA hu).arg xP).arg zK).arg zn).VA ht).arg xJ).arg xe).VA hs
 have zY:=qK xe
 have je:=qK xJ
 have Qr:=qK zn
 have Xj:=qK zK
 have jR:=qK xP
 have nhuAlive:=qK Vt
 have nhuBags:=qK huBags
 have nhuAround:=qK Xm
 clear hs xe xJ ht zn zK xP hu Vt huBags Xm
 have N:=Fresh.nil w.heap.size
 have cc:=fun q (hq:q < (xB s t).1.length)=>(cho_ok p0 p1 hq).1
 have ci:=fun q (hq:q < (xB s t).1.length)=>(cho_ok p0 p1 hq).2
 have ln:=cho_len s t
 refine zcr (sp yN (zjc (sps [pp bs os,pp bt ot] ?_)))
 have sz4:=H.base.size
 refine sw (oc (l03Choices_ok _ s t (qF (H.get 0 rfl) 0 3) (H.get 1 rfl).1 (H.get 2 rfl).1 (qF (H.get 3 rfl) 0 3) (H.get 4 rfl).1 (H.get 5 rfl).1 (H.get 6 rfl).1 qg qg) ?_)
 rintro _ w2 ⟨ra1a,rn1a,rc1a,rx1a,rF1a,rfl,M,K⟩ _
 replace N:=N.merge sz4 qm M
 replace H:=H.merge K M
 obtain rfl:=H.zi (α:=yLI) 0 rfl 0 rfl qj
 refine sps [.tuple #[.slice ra1a (((xB s t).1).length) rc1a,yI ((xB s t).2)],.slice ra1a (((xB s t).1).length) rc1a,yI ((xB s t).2),.slice ra1a (((xB s t).1).length) rc1a,yI ((xB s t).2)] (zjcc (sp (yI 0) (zjn (qY ?_))))
 have H0:=H
 obtain ⟨G7,hg9,hn8,H⟩:=H.QA (α:=yLI) 0 rfl 0 rfl qj
 replace N:Fresh w.heap.size [G7]:=Fresh.ice N H0 0 hg9.1 hg9.2 (H0.jQ [])
 clear H0
 obtain ⟨xs10,B11,P12,N,H⟩:=H.pool (α:=yLI) 0 rfl N
 refine zu (fun m' ρ w13=>∃ (xU:Env) (i:Nat) (P_i:yLN),ρ=upd (upd (upd (upd (upd xU 0 (pp bs os)) 1 (pp bt ot)) 2 (pp bu ou)) 7 (.slice ra1a (((xB s t).1).length) rc1a)) 9 (yI i)∧((i:Int)≤(((xB s t).1).length))∧(∀ j,j < i→¬ xN s t ((xB s t).1[j]!)=(u,0))∧m' =((((xB s t).1).length) - (i:Int)).toNat∧Fresh w.heap.size [P_i]∧St w w13 [] [zl true P_i (xs10.drop (i * 1)) (((xB s t).1).drop i),cellsF B11 (.slice ra1a (((xB s t).1).length) rc1a) xs10,sF true G7 ra1a rc1a ((xB s t).1),atF bs os (yS s qC qB qL qJ),sF false qZ qC qB s.qw,sF false xE qL qJ s.qx,atF bt ot (yT t qW qU xw xm qO qN),sF false xR qW qU t.qy,sF false zC xw xm t.qE,sF false xK qO qN t.qA,atF bu ou (yT u yE yB Q8 Q5 jm jl),sF false Yx yE yB u.qy,sF false FuBags Q8 Q5 u.qE,sF false Vd jm jl u.qA]) (((((xB s t).1).length) - (0:Int)).toNat) ⟨_,0,P12,uE5,qf,(by exact fun j hj=>by omega),rfl,N,H.pick [] [0,1,2,4,5,6,7,8,9,10,11,12,13,14]⟩ ?_
 clear H N
 rintro m' ρ w14 ⟨xU,i,P_i,rfl,i0,b1,rfl,N,H⟩
 refine zcc (sps [yI i,.slice ra1a (((xB s t).1).length) rc1a] (oN rfl (sp (.bool (decide ((i:Int) < (((xB s t).1).length)))) (zjn (cD rfl (fun h15=>?_) (fun h15=>?_))))))
 ·skip
  refine qV (t_n (xQ (qY (zcr (sps [pp bs os,pp bt ot,.slice ra1a (((xB s t).1).length) rc1a,yI i] ?_)))))
  obtain ⟨b16,o17,rfl⟩:=H.addr 2 rfl qf
  obtain ⟨ae19,ce19,Fe19,P20,N,H⟩:=H.drainList 1 rfl 0 rfl N i i qf qf qf
  refine oI rfl rfl (oL rfl (H.xW 1 rfl 0 rfl) ?_)
  have k3:=cc i qf
  have sz24:=H.base.size
  have lt25:=H.ltN (L:=[Fe19,P20]) [0,2]
  refine sw (oc (l03Step_ok _ s t (((xB s t).1)[i]!) (qF (H.get 6 rfl) 0 3) (H.get 7 rfl).1 (H.get 8 rfl).1 (qF (H.get 9 rfl) 0 3) (H.get 10 rfl).1 (H.get 11 rfl).1 (H.get 12 rfl).1 (H.get 0 rfl).1 qg qg qg) ?_)
  rintro _ w22 ⟨ra21aAlive,rn21aAlive,rc21aAlive,ra21aBags,rn21aBags,rc21aBags,rx21aBags,rF21aBags,ra21aAround,rn21aAround,rc21aAround,rfl,M,K⟩ _
  replace N:=N.merge sz24 lt25 M
  replace H:=H.merge K M
  obtain rfl:=H.rowNB 0 rfl
  obtain rfl:=H.zi (α:=yLI) 1 rfl 0 rfl qj
  obtain rfl:=H.V9 2 rfl
  refine sps [.tuple #[.agg #[.slice ra21aAlive ((((xN s t (((xB s t).1)[i]!)).1).qy).length) rc21aAlive,.slice ra21aBags ((((xN s t (((xB s t).1)[i]!)).1).qE).length) rc21aBags,.slice ra21aAround ((((xN s t (((xB s t).1)[i]!)).1).qA).length) rc21aAround],yI ((xN s t (((xB s t).1)[i]!)).2)],.agg #[.slice ra21aAlive ((((xN s t (((xB s t).1)[i]!)).1).qy).length) rc21aAlive,.slice ra21aBags ((((xN s t (((xB s t).1)[i]!)).1).qE).length) rc21aBags,.slice ra21aAround ((((xN s t (((xB s t).1)[i]!)).1).qA).length) rc21aAround],yI ((xN s t (((xB s t).1)[i]!)).2)] ?_
  refine sw (xY H ti38 [yN,yN,yN] fun b29 w30 H=>sw (zA H 0 [.slice ra21aAlive ((((xN s t (((xB s t).1)[i]!)).1).qy).length) rc21aAlive,.slice ra21aBags ((((xN s t (((xB s t).1)[i]!)).1).qE).length) rc21aBags,.slice ra21aAround ((((xN s t (((xB s t).1)[i]!)).1).qA).length) rc21aAround] sizeOf38 fun w31 H=>sp (yI ((xN s t (((xB s t).1)[i]!)).2)) (zjc (sps [yI ((xN s t (((xB s t).1)[i]!)).2),.bool (((xN s t (((xB s t).1)[i]!)).2:Int) == 0),.bool (((xN s t (((xB s t).1)[i]!)).2:Int) == 0)] ?_))))
  cases h32:(((xN s t (((xB s t).1)[i]!)).2:Int) == 0)
  ·skip
   replace h32:=ne_of_beq_false h32
   refine zo [37,38] (sp (.bool false) (zjn (xI false rfl (fun h=>absurd h qj) (fun _=>qV (b_n (t_n (xZ (sp (yI i) (sw (zD i 1 rfl rfl qf (sp (yI (i+1)) (zf (xf (m' :=((((xB s t).1).length) - ((i+1):Int)).toNat) qf ⟨_,i+1,P20,uE5,?_,?_,rfl,(N.pick [2]),H.pick [] [3,5,6,7,8,9,10,11,12,13,14,15,16,17]⟩)))))))))))))
   · omega
   · first | exact betw_step b1 (.inl ql) | exact betw_step b1 (.inr ql)
  replace h32:=eq_of_beq h32
  refine qP 36 rfl rfl (sp (pp bu ou) (qP 36 rfl rfl ?_))
  obtain ⟨G33,hn34,h35⟩:=H.rowIsB 1 rfl
  obtain ⟨G36,hn37,h38⟩:=H.Jn (α:=yLI) 2 rfl 0 rfl qj
  obtain ⟨G39,hn40,h41⟩:=H.rowIsI 3 rfl
  refine sw (oq (l02Same_ok _ ((xN s t (((xB s t).1)[i]!)).1) u (qF (H.cells 0 rfl) 0 3) h35 h38 h41 (qF (H.get 14 rfl) 0 3) (H.get 15 rfl).1 (H.get 16 rfl).1 (H.get 17 rfl).1) H fun w43 H=>sp (.bool (decide (((xN s t (((xB s t).1)[i]!)).1)=u))) (zjn (cD rfl (fun h45=>?_) (fun h45=>?_))))
  ·skip
   refine zcr (sps [.slice (aa b16 o17) (((xB s t).1).length) rc1a,yI i] (oI rfl rfl (oL rfl (H.xW 2 rfl 0 rfl) (sp (.slice ae19 ((((xB s t).1)[i]!).length) ce19) (zjr (zr5 (ret1 (.slice ae19 ((((xB s t).1)[i]!).length) ce19) rfl rfl ⟨_,rfl,?_,H.base⟩)))))))
   rw [betw_at b1 qf (Prod.ext ql ql)]
   exact ⟨ae19,ce19,Fe19,rfl,(N.pick [1]),H.pick [] [1]⟩
  refine qV (b_n (t_n (xZ (sp (yI i) (sw (zD i 1 rfl rfl qf (sp (yI (i+1)) (zf (xf (m' :=((((xB s t).1).length) - ((i+1):Int)).toNat) qf ⟨_,i+1,P20,uE5,?_,?_,rfl,(N.pick [2]),H.pick [] [3,5,6,7,8,9,10,11,12,13,14,15,16,17]⟩)))))))))
  · omega
  · first | exact betw_step b1 (.inl ql) | exact betw_step b1 (.inr ql)
 refine zx4 (zcr (sw (vI H underlying22 ti2 fun b46 w47 H=>sp (.slice (aa b46 0) 0 0) (zjr ?_))))
 replace H:=H.boxRowI 0 [] 0
 obtain ⟨G48,N,hn49,H⟩:=H.vP 0 rfl N (H.jQ [0])
 refine ret1 (.slice (aa b46 0) 0 0) rfl rfl ⟨_,rfl,?_,H.base⟩
 rw [betw_none (fun j hj=>b1 j qf)]
 exact ⟨(aa b46 0),0,G48,rfl,(N.pick [0]),H.pick [] [0]⟩

theorem way_ok (w:World) (s:qG) (g:GraphD) (fr:yLI) (z:Int) {qC:yOA} {qZ:yLN} {qL:yOA} {xE:yLN} {bg og:Nat} {X6:yOA} {FgStates:yLN} {agNext:yOA} {FgNext:yLN} {afr:yOA} {cfr:Nat} {Ffr:yLN} (hs:ve w bs os (yS s qC qB qL qJ)) (xe:qM.rep w qZ [.slice qC s.qw.length qB] s.qw) (xJ:qM.rep w xE [.slice qL s.qx.length qJ] s.qx) (hg:ve w bg og [.slice X6 g.qR.length Q7,.slice agNext g.fNext.length cgNext]) (hgStates:qM.rep w FgStates [.slice X6 g.qR.length Q7] g.qR) (hgNext:qM.rep w FgNext [.slice agNext g.fNext.length cgNext] g.fNext) (hfr:qM.rep w Ffr [.slice afr fr.length cfr] fr) (p0:ja s) (p1:GrOk g.qR g.fNext) (p2:GrNx s g.qR g.fNext) (p3:FromOk g.qR g.fNext fr) (p4:0≤(z:Int)∧(z:Int).toNat < g.qR.length) (p5:∀ u∈g.qR,zt s u) (p6:g.qR.length≤300):Calls Tryz.prog 88 #[pp bs os,pp bg og,.slice afr fr.length cfr,yI z] w (Ret (fun v w' =>∃ (ra:yOA) (rn:Nat) (rc:Nat) (rx:List Value) (rF:yLN),v=.slice ra rn rc∧Fresh w.heap.size [rF]∧St w w' [rr ra rn rc 22 1 rx] [zl true rF rx (wayL s g.qR g.fNext (z:Int).toNat)]) w):=by
 refine en func88 ntmps88 ?_
 have H:=(((((((St.start w).arg hfr).arg hgNext).arg hgStates).VA hg).arg xJ).arg xe).VA hs
 have zY:=qK xe
 have je:=qK xJ
 have nhgStates:=qK hgStates
 have nhgNext:=qK hgNext
 have nhfr:=qK hfr
 clear hs xe xJ hg hgStates hgNext hfr
 have N:=Fresh.nil w.heap.size
 obtain ⟨p7,p8⟩:=p4
 have fl:=p3.len
 refine zcr (sp yN (zjc (sp (yI z) (sw (zG H underlying22 ti2 [yI z] fun b1 w2 H=>sp (.slice (aa b1 0) 1 1) (zjn (xQ (qY ?_))))))))
 replace H:=H.boxRowI 0 [z] 1
 refine zu (fun m' ρ w3=>∃ (xU:Env) (at_:Int) (a_back:yOA) (n_back:Nat) (c_back:Nat) (back:yLI) (q:Nat),ρ=upd (upd (upd (upd (upd xU 0 (pp bs os)) 1 (pp bg og)) 2 (.slice afr fr.length cfr)) 3 (yI at_)) 9 (.slice a_back n_back c_back)∧at_=(((itF g.fNext z.toNat q):Nat):Int)∧back=(backI g.fNext z.toNat q)∧(∀ x,x < q→(itF g.fNext z.toNat x)≠0)∧m' =(itF g.fNext z.toNat q)∧Fresh w.heap.size []∧St w w3 [rr a_back n_back c_back 2 1 (back.map (Value.int .i64))] [atF bs os (yS s qC qB qL qJ),sF false qZ qC qB s.qw,sF false xE qL qJ s.qx,atF bg og [.slice X6 g.qR.length Q7,.slice agNext g.fNext.length cgNext],sF false FgStates X6 Q7 g.qR,sF false FgNext agNext cgNext g.fNext,sF false Ffr afr cfr fr]) ((itF g.fNext z.toNat 0)) ⟨_,z,(aa b1 0),1,1,[z],0,uE5,(by exact (Int.toNat_of_nonneg p7).symm),(by exact backI_zero g.fNext p7),(by exact fun x hx=>by omega),rfl,N,H⟩ ?_
 clear H N
 rintro m' ρ w4 ⟨xU,at_,a_back,n_back,c_back,back,q,rfl,rfl,rfl,kz,rfl,N,H⟩
 have hn_back:=H.V9 0 rfl
 have ki:=it_in p1 p8 kz
 have bl:=backI_len g.fNext z.toNat q
 refine zcc (sps [.slice afr fr.length cfr,yI (((itF g.fNext z.toNat q):Nat):Int)] ?_)
 obtain ⟨b5,o6,rfl⟩:=H.addr 6 rfl qf
 refine oI rfl rfl (oL rfl (H.jG 6 rfl (((itF g.fNext z.toNat q):Nat):Int) qf qf) (sp (.bool (decide ((fr[(((itF g.fNext z.toNat q):Nat):Int).toNat]! :Int)≥0))) (zjn (cD rfl (fun h8=>?_) (fun h8=>?_)))))
 ·skip
  obtain ⟨e1,e2⟩:=it_step p3 (q:=q) ki.1 ql
  refine qV (t_n (qY (zcr (sps [.slice (aa b5 o6) fr.length cfr,yI (((itF g.fNext z.toNat q):Nat):Int)] (oI rfl rfl (oL rfl (H.jG 6 rfl (((itF g.fNext z.toNat q):Nat):Int) qf qf) (sp (yI (fr[(((itF g.fNext z.toNat q):Nat):Int).toNat]!)) (zjn (xZ (sps [.slice a_back n_back c_back,yI (fr[(((itF g.fNext z.toNat q):Nat):Int).toNat]!)] (sw (zG H underlying22 ti2 [yI (fr[(((itF g.fNext z.toNat q):Nat):Int).toNat]!)] fun b9 w10 H=>?_))))))))))))
  refine sw (zQ H 1 rfl 0 rfl underlying22 ti2 rfl qj rfl rfl rfl (by simp [Value.oneCell',Value.cells]) qp qf fun a11 c12 w13 H=>?_)
  rw [snocI] at H
  refine sp (.slice a11 (n_back+1) c12) (zf (b_n (xf (m' :=(itF g.fNext z.toNat (q+1))) (by exact (frm_ok p1 (j:=(itF g.fNext z.toNat q)) qf ki.1).2) ⟨_,fr[(((itF g.fNext z.toNat q):Nat):Int).toNat]!,a11,n_back+1,c12,((backI g.fNext z.toNat q)++[fr[(((itF g.fNext z.toNat q):Nat):Int).toNat]!]),q+1,uE5,?_,?_,?_,rfl,N,H.pick [1] [0,1,2,3,4,5,6]⟩)))
  · exact e1
  · exact backI_succ g.fNext z.toNat q e1
  · exact kz_step kz e2
 have ks:=way_steps p3 ki.1 ql kz
 refine zx4 (zcr (sw (vI H underlying27 ti22 fun b14 w15 H=>sp (.slice (aa b14 0) 0 0) (zjcc (sp (.slice a_back n_back c_back) (oN rfl (sw (o_sub n_back 1 rfl rfl qf (sp (yI (n_back - 1)) (zjn (qY ?_)))))))))))
 replace H:=H.boxRow 0 rfl 1 0 rfl qj
 replace H:=H.vG (α:=yLI)
 refine zu (fun m' ρ w16=>∃ (xU:Env) (vk:yOA) (zy:Nat) (zU:Nat) (out:yLL) (QO:List Value) (jW:yLN) (i:Int) (x:Nat),ρ=upd (upd (upd (upd (upd xU 0 (pp bs os)) 1 (pp bg og)) 9 (.slice a_back n_back c_back)) 10 (.slice vk zy zU)) 11 (yI i)∧out=(wayTo s g.qR g.fNext z.toNat q x)∧i=((q - x:Nat):Int)∧(x≤q)∧m' =(q - x)∧Fresh w.heap.size [jW]∧St w w16 [rr vk zy zU 22 1 QO,rr a_back n_back c_back 2 1 ((backI g.fNext z.toNat q).map (Value.int .i64))] [zl true jW QO out,atF bs os (yS s qC qB qL qJ),sF false qZ qC qB s.qw,sF false xE qL qJ s.qx,atF bg og [.slice X6 g.qR.length Q7,.slice agNext g.fNext.length cgNext],sF false FgStates X6 Q7 g.qR,sF false FgNext agNext cgNext g.fNext]) ((q - 0)) ⟨_,(aa b14 0),0,0,([]:yLL),[],[],n_back - 1,0,uE5,(by rfl),qf,qf,rfl,N.emp,H.pick [0,1] [0,1,2,3,4,5,6]⟩ ?_
 clear H N
 rintro m' ρ w17 ⟨xU,vk,zy,zU,out,QO,jW,i,x,rfl,rfl,rfl,x0,rfl,N,H⟩
 have hn_out:=H.zi (α:=yLI) 0 rfl 0 rfl qj
 have wl:=wayTo_len (s:=s) (S:=g.qR) (R:=g.fNext) (j:=z.toNat) (m:=q) x
 refine zcc (sps [yI ((q - x:Nat):Int),.bool (decide ((((q - x:Nat):Int):Int) > 0))] (zjn (cD rfl (fun h18=>?_) (fun h18=>?_))))
 ·skip
  have xi:(((q - x:Nat):Int)).toNat=q - x:=rfl
  have xj:(((q - x:Nat):Int) - 1).toNat=q - x - 1:=by omega
  have y1:(backI g.fNext z.toNat q)[(((q - x:Nat):Int)).toNat]! =(((itF g.fNext z.toNat (q - x)):Nat):Int):=backI_at g.fNext z.toNat (q:=q) (i:=q - x) qf
  have y2:(backI g.fNext z.toNat q)[(((q - x:Nat):Int) - 1).toNat]! =(((itF g.fNext z.toNat (q - x - 1)):Nat):Int):=by rw [xj];exact backI_at g.fNext z.toNat (q:=q) (i:=q - x - 1) qf
  have y3:=it_in p1 p8 (q:=q - x) (fun y hy=>kz y qf)
  have y4:=it_in p1 p8 (q:=q - x - 1) (fun y hy=>kz y qf)
  have bl:=backI_len g.fNext z.toNat q
  refine qV (t_n (xQ (qY ?_)))
  refine QE rfl H [1] fun H=>?_
  have S:=H.yG [1] [0,1,2,3,4,5,6]
  refine rtp 0 (.slice vk zy zU) S ?_
  refine rtp 1 (pp bs os) S ?_
  refine rtp 2 (pp bg og) S ?_
  refine rtp 3 (pp bg og) S ?_
  refine tF 4 rfl rfl S ?_
  refine tL 5 rfl rfl (fun _ h=>h.xW 4 rfl 0 rfl) S ?_
  refine rtp 6 (.slice a_back n_back c_back) S ?_
  refine rtp 7 (yI ((q - x:Nat):Int)) S ?_
  obtain ⟨b20,rfl⟩:=H.QP 1 rfl qf
  have S:=H.yG [1] [0,1,2,3,4,5,6]
  refine tI 8 rfl rfl rfl S ?_
  refine tL 9 rfl rfl (fun _ h=>h.rowInt 0 rfl (iv:=((q - x:Nat):Int)) (i:=(((q - x:Nat):Int).toNat)) qf qf) S ?_
  obtain ⟨b21,o22,rfl⟩:=H.addr 5 rfl qf
  obtain ⟨ae24Alive,ce24Alive,Fe24Alive,ae24Bags,ce24Bags,Fe24Bags,ae24Around,ce24Around,Fe24Around,H⟩:=H.Jh 5 rfl ((backI g.fNext z.toNat q)[((q - x:Nat):Int).toNat]!) (((backI g.fNext z.toNat q)[((q - x:Nat):Int).toNat]!).toNat) qf qf qf
  have S:=H.yG [1] [4,5,6,7,8,9,10]
  refine tI 10 rfl rfl rfl S ?_
  refine rtp 11 (pp bg og) S ?_
  refine rtp 12 (pp bg og) S ?_
  refine tF 13 rfl rfl S ?_
  refine tL 14 rfl rfl (fun _ h=>h.xW 4 rfl 0 rfl) S ?_
  refine rtp 15 (.slice (aa b20 0) n_back c_back) S ?_
  refine rtp 16 (yI ((q - x:Nat):Int)) S ?_
  refine rt 17 (yI (((q - x:Nat):Int) - 1)) (y_sub ((q - x:Nat):Int) 1 rfl rfl qf) S ?_
  refine tI 18 rfl rfl rfl S ?_
  refine tL 19 rfl rfl (fun _ h=>h.rowInt 0 rfl (iv:=((q - x:Nat):Int) - 1) (i:=((((q - x:Nat):Int) - 1).toNat)) qf qf) S ?_
  obtain ⟨ae25Alive,ce25Alive,Fe25Alive,ae25Bags,ce25Bags,Fe25Bags,ae25Around,ce25Around,Fe25Around,H⟩:=H.Jh 9 rfl ((backI g.fNext z.toNat q)[(((q - x:Nat):Int) - 1).toNat]!) (((backI g.fNext z.toNat q)[(((q - x:Nat):Int) - 1).toNat]!).toNat) qf qf qf
  refine tI 20 rfl rfl rfl (H.pick [1] [8,9,10,11,12,13,14]) ?_
  refine ro 21 rfl ?_
  have ks1:=p5 (g.qR[((backI g.fNext z.toNat q)[((q - x:Nat):Int).toNat]!).toNat]!) (mem_at (l:=g.qR) (k:=((backI g.fNext z.toNat q)[((q - x:Nat):Int).toNat]!).toNat) qf rfl)
  have sz29:=H.base.size
  have lt30:=H.ltN (L:=[jW]) [8]
  refine oc (between_ok _ s (g.qR[((backI g.fNext z.toNat q)[((q - x:Nat):Int).toNat]!).toNat]!) (g.qR[((backI g.fNext z.toNat q)[(((q - x:Nat):Int) - 1).toNat]!).toNat]!) (qF (H.get 9 rfl) 0 3) (H.get 10 rfl).1 (H.get 11 rfl).1 (qF (H.get 7 rfl) 0 3) (H.get 4 rfl).1 (H.get 5 rfl).1 (H.get 6 rfl).1 (qF (H.get 3 rfl) 0 3) (H.get 0 rfl).1 (H.get 1 rfl).1 (H.get 2 rfl).1 qg qg) ?_
  rintro _ w27 ⟨ra26,rc26,rF26,rfl,M,K⟩ _
  replace N:=N.merge sz29 lt30 M
  replace H:=H.merge K M
  refine ⟨H.pick [1] [9,10,11,12,13,14,15],(ro 22 rfl (zG H underlying27 ti22 [.slice ra26 ((betw s (g.qR[((backI g.fNext z.toNat q)[((q - x:Nat):Int).toNat]!).toNat]!) (g.qR[((backI g.fNext z.toNat q)[(((q - x:Nat):Int) - 1).toNat]!).toNat]!)).length) rc26] fun b31 w32 H=>⟨H.pick [2] [9,10,11,12,13,14,15],(ro 23 rfl (zQ H 1 rfl 0 rfl underlying27 ti22 rfl qj rfl rfl rfl (by simp [Value.oneCell',Value.cells]) qp qf fun a33 c34 w35 H=>?_))⟩))⟩
  replace H:=H.yg 9 rfl 0 rfl
  replace N:Fresh w.heap.size [(jW++rF26)]:=(N.pick [1,0]).join
  refine ⟨H.pick [2] [10,11,12,13,14,15,16],(rtp 24 (.slice a33 (zy+1) c34) (H.pick [2] [10,11,12,13,14,15,16]) ?_)⟩
  refine xO qh (b_n (t_n (xZ (sp (yI ((q - x:Nat):Int)) (sw (o_sub ((q - x:Nat):Int) 1 rfl rfl qf (sp (yI (((q - x:Nat):Int) - 1)) (zf ?_))))))))
  refine xf (m' :=(q - (x+1))) qf ⟨_,a33,zy+1,c34,((wayTo s g.qR g.fNext z.toNat q x)++[(betw s (g.qR[((backI g.fNext z.toNat q)[((q - x:Nat):Int).toNat]!).toNat]!) (g.qR[((backI g.fNext z.toNat q)[(((q - x:Nat):Int) - 1).toNat]!).toNat]!))]),QO++[.slice ra26 ((betw s (g.qR[((backI g.fNext z.toNat q)[((q - x:Nat):Int).toNat]!).toNat]!) (g.qR[((backI g.fNext z.toNat q)[(((q - x:Nat):Int) - 1).toNat]!).toNat]!)).length) rc26],(jW++rF26),((q - x:Nat):Int) - 1,x+1,uE5,?_,?_,?_,rfl,N,H.pick [1,2] [0,11,12,13,14,15,16]⟩
  · exact way_step (by rw [y1];rfl) (by rw [y2];rfl)
  · omega
  · omega
 refine zx4 (zcr (sps [.slice vk zy zU,.slice vk zy zU] (zjr (ret1 (.slice vk zy zU) rfl rfl ⟨_,rfl,?_,H.base⟩))))
 rw [way_end ks (x:=x) qf]
 exact ⟨vk,zy,zU,QO,jW,rfl,N,H.pick [0] [0]⟩

theorem path_ok (w:World) (s:qG) (g:GraphD) (z:Int) {qC:yOA} {qZ:yLN} {qL:yOA} {xE:yLN} {X6:yOA} {FgStates:yLN} {agNext:yOA} {FgNext:yLN} (xe:qM.rep w qZ [.slice qC s.qw.length qB] s.qw) (xJ:qM.rep w xE [.slice qL s.qx.length qJ] s.qx) (hgStates:qM.rep w FgStates [.slice X6 g.qR.length Q7] g.qR) (hgNext:qM.rep w FgNext [.slice agNext g.fNext.length cgNext] g.fNext) (p0:ja s) (p1:GrOk g.qR g.fNext) (p2:GrNx s g.qR g.fNext) (p3:g.fNext.length=g.qR.length) (p4:0≤(z:Int)∧(z:Int).toNat < g.qR.length) (p5:∀ u∈g.qR,zt s u) (p6:g.qR.length≤300):Calls Tryz.prog 89 #[.agg #[yI s.xC,.slice qC s.qw.length qB,.slice qL s.qx.length qJ],.agg #[.slice X6 g.qR.length Q7,.slice agNext g.fNext.length cgNext],yI z] w (Ret (fun v w' =>∃ (ra0:yOA) (rc0:Nat) (rF0:yLN),v=.tuple #[.slice ra0 ((wayL s g.qR g.fNext (z:Int).toNat).length) rc0,yI 0]∧Fresh w.heap.size [rF0]∧St w w' [] [sF true rF0 ra0 rc0 (wayL s g.qR g.fNext (z:Int).toNat)]) w):=by
 refine en func89 ntmps89 ?_
 have H:=((((St.start w).arg hgNext).arg hgStates).arg xJ).arg xe
 have zY:=qK xe
 have je:=qK xJ
 have nhgStates:=qK hgStates
 have nhgNext:=qK hgNext
 clear xe xJ hgStates hgNext
 have N:=Fresh.nil w.heap.size
 obtain ⟨p7,p8⟩:=p4
 refine zcr (sw (vF H (yS s qC qB qL qJ) fun b1 w2 H=>sw (vF H [.slice X6 g.qR.length Q7,.slice agNext g.fNext.length cgNext] fun b3 w4 H=>sps [yN,yI 0] (zjc (oF rfl (oL rfl (H.cell 0 rfl rfl) (oN rfl (sw (Vh H underlying22 ti2 g.qR.length rfl rfl qf qf qf fun b5 w6 H=>sp (.slice (aa b5 0) g.qR.length g.qR.length) (zjcc (oF rfl (oL rfl (H.cell 1 rfl rfl) (oN rfl (sw (o_sub g.fNext.length 1 rfl rfl qf ?_)))))))))))))))
 refine sp (yI (g.fNext.length - 1)) (zjn (qY ?_))
 refine zu (fun m' ρ w7=>∃ (xU:Env) (i:Int) (from_:yLI),ρ=upd (upd (upd (upd (upd xU 2 (yI z)) 3 (pp b1 0)) 4 (pp b3 0)) 8 (.slice (aa b5 0) g.qR.length g.qR.length)) 9 (yI i)∧(FGe g.fNext from_ (i+1).toNat)∧(from_.length=g.qR.length)∧(-1≤i∧i < g.fNext.length)∧m' =((i:Int)+1).toNat∧Fresh w.heap.size []∧St w w7 [rr (aa b5 0) g.qR.length g.qR.length 2 1 (from_.map (Value.int .i64)),.box b3 [.slice X6 g.qR.length Q7,.slice agNext g.fNext.length cgNext] 59,.box b1 (yS s qC qB qL qJ) 36] [sF false qZ qC qB s.qw,sF false xE qL qJ s.qx,sF false FgStates X6 Q7 g.qR,sF false FgNext agNext cgNext g.fNext]) ((((g.fNext.length - 1):Int)+1).toNat) ⟨_,g.fNext.length - 1,(List.replicate g.qR.length (0:Int)),uE5,(by exact FGe.start qf),qm,qf,rfl,N,H⟩ ?_
 clear H N
 rintro m' ρ w8 ⟨xU,i,from_,rfl,f1,f2,f3,rfl,N,H⟩
 have hn_from:=H.V9 0 rfl
 refine zcc (sps [yI i,.bool (decide ((i:Int)≥0))] (zjn (cD rfl (fun h9=>?_) (fun h9=>?_))))
 ·skip
  refine qV (t_n (xQ (qY (zcr (oF rfl (oL rfl (H.cell 1 rfl rfl) (sp (yI i) ?_)))))))
  obtain ⟨b10,o11,rfl⟩:=H.addr 3 rfl qf
  obtain ⟨ae13,ce13,Fe13,H⟩:=H.vM 3 rfl i i.toNat qf qf qf
  refine oI rfl rfl (oL rfl (H.xW 1 rfl 0 rfl) (oN rfl (sp (yI 0) (zjn (qY ?_)))))
  refine zu (fun m' ρ w14=>∃ (xU:Env) (k:Nat) (from__1:yLI),ρ=upd (upd (upd (upd (upd (upd (upd (upd xU 2 (yI z)) 3 (pp b1 0)) 4 (pp b3 0)) 8 (.slice (aa b5 0) g.qR.length g.qR.length)) 9 (yI i)) 36 (.slice ae13 ((g.fNext[i.toNat]!).length) ce13)) 37 (yI ((g.fNext[i.toNat]!).length))) 38 (yI k)∧((k:Int)≤((g.fNext[i.toNat]!).length))∧(FMid g.fNext from__1 i.toNat k)∧(from__1.length=g.qR.length)∧m' =(((g.fNext[i.toNat]!).length) - (k:Int)).toNat∧Fresh w.heap.size []∧St w w14 [rr (aa b5 0) g.qR.length g.qR.length 2 1 (from__1.map (Value.int .i64)),.box b3 [.slice X6 g.qR.length Q7,.slice (aa b10 o11) g.fNext.length cgNext] 59,.box b1 (yS s qC qB qL qJ) 36] [sF false Fe13 ae13 ce13 (g.fNext[i.toNat]!),atF b10 (o11+(i:Int).toNat * 1) [.slice ae13 ((g.fNext[i.toNat]!).length) ce13],sF false qZ qC qB s.qw,sF false xE qL qJ s.qx,sF false FgStates X6 Q7 g.qR,sF false FgNext (aa b10 o11) cgNext g.fNext]) ((((g.fNext[i.toNat]!).length) - (0:Int)).toNat) ⟨_,0,from_,uE8,qf,(by exact FMid.start (by rw [show i.toNat+1=(i+1).toNat by omega];exact f1)),qf,rfl,N,H⟩ ?_
  clear H N
  rintro m' ρ w15 ⟨xU,k,from__1,rfl,i0,f4,f5,rfl,N,H⟩
  have hn_from:=H.V9 0 rfl
  refine zcr (sp (.bool (decide ((k:Int) < ((g.fNext[i.toNat]!).length)))) (zjn (xQ (cD rfl (fun h16=>?_) (fun h16=>?_)))))
  ·skip
   have rw1:=p1.rows i.toNat qf k qf
   have rl:=p1.lens i.toNat qf
   refine qV (t_n (xQ (qY (zcr ?_))))
   obtain ⟨b17,o18,rfl⟩:=H.addr 0 rfl qf
   refine oI rfl rfl (oL rfl (H.jG 0 rfl k qf qf) (sp (yI ((g.fNext[i.toNat]!)[k]!)) (zjn (xZ (sps [.slice (aa b5 0) g.qR.length g.qR.length,yI ((g.fNext[i.toNat]!)[k]!),yI i] (oI rfl rfl (sw (o_storeInt H 0 rfl i sizeOf2 rfl rfl (i:=(((g.fNext[i.toNat]!)[k]!).toNat)) qf qf fun w20 H=>zf (b_n (t_n (xZ (sw (zD k 1 rfl rfl qf (sp (yI (k+1)) (zf (xf (m' :=(((g.fNext[i.toNat]!).length) - ((k+1):Int)).toNat) qf ⟨_,k+1,(from__1.set (((g.fNext[i.toNat]!)[k]!).toNat) i),uE8,?_,?_,?_,rfl,N,H⟩))))))))))))))))
   · omega
   · have h:=FMid.step f4 (c:=_) rfl;rwa [show ((i.toNat:Nat):Int)=i by omega] at h
   · simp;omega
  refine c_exit (t_x (t_x (b_x (b_n (t_n (xZ (sp (yI i) (sw (o_sub i 1 rfl rfl qf (sp (yI (i - 1)) (zf (xf (m' :=(((i - 1):Int)+1).toNat) qf ⟨_,i - 1,from__1,uE5,?_,?_,?_,rfl,N,H.pick [0,1,2] [2,3,4,5]⟩))))))))))))
  · rw [show (i - 1+1).toNat=i.toNat by omega];exact f4.fin qf qf
  · omega
  · omega
 refine zx4 (zcr (sw (vI H underlying27 ti22 fun b21 w22 H=>sp (.slice (aa b21 0) 0 0) (zjn (xQ (qY ?_))))))
 replace H:=H.boxRow 0 rfl 1 0 rfl qj
 replace H:=H.vG (α:=yLI)
 refine zu (fun m' ρ w23=>∃ (xU:Env) (to:Int) (vk:yOA) (zy:Nat) (zU:Nat) (out:yLL) (QO:List Value) (jW:yLN) (q:Nat),ρ=upd (upd (upd (upd (upd xU 2 (yI to)) 3 (pp b1 0)) 4 (pp b3 0)) 8 (.slice (aa b5 0) g.qR.length g.qR.length)) 12 (.slice vk zy zU)∧to=(((itF g.fNext z.toNat q):Nat):Int)∧out=(backTo s g.qR g.fNext z.toNat q)∧(∀ x,x < q→(itF g.fNext z.toNat x)≠0)∧m' =(itF g.fNext z.toNat q)∧Fresh w.heap.size [jW]∧St w w23 [rr vk zy zU 22 1 QO,rr (aa b5 0) g.qR.length g.qR.length 2 1 (from_.map (Value.int .i64)),.box b3 [.slice X6 g.qR.length Q7,.slice agNext g.fNext.length cgNext] 59,.box b1 (yS s qC qB qL qJ) 36] [zl true jW QO out,sF false qZ qC qB s.qw,sF false xE qL qJ s.qx,sF false FgStates X6 Q7 g.qR,sF false FgNext agNext cgNext g.fNext]) ((itF g.fNext z.toNat 0)) ⟨_,z,(aa b21 0),0,0,([]:yLL),[],[],0,uE5,(by exact (Int.toNat_of_nonneg p7).symm),(by rfl),(by exact fun x hx=>by omega),rfl,N.emp,H⟩ ?_
 clear H N
 rintro m' ρ w24 ⟨xU,to,vk,zy,zU,out,QO,jW,q,rfl,rfl,rfl,kz,rfl,N,H⟩
 have hn_out:=H.zi (α:=yLI) 0 rfl 0 rfl qj
 have ki:=it_in p1 p8 kz
 have bl:=back_len (s:=s) (S:=g.qR) (R:=g.fNext) (j:=z.toNat) q
 refine zcc (sps [yI (((itF g.fNext z.toNat q):Nat):Int),.bool (((((itF g.fNext z.toNat q):Nat):Int):Int) != 0)] (zjn (xI (((((itF g.fNext z.toNat q):Nat):Int):Int) != 0) rfl (fun h25=>?_) (fun h25=>?_))))
 ·skip
  replace h25:=bne_iff_ne.1 h25
  have q0:(itF g.fNext z.toNat q)≠0:=by omega
  have f10:FGe g.fNext from_ 0:=by rw [show (i+1).toNat=0 by omega] at f1;exact f1
  have fe:from_[((((itF g.fNext z.toNat q):Nat):Int)).toNat]! =(((itF g.fNext z.toNat (q+1)):Nat):Int):=f10.at' p1 (j:=(itF g.fNext z.toNat q)) qf ki.1 f2
  have fk:(itF g.fNext z.toNat (q+1)) < (itF g.fNext z.toNat q):=(frm_ok p1 (j:=(itF g.fNext z.toNat q)) qf ki.1).2
  have fa:((from_[((((itF g.fNext z.toNat q):Nat):Int)).toNat]!).toNat)=(itF g.fNext z.toNat (q+1)):=by omega
  have wb:=way_by p1 p2 (j:=(itF g.fNext z.toNat q)) qf ki.1
  rw [show frm g.fNext (itF g.fNext z.toNat q)=((from_[((((itF g.fNext z.toNat q):Nat):Int)).toNat]!).toNat) from fa.symm] at wb
  have ks1:=p5 (g.qR[((from_[((((itF g.fNext z.toNat q):Nat):Int)).toNat]!).toNat)]!) (mem_at (l:=g.qR) (k:=((from_[((((itF g.fNext z.toNat q):Nat):Int)).toNat]!).toNat)) qf rfl)
  have ln:=cho_len s (g.qR[((from_[((((itF g.fNext z.toNat q):Nat):Int)).toNat]!).toNat)]!)
  refine qV (t_n (qY (xQ ?_)))
  obtain ⟨b26,o27,rfl⟩:=H.addr 3 rfl qf
  refine c_cut (fun ρ w39=>∃ (xU:Env) (b29:Nat) (a30:yOA) (c31:Nat) (a32:yOA) (c33:Nat) (a34:yOA) (c35:Nat) (F36:yLN) (F37:yLN) (F38:yLN),ρ=upd (upd (upd (upd (upd (upd xU 2 (yI (((itF g.fNext z.toNat q):Nat):Int))) 3 (pp b1 0)) 4 (pp b3 0)) 8 (.slice (aa b5 0) g.qR.length g.qR.length)) 12 (.slice vk zy zU)) 13 (pp b29 0)∧Fresh w.heap.size [jW]∧St w w39 [.box b29 [.slice a30 (((g.qR[(from_[(((itF g.fNext z.toNat q):Nat):Int).toNat]!).toNat]!).qy).length) c31,.slice a32 (((g.qR[(from_[(((itF g.fNext z.toNat q):Nat):Int).toNat]!).toNat]!).qE).length) c33,.slice a34 (((g.qR[(from_[(((itF g.fNext z.toNat q):Nat):Int).toNat]!).toNat]!).qA).length) c35] 38,rr vk zy zU 22 1 QO,rr (aa b5 0) g.qR.length g.qR.length 2 1 (from_.map (Value.int .i64)),.box b3 [.slice (aa b26 o27) g.qR.length Q7,.slice agNext g.fNext.length cgNext] 59,.box b1 (yS s qC qB qL qJ) 36] [sF false F36 a30 c31 ((g.qR[(from_[(((itF g.fNext z.toNat q):Nat):Int).toNat]!).toNat]!).qy),sF false F37 a32 c33 ((g.qR[(from_[(((itF g.fNext z.toNat q):Nat):Int).toNat]!).toNat]!).qE),sF false F38 a34 c35 ((g.qR[(from_[(((itF g.fNext z.toNat q):Nat):Int).toNat]!).toNat]!).qA),atF b26 (o27+(from_[(((itF g.fNext z.toNat q):Nat):Int).toNat]! :Int).toNat * 3) [.slice a30 (((g.qR[(from_[(((itF g.fNext z.toNat q):Nat):Int).toNat]!).toNat]!).qy).length) c31,.slice a32 (((g.qR[(from_[(((itF g.fNext z.toNat q):Nat):Int).toNat]!).toNat]!).qE).length) c33,.slice a34 (((g.qR[(from_[(((itF g.fNext z.toNat q):Nat):Int).toNat]!).toNat]!).qA).length) c35],zl true jW QO (backTo s g.qR g.fNext z.toNat q),sF false qZ qC qB s.qw,sF false xE qL qJ s.qx,sF false FgStates (aa b26 o27) Q7 g.qR,sF false FgNext agNext cgNext g.fNext]) ?_ ?_
  ·skip
   refine vS rfl H fun H=>tF 0 rfl rfl H ?_
   refine tL 1 rfl rfl (fun _ h=>h.cell 2 rfl rfl) H ?_
   refine rtp 2 (.slice (aa b5 0) g.qR.length g.qR.length) H ?_
   refine rtp 3 (yI (((itF g.fNext z.toNat q):Nat):Int)) H ?_
   refine tI 4 rfl rfl rfl H ?_
   refine tL 5 rfl rfl (fun _ h=>h.rowInt 1 rfl (iv:=(((itF g.fNext z.toNat q):Nat):Int)) (i:=((((itF g.fNext z.toNat q):Nat):Int).toNat)) qf qf) H ?_
   obtain ⟨ae41Alive,ce41Alive,Fe41Alive,ae41Bags,ce41Bags,Fe41Bags,ae41Around,ce41Around,Fe41Around,H⟩:=H.Jh 3 rfl (from_[(((itF g.fNext z.toNat q):Nat):Int).toNat]!) ((from_[(((itF g.fNext z.toNat q):Nat):Int).toNat]!).toNat) qf qf qf
   refine tI 6 rfl rfl rfl (H.pick [0,1,2,3] [4,5,6,7,8]) ?_
   refine jo [7,8] qh qm (Qv rfl ?_ (Qv rfl ?_ jq))
   ·skip
    refine zg [.slice ae41Alive (((g.qR[(from_[(((itF g.fNext z.toNat q):Nat):Int).toNat]!).toNat]!).qy).length) ce41Alive,.slice ae41Bags (((g.qR[(from_[(((itF g.fNext z.toNat q):Nat):Int).toNat]!).toNat]!).qE).length) ce41Bags,.slice ae41Around (((g.qR[(from_[(((itF g.fNext z.toNat q):Nat):Int).toNat]!).toNat]!).qA).length) ce41Around] isAgg38 sizeOf38 rfl (qF (H.get 3 rfl) 0 3) (⟨H.pick [0,1,2,3] [4,5,6,7,8],(ro 8 rfl (xY H ti38 [yN,yN,yN] fun b42 w43 H=>⟨H.pick [1,2,3,4] [4,5,6,7,8],(ro 9 rfl ?_)⟩))⟩)
    refine zA H 0 [.slice ae41Alive (((g.qR[(from_[(((itF g.fNext z.toNat q):Nat):Int).toNat]!).toNat]!).qy).length) ce41Alive,.slice ae41Bags (((g.qR[(from_[(((itF g.fNext z.toNat q):Nat):Int).toNat]!).toNat]!).qE).length) ce41Bags,.slice ae41Around (((g.qR[(from_[(((itF g.fNext z.toNat q):Nat):Int).toNat]!).toNat]!).qA).length) ce41Around] sizeOf38 fun w44 H=>⟨H.pick [1,2,3,4] [4,5,6,7,8],(xO qh ((meet ⟨_,b42,ae41Alive,ce41Alive,ae41Bags,ce41Bags,ae41Around,ce41Around,Fe41Alive,Fe41Bags,Fe41Around,uE6,N,H⟩)))⟩
   refine xY H ti38 [yN,yN,yN] fun b45 w46 H=>⟨H.pick [1,2,3,4] [4,5,6,7,8],(ro 7 rfl (zg [.slice ae41Alive (((g.qR[(from_[(((itF g.fNext z.toNat q):Nat):Int).toNat]!).toNat]!).qy).length) ce41Alive,.slice ae41Bags (((g.qR[(from_[(((itF g.fNext z.toNat q):Nat):Int).toNat]!).toNat]!).qE).length) ce41Bags,.slice ae41Around (((g.qR[(from_[(((itF g.fNext z.toNat q):Nat):Int).toNat]!).toNat]!).qA).length) ce41Around] isAgg38 sizeOf38 rfl (qF (H.get 3 rfl) 0 3) (⟨H.pick [1,2,3,4] [4,5,6,7,8],(ro 9 rfl ?_)⟩)))⟩
   refine zA H 0 [.slice ae41Alive (((g.qR[(from_[(((itF g.fNext z.toNat q):Nat):Int).toNat]!).toNat]!).qy).length) ce41Alive,.slice ae41Bags (((g.qR[(from_[(((itF g.fNext z.toNat q):Nat):Int).toNat]!).toNat]!).qE).length) ce41Bags,.slice ae41Around (((g.qR[(from_[(((itF g.fNext z.toNat q):Nat):Int).toNat]!).toNat]!).qA).length) ce41Around] sizeOf38 fun w47 H=>⟨H.pick [1,2,3,4] [4,5,6,7,8],(xO qh ((meet ⟨_,b45,ae41Alive,ce41Alive,ae41Bags,ce41Bags,ae41Around,ce41Around,Fe41Alive,Fe41Bags,Fe41Around,uE6,N,H⟩)))⟩
  clear H N
  rintro ρ w48 ⟨xU,b29,a30,c31,a32,c33,a34,c35,F36,F37,F38,rfl,N,H⟩
  refine t_n (zcr (sw (zg (yS s qC qB qL qJ) isAgg36 sizeOf36 rfl (qF (H.cells 4 rfl) 0 3) (sw (zg [.slice a30 (((g.qR[(from_[(((itF g.fNext z.toNat q):Nat):Int).toNat]!).toNat]!).qy).length) c31,.slice a32 (((g.qR[(from_[(((itF g.fNext z.toNat q):Nat):Int).toNat]!).toNat]!).qE).length) c33,.slice a34 (((g.qR[(from_[(((itF g.fNext z.toNat q):Nat):Int).toNat]!).toNat]!).qA).length) c35] isAgg38 sizeOf38 rfl (qF (H.cells 0 rfl) 0 3) ?_)))))
  have sz52:=H.base.size
  have lt53:=H.ltN (L:=[jW]) [4]
  refine sw (oc (choices_ok _ s (g.qR[(from_[(((itF g.fNext z.toNat q):Nat):Int).toNat]!).toNat]!) (H.get 5 rfl).1 (H.get 6 rfl).1 (H.get 0 rfl).1 (H.get 1 rfl).1 (H.get 2 rfl).1 qg qg) ?_)
  rintro _ w50 ⟨ra49a,rn49a,rc49a,rx49a,rF49a,rfl,M,K⟩ _
  replace N:=N.merge sz52 lt53 M
  replace H:=H.merge K M
  obtain rfl:=H.zi (α:=yLI) 0 rfl 0 rfl qj
  refine sps [.tuple #[.slice ra49a (((xB s (g.qR[(from_[(((itF g.fNext z.toNat q):Nat):Int).toNat]!).toNat]!)).1).length) rc49a,yI ((xB s (g.qR[(from_[(((itF g.fNext z.toNat q):Nat):Int).toNat]!).toNat]!)).2)],.slice ra49a (((xB s (g.qR[(from_[(((itF g.fNext z.toNat q):Nat):Int).toNat]!).toNat]!)).1).length) rc49a,yI ((xB s (g.qR[(from_[(((itF g.fNext z.toNat q):Nat):Int).toNat]!).toNat]!)).2),.slice ra49a (((xB s (g.qR[(from_[(((itF g.fNext z.toNat q):Nat):Int).toNat]!).toNat]!)).1).length) rc49a,yI ((xB s (g.qR[(from_[(((itF g.fNext z.toNat q):Nat):Int).toNat]!).toNat]!)).2)] ?_
  refine zjcc (sps [yI ((xB s (g.qR[(from_[(((itF g.fNext z.toNat q):Nat):Int).toNat]!).toNat]!)).2),.bool (((xB s (g.qR[(from_[(((itF g.fNext z.toNat q):Nat):Int).toNat]!).toNat]!)).2:Int) != 0)] (zjn (xI (((xB s (g.qR[(from_[(((itF g.fNext z.toNat q):Nat):Int).toNat]!).toNat]!)).2:Int) != 0) rfl (fun h55=>?_) (fun h55=>?_))))
  ·skip
   replace h55:=bne_iff_ne.1 h55
   exact absurd wb.1 ql
  replace h55:=xq h55
  refine qV (t_n (zcc (sp (.slice ra49a (((xB s (g.qR[(from_[(((itF g.fNext z.toNat q):Nat):Int).toNat]!).toNat]!)).1).length) rc49a) (oN rfl (sp (yI 0) (zjn (qY ?_)))))))
  have H0:=H
  obtain ⟨G56,hg58,hn57,H⟩:=H.QA (α:=yLI) 0 rfl 0 rfl qj
  replace N:Fresh w.heap.size [G56,jW]:=Fresh.ice N H0 0 hg58.1 hg58.2 (H0.jQ [5])
  clear H0
  obtain ⟨xs59,B60,P61,N,H⟩:=H.pool (α:=yLI) 0 rfl N
  refine zu (fun m' ρ w62=>∃ (xU:Env) (a_out_1:yOA) (yJ:Nat) (XD:Nat) (out_1:yLL) (XK:List Value) (QT:yLN) (k:Nat) (P_k:yLN),ρ=upd (upd (upd (upd (upd (upd (upd (upd (upd xU 2 (yI (((itF g.fNext z.toNat q):Nat):Int))) 3 (pp b1 0)) 4 (pp b3 0)) 8 (.slice (aa b5 0) g.qR.length g.qR.length)) 12 (.slice a_out_1 yJ XD)) 13 (pp b29 0)) 67 (.slice ra49a (((xB s (g.qR[(from_[(((itF g.fNext z.toNat q):Nat):Int).toNat]!).toNat]!)).1).length) rc49a)) 68 (yI (((xB s (g.qR[(from_[(((itF g.fNext z.toNat q):Nat):Int).toNat]!).toNat]!)).1).length))) 69 (yI k)∧out_1=(backTo s g.qR g.fNext z.toNat q)∧((k:Int)≤(((xB s (g.qR[(from_[(((itF g.fNext z.toNat q):Nat):Int).toNat]!).toNat]!)).1).length))∧(∀ j,j < k→¬ xN s (g.qR[((from_[((((itF g.fNext z.toNat q):Nat):Int)).toNat]!).toNat)]!) ((xB s (g.qR[((from_[((((itF g.fNext z.toNat q):Nat):Int)).toNat]!).toNat)]!)).1[j]!)=(g.qR[(itF g.fNext z.toNat q)]!,0))∧m' =((((xB s (g.qR[(from_[(((itF g.fNext z.toNat q):Nat):Int).toNat]!).toNat]!)).1).length) - (k:Int)).toNat∧Fresh w.heap.size [QT,P_k]∧St w w62 [.box b29 [.slice a30 (((g.qR[(from_[(((itF g.fNext z.toNat q):Nat):Int).toNat]!).toNat]!).qy).length) c31,.slice a32 (((g.qR[(from_[(((itF g.fNext z.toNat q):Nat):Int).toNat]!).toNat]!).qE).length) c33,.slice a34 (((g.qR[(from_[(((itF g.fNext z.toNat q):Nat):Int).toNat]!).toNat]!).qA).length) c35] 38,rr a_out_1 yJ XD 22 1 XK,rr (aa b5 0) g.qR.length g.qR.length 2 1 (from_.map (Value.int .i64)),.box b3 [.slice (aa b26 o27) g.qR.length Q7,.slice agNext g.fNext.length cgNext] 59,.box b1 (yS s qC qB qL qJ) 36] [zl true P_k (xs59.drop (k * 1)) (((xB s (g.qR[(from_[(((itF g.fNext z.toNat q):Nat):Int).toNat]!).toNat]!)).1).drop k),cellsF B60 (.slice ra49a (((xB s (g.qR[(from_[(((itF g.fNext z.toNat q):Nat):Int).toNat]!).toNat]!)).1).length) rc49a) xs59,sF true G56 ra49a rc49a ((xB s (g.qR[(from_[(((itF g.fNext z.toNat q):Nat):Int).toNat]!).toNat]!)).1),sF false F36 a30 c31 ((g.qR[(from_[(((itF g.fNext z.toNat q):Nat):Int).toNat]!).toNat]!).qy),sF false F37 a32 c33 ((g.qR[(from_[(((itF g.fNext z.toNat q):Nat):Int).toNat]!).toNat]!).qE),sF false F38 a34 c35 ((g.qR[(from_[(((itF g.fNext z.toNat q):Nat):Int).toNat]!).toNat]!).qA),atF b26 (o27+(from_[(((itF g.fNext z.toNat q):Nat):Int).toNat]! :Int).toNat * 3) [.slice a30 (((g.qR[(from_[(((itF g.fNext z.toNat q):Nat):Int).toNat]!).toNat]!).qy).length) c31,.slice a32 (((g.qR[(from_[(((itF g.fNext z.toNat q):Nat):Int).toNat]!).toNat]!).qE).length) c33,.slice a34 (((g.qR[(from_[(((itF g.fNext z.toNat q):Nat):Int).toNat]!).toNat]!).qA).length) c35],zl true QT XK out_1,sF false qZ qC qB s.qw,sF false xE qL qJ s.qx,sF false FgStates (aa b26 o27) Q7 g.qR,sF false FgNext agNext cgNext g.fNext]) (((((xB s (g.qR[(from_[(((itF g.fNext z.toNat q):Nat):Int).toNat]!).toNat]!)).1).length) - (0:Int)).toNat) ⟨_,vk,zy,zU,(backTo s g.qR g.fNext z.toNat q),QO,jW,0,P61,uE9,(by rfl),qf,(by exact fun j hj=>by omega),rfl,(N.pick [1,0]),H.pick [1,2,3,4,5] [0,1,2,4,5,6,7,8,9,10,11,12]⟩ ?_
  clear H N
  rintro m' ρ w63 ⟨xU,a_out_1,yJ,XD,out_1,XK,QT,k,P_k,rfl,rfl,i0,b1,rfl,N,H⟩
  have hn_out:=H.zi (α:=yLI) 1 rfl 7 rfl qj
  refine zcr (sp (.bool (decide ((k:Int) < (((xB s (g.qR[(from_[(((itF g.fNext z.toNat q):Nat):Int).toNat]!).toNat]!)).1).length)))) (zjn (xQ (cD rfl (fun h64=>?_) (fun h64=>?_)))))
  ·skip
   refine qV (t_n (xQ (qY (zcr ?_))))
   obtain ⟨b65,o66,rfl⟩:=H.addr 2 rfl qf
   obtain ⟨ae68,ce68,Fe68,P69,N,H⟩:=H.drainList 1 rfl 0 rfl ((N.pick [1,0]):Fresh w.heap.size [P_k,QT]) k k qf qf qf
   refine oI rfl rfl (oL rfl (H.xW 1 rfl 0 rfl) (sp (.slice ae68 ((((xB s (g.qR[(from_[(((itF g.fNext z.toNat q):Nat):Int).toNat]!).toNat]!)).1)[k]!).length) ce68) (zjc (sw (zg (yS s qC qB qL qJ) isAgg36 sizeOf36 rfl (qF (H.cells 4 rfl) 0 3) ?_)))))
   refine sw (zg [.slice a30 (((g.qR[(from_[(((itF g.fNext z.toNat q):Nat):Int).toNat]!).toNat]!).qy).length) c31,.slice a32 (((g.qR[(from_[(((itF g.fNext z.toNat q):Nat):Int).toNat]!).toNat]!).qE).length) c33,.slice a34 (((g.qR[(from_[(((itF g.fNext z.toNat q):Nat):Int).toNat]!).toNat]!).qA).length) c35] isAgg38 sizeOf38 rfl (qF (H.cells 0 rfl) 0 3) (sp (.slice ae68 ((((xB s (g.qR[(from_[(((itF g.fNext z.toNat q):Nat):Int).toNat]!).toNat]!)).1)[k]!).length) ce68) ?_))
   obtain ⟨cc1,cc2⟩:=cho_ok (k:=k) p0 ks1 qf
   have sz73:=H.base.size
   have lt74:=H.ltN (L:=[Fe68,P69,QT]) [0,2,10]
   refine sw (oc (step_ok _ s (g.qR[(from_[(((itF g.fNext z.toNat q):Nat):Int).toNat]!).toNat]!) (((xB s (g.qR[(from_[(((itF g.fNext z.toNat q):Nat):Int).toNat]!).toNat]!)).1)[k]!) (H.get 11 rfl).1 (H.get 12 rfl).1 (H.get 6 rfl).1 (H.get 7 rfl).1 (H.get 8 rfl).1 (H.get 0 rfl).1 qg qg qg qg) ?_)
   rintro _ w71 ⟨ra70aAlive,rn70aAlive,rc70aAlive,ra70aBags,rn70aBags,rc70aBags,rx70aBags,rF70aBags,ra70aAround,rn70aAround,rc70aAround,rfl,M,K⟩ _
   replace N:=N.merge sz73 lt74 M
   replace H:=H.merge K M
   obtain rfl:=H.rowNB 0 rfl
   obtain rfl:=H.zi (α:=yLI) 1 rfl 0 rfl qj
   obtain rfl:=H.V9 2 rfl
   refine sps [.tuple #[.agg #[.slice ra70aAlive ((((xN s (g.qR[(from_[(((itF g.fNext z.toNat q):Nat):Int).toNat]!).toNat]!) (((xB s (g.qR[(from_[(((itF g.fNext z.toNat q):Nat):Int).toNat]!).toNat]!)).1)[k]!)).1).qy).length) rc70aAlive,.slice ra70aBags ((((xN s (g.qR[(from_[(((itF g.fNext z.toNat q):Nat):Int).toNat]!).toNat]!) (((xB s (g.qR[(from_[(((itF g.fNext z.toNat q):Nat):Int).toNat]!).toNat]!)).1)[k]!)).1).qE).length) rc70aBags,.slice ra70aAround ((((xN s (g.qR[(from_[(((itF g.fNext z.toNat q):Nat):Int).toNat]!).toNat]!) (((xB s (g.qR[(from_[(((itF g.fNext z.toNat q):Nat):Int).toNat]!).toNat]!)).1)[k]!)).1).qA).length) rc70aAround],yI ((xN s (g.qR[(from_[(((itF g.fNext z.toNat q):Nat):Int).toNat]!).toNat]!) (((xB s (g.qR[(from_[(((itF g.fNext z.toNat q):Nat):Int).toNat]!).toNat]!)).1)[k]!)).2)],.agg #[.slice ra70aAlive ((((xN s (g.qR[(from_[(((itF g.fNext z.toNat q):Nat):Int).toNat]!).toNat]!) (((xB s (g.qR[(from_[(((itF g.fNext z.toNat q):Nat):Int).toNat]!).toNat]!)).1)[k]!)).1).qy).length) rc70aAlive,.slice ra70aBags ((((xN s (g.qR[(from_[(((itF g.fNext z.toNat q):Nat):Int).toNat]!).toNat]!) (((xB s (g.qR[(from_[(((itF g.fNext z.toNat q):Nat):Int).toNat]!).toNat]!)).1)[k]!)).1).qE).length) rc70aBags,.slice ra70aAround ((((xN s (g.qR[(from_[(((itF g.fNext z.toNat q):Nat):Int).toNat]!).toNat]!) (((xB s (g.qR[(from_[(((itF g.fNext z.toNat q):Nat):Int).toNat]!).toNat]!)).1)[k]!)).1).qA).length) rc70aAround],yI ((xN s (g.qR[(from_[(((itF g.fNext z.toNat q):Nat):Int).toNat]!).toNat]!) (((xB s (g.qR[(from_[(((itF g.fNext z.toNat q):Nat):Int).toNat]!).toNat]!)).1)[k]!)).2)] ?_
   refine sw (xY H ti38 [yN,yN,yN] fun b78 w79 H=>?_)
   refine sw (zA H 0 [.slice ra70aAlive ((((xN s (g.qR[(from_[(((itF g.fNext z.toNat q):Nat):Int).toNat]!).toNat]!) (((xB s (g.qR[(from_[(((itF g.fNext z.toNat q):Nat):Int).toNat]!).toNat]!)).1)[k]!)).1).qy).length) rc70aAlive,.slice ra70aBags ((((xN s (g.qR[(from_[(((itF g.fNext z.toNat q):Nat):Int).toNat]!).toNat]!) (((xB s (g.qR[(from_[(((itF g.fNext z.toNat q):Nat):Int).toNat]!).toNat]!)).1)[k]!)).1).qE).length) rc70aBags,.slice ra70aAround ((((xN s (g.qR[(from_[(((itF g.fNext z.toNat q):Nat):Int).toNat]!).toNat]!) (((xB s (g.qR[(from_[(((itF g.fNext z.toNat q):Nat):Int).toNat]!).toNat]!)).1)[k]!)).1).qA).length) rc70aAround] sizeOf38 fun w80 H=>?_)
   refine sp (yI ((xN s (g.qR[(from_[(((itF g.fNext z.toNat q):Nat):Int).toNat]!).toNat]!) (((xB s (g.qR[(from_[(((itF g.fNext z.toNat q):Nat):Int).toNat]!).toNat]!)).1)[k]!)).2)) (zjn (xQ ?_))
   refine vS rfl H fun H=>rtp 0 (yI ((xN s (g.qR[(from_[(((itF g.fNext z.toNat q):Nat):Int).toNat]!).toNat]!) (((xB s (g.qR[(from_[(((itF g.fNext z.toNat q):Nat):Int).toNat]!).toNat]!)).1)[k]!)).2)) H ?_
   refine rtp 1 (.bool (((xN s (g.qR[(from_[(((itF g.fNext z.toNat q):Nat):Int).toNat]!).toNat]!) (((xB s (g.qR[(from_[(((itF g.fNext z.toNat q):Nat):Int).toNat]!).toNat]!)).1)[k]!)).2:Int) == 0)) H ?_
   refine rtp 2 (.bool (((xN s (g.qR[(from_[(((itF g.fNext z.toNat q):Nat):Int).toNat]!).toNat]!) (((xB s (g.qR[(from_[(((itF g.fNext z.toNat q):Nat):Int).toNat]!).toNat]!)).1)[k]!)).2:Int) == 0)) H ?_
   cases h82:(((xN s (g.qR[(from_[(((itF g.fNext z.toNat q):Nat):Int).toNat]!).toNat]!) (((xB s (g.qR[(from_[(((itF g.fNext z.toNat q):Nat):Int).toNat]!).toNat]!)).1)[k]!)).2:Int) == 0)
   ·skip
    replace h82:=ne_of_beq_false h82
    refine zS [3,4,5,6,7,8,9] 7 (H) (rtp 10 (.bool false) H ?_)
    refine xO qh (t_n (xI false rfl (fun h=>absurd h qj) (fun _=>qV (b_n (t_n (xZ (sw (zD k 1 rfl rfl qf (sp (yI (k+1)) (zf (xf (m' :=((((xB s (g.qR[(from_[(((itF g.fNext z.toNat q):Nat):Int).toNat]!).toNat]!)).1).length) - ((k+1):Int)).toNat) qf ⟨_,a_out_1,yJ,XD,(backTo s g.qR g.fNext z.toNat q),XK,QT,k+1,P69,uE9,?_,?_,?_,rfl,(N.pick [3,2]),H.pick [4,5,6,7,8] [3,5,6,7,8,9,10,11,12,13,14,15]⟩)))))))))))
    · rfl
    · omega
    · first | exact betw_step b1 (.inl ql) | exact betw_step b1 (.inr ql)
   replace h82:=eq_of_beq h82
   refine rg 3 (.agg #[.slice ra70aAlive ((((xN s (g.qR[(from_[(((itF g.fNext z.toNat q):Nat):Int).toNat]!).toNat]!) (((xB s (g.qR[(from_[(((itF g.fNext z.toNat q):Nat):Int).toNat]!).toNat]!)).1)[k]!)).1).qy).length) rc70aAlive,.slice ra70aBags ((((xN s (g.qR[(from_[(((itF g.fNext z.toNat q):Nat):Int).toNat]!).toNat]!) (((xB s (g.qR[(from_[(((itF g.fNext z.toNat q):Nat):Int).toNat]!).toNat]!)).1)[k]!)).1).qE).length) rc70aBags,.slice ra70aAround ((((xN s (g.qR[(from_[(((itF g.fNext z.toNat q):Nat):Int).toNat]!).toNat]!) (((xB s (g.qR[(from_[(((itF g.fNext z.toNat q):Nat):Int).toNat]!).toNat]!)).1)[k]!)).1).qA).length) rc70aAround]) 82 (yR (cs:=[.slice ra70aAlive ((((xN s (g.qR[(from_[(((itF g.fNext z.toNat q):Nat):Int).toNat]!).toNat]!) (((xB s (g.qR[(from_[(((itF g.fNext z.toNat q):Nat):Int).toNat]!).toNat]!)).1)[k]!)).1).qy).length) rc70aAlive,.slice ra70aBags ((((xN s (g.qR[(from_[(((itF g.fNext z.toNat q):Nat):Int).toNat]!).toNat]!) (((xB s (g.qR[(from_[(((itF g.fNext z.toNat q):Nat):Int).toNat]!).toNat]!)).1)[k]!)).1).qE).length) rc70aBags,.slice ra70aAround ((((xN s (g.qR[(from_[(((itF g.fNext z.toNat q):Nat):Int).toNat]!).toNat]!) (((xB s (g.qR[(from_[(((itF g.fNext z.toNat q):Nat):Int).toNat]!).toNat]!)).1)[k]!)).1).qA).length) rc70aAround]) isAgg38 sizeOf38 rfl (fun _ h=>qF (h.cells 0 rfl) 0 3)) H ?_
   refine gF 4 rfl rfl H ?_
   refine gL 5 rfl rfl (fun _ h=>h.cell 7 rfl rfl) H ?_
   refine rgp 6 (yI (((itF g.fNext z.toNat q):Nat):Int)) 82 H ?_
   obtain ⟨ae83Alive,ce83Alive,Fe83Alive,ae83Bags,ce83Bags,Fe83Bags,ae83Around,ce83Around,Fe83Around,H⟩:=H.Jh 14 rfl (((itF g.fNext z.toNat q):Nat):Int) ((((itF g.fNext z.toNat q):Nat):Int).toNat) qf qf qf
   refine gI 7 rfl rfl rfl (H.pick [0,1,2,3,4,5,6,7,8] [4,5,6,7,8,9,10,11,12,13,14,15,16,17,18,19]) ?_
   refine jo [8] qh qm (Jc rfl (e:=82) rfl rfl (zg [.slice ae83Alive (((g.qR[(((itF g.fNext z.toNat q):Nat):Int).toNat]!).qy).length) ce83Alive,.slice ae83Bags (((g.qR[(((itF g.fNext z.toNat q):Nat):Int).toNat]!).qE).length) ce83Bags,.slice ae83Around (((g.qR[(((itF g.fNext z.toNat q):Nat):Int).toNat]!).qA).length) ce83Around] isAgg38 sizeOf38 rfl (qF (H.get 3 rfl) 0 3) (⟨H.pick [0,1,2,3,4,5,6,7,8] [4,5,6,7,8,9,10,11,12,13,14,15,16,17,18,19],(jo [9] qh qm (Jc rfl (e:=82) rfl rfl ?_ jq))⟩)) jq)
   obtain ⟨G84,hn85,h86⟩:=H.rowIsB 1 rfl
   obtain ⟨G87,hn88,h89⟩:=H.Jn (α:=yLI) 2 rfl 4 rfl qj
   obtain ⟨G90,hn91,h92⟩:=H.rowIsI 3 rfl
   refine oq (sameState_ok _ ((xN s (g.qR[(from_[(((itF g.fNext z.toNat q):Nat):Int).toNat]!).toNat]!) (((xB s (g.qR[(from_[(((itF g.fNext z.toNat q):Nat):Int).toNat]!).toNat]!)).1)[k]!)).1) (g.qR[(((itF g.fNext z.toNat q):Nat):Int).toNat]!) h86 h89 h92 (H.get 0 rfl).1 (H.get 1 rfl).1 (H.get 2 rfl).1) H fun w94 H=>⟨H.pick [0,1,2,3,4,5,6,7,8] [4,5,6,7,8,9,10,11,12,13,14,15,16,17,18,19],?_⟩
   refine rtp 10 (.bool (decide (((xN s (g.qR[(from_[(((itF g.fNext z.toNat q):Nat):Int).toNat]!).toNat]!) (((xB s (g.qR[(from_[(((itF g.fNext z.toNat q):Nat):Int).toNat]!).toNat]!)).1)[k]!)).1)=(g.qR[(((itF g.fNext z.toNat q):Nat):Int).toNat]!)))) (H.pick [0,1,2,3,4,5,6,7,8] [4,5,6,7,8,9,10,11,12,13,14,15,16,17,18,19]) ?_
   refine xO qh (t_n (cD rfl (fun h96=>?_) (fun h96=>?_)))
   ·skip
    refine zcr (sps [.slice a_out_1 yJ XD,.slice ae68 ((((xB s (g.qR[(from_[(((itF g.fNext z.toNat q):Nat):Int).toNat]!).toNat]!)).1)[k]!).length) ce68] (sw (zG H underlying27 ti22 [.slice ae68 ((((xB s (g.qR[(from_[(((itF g.fNext z.toNat q):Nat):Int).toNat]!).toNat]!)).1)[k]!).length) ce68] fun b97 w98 H=>sw (zQ H 6 rfl 0 rfl underlying27 ti22 rfl qj rfl rfl rfl (by simp [Value.oneCell',Value.cells]) qp qf fun a99 c100 w101 H=>?_))))
    replace H:=H.yg 15 rfl 5 rfl
    replace N:Fresh w.heap.size [(QT++Fe68),rF70aBags,P69]:=(N.pick [3,1,0,2]).join
    refine sp (.slice a99 (yJ+1) c100) (zjn (c_exit (b_o rfl (t_x (t_x (b_x (t_n (xZ (sps [.slice (aa b5 0) g.qR.length g.qR.length,yI (((itF g.fNext z.toNat q):Nat):Int)] (oI rfl rfl (oL rfl (H.rowInt 7 rfl (iv:=(((itF g.fNext z.toNat q):Nat):Int)) (i:=((((itF g.fNext z.toNat q):Nat):Int).toNat)) qf qf) (sp (yI (from_[(((itF g.fNext z.toNat q):Nat):Int).toNat]!)) (zf (b_n ?_))))))))))))))
    refine xf (m' :=(itF g.fNext z.toNat (q+1))) (by exact fk) ⟨_,from_[(((itF g.fNext z.toNat q):Nat):Int).toNat]!,a99,yJ+1,c100,((backTo s g.qR g.fNext z.toNat q)++[((xB s (g.qR[(from_[(((itF g.fNext z.toNat q):Nat):Int).toNat]!).toNat]!)).1)[k]!]),XK++[.slice ae68 ((((xB s (g.qR[(from_[(((itF g.fNext z.toNat q):Nat):Int).toNat]!).toNat]!)).1)[k]!).length) ce68],(QT++Fe68),q+1,uE5,?_,?_,?_,rfl,(N.pick [0]),H.pick [6,7,8,9] [0,17,18,19,20]⟩
    · exact fe
    · exact back_step fa b1 qf ql ql
    · exact kz_step kz q0
   refine qV (b_n (t_n (xZ (sw (zD k 1 rfl rfl qf (sp (yI (k+1)) (zf (xf (m' :=((((xB s (g.qR[(from_[(((itF g.fNext z.toNat q):Nat):Int).toNat]!).toNat]!)).1).length) - ((k+1):Int)).toNat) qf ⟨_,a_out_1,yJ,XD,(backTo s g.qR g.fNext z.toNat q),XK,QT,k+1,P69,uE9,?_,?_,?_,rfl,(N.pick [3,2]),H.pick [4,5,6,7,8] [7,9,10,11,12,13,14,15,16,17,18,19]⟩))))))))
   · rfl
   · omega
   · first | exact betw_step b1 (.inl ql) | exact betw_step b1 (.inr ql)
  obtain ⟨x,hx,he⟩:=wb.2
  exact absurd he (b1 x qf)
 replace h25:=xq h25
 refine zx4 (zcr (sp (.slice vk zy zU) (sw (o_callF #[.slice vk zy zU] rfl rfl call126 (revRow revL H 0 rfl 0 rfl) ?_))))
 rintro _ w102 ⟨F103,rfl,hF104,H⟩
 replace N:Fresh w.heap.size [F103]:=Fresh.perm N hF104
 refine zjc (sps [.slice vk zy zU,.slice vk zy zU,yI 0] (zjr ?_))
 have H0:=H
 obtain ⟨G105,hg107,hn106,H⟩:=H.QA (α:=yLI) 0 rfl 0 rfl qj
 replace N:Fresh w.heap.size [G105]:=Fresh.ice N H0 0 hg107.1 hg107.2 (H0.jQ [])
 clear H0
 obtain rfl:=H.isLen 0 rfl
 refine ret2 (.slice vk (((backTo s g.qR g.fNext z.toNat q).reverse).length) zU) (yI 0) rfl rfl rfl ⟨_,rfl,?_,H.base⟩
 rw [path_end qf kz]
 exact ⟨vk,zU,G105,rfl,N,H.pick [] [0]⟩
theorem specST_ok (w:World) (s:qG) (t:qI) (u:qI) {qC:yOA} {qZ:yLN} {qL:yOA} {xE:yLN} {qW:yOA} {xR:yLN} {xw:yOA} {zC:yLN} {qO:yOA} {xK:yLN} {yE:yOA} {Yx:yLN} {Q8:yOA} {FuBags:yLN} {jm:yOA} {Vd:yLN} (xe:qM.rep w qZ [.slice qC s.qw.length qB] s.qw) (xJ:qM.rep w xE [.slice qL s.qx.length qJ] s.qx) (zn:qM.rep w xR [.slice qW t.qy.length qU] t.qy) (zK:qM.rep w zC [.slice xw t.qE.length xm] t.qE) (xP:qM.rep w xK [.slice qO t.qA.length qN] t.qA) (Vt:qM.rep w Yx [.slice yE u.qy.length yB] u.qy) (huBags:qM.rep w FuBags [.slice Q8 u.qE.length Q5] u.qE) (Xm:qM.rep w Vd [.slice jm u.qA.length jl] u.qA):Calls Tryz.prog 45 #[.agg #[yI s.xC,.slice qC s.qw.length qB,.slice qL s.qx.length qJ],.agg #[.slice qW t.qy.length qU,.slice xw t.qE.length xm,.slice qO t.qA.length qN],.agg #[.slice yE u.qy.length yB,.slice Q8 u.qE.length Q5,.slice jm u.qA.length jl]] w (Ret (fun v w' =>∃ (ra0:yOA) (rc0:Nat) (rF0:yLN),v=.tuple #[.slice ra0 (((zW s t u).1).length) rc0,yI ((zW s t u).2)]∧Fresh w.heap.size [rF0]∧St w w' [] [sF true rF0 ra0 rc0 ((zW s t u).1)]) w):=by
 refine en func45 ntmps45 ?_
 have H:=((((((((St.start w).arg Xm).arg huBags).arg Vt).arg xP).arg zK).arg zn).arg xJ).arg xe
 have zY:=qK xe
 have je:=qK xJ
 have Qr:=qK zn
 have Xj:=qK zK
 have jR:=qK xP
 have nhuAlive:=qK Vt
 have nhuBags:=qK huBags
 have nhuAround:=qK Xm
 clear xe xJ zn zK xP Vt huBags Xm
 have N:=Fresh.nil w.heap.size
 refine zcr (sw (vF H (yS s qC qB qL qJ) fun b1 w2 H=>sw (vF H (yT t qW qU xw xm qO qN) fun b3 w4 H=>sw (vF H (yT u yE yB Q8 Q5 jm jl) fun b5 w6 H=>sps [yN,yI 0] (zjcc ?_)))))
 refine sw (oq (l03Both_ok _ s t (qF (H.cells 2 rfl) 0 3) (H.get 0 rfl).1 (H.get 1 rfl).1 (qF (H.cells 1 rfl) 0 3) (H.get 2 rfl).1 (H.get 3 rfl).1 (H.get 4 rfl).1) H fun w8 H=>sps [.bool (!(dec (ja s∧zt s t))),.bool (!(dec (ja s∧zt s t)))] ?_)
 cases h10:(!(dec (ja s∧zt s t)))
 ·skip
  replace h10:=xh h10
  replace h10:=QU h10
  have k0:=(‹ja s∧zt s t›:ja s∧zt s t)
  have k1:=k0.1
  have k2:=k0.2
  obtain ⟨q7,q8,q9,q10⟩:=k2.sizes k1.1
  have q13:=fun k hk=>Nat.le_trans (q10 k hk) (by decide:8≤1000000)
  refine qP 14 rfl rfl (sw (oq (l02State_ok _ s u (qF (H.cells 2 rfl) 0 3) (H.get 0 rfl).1 (H.get 1 rfl).1 (qF (H.cells 0 rfl) 0 3) (H.get 5 rfl).1 (H.get 6 rfl).1 (H.get 7 rfl).1 (by first | assumption | exact (And.left (by assumption:ja _)))) H fun w11 H=>qP 14 rfl rfl (sps [.bool (!(dec (zt s u))),.bool (!(dec (zt s u)))] (zjn (cQ rfl (fun h13=>?_) (fun h13=>?_))))))
  ·skip
   refine zcr (sw (vI H underlying27 ti22 fun b14 w15 H=>sps [.slice (aa b14 0) 0 0,yI 1] (zjr (t_r ?_))))
   replace H:=H.boxRow 0 rfl 1 0 rfl qj
   replace H:=H.vG (α:=yLI)
   have H0:=H
   obtain ⟨G16,hg18,hn17,H⟩:=H.QA (α:=yLI) 0 rfl 0 rfl qj
   replace N:Fresh w.heap.size [G16]:=Fresh.ice N.emp H0 0 hg18.1 hg18.2 (H0.jQ [])
   clear H0
   refine ret2 (.slice (aa b14 0) 0 0) (yI 1) rfl rfl rfl ⟨_,rfl,?_,H.base⟩
   first | rw [st_1' ‹_›] | rw [st_1 (fun h=>absurd h.2 ‹_›)]
   exact ⟨(aa b14 0),0,G16,rfl,N,H.pick [] [0]⟩
  refine qV (t_n (zcr (sw (vH #[pp b1 0,pp b3 0] rfl rfl call85 (en func85 ntmps85 ?_)))))
  refine zcr (sw (xY H ti59 [yN,yN] fun b19 w20 H=>sps [yN,yI 0] (zjc (sp (pp b3 0) ?_))))
  have sz24:=H.base.size
  refine sw (oc (l02Own_ok _ t (qF (H.cells 2 rfl) 0 3) (H.get 2 rfl).1 (H.get 3 rfl).1 (H.get 4 rfl).1 qg qg qg qg) ?_)
  rintro _ w22 ⟨ra21Alive,rn21Alive,rc21Alive,ra21Bags,rn21Bags,rc21Bags,rx21Bags,rF21Bags,ra21Around,rn21Around,rc21Around,rfl,M,K⟩ _
  replace N:=N.merge sz24 qm M
  replace H:=H.merge K M
  obtain rfl:=H.rowNB 0 rfl
  obtain rfl:=H.zi (α:=yLI) 1 rfl 0 rfl qj
  obtain rfl:=H.V9 2 rfl
  refine sw (zG H underlying47 ti38 (yT t ra21Alive rc21Alive ra21Bags rc21Bags ra21Around rc21Around) fun b29 w30 H=>sw (jF [.slice (aa b29 0) 1 1,yN] [(0,.slice (aa b29 0) 1 1)] (sw (xY H ti59 [yN,yN] fun b31 w32 H=>sw (zA H 0 [.slice (aa b29 0) 1 1,yN] sizeOf59 fun w33 H=>zjc (sw (zG H underlying22 ti2 [yI (-1)] fun b34 w35 H=>sp (.slice (aa b34 0) 1 1) (zjcc (sp (yI 0) ?_)))))))))
  refine zjn (qY ?_)
  replace H:=H.boxRowI 0 [(-1)] 1
  replace H:=H.boxRow 2 rfl 3 1 rfl qj
  replace H:=H.vG (α:=qI)
  obtain ⟨G36,N,hn37,H⟩:=H.freezeB 3 rfl N (H.jQ [1])
  have H0:=H
  obtain ⟨G38,hg40,hn39,H⟩:=H.QA (α:=yLI) 4 rfl 2 rfl qj
  replace N:Fresh w.heap.size [G38,G36]:=Fresh.ice (N.pick [1,0]) H0 4 hg40.1 hg40.2 (H0.jQ [0])
  clear H0
  obtain ⟨G41,N,hn42,H⟩:=H.vP 5 rfl N (H.jQ [0,1])
  replace H:=H.Jb 3 rfl 2 rfl 1 rfl 0 rfl
  replace N:Fresh w.heap.size [([]++(G36++G38++G41))]:=(N.emp.pick [3,2,1,0]).join.join.swap.join
  replace H:St _ _ [rr (aa b34 0) 1 1 2 1 ([(-1)].map (Value.int .i64)),.box b31 [.slice (aa b29 0) 1 1,yN] 59,rr (aa b29 0) 1 1 38 3 (yT t ra21Alive rc21Alive ra21Bags rc21Bags ra21Around rc21Around),rr none 0 0 0 1 [],rr none 0 0 0 1 [],rr none 0 0 0 1 [],.box b19 [yN,yN] 59,.box b5 (yT u yE yB Q8 Q5 jm jl) 38,.box b3 (yT t qW qU xw xm qO qN) 38,.box b1 (yS s qC qB qL qJ) 36] [zl true ([]++(G36++G38++G41)) (yT t ra21Alive rc21Alive ra21Bags rc21Bags ra21Around rc21Around) [t],sF true G41 ra21Around rc21Around t.qA,sF true G38 ra21Bags rc21Bags t.qE,sF true G36 ra21Alive rc21Alive t.qy,zl true [] [] ([]:List qI),zl true rF21Bags rx21Bags t.qE,sF false qZ qC qB s.qw,sF false xE qL qJ s.qx,sF false xR qW qU t.qy,sF false zC xw xm t.qE,sF false xK qO qN t.qA,sF false Yx yE yB u.qy,sF false FuBags Q8 Q5 u.qE,sF false Vd jm jl u.qA]:=H
  replace H:=H.nilRow 22 1
  replace H:=H.vG (α:=yLI)
  refine zu (fun m' ρ w43=>∃ (xU:Env) (a_from:yOA) (n_from:Nat) (c_from:Nat) (from_:yLI) (i:Nat) (Qq:yOA) (jX:Nat) (yD:Nat) (g_States:List qI) (V6:List Value) (VL:yLN) (yO:yOA) (jS:Nat) (yM:Nat) (g_Next:yLL) (Vq:List Value) (jT:yLN),ρ=upd (upd (upd (upd (upd xU 0 (pp b1 0)) 4 (pp b19 0)) 7 (pp b31 0)) 8 (.slice a_from n_from c_from)) 9 (yI i)∧(grRes s t=grGo s (302 - i) i g_States g_Next)∧(∀ u∈g_States,zt s u)∧(0 < g_States.length∧g_States.length≤300)∧(g_Next.length=i)∧(i≤g_States.length)∧(GrOk g_States g_Next)∧(from_.length=g_States.length)∧(FromOk g_States g_Next from_)∧m' =(301 - i)∧Fresh w.heap.size [jT]∧St w w43 [rr yO jS yM 22 1 Vq,rr a_from n_from c_from 2 1 (from_.map (Value.int .i64)),.box b31 [.slice Qq jX yD,.slice yO jS yM] 59,rr Qq jX yD 38 3 V6,.box b19 [yN,yN] 59,.box b5 (yT u yE yB Q8 Q5 jm jl) 38,.box b3 (yT t qW qU xw xm qO qN) 38,.box b1 (yS s qC qB qL qJ) 36] [zl true jT Vq g_Next,zl true VL V6 g_States,sF false qZ qC qB s.qw,sF false xE qL qJ s.qx,sF false xR qW qU t.qy,sF false zC xw xm t.qE,sF false xK qO qN t.qA,sF false Yx yE yB u.qy,sF false FuBags Q8 Q5 u.qE,sF false Vd jm jl u.qA]) ((301 - 0)) ⟨_,(aa b34 0),1,1,[(-1)],0,(aa b29 0),1,1,[t],(yT t ra21Alive rc21Alive ra21Bags rc21Bags ra21Around rc21Around),([]++(G36++G38++G41)),none,0,0,([]:yLL),[],[],uE5,(by rfl),(by exact fun u hu=>by obtain rfl:=List.mem_singleton.1 hu;exact k2),qm,(by rfl),qm,(by exact GrOk.start t),(by rfl),(by exact FromOk.start t),rfl,(N.emp.pick [0]),H.pick [0,1,2,3,7,8,9,10] [0,1,7,8,9,10,11,12,13,14]⟩ ?_
  clear H N
  rintro m' ρ w44 ⟨xU,a_from,n_from,c_from,from_,i,Qq,jX,yD,g_States,V6,VL,yO,jS,yM,g_Next,Vq,jT,rfl,kr,ka,kl,kn,ki,ko,kf,kfo,rfl,N,H⟩
  have hn_from:=H.V9 1 rfl
  have hn_g_States:=H.zi (α:=qI) 3 rfl 1 rfl qj
  have hn_g_Next:=H.zi (α:=yLI) 0 rfl 0 rfl qj
  refine zcc (sp (yI i) (oF rfl (oL rfl (H.cell 2 rfl rfl) (oN rfl (sp (.bool (decide ((i:Int) < jX))) (zjn (cD rfl (fun h45=>?_) (fun h45=>?_))))))))
  ·skip
   refine qV (t_n (xQ (qY (zcr (oF rfl (oL rfl (H.cell 2 rfl rfl) (sp (yI i) ?_)))))))
   obtain ⟨b46,rfl⟩:=H.QP 3 rfl qf
   obtain ⟨ae47Alive,ce47Alive,Fe47Alive,ae47Bags,ce47Bags,Fe47Bags,ae47Around,ce47Around,Fe47Around,hx48,H⟩:=H.rowel_StateD 3 rfl 1 rfl (iv:=i) i qf qf
   refine oI rfl rfl (sw (zg [.slice ae47Alive (((g_States[i]!).qy).length) ce47Alive,.slice ae47Bags (((g_States[i]!).qE).length) ce47Bags,.slice ae47Around (((g_States[i]!).qA).length) ce47Around] isAgg38 sizeOf38 rfl (qF (fun j v hj=>H.rowGet 3 rfl (hx48 j v hj)) 0 3) (sw (xY H ti38 [yN,yN,yN] fun b49 w50 H=>sw (zA H 0 [.slice ae47Alive (((g_States[i]!).qy).length) ce47Alive,.slice ae47Bags (((g_States[i]!).qE).length) ce47Bags,.slice ae47Around (((g_States[i]!).qA).length) ce47Around] sizeOf38 fun w51 H=>zjc ?_)))))
   refine sp (pp b1 0) ?_
   have ks:=ka (g_States[i]!) (mem_at (k:=i) qf rfl)
   have nl:=succ_len s (g_States[i]!)
   have sz55:=H.base.size
   have lt56:=H.ltN (L:=[jT]) [3]
   refine sw (oc (l03Succ_ok _ s (g_States[i]!) (qF (H.cells 8 rfl) 0 3) (H.get 5 rfl).1 (H.get 6 rfl).1 (qF (H.cells 0 rfl) 0 3) (H.get 0 rfl).1 (H.get 1 rfl).1 (H.get 2 rfl).1 qg qg) ?_)
   rintro _ w53 ⟨ra52a,rn52a,rc52a,rx52a,rF52a,rfl,M,K⟩ _
   replace N:=N.merge sz55 lt56 M
   replace H:=H.merge K M
   obtain rfl:=H.zi (α:=qI) 0 rfl 0 rfl qj
   refine sps [.tuple #[.slice ra52a (((qX s (g_States[i]!)).1).length) rc52a,yI ((qX s (g_States[i]!)).2)],.slice ra52a (((qX s (g_States[i]!)).1).length) rc52a,yI ((qX s (g_States[i]!)).2),.slice ra52a (((qX s (g_States[i]!)).1).length) rc52a,yI ((qX s (g_States[i]!)).2)] (zjcc (sps [yI ((qX s (g_States[i]!)).2),.bool (((qX s (g_States[i]!)).2:Int) != 0)] (zjn (xI (((qX s (g_States[i]!)).2:Int) != 0) rfl (fun h58=>?_) (fun h58=>?_)))))
   ·skip
    replace h58:=bne_iff_ne.1 h58
    refine zcr (sw (jF [yN,yN] [] (sps [.slice a_from n_from c_from,yI ((qX s (g_States[i]!)).2)] (sw (zA H 6 [yN,yN] sizeOf59 fun w59 H=>sps [.slice a_from n_from c_from,yI ((qX s (g_States[i]!)).2)] (zjr (t_r (zr5 (retC3 H 6 rfl (.slice a_from n_from c_from) (yI ((qX s (g_States[i]!)).2)) rfl isAgg59 sizeOf59 rfl rfl rfl ⟨_,rfl,?_⟩)))))))))
    replace H:=H.erases [6,5,4,2,1,0]
    dsimp only [vZ,List.eraseIdx] at H
    refine sps [.tuple #[.agg #[yN,yN],.slice a_from n_from c_from,yI ((qX s (g_States[i]!)).2)],.agg #[yN,yN],.slice a_from n_from c_from,yI ((qX s (g_States[i]!)).2)] (sw (xY H ti59 [yN,yN] fun b60 w61 H=>sw (zA H 0 [yN,yN] sizeOf59 fun w62 H=>sps [.slice a_from n_from c_from,yI ((qX s (g_States[i]!)).2)] (zjcc (sps [yI ((qX s (g_States[i]!)).2),.bool (((qX s (g_States[i]!)).2:Int) != 0)] (zjn ?_))))))
    refine xI (((qX s (g_States[i]!)).2:Int) != 0) rfl (fun h63=>?_) (fun h=>absurd (xq h) h58)
    replace h63:=bne_iff_ne.1 h63
    refine zcr (sw (vI H underlying27 ti22 fun b64 w65 H=>sps [yI ((qX s (g_States[i]!)).2),.slice (aa b64 0) 0 0,yI ((qX s (g_States[i]!)).2)] (zjr (t_r ?_))))
    replace H:=H.boxRow 0 rfl 1 0 rfl qj
    replace H:=H.vG (α:=yLI)
    have H0:=H
    obtain ⟨G66,hg68,hn67,H⟩:=H.QA (α:=yLI) 0 rfl 0 rfl qj
    replace N:Fresh w.heap.size [G66,rF52a,jT]:=Fresh.ice N.emp H0 0 hg68.1 hg68.2 (H0.jQ [1,5])
    clear H0
    refine ret2 (.slice (aa b64 0) 0 0) (yI ((qX s (g_States[i]!)).2)) rfl rfl rfl ⟨_,rfl,?_,H.base⟩
    rw [st_c' ⟨k1,by assumption⟩ (ex_of k0 (kr.trans (gr_code qf qf ql))).2 (by first | assumption | decide)]
    exact ⟨(aa b64 0),0,G66,rfl,(N.pick [0]),H.pick [] [0]⟩
   replace h58:=xq h58
   refine qV (t_n (zcr (sw (vI H underlying22 ti2 fun b69 w70 H=>sp (.slice (aa b69 0) 0 0) (zjcc (sp (yI 0) (zjn (qY ?_))))))))
   have H0:=H
   obtain ⟨G71,hg73,hn72,H⟩:=H.QA (α:=qI) 1 rfl 0 rfl qj
   replace N:Fresh w.heap.size [G71,jT]:=Fresh.ice N H0 1 hg73.1 hg73.2 (H0.jQ [4])
   clear H0
   replace H:=H.boxRowI 0 [] 0
   refine zu (fun m' ρ w74=>∃ (xU:Env) (VV:yOA) (XX:Nat) (VR:Nat) (from__1:yLI) (a_row:yOA) (n_row:Nat) (c_row:Nat) (row:yLI) (k:Nat) (yw:yOA) (zT:Nat) (yt:Nat) (g_States_1:List qI) (yh:List Value) (jM:yLN),ρ=upd (upd (upd (upd (upd (upd (upd (upd xU 0 (pp b1 0)) 4 (pp b19 0)) 7 (pp b31 0)) 8 (.slice VV XX VR)) 9 (yI i)) 11 (.slice ra52a (((qX s (g_States[i]!)).1).length) rc52a)) 13 (.slice a_row n_row c_row)) 14 (yI k)∧from__1=(from_++List.replicate ((zI g_States (qX s (g_States[i]!)).1 k).1.length - g_States.length) (i:Int))∧row=(zI g_States (qX s (g_States[i]!)).1 k).2∧g_States_1=(zI g_States (qX s (g_States[i]!)).1 k).1∧((k:Int)≤(((qX s (g_States[i]!)).1).length))∧m' =((((qX s (g_States[i]!)).1).length) - (k:Int)).toNat∧Fresh w.heap.size [G71,jT]∧St w w74 [rr a_row n_row c_row 2 1 (row.map (Value.int .i64)),.box b49 [.slice ae47Alive (((g_States[i]!).qy).length) ce47Alive,.slice ae47Bags (((g_States[i]!).qE).length) ce47Bags,.slice ae47Around (((g_States[i]!).qA).length) ce47Around] 38,rr yO jS yM 22 1 Vq,rr VV XX VR 2 1 (from__1.map (Value.int .i64)),.box b31 [.slice yw zT yt,.slice yO jS yM] 59,rr yw zT yt 38 3 yh,.box b19 [yN,yN] 59,.box b5 (yT u yE yB Q8 Q5 jm jl) 38,.box b3 (yT t qW qU xw xm qO qN) 38,.box b1 (yS s qC qB qL qJ) 36] [sF true G71 ra52a rc52a ((qX s (g_States[i]!)).1),sF true Fe47Alive ae47Alive ce47Alive ((g_States[i]!).qy),sF true Fe47Bags ae47Bags ce47Bags ((g_States[i]!).qE),sF true Fe47Around ae47Around ce47Around ((g_States[i]!).qA),zl true jT Vq g_Next,zl true jM yh g_States_1,sF false qZ qC qB s.qw,sF false xE qL qJ s.qx,sF false xR qW qU t.qy,sF false zC xw xm t.qE,sF false xK qO qN t.qA,sF false Yx yE yB u.qy,sF false FuBags Q8 Q5 u.qE,sF false Vd jm jl u.qA]) (((((qX s (g_States[i]!)).1).length) - (0:Int)).toNat) ⟨_,a_from,n_from,c_from,from_,(aa b69 0),0,0,([]:yLI),0,(aa b46 0),jX,yD,g_States,V6,VL,uE8,(by exact rep_zero rfl),(by rfl),(by rfl),qf,rfl,N,H.pick [0,2,3,4,5,6,7,8,9,10] [0,2,3,4,5,6,7,8,9,10,11,12,13,14]⟩ ?_
   clear H N
   rintro m' ρ w75 ⟨xU,VV,XX,VR,from__1,a_row,n_row,c_row,row,k,yw,zT,yt,g_States_1,yh,jM,rfl,rfl,rfl,rfl,i0,rfl,N,H⟩
   have hn_from:=H.V9 3 rfl
   have hn_row:=H.V9 0 rfl
   have hn_g_States:=H.zi (α:=qI) 5 rfl 5 rfl qj
   obtain ⟨al1,al2,al3⟩:=YX (S:=g_States) (nx:=(qX s (g_States[i]!)).1) k
   have fq:(from_++List.replicate ((zI g_States (qX s (g_States[i]!)).1 k).1.length - g_States.length) (i:Int)).length=from_.length+((zI g_States (qX s (g_States[i]!)).1 k).1.length - g_States.length):=by simp
   have fr:=kfo.len
   refine zcc (sps [yI k,.slice ra52a (((qX s (g_States[i]!)).1).length) rc52a] (oN rfl (sp (.bool (decide ((k:Int) < (((qX s (g_States[i]!)).1).length)))) (zjn (cD rfl (fun h76=>?_) (fun h76=>?_))))))
   ·skip
    refine qV (t_n (xQ (qY (xQ ?_))))
    refine vS rfl H fun H=>tF 0 rfl rfl H ?_
    refine tL 1 rfl rfl (fun _ h=>h.cell 4 rfl rfl) H ?_
    refine rtp 2 (.slice ra52a (((qX s (g_States[i]!)).1).length) rc52a) H ?_
    refine rtp 3 (yI k) H ?_
    obtain ⟨b78,o79,rfl⟩:=H.addr 0 rfl qf
    obtain ⟨ae81Alive,ce81Alive,Fe81Alive,ae81Bags,ce81Bags,Fe81Bags,Yg,Yb,Fe81Around,H⟩:=H.Jh 0 rfl k k qf qf qf
    refine tI 4 rfl rfl rfl (H.pick [0,1,2,3,4,5,6,7,8,9] [4,5,6,7,8,9,10,11,12,13,14,15,16,17]) ?_
    refine ro 5 rfl ?_
    obtain ⟨G82,hn83,h84⟩:=H.Jn (α:=qI) 5 rfl 9 rfl qj
    refine oq (Yt (by rw [← hn83]) (l03Find_ok _ ((zI g_States (qX s (g_States[i]!)).1 k).1) (((qX s (g_States[i]!)).1)[k]!) (hn83▸h84) (qF (H.get 3 rfl) 0 3) (H.get 0 rfl).1 (H.get 1 rfl).1 (H.get 2 rfl).1)) H fun w86 H=>⟨H.pick [0,1,2,3,4,5,6,7,8,9] [4,5,6,7,8,9,10,11,12,13,14,15,16,17],(rtp 6 (yI (firstIdx (fun zz=>decide (((zI g_States (qX s (g_States[i]!)).1 k).1)[zz]! =(((qX s (g_States[i]!)).1)[k]!))) ((zI g_States (qX s (g_States[i]!)).1 k).1).length)) (H.pick [0,1,2,3,4,5,6,7,8,9] [4,5,6,7,8,9,10,11,12,13,14,15,16,17]) ?_)⟩
    refine xO qh (t_n (zcc (sps [yI (firstIdx (fun zz=>decide (((zI g_States (qX s (g_States[i]!)).1 k).1)[zz]! =(((qX s (g_States[i]!)).1)[k]!))) ((zI g_States (qX s (g_States[i]!)).1 k).1).length),.bool (decide ((firstIdx (fun zz=>decide (((zI g_States (qX s (g_States[i]!)).1 k).1)[zz]! =(((qX s (g_States[i]!)).1)[k]!))) ((zI g_States (qX s (g_States[i]!)).1 k).1).length:Int) < 0))] (zjn (cD rfl (fun h88=>?_) (fun h88=>?_))))))
    ·skip
     refine zcr (oF rfl (oL rfl (H.cell 4 rfl rfl) (oN rfl (sp (yI zT) (zjn (xQ ?_))))))
     refine c_cut (fun ρ w91=>∃ (xU:Env) (a89:yOA) (c90:Nat),ρ=upd (upd (upd (upd (upd (upd (upd (upd (upd xU 0 (pp b1 0)) 4 (pp b19 0)) 7 (pp b31 0)) 8 (.slice VV XX VR)) 9 (yI i)) 11 (.slice (aa b78 o79) (((qX s (g_States[i]!)).1).length) rc52a)) 13 (.slice a_row n_row c_row)) 14 (yI k)) 15 (yI zT)∧Fresh w.heap.size [G71,jT]∧St w w91 [rr a_row n_row c_row 2 1 (((zI g_States (qX s (g_States[i]!)).1 k).2).map (Value.int .i64)),.box b49 [.slice ae47Alive (((g_States[i]!).qy).length) ce47Alive,.slice ae47Bags (((g_States[i]!).qE).length) ce47Bags,.slice ae47Around (((g_States[i]!).qA).length) ce47Around] 38,rr yO jS yM 22 1 Vq,rr VV XX VR 2 1 ((from_++List.replicate ((zI g_States (qX s (g_States[i]!)).1 k).1.length - g_States.length) (i:Int)).map (Value.int .i64)),.box b31 [.slice a89 (zT+1) c90,.slice yO jS yM] 59,rr a89 (zT+1) c90 38 3 (yh++[.slice ae81Alive (((((qX s (g_States[i]!)).1)[k]!).qy).length) ce81Alive,.slice ae81Bags (((((qX s (g_States[i]!)).1)[k]!).qE).length) ce81Bags,.slice Yg (((((qX s (g_States[i]!)).1)[k]!).qA).length) Yb]),.box b19 [yN,yN] 59,.box b5 (yT u yE yB Q8 Q5 jm jl) 38,.box b3 (yT t qW qU xw xm qO qN) 38,.box b1 (yS s qC qB qL qJ) 36] [zl true (jM++(Fe81Alive++Fe81Bags++Fe81Around)) (yh++[.slice ae81Alive (((((qX s (g_States[i]!)).1)[k]!).qy).length) ce81Alive,.slice ae81Bags (((((qX s (g_States[i]!)).1)[k]!).qE).length) ce81Bags,.slice Yg (((((qX s (g_States[i]!)).1)[k]!).qA).length) Yb]) (((zI g_States (qX s (g_States[i]!)).1 k).1)++[⟨(((qX s (g_States[i]!)).1)[k]!).qy,(((qX s (g_States[i]!)).1)[k]!).qE,(((qX s (g_States[i]!)).1)[k]!).qA⟩]),sF true Fe81Alive ae81Alive ce81Alive ((((qX s (g_States[i]!)).1)[k]!).qy),sF true Fe81Bags ae81Bags ce81Bags ((((qX s (g_States[i]!)).1)[k]!).qE),sF true Fe81Around Yg Yb ((((qX s (g_States[i]!)).1)[k]!).qA),atF b78 (o79+(k:Int).toNat * 3) [.slice ae81Alive (((((qX s (g_States[i]!)).1)[k]!).qy).length) ce81Alive,.slice ae81Bags (((((qX s (g_States[i]!)).1)[k]!).qE).length) ce81Bags,.slice Yg (((((qX s (g_States[i]!)).1)[k]!).qA).length) Yb],sF true G71 (aa b78 o79) rc52a ((qX s (g_States[i]!)).1),sF true Fe47Alive ae47Alive ce47Alive ((g_States[i]!).qy),sF true Fe47Bags ae47Bags ce47Bags ((g_States[i]!).qE),sF true Fe47Around ae47Around ce47Around ((g_States[i]!).qA),zl true jT Vq g_Next,sF false qZ qC qB s.qw,sF false xE qL qJ s.qx,sF false xR qW qU t.qy,sF false zC xw xm t.qE,sF false xK qO qN t.qA,sF false Yx yE yB u.qy,sF false FuBags Q8 Q5 u.qE,sF false Vd jm jl u.qA]) ?_ ?_
     ·skip
      refine QE rfl H [0,1,2,3,6,7,8,9] fun H=>?_
      have S:=H.yG [0,1,2,3,6,7,8,9] [0,1,2,3,4,5,6,7,8,9,10,11,12,13,14,15,16,17]
      refine tF 0 rfl rfl S ?_
      refine rtp 2 (.slice (aa b78 o79) (((qX s (g_States[i]!)).1).length) rc52a) S ?_
      refine rtp 3 (yI k) S ?_
      refine tI 4 rfl rfl rfl S ?_
      refine rt 5 (.agg #[.slice ae81Alive (((((qX s (g_States[i]!)).1)[k]!).qy).length) ce81Alive,.slice ae81Bags (((((qX s (g_States[i]!)).1)[k]!).qE).length) ce81Bags,.slice Yg (((((qX s (g_States[i]!)).1)[k]!).qA).length) Yb]) (yR (cs:=[.slice ae81Alive (((((qX s (g_States[i]!)).1)[k]!).qy).length) ce81Alive,.slice ae81Bags (((((qX s (g_States[i]!)).1)[k]!).qE).length) ce81Bags,.slice Yg (((((qX s (g_States[i]!)).1)[k]!).qA).length) Yb]) isAgg38 sizeOf38 rfl (fun _ h=>qF (h.get 3 rfl) 0 3)) S ?_
      refine jo [1,6] qh qm (Qv rfl ?_ (Qv rfl ?_ jq))
      ·skip
       refine zN (.slice yw zT yt) isAgg47 rfl (H.cell 4 rfl rfl) (⟨H.pick [0,1,2,3,6,7,8,9] [0,1,2,3,4,5,6,7,8,9,10,11,12,13,14,15,16,17],(ro 6 rfl (zG H underlying47 ti38 [.slice ae81Alive (((((qX s (g_States[i]!)).1)[k]!).qy).length) ce81Alive,.slice ae81Bags (((((qX s (g_States[i]!)).1)[k]!).qE).length) ce81Bags,.slice Yg (((((qX s (g_States[i]!)).1)[k]!).qA).length) Yb] fun b93 w94 H=>⟨H.pick [1,2,3,4,7,8,9,10] [0,1,2,3,4,5,6,7,8,9,10,11,12,13,14,15,16,17],(ro 7 rfl ?_)⟩))⟩)
       refine zQ H 6 rfl 0 rfl underlying47 ti38 rfl qj rfl rfl rfl (by simp [Value.oneCell',Value.cells]) qp qf fun a95 c96 w97 H=>?_
       replace H:=H.Jb 9 rfl 0 rfl 1 rfl 2 rfl
       refine ⟨H.pick [1,2,3,4,7,8,9,10] [1,2,3,4,5,6,7,8,9,10,11,12,13,14,15,16,17,18],(tF 8 rfl rfl (H.pick [1,2,3,4,7,8,9,10] [1,2,3,4,5,6,7,8,9,10,11,12,13,14,15,16,17,18]) ?_)⟩
       refine ro 9 rfl (zJ H 5 [.slice a95 (zT+1) c96,.slice yO jS yM] sizeOf47 fun w98 H=>⟨H.pick [1,2,3,4,7,8,9,10] [1,2,3,4,5,6,7,8,9,10,11,12,13,14,15,16,17,18],(xO qh ((meet ⟨_,a95,c96,uE9,N,H.pick [1,2,3,4,5,6,7,8,9,10] [0,1,2,3,4,5,6,7,8,9,11,12,13,14,15,16,17,18]⟩)))⟩)
      refine zG H underlying47 ti38 [.slice ae81Alive (((((qX s (g_States[i]!)).1)[k]!).qy).length) ce81Alive,.slice ae81Bags (((((qX s (g_States[i]!)).1)[k]!).qE).length) ce81Bags,.slice Yg (((((qX s (g_States[i]!)).1)[k]!).qA).length) Yb] fun b99 w100 H=>⟨H.pick [1,2,3,4,7,8,9,10] [0,1,2,3,4,5,6,7,8,9,10,11,12,13,14,15,16,17],(ro 1 rfl (zN (.slice yw zT yt) isAgg47 rfl (H.cell 5 rfl rfl) (⟨H.pick [1,2,3,4,7,8,9,10] [0,1,2,3,4,5,6,7,8,9,10,11,12,13,14,15,16,17],(ro 7 rfl ?_)⟩)))⟩
      refine zQ H 6 rfl 0 rfl underlying47 ti38 rfl qj rfl rfl rfl (by simp [Value.oneCell',Value.cells]) qp qf fun a101 c102 w103 H=>?_
      replace H:=H.Jb 9 rfl 0 rfl 1 rfl 2 rfl
      refine ⟨H.pick [1,2,3,4,7,8,9,10] [1,2,3,4,5,6,7,8,9,10,11,12,13,14,15,16,17,18],(tF 8 rfl rfl (H.pick [1,2,3,4,7,8,9,10] [1,2,3,4,5,6,7,8,9,10,11,12,13,14,15,16,17,18]) ?_)⟩
      refine ro 9 rfl (zJ H 5 [.slice a101 (zT+1) c102,.slice yO jS yM] sizeOf47 fun w104 H=>⟨H.pick [1,2,3,4,7,8,9,10] [1,2,3,4,5,6,7,8,9,10,11,12,13,14,15,16,17,18],(xO qh ((meet ⟨_,a101,c102,uE9,N,H.pick [1,2,3,4,5,6,7,8,9,10] [0,1,2,3,4,5,6,7,8,9,11,12,13,14,15,16,17,18]⟩)))⟩)
     clear H N
     rintro ρ w105 ⟨xU,a89,c90,rfl,N,H⟩
     refine t_n (xZ (sps [.slice VV XX VR,yI i] (sw (zG H underlying22 ti2 [yI i] fun b106 w107 H=>sw (zQ H 4 rfl 0 rfl underlying22 ti2 rfl qj rfl rfl rfl (by simp [Value.oneCell',Value.cells]) qp qf fun a108 c109 w110 H=>?_)))))
     rw [snocI] at H
     refine sp (.slice a108 (XX+1) c109) (zjn (xZ (sps [.slice a_row n_row c_row,yI zT] (sw (zG H underlying22 ti2 [yI zT] fun b111 w112 H=>sw (zQ H 2 rfl 0 rfl underlying22 ti2 rfl qj rfl rfl rfl (by simp [Value.oneCell',Value.cells]) qp qf fun a113 c114 w115 H=>?_))))))
     rw [snocI] at H
     refine sp (.slice a113 (n_row+1) c114) (zf (b_n (t_n (xZ (sp (yI k) (sw (zD k 1 rfl rfl qf (sp (yI (k+1)) (zf ?_)))))))))
     refine xf (m' :=((((qX s (g_States[i]!)).1).length) - ((k+1):Int)).toNat) qf ⟨_,a108,XX+1,c109,((from_++List.replicate ((zI g_States (qX s (g_States[i]!)).1 k).1.length - g_States.length) (i:Int))++[(i:Int)]),a113,n_row+1,c114,(((zI g_States (qX s (g_States[i]!)).1 k).2)++[(zT:Int)]),k+1,a89,zT+1,c90,(((zI g_States (qX s (g_States[i]!)).1 k).1)++[⟨(((qX s (g_States[i]!)).1)[k]!).qy,(((qX s (g_States[i]!)).1)[k]!).qE,(((qX s (g_States[i]!)).1)[k]!).qA⟩]),yh++[.slice ae81Alive (((((qX s (g_States[i]!)).1)[k]!).qy).length) ce81Alive,.slice ae81Bags (((((qX s (g_States[i]!)).1)[k]!).qE).length) ce81Bags,.slice Yg (((((qX s (g_States[i]!)).1)[k]!).qA).length) Yb],(jM++(Fe81Alive++Fe81Bags++Fe81Around)),uE8,?_,?_,?_,?_,rfl,N,H.pick [2,3,4,5,6,7,8,9,10,11] [5,6,7,8,9,0,10,11,12,13,14,15,16,17]⟩
     · first | exact rep_new (by rw [← (YW (k:=k) ‹_›).1,List.length_append,List.length_singleton];omega) | rw [← (YV (k:=k) ‹_›).1]
     · first | exact (YV (k:=k) ‹_›).2 | (refine Eq.trans ?_ (YW (k:=k) ‹_›).2;congr 2 <;> omega)
     · first | exact (YW (k:=k) ‹_›).1 | exact (YV (k:=k) ‹_›).1
     · omega
    refine qV (t_n (xZ (sps [.slice a_row n_row c_row,yI (firstIdx (fun zz=>decide (((zI g_States (qX s (g_States[i]!)).1 k).1)[zz]! =(((qX s (g_States[i]!)).1)[k]!))) ((zI g_States (qX s (g_States[i]!)).1 k).1).length)] (sw (zG H underlying22 ti2 [yI (firstIdx (fun zz=>decide (((zI g_States (qX s (g_States[i]!)).1 k).1)[zz]! =(((qX s (g_States[i]!)).1)[k]!))) ((zI g_States (qX s (g_States[i]!)).1 k).1).length)] fun b116 w117 H=>?_)))))
    refine sw (zQ H 1 rfl 0 rfl underlying22 ti2 rfl qj rfl rfl rfl (by simp [Value.oneCell',Value.cells]) qp qf fun a118 c119 w120 H=>?_)
    rw [snocI] at H
    refine sp (.slice a118 (n_row+1) c119) (zf (b_n (t_n (xZ (sp (yI k) (sw (zD k 1 rfl rfl qf (sp (yI (k+1)) (zf ?_)))))))))
    refine xf (m' :=((((qX s (g_States[i]!)).1).length) - ((k+1):Int)).toNat) qf ⟨_,VV,XX,VR,(from_++List.replicate ((zI g_States (qX s (g_States[i]!)).1 k).1.length - g_States.length) (i:Int)),a118,n_row+1,c119,(((zI g_States (qX s (g_States[i]!)).1 k).2)++[firstIdx (fun zz=>decide (((zI g_States (qX s (g_States[i]!)).1 k).1)[zz]! =(((qX s (g_States[i]!)).1)[k]!))) ((zI g_States (qX s (g_States[i]!)).1 k).1).length]),k+1,yw,zT,yt,((zI g_States (qX s (g_States[i]!)).1 k).1),yh,jM,uE8,?_,?_,?_,?_,rfl,N,H.pick [1,2,3,4,5,6,7,8,9,10] [4,5,6,7,8,9,10,11,12,13,14,15,16,17]⟩
    · first | exact rep_new (by rw [← (YW (k:=k) ‹_›).1,List.length_append,List.length_singleton];omega) | rw [← (YV (k:=k) ‹_›).1]
    · first | exact (YV (k:=k) ‹_›).2 | (refine Eq.trans ?_ (YW (k:=k) ‹_›).2;congr 2 <;> omega)
    · first | exact (YW (k:=k) ‹_›).1 | exact (YV (k:=k) ‹_›).1
    · omega
   refine zx4 (zcr (oF rfl (oL rfl (H.cell 4 rfl rfl) (sp (.slice a_row n_row c_row) (sw (zG H underlying27 ti22 [.slice a_row n_row c_row] fun b121 w122 H=>?_))))))
   obtain ⟨G126,N,hn127,H⟩:=H.vP 1 rfl N (H.jQ [0,4])
   refine sw (zQ H 3 rfl 0 rfl underlying27 ti22 rfl qj rfl rfl rfl (by simp [Value.oneCell',Value.cells]) qp qf fun a123 c124 w125 H=>?_)
   replace H:=H.yg 5 rfl 0 rfl
   replace N:Fresh w.heap.size [(jT++G126),G71]:=(N.pick [2,0,1]).join
   refine oF rfl (sw (zJ H 5 [.slice yw zT yt,.slice a123 (jS+1) c124] sizeOf27 fun w128 H=>zjc (oF rfl (oL rfl (H.cell 5 rfl rfl) (oN rfl (sp (.bool (decide ((zT:Int) > 300))) (zjn (cD rfl (fun h129=>?_) (fun h129=>?_)))))))))
   ·skip
    refine zcr (sw (jF [yN,yN] [] (sp (.slice VV XX VR) (sw (zA H 7 [yN,yN] sizeOf59 fun w130 H=>sps [.slice VV XX VR,yI 3] (zjr (zr5 (retC3 H 7 rfl (.slice VV XX VR) (yI 3) rfl isAgg59 sizeOf59 rfl rfl rfl ⟨_,rfl,?_⟩))))))))
    replace H:=H.erases [7,6,5,3,2,1,0]
    dsimp only [vZ,List.eraseIdx] at H
    refine sps [.tuple #[.agg #[yN,yN],.slice VV XX VR,yI 3],.agg #[yN,yN],.slice VV XX VR,yI 3] (sw (xY H ti59 [yN,yN] fun b131 w132 H=>sw (zA H 0 [yN,yN] sizeOf59 fun w133 H=>sps [.slice VV XX VR,yI 3] (zjcc (sps [yI 3,.bool true] (zjn (xI true rfl (fun _=>zcr (sw (vI H underlying27 ti22 fun b134 w135 H=>?_))) (fun h=>absurd h qj))))))))
    refine sps [yI 3,.slice (aa b134 0) 0 0,yI 3] (zjr (t_r ?_))
    replace H:=H.boxRow 0 rfl 1 0 rfl qj
    replace H:=H.vG (α:=yLI)
    have H0:=H
    obtain ⟨G136,hg138,hn137,H⟩:=H.QA (α:=yLI) 0 rfl 0 rfl qj
    replace N:Fresh w.heap.size [G136,(jT++G126),G71]:=Fresh.ice N.emp H0 0 hg138.1 hg138.2 (H0.jQ [1,3])
    clear H0
    refine ret2 (.slice (aa b134 0) 0 0) (yI 3) rfl rfl rfl ⟨_,rfl,?_,H.base⟩
    rw [st_c' ⟨k1,by assumption⟩ (ex_of k0 (kr.trans (gr_many qf qf qf (k:=k) qf qf))).2 (by first | assumption | decide)]
    exact ⟨(aa b134 0),0,G136,rfl,(N.pick [0]),H.pick [] [0]⟩
   refine qV (b_n (t_n (xZ (sp (yI i) (sw (zD i 1 rfl rfl qf (sp (yI (i+1)) (zf ?_))))))))
   refine xf (m' :=(301 - (i+1))) qf ⟨_,VV,XX,VR,(from_++List.replicate ((zI g_States (qX s (g_States[i]!)).1 k).1.length - g_States.length) (i:Int)),i+1,yw,zT,yt,((zI g_States (qX s (g_States[i]!)).1 k).1),yh,jM,a123,jS+1,c124,(g_Next++[((zI g_States (qX s (g_States[i]!)).1 k).2)]),Vq++[.slice a_row n_row c_row],(jT++G126),uE5,?_,?_,?_,?_,?_,?_,?_,?_,rfl,(N.pick [0]),H.pick [3,4,5,6,7,8,9,10] [0,7,8,9,10,11,12,13,14,15]⟩
   · exact kr.trans (gr_go qf qf qf (k:=k) qf qf)
   · exact addSt_mem ka succ_ok k qf
   · omega
   · simp;omega
   · omega
   · exact ko.next qf qf
   · have h:=(kfo.next ko (nx:=(qX s (g_States[i]!)).1) (k:=k) (i:=i) qf qf).len;omega
   · exact kfo.next ko qf qf
  refine zx4 (zcr (sw (zg [.slice Qq jX yD,.slice yO jS yM] isAgg59 sizeOf59 rfl (qF (H.cells 2 rfl) 0 2) (sp (.slice a_from n_from c_from) (sw (zA H 4 [.slice Qq jX yD,.slice yO jS yM] sizeOf59 fun w139 H=>sps [.slice a_from n_from c_from,yI 0] (zjr (retC3 H 4 rfl (.slice a_from n_from c_from) (yI 0) rfl isAgg59 sizeOf59 rfl rfl rfl ⟨_,rfl,?_⟩))))))))
  replace H:=H.erases [4,2]
  dsimp only [vZ,List.eraseIdx] at H
  refine sps [.tuple #[.agg #[.slice Qq jX yD,.slice yO jS yM],.slice a_from n_from c_from,yI 0],.agg #[.slice Qq jX yD,.slice yO jS yM],.slice a_from n_from c_from,yI 0] (sw (xY H ti59 [yN,yN] fun b140 w141 H=>sw (zA H 0 [.slice Qq jX yD,.slice yO jS yM] sizeOf59 fun w142 H=>sps [.slice a_from n_from c_from,yI 0] (zjcc (sps [yI 0,.bool false] (zjn (xI false rfl (fun h=>absurd h qj) (fun _=>?_))))))))
  refine qV (t_n (zcr (oF rfl (oL rfl (H.cell 0 rfl rfl) ?_))))
  obtain ⟨G143,hn144,h145⟩:=H.Jn (α:=qI) 3 rfl 1 rfl qj
  have ee:=ex_of k0 (kr.trans (gr_end qf))
  have ga:=ex_all ee.2
  have gx:=ex_nx ee.2
  rw [ee.1] at ga gx
  have g1:GrOk g_States g_Next:=ga.ok
  have g2:GrNx s g_States g_Next:=gx
  have g3:g_States.length≤300:=ga.le
  have g4:∀ u∈g_States,zt s u:=ga.st
  refine sw (oq (Yt (by rw [← hn144]) (l03Find_ok _ g_States u (hn144▸h145) (qF (H.cells 4 rfl) 0 3) (H.get 7 rfl).1 (H.get 8 rfl).1 (H.get 9 rfl).1)) H fun w147 H=>sp (yI (firstIdx (fun zz=>decide (g_States[zz]! =u)) g_States.length)) (zjcc (sps [yI (firstIdx (fun zz=>decide (g_States[zz]! =u)) g_States.length),.bool (decide ((firstIdx (fun zz=>decide (g_States[zz]! =u)) g_States.length:Int) < 0))] (zjn (cD rfl (fun h149=>?_) (fun h149=>?_))))))
  ·skip
   refine zcr (sw (vI H underlying27 ti22 fun b150 w151 H=>sps [.slice (aa b150 0) 0 0,yI 6] (zjr (t_r ?_))))
   replace H:=H.boxRow 0 rfl 1 0 rfl qj
   replace H:=H.vG (α:=yLI)
   have H0:=H
   obtain ⟨G152,hg154,hn153,H⟩:=H.QA (α:=yLI) 0 rfl 0 rfl qj
   replace N:Fresh w.heap.size [G152,jT]:=Fresh.ice N.emp H0 0 hg154.1 hg154.2 (H0.jQ [1])
   clear H0
   refine ret2 (.slice (aa b150 0) 0 0) (yI 6) rfl rfl rfl ⟨_,rfl,?_,H.base⟩
   rw [st_6' ⟨k1,by assumption⟩ ee ql]
   exact ⟨(aa b150 0),0,G152,rfl,(N.pick [0]),H.pick [] [0]⟩
  have fi:0≤firstIdx (fun zz=>decide (g_States[zz]! =u)) g_States.length∧(firstIdx (fun zz=>decide (g_States[zz]! =u)) g_States.length).toNat < g_States.length:=⟨by omega,firstIdx_lt qf⟩
  refine qV (t_n (zcr (sps [.slice a_from n_from c_from,yI (firstIdx (fun zz=>decide (g_States[zz]! =u)) g_States.length)] ?_)))
  obtain ⟨G155,hn156,h157⟩:=H.Jn (α:=qI) 3 rfl 1 rfl qj
  obtain ⟨G158,hn159,h160⟩:=H.Jn (α:=yLI) 1 rfl 0 rfl qj
  obtain ⟨G161,hn162,h163⟩:=H.rowIsI 2 rfl
  have sz167:=H.base.size
  have lt168:=H.ltN (L:=[jT]) [0]
  refine sw (oc (Yt (by rw [← hn162]) (way_ok _ s (⟨g_States,g_Next⟩:GraphD) from_ (firstIdx (fun zz=>decide (g_States[zz]! =u)) g_States.length) (qF (H.cells 6 rfl) 0 3) (H.get 2 rfl).1 (H.get 3 rfl).1 (by have hz:=(qF (H.cells 0 rfl) 0 2);rw [hn156,hn159] at hz;exact hz) (hn156▸h157) (hn159▸h160) (hn162▸h163) qg qg qg qg qg qg qg)) ?_)
  rintro _ w165 ⟨ra164,rn164,rc164,rx164,rF164,rfl,M,K⟩ _
  replace N:=N.merge sz167 lt168 M
  replace H:=H.merge K M
  obtain rfl:=H.zi (α:=yLI) 0 rfl 0 rfl qj
  refine sps [.slice ra164 ((wayL s (⟨g_States,g_Next⟩:GraphD).qR (⟨g_States,g_Next⟩:GraphD).fNext ((firstIdx (fun zz=>decide (g_States[zz]! =u)) g_States.length):Int).toNat).length) rc164,yI 0] (zjr ?_)
  have H0:=H
  obtain ⟨G170,hg172,hn171,H⟩:=H.QA (α:=yLI) 0 rfl 0 rfl qj
  replace N:Fresh w.heap.size [G170,jT]:=Fresh.ice N H0 0 hg172.1 hg172.2 (H0.jQ [1])
  clear H0
  refine ret2 (.slice ra164 ((wayL s (⟨g_States,g_Next⟩:GraphD).qR (⟨g_States,g_Next⟩:GraphD).fNext ((firstIdx (fun zz=>decide (g_States[zz]! =u)) g_States.length):Int).toNat).length) rc164) (yI 0) rfl rfl rfl ⟨_,rfl,?_,H.base⟩
  rw [st_0' ⟨k1,by assumption⟩ ee qf]
  exact ⟨ra164,rc164,G170,rfl,(N.pick [0]),H.pick [] [0]⟩
 replace h10:=xn h10
 replace h10:=zX h10
 refine zo [15,16] (sp (.bool true) (zjn (xI true rfl (fun _=>zcr (sw (vI H underlying27 ti22 fun b173 w174 H=>sps [.slice (aa b173 0) 0 0,yI 1] (zjr (t_r ?_))))) (fun h=>absurd h qj))))
 replace H:=H.boxRow 0 rfl 1 0 rfl qj
 replace H:=H.vG (α:=yLI)
 have H0:=H
 obtain ⟨G175,hg177,hn176,H⟩:=H.QA (α:=yLI) 0 rfl 0 rfl qj
 replace N:Fresh w.heap.size [G175]:=Fresh.ice N.emp H0 0 hg177.1 hg177.2 (H0.jQ [])
 clear H0
 refine ret2 (.slice (aa b173 0) 0 0) (yI 1) rfl rfl rfl ⟨_,rfl,?_,H.base⟩
 first | rw [st_1' ‹_›] | rw [st_1 (fun h=>absurd h.2 ‹_›)]
 exact ⟨(aa b173 0),0,G175,rfl,N,H.pick [] [0]⟩

theorem implST_ok (w:World) (s:qG) (t:qI) (u:qI) {qC:yOA} {qZ:yLN} {qL:yOA} {xE:yLN} {qW:yOA} {xR:yLN} {xw:yOA} {zC:yLN} {qO:yOA} {xK:yLN} {yE:yOA} {Yx:yLN} {Q8:yOA} {FuBags:yLN} {jm:yOA} {Vd:yLN} (xe:qM.rep w qZ [.slice qC s.qw.length qB] s.qw) (xJ:qM.rep w xE [.slice qL s.qx.length qJ] s.qx) (zn:qM.rep w xR [.slice qW t.qy.length qU] t.qy) (zK:qM.rep w zC [.slice xw t.qE.length xm] t.qE) (xP:qM.rep w xK [.slice qO t.qA.length qN] t.qA) (Vt:qM.rep w Yx [.slice yE u.qy.length yB] u.qy) (huBags:qM.rep w FuBags [.slice Q8 u.qE.length Q5] u.qE) (Xm:qM.rep w Vd [.slice jm u.qA.length jl] u.qA):Calls Tryz.prog 46 #[.agg #[yI s.xC,.slice qC s.qw.length qB,.slice qL s.qx.length qJ],.agg #[.slice qW t.qy.length qU,.slice xw t.qE.length xm,.slice qO t.qA.length qN],.agg #[.slice yE u.qy.length yB,.slice Q8 u.qE.length Q5,.slice jm u.qA.length jl]] w (Ret (fun v w' =>∃ (ra0:yOA) (rc0:Nat) (rF0:yLN),v=.tuple #[.slice ra0 (((zW s t u).1).length) rc0,yI ((zW s t u).2)]∧Fresh w.heap.size [rF0]∧St w w' [] [sF true rF0 ra0 rc0 ((zW s t u).1)]) w):=by
 refine en func46 ntmps46 ?_
 have H:=((((((((St.start w).arg Xm).arg huBags).arg Vt).arg xP).arg zK).arg zn).arg xJ).arg xe
 have zY:=qK xe
 have je:=qK xJ
 have Qr:=qK zn
 have Xj:=qK zK
 have jR:=qK xP
 have nhuAlive:=qK Vt
 have nhuBags:=qK huBags
 have nhuAround:=qK Xm
 clear xe xJ zn zK xP Vt huBags Xm
 have N:=Fresh.nil w.heap.size
 refine zcr (sw (vF H (yS s qC qB qL qJ) fun b1 w2 H=>sw (vF H (yT t qW qU xw xm qO qN) fun b3 w4 H=>sw (vF H (yT u yE yB Q8 Q5 jm jl) fun b5 w6 H=>sps [yN,yI 0] (zjcc ?_)))))
 refine sw (zg (yS s qC qB qL qJ) isAgg36 sizeOf36 rfl (qF (H.cells 2 rfl) 0 3) (sw (zg (yT u yE yB Q8 Q5 jm jl) isAgg38 sizeOf38 rfl (qF (H.cells 0 rfl) 0 3) (sw (oq (validState_ok _ s u (H.get 0 rfl).1 (H.get 1 rfl).1 (H.get 5 rfl).1 (H.get 6 rfl).1 (H.get 7 rfl).1) H fun w8 H=>sp (.bool (!(dec (ja s∧zt s u)))) (zjn (cQ rfl (fun h10=>?_) (fun h10=>?_))))))))
 ·skip
  refine zcr (sps [yN,yI 1] (zjr (t_r ?_)))
  replace H:=H.addNil (α:=yLI)
  refine ret2 yN (yI 1) rfl rfl rfl ⟨_,rfl,?_,H.base⟩
  rw [st_1 ‹_›]
  exact ⟨none,0,[],rfl,N.emp,H.pick [] [0]⟩
 have kk:=(‹ja s∧zt s u›:ja s∧zt s u)
 have k1:=kk.1
 refine qV (t_n (zcr (sw (zg (yS s qC qB qL qJ) isAgg36 sizeOf36 rfl (qF (H.cells 2 rfl) 0 3) (sw (zg (yT t qW qU xw xm qO qN) isAgg38 sizeOf38 rfl (qF (H.cells 1 rfl) 0 3) ?_))))))
 have sz14:=H.base.size
 refine sw (oc (implEx_ok _ s t (H.get 0 rfl).1 (H.get 1 rfl).1 (H.get 2 rfl).1 (H.get 3 rfl).1 (H.get 4 rfl).1) ?_)
 rintro _ w12 ⟨ra11aStates,rc11aStates,rF11aStates,ra11aNext,rc11aNext,rF11aNext,rfl,M,K⟩ _
 replace N:=N.merge sz14 qm M
 replace H:=H.merge K M
 refine sps [.tuple #[.agg #[.slice ra11aStates (((exG s t).qR).length) rc11aStates,.slice ra11aNext (((exG s t).fNext).length) rc11aNext],yI ((Yp s t).2)],.agg #[.slice ra11aStates (((exG s t).qR).length) rc11aStates,.slice ra11aNext (((exG s t).fNext).length) rc11aNext],yI ((Yp s t).2)] (sw (xY H ti59 [yN,yN] fun b16 w17 H=>sw (zA H 0 [.slice ra11aStates (((exG s t).qR).length) rc11aStates,.slice ra11aNext (((exG s t).fNext).length) rc11aNext] sizeOf59 fun w18 H=>sp (yI ((Yp s t).2)) (zjcc ?_))))
 refine sps [yI ((Yp s t).2),.bool (((Yp s t).2:Int) != 0)] (zjn (xI (((Yp s t).2:Int) != 0) rfl (fun h19=>?_) (fun h19=>?_)))
 ·skip
  replace h19:=bne_iff_ne.1 h19
  refine zcr (sps [yI ((Yp s t).2),yN,yI ((Yp s t).2)] (zjr (t_r ?_)))
  replace H:=H.addNil (α:=yLI)
  refine ret2 yN (yI ((Yp s t).2)) rfl rfl rfl ⟨_,rfl,?_,H.base⟩
  rw [st_c kk ql]
  exact ⟨none,0,[],rfl,(N.emp.pick [0]),H.pick [] [0]⟩
 replace h19:=xq h19
 have c0:(Yp s t).2=0:=by omega
 have ga:=ex_all c0
 have gx:=ex_nx c0
 have gn:=ga.len
 have gl:=ga.le
 have g1:=ga.ok
 have g4:=ga.st
 refine qV (t_n (zcr (oF rfl (oL rfl (H.cell 0 rfl rfl) (sw (zg (yT u yE yB Q8 Q5 jm jl) isAgg38 sizeOf38 rfl (qF (H.cells 1 rfl) 0 3) (sw (oq (find_ok _ ((exG s t).qR) u (H.get 0 rfl).1 (H.get 7 rfl).1 (H.get 8 rfl).1 (H.get 9 rfl).1) H fun w21 H=>sp (yI (firstIdx (fun zz=>decide (((exG s t).qR)[zz]! =u)) ((exG s t).qR).length)) (zjcc ?_)))))))))
 refine sps [yI (firstIdx (fun zz=>decide (((exG s t).qR)[zz]! =u)) ((exG s t).qR).length),.bool (decide ((firstIdx (fun zz=>decide (((exG s t).qR)[zz]! =u)) ((exG s t).qR).length:Int) < 0))] (zjn (cD rfl (fun h23=>?_) (fun h23=>?_)))
 ·skip
  refine zcr (sps [yN,yI 6] (zjr (t_r ?_)))
  replace H:=H.addNil (α:=yLI)
  refine ret2 yN (yI 6) rfl rfl rfl ⟨_,rfl,?_,H.base⟩
  rw [st_6 kk c0 ql]
  exact ⟨none,0,[],rfl,(N.emp.pick [0]),H.pick [] [0]⟩
 have fi:0≤firstIdx (fun zz=>decide ((exG s t).qR[zz]! =u)) (exG s t).qR.length∧(firstIdx (fun zz=>decide ((exG s t).qR[zz]! =u)) (exG s t).qR.length).toNat < (exG s t).qR.length:=⟨by omega,firstIdx_lt qf⟩
 refine qV (t_n (zcr (sw (zg (yS s qC qB qL qJ) isAgg36 sizeOf36 rfl (qF (H.cells 3 rfl) 0 3) (sw (zg [.slice ra11aStates (((exG s t).qR).length) rc11aStates,.slice ra11aNext (((exG s t).fNext).length) rc11aNext] isAgg59 sizeOf59 rfl (qF (H.cells 0 rfl) 0 2) (sp (yI (firstIdx (fun zz=>decide (((exG s t).qR)[zz]! =u)) ((exG s t).qR).length)) ?_)))))))
 have sz27:=H.base.size
 have lt28:=H.ltN (L:=[rF11aStates,rF11aNext]) [0,1]
 refine sw (oc (path_ok _ s (exG s t) (firstIdx (fun zz=>decide (((exG s t).qR)[zz]! =u)) ((exG s t).qR).length) (H.get 2 rfl).1 (H.get 3 rfl).1 (H.get 0 rfl).1 (H.get 1 rfl).1 qg qg qg qg qg qg qg) ?_)
 rintro _ w25 ⟨ra24a,rc24a,rF24a,rfl,M,K⟩ _
 replace N:=N.merge sz27 lt28 M
 replace H:=H.merge K M
 refine sps [.slice ra24a ((wayL s (exG s t).qR (exG s t).fNext ((firstIdx (fun zz=>decide (((exG s t).qR)[zz]! =u)) ((exG s t).qR).length):Int).toNat).length) rc24a,yI 0,.slice ra24a ((wayL s (exG s t).qR (exG s t).fNext ((firstIdx (fun zz=>decide (((exG s t).qR)[zz]! =u)) ((exG s t).qR).length):Int).toNat).length) rc24a,yI 0] (zjr (ret2 (.slice ra24a ((wayL s (exG s t).qR (exG s t).fNext ((firstIdx (fun zz=>decide (((exG s t).qR)[zz]! =u)) ((exG s t).qR).length):Int).toNat).length) rc24a) (yI 0) rfl rfl rfl ⟨_,rfl,?_,H.base⟩))
 rw [st_0 kk c0 qf]
 exact ⟨ra24a,rc24a,rF24a,rfl,(N.pick [0]),H.pick [] [0]⟩

theorem law_ShortestTo (w:World) (aS:qG) (aT:qI) (aU:qI) (yF:yOA) (yC:Nat) (VK:yLN) (Xu:yOA) (Xq:Nat) (FaSRules:yLN) (Xt:yOA) (Xp:Nat) (FaTAlive:yLN) (VE:yOA) (Vz:Nat) (FaTBags:yLN) (QI:yOA) (QD:Nat) (Y4:yLN) (Xr:yOA) (Xo:Nat) (FaUAlive:yLN) (VD:yOA) (Vy:Nat) (FaUBags:yLN) (QH:yOA) (QC:Nat) (Y3:yLN) (haSParents:qM.rep w VK [.slice yF aS.qw.length yC] aS.qw) (haSRules:qM.rep w FaSRules [.slice Xu aS.qx.length Xq] aS.qx) (haTAlive:qM.rep w FaTAlive [.slice Xt aT.qy.length Xp] aT.qy) (haTBags:qM.rep w FaTBags [.slice VE aT.qE.length Vz] aT.qE) (haTAround:qM.rep w Y4 [.slice QI aT.qA.length QD] aT.qA) (haUAlive:qM.rep w FaUAlive [.slice Xr aU.qy.length Xo] aU.qy) (haUBags:qM.rep w FaUBags [.slice VD aU.qE.length Vy] aU.qE) (haUAround:qM.rep w Y3 [.slice QH aU.qA.length QC] aU.qA):Calls Tryz.prog 10 #[.agg #[yI aS.xC,.slice yF aS.qw.length yC,.slice Xu aS.qx.length Xq],.agg #[.slice Xt aT.qy.length Xp,.slice VE aT.qE.length Vz,.slice QI aT.qA.length QD],.agg #[.slice Xr aU.qy.length Xo,.slice VD aU.qE.length Vy,.slice QH aU.qA.length QC]] w (Ret (fun v w' =>v=.bool true) w):=by
 refine en func10 ntmps10 ?_
 have H:=((((((((St.start w).arg haUAround).arg haUBags).arg haUAlive).arg haTAround).arg haTBags).arg haTAlive).arg haSRules).arg haSParents
 have nhaSParents:=qK haSParents
 have nhaSRules:=qK haSRules
 have nhaTAlive:=qK haTAlive
 have nhaTBags:=qK haTBags
 have nhaTAround:=qK haTAround
 have nhaUAlive:=qK haUAlive
 have nhaUBags:=qK haUBags
 have nhaUAround:=qK haUAround
 clear haSParents haSRules haTAlive haTBags haTAround haUAlive haUBags haUAround
 have N:=Fresh.nil w.heap.size
 have A:=H.ltN (L:=[VK,FaSRules,FaTAlive,FaTBags,Y4,FaUAlive,FaUBags,Y3]) [0,1,2,3,4,5,6,7]
 have t1:=tot_SystemD aS
 have t2:=tot_StateD aT
 have c0:=XZ aS.qw
 have c1:=XZ aS.qx
 have c2:=XZ aT.qy
 have c3:=XZ aT.qE
 have c4:=XZ aT.qA
 have t3:=tot_StateD aU
 have c5:=XZ aU.qy
 have c6:=XZ aU.qE
 have c7:=XZ aU.qA
 have f1:=few_st aS aT aU
 refine zcr (sw (vF H (yS aS yF yC Xu Xq) fun b1 w2 H=>sw (vF H (yT aT Xt Xp VE Vz QI QD) fun b3 w4 H=>sw (vF H (yT aU Xr Xo VD Vy QH QC) fun b5 w6 H=>sp (.bool false) (zjc (sp (yI 1048576) (zjc ?_)))))))
 refine sw (zg (yS aS yF yC Xu Xq) isAgg25 sizeOf25 rfl (qF (H.cells 2 rfl) 0 3) (sp (yI 1048576) (sw (oq (szSystem_ok _ aS 1048576 (H.get 0 rfl).1 (H.get 1 rfl).1 qf) H fun w7 H=>?_))))
 have:=zL (tot aS) 1048576
 refine sp (yI (szR (tot aS) 1048576)) (zjcc (sps [yI (szR (tot aS) 1048576),.bool (decide ((szR (tot aS) 1048576:Int) < 0))] (zjn (cD rfl (fun h9=>?_) (fun h9=>?_)))))
 ·skip
  refine zcr (sp (.bool true) (zjr (t_r (ret1 (.bool true) rfl rfl ⟨_,rfl,?_,H.base⟩))))
  rfl
 refine qV (t_n (zcr (sw (zg (yT aT Xt Xp VE Vz QI QD) isAgg29 sizeOf29 rfl (qF (H.cells 1 rfl) 0 3) (sp (yI (szR (tot aS) 1048576)) (sw (oq (szState_ok _ aT (szR (tot aS) 1048576) (H.get 2 rfl).1 (H.get 3 rfl).1 (H.get 4 rfl).1 qf) H fun w10 H=>?_)))))))
 have:=zL (tot aT) (szR (tot aS) 1048576)
 refine sp (yI (szR (tot aT) (szR (tot aS) 1048576))) (zjcc (sps [yI (szR (tot aT) (szR (tot aS) 1048576)),.bool (decide ((szR (tot aT) (szR (tot aS) 1048576):Int) < 0))] (zjn (cD rfl (fun h12=>?_) (fun h12=>?_)))))
 ·skip
  refine zcr (sp (.bool true) (zjr (t_r (ret1 (.bool true) rfl rfl ⟨_,rfl,?_,H.base⟩))))
  rfl
 refine qV (t_n (zcr (sw (zg (yT aU Xr Xo VD Vy QH QC) isAgg29 sizeOf29 rfl (qF (H.cells 0 rfl) 0 3) (sp (yI (szR (tot aT) (szR (tot aS) 1048576))) (sw (oq (szState_ok _ aU (szR (tot aT) (szR (tot aS) 1048576)) (H.get 5 rfl).1 (H.get 6 rfl).1 (H.get 7 rfl).1 qf) H fun w13 H=>?_)))))))
 have:=zL (tot aU) (szR (tot aT) (szR (tot aS) 1048576))
 refine sp (yI (szR (tot aU) (szR (tot aT) (szR (tot aS) 1048576)))) (zjcc (sps [yI (szR (tot aU) (szR (tot aT) (szR (tot aS) 1048576))),.bool (decide ((szR (tot aU) (szR (tot aT) (szR (tot aS) 1048576)):Int) < 0))] (zjn (cD rfl (fun h15=>?_) (fun h15=>?_)))))
 ·skip
  refine zcr (sp (.bool true) (zjr (t_r (ret1 (.bool true) rfl rfl ⟨_,rfl,?_,H.base⟩))))
  rfl
 refine qV (t_n (xQ ?_))
 refine vS rfl H fun H=>rt 0 (.agg #[yI aS.xC,.slice yF aS.qw.length yC,.slice Xu aS.qx.length Xq]) (yR (cs:=(yS aS yF yC Xu Xq)) isAgg25 sizeOf25 rfl (fun _ h=>qF (h.cells 2 rfl) 0 3)) H ?_
 refine rt 2 (.agg #[.slice Xt aT.qy.length Xp,.slice VE aT.qE.length Vz,.slice QI aT.qA.length QD]) (yR (cs:=(yT aT Xt Xp VE Vz QI QD)) isAgg29 sizeOf29 rfl (fun _ h=>qF (h.cells 1 rfl) 0 3)) H ?_
 refine rt 4 (.agg #[.slice Xr aU.qy.length Xo,.slice VD aU.qE.length Vy,.slice QH aU.qA.length QC]) (yR (cs:=(yT aU Xr Xo VD Vy QH QC)) isAgg29 sizeOf29 rfl (fun _ h=>qF (h.cells 0 rfl) 0 3)) H ?_
 refine ro 1 rfl ?_
 have sz17:=H.base.size
 refine oc (toSystem_ok _ aS (H.get 0 rfl).1 (H.get 1 rfl).1 qg) ?_
 rintro v22 w20 r22 x21
 obtain ⟨a22Parents,c22Parents,vW,a22Rules,c22Rules,yP,rfl,f22,H⟩:=H.add_SystemD x21 r22
 replace N:=N.cons f22 sz17 (by intro F hF;simp at hF)
 replace N:=N.split
 refine ⟨H.pick [0,1,2] [2,3,4,5,6,7,8,9],(ro 3 rfl ?_)⟩
 have sz23:=H.base.size
 have lt24:=H.ltN (L:=[vW,yP]) [0,1]
 refine oc (Jm _ aT (H.get 4 rfl).1 (H.get 5 rfl).1 (H.get 6 rfl).1 qg) ?_
 rintro v28 w26 r28 x27
 obtain ⟨a28Alive,c28Alive,Qh,a28Bags,c28Bags,Xa,a28Around,c28Around,jL,rfl,f28,H⟩:=H.Js x27 r28
 replace N:=N.cons f28 sz23 lt24
 replace N:=N.split
 replace N:=N.split
 refine ⟨H.pick [0,1,2] [5,6,7,8,9,10,11,12],(ro 5 rfl ?_)⟩
 have sz29:=H.base.size
 have lt30:=H.ltN (L:=[Qh,Xa,jL,vW,yP]) [0,1,2,3,4]
 refine oc (Jm _ aU (H.get 10 rfl).1 (H.get 11 rfl).1 (H.get 12 rfl).1 qg) ?_
 rintro v34 w32 r34 x33
 obtain ⟨a34Alive,c34Alive,Qu,a34Bags,c34Bags,Xy,a34Around,c34Around,jV,rfl,f34,H⟩:=H.Js x33 r34
 replace N:=N.cons f34 sz29 lt30
 replace N:=N.split
 replace N:=N.split
 refine ⟨H.pick [0,1,2] [8,9,10,11,12,13,14,15],(ro 6 rfl ?_)⟩
 have sz38:=H.base.size
 have lt39:=H.ltN (L:=[Qu,Xy,jV,Qh,Xa,jL,vW,yP]) [0,1,2,3,4,5,6,7]
 refine oc (specST_ok _ aS aT aU (H.get 6 rfl).1 (H.get 7 rfl).1 (H.get 3 rfl).1 (H.get 4 rfl).1 (H.get 5 rfl).1 (H.get 0 rfl).1 (H.get 1 rfl).1 (H.get 2 rfl).1) ?_
 rintro _ w36 ⟨ra35a,rc35a,rF35a,rfl,M,K⟩ _
 replace N:=N.merge sz38 lt39 M
 replace H:=H.merge K M
 refine ⟨H.pick [0,1,2] [9,10,11,12,13,14,15,16],?_⟩
 have S:=H.yG [0,1,2] [9,10,11,12,13,14,15,16]
 refine rtp 7 (.tuple #[.slice ra35a (((zW aS aT aU).1).length) rc35a,yI ((zW aS aT aU).2)]) S ?_
 refine rtp 8 (.slice ra35a (((zW aS aT aU).1).length) rc35a) S ?_
 refine rtp 9 (yI ((zW aS aT aU).2)) S ?_
 refine rtp 10 (.slice ra35a (((zW aS aT aU).1).length) rc35a) S ?_
 refine rtp 11 (yI ((zW aS aT aU).2)) S ?_
 refine xO qh (t_n (zcr (sw (zg (yS aS yF yC Xu Xq) isAgg25 sizeOf25 rfl (qF (H.cells 2 rfl) 0 3) ?_))))
 have sz40:=H.base.size
 have lt41:=H.ltN (L:=[rF35a,Qu,Xy,jV,Qh,Xa,jL,vW,yP]) [0,1,2,3,4,5,6,7,8]
 refine sw (oc (toSystem_ok _ aS (H.get 9 rfl).1 (H.get 10 rfl).1 qg) ?_)
 rintro v45 w43 r45 x44
 obtain ⟨QM,QL,jd,Va,X5,Qg,rfl,f45,H⟩:=H.add_SystemD x44 r45
 replace N:=N.cons f45 sz40 lt41
 replace N:=N.split
 refine sw (xY H ti36 [yI 0,yN,yN] fun b46 w47 H=>sw (zA H 0 (yS aS QM QL Va X5) sizeOf36 fun w48 H=>zjc (sw (zg (yT aT Xt Xp VE Vz QI QD) isAgg29 sizeOf29 rfl (qF (H.cells 2 rfl) 0 3) ?_))))
 have sz49:=H.base.size
 have lt50:=H.ltN (L:=[jd,Qg,rF35a,Qu,Xy,jV,Qh,Xa,jL,vW,yP]) [0,1,2,3,4,5,6,7,8,9,10]
 refine sw (oc (Jm _ aT (H.get 13 rfl).1 (H.get 14 rfl).1 (H.get 15 rfl).1 qg) ?_)
 rintro v54 w52 r54 x53
 obtain ⟨X9,X4,Qs,Yw,Yr,Xx,Xh,Xe,jU,rfl,f54,H⟩:=H.Js x53 r54
 replace N:=N.cons f54 sz49 lt50
 replace N:=N.split
 replace N:=N.split
 refine sw (xY H ti38 [yN,yN,yN] fun b55 w56 H=>sw (zA H 0 (yT aT X9 X4 Yw Yr Xh Xe) sizeOf38 fun w57 H=>zjc (sw (zg (yT aU Xr Xo VD Vy QH QC) isAgg29 sizeOf29 rfl (qF (H.cells 2 rfl) 0 3) ?_))))
 have sz58:=H.base.size
 have lt59:=H.ltN (L:=[Qs,Xx,jU,jd,Qg,rF35a,Qu,Xy,jV,Qh,Xa,jL,vW,yP]) [0,1,2,3,4,5,6,7,8,9,10,11,12,13]
 refine sw (oc (Jm _ aU (H.get 19 rfl).1 (H.get 20 rfl).1 (H.get 21 rfl).1 qg) ?_)
 rintro v63 w61 r63 x62
 obtain ⟨X8,X3,QK,Yv,Yq,XH,Xg,Xd,yx,rfl,f63,H⟩:=H.Js x62 r63
 replace N:=N.cons f63 sz58 lt59
 replace N:=N.split
 replace N:=N.split
 refine sw (xY H ti38 [yN,yN,yN] fun b64 w65 H=>sw (zA H 0 (yT aU X8 X3 Yv Yq Xg Xd) sizeOf38 fun w66 H=>zjc (sw (zg (yS aS QM QL Va X5) isAgg36 sizeOf36 rfl (qF (H.cells 2 rfl) 0 3) ?_))))
 refine sw (zg (yT aT X9 X4 Yw Yr Xh Xe) isAgg38 sizeOf38 rfl (qF (H.cells 1 rfl) 0 3) (sw (zg (yT aU X8 X3 Yv Yq Xg Xd) isAgg38 sizeOf38 rfl (qF (H.cells 0 rfl) 0 3) ?_)))
 have sz70:=H.base.size
 have lt71:=H.ltN (L:=[QK,XH,yx,Qs,Xx,jU,jd,Qg,rF35a,Qu,Xy,jV,Qh,Xa,jL,vW,yP]) [0,1,2,3,4,5,6,7,8,9,10,11,12,13,14,15,16]
 refine sw (oc (implST_ok _ aS aT aU (H.get 6 rfl).1 (H.get 7 rfl).1 (H.get 3 rfl).1 (H.get 4 rfl).1 (H.get 5 rfl).1 (H.get 0 rfl).1 (H.get 1 rfl).1 (H.get 2 rfl).1) ?_)
 rintro _ w68 ⟨ra67a,rc67a,rF67a,rfl,M,K⟩ _
 replace N:=N.merge sz70 lt71 M
 replace H:=H.merge K M
 refine sps [.tuple #[.slice ra67a (((zW aS aT aU).1).length) rc67a,yI ((zW aS aT aU).2)],.slice ra67a (((zW aS aT aU).1).length) rc67a,yI ((zW aS aT aU).2),.slice ra67a (((zW aS aT aU).1).length) rc67a,yI ((zW aS aT aU).2)] (zjcc (sps [.slice ra67a (((zW aS aT aU).1).length) rc67a,.slice ra35a (((zW aS aT aU).1).length) rc35a] (sw (oq (eqInt64SS_ok _ ((zW aS aT aU).1) ((zW aS aT aU).1) (H.get 0 rfl).1 (H.get 9 rfl).1) H fun w72 H=>sps [.bool (!(decide (((zW aS aT aU).1)=((zW aS aT aU).1)))),.bool (!(decide (((zW aS aT aU).1)=((zW aS aT aU).1))))] ?_))))
 cases h74:(!(decide (((zW aS aT aU).1)=((zW aS aT aU).1))))
 ·skip
  replace h74:=xh h74
  refine qP 62 rfl rfl (sp (yI ((zW aS aT aU).2)) (qP 62 rfl rfl (sp (yI ((zW aS aT aU).2)) (qP 62 rfl rfl (sps [.bool (((zW aS aT aU).2:Int) != ((zW aS aT aU).2)),.bool (((zW aS aT aU).2:Int) != ((zW aS aT aU).2))] (zjn (xI (((zW aS aT aU).2:Int) != ((zW aS aT aU).2)) rfl (fun h=>absurd rfl (bne_iff_ne.1 h)) (fun h75=>?_))))))))
  replace h75:=xq h75
  refine qV (t_n (xQ (xQ ?_)))
  refine vS rfl H fun H=>rt 0 (.agg #[yI aS.xC,.slice QM aS.qw.length QL,.slice Va aS.qx.length X5]) (yR (cs:=(yS aS QM QL Va X5)) isAgg36 sizeOf36 rfl (fun _ h=>qF (h.cells 2 rfl) 0 3)) H ?_
  refine rt 1 (.agg #[yI aS.xC,.slice yF aS.qw.length yC,.slice Xu aS.qx.length Xq]) (yR (cs:=(yS aS yF yC Xu Xq)) isAgg25 sizeOf25 rfl (fun _ h=>qF (h.cells 5 rfl) 0 3)) H ?_
  refine ro 2 rfl ?_
  have sz77:=H.base.size
  have lt78:=H.ltN (L:=[rF67a,QK,XH,yx,Qs,Xx,jU,jd,Qg,rF35a,Qu,Xy,jV,Qh,Xa,jL,vW,yP]) [0,1,2,3,4,5,6,7,8,9,10,11,12,13,14,15,16,17]
  refine oc (toSystem_ok _ aS (H.get 18 rfl).1 (H.get 19 rfl).1 qg) ?_
  rintro v82 w80 r82 x81
  obtain ⟨a82Parents,c82Parents,yQ,a82Rules,c82Rules,XJ,rfl,f82,H⟩:=H.add_SystemD x81 r82
  replace N:=N.cons f82 sz77 lt78
  replace N:=N.split
  refine ⟨H.pick [0,1,2,3,4,5] [2,3,4,5,6,7,8,9,10,11,12,13,14,15,16,17,18,19,20,21,22,23,24,25,26,27],(ro 3 rfl (oq (eqSystem_ok _ aS aS (H.get 9 rfl).1 (H.get 10 rfl).1 (H.get 0 rfl).1 (H.get 1 rfl).1) H fun w83 H=>⟨H.pick [0,1,2,3,4,5] [2,3,4,5,6,7,8,9,10,11,12,13,14,15,16,17,18,19,20,21,22,23,24,25,26,27],(rtp 4 (.bool (!(decide (aS=aS)))) (H.pick [0,1,2,3,4,5] [2,3,4,5,6,7,8,9,10,11,12,13,14,15,16,17,18,19,20,21,22,23,24,25,26,27]) ?_)⟩))⟩
  refine xO qh (t_n (xI (!(decide (aS=aS))) rfl (fun h=>absurd (xn h) qm) (fun h85=>?_)))
  replace h85:=xh h85
  refine qV (t_n (xQ (xQ ?_)))
  refine vS rfl H fun H=>rt 0 (.agg #[.slice X9 aT.qy.length X4,.slice Yw aT.qE.length Yr,.slice Xh aT.qA.length Xe]) (yR (cs:=(yT aT X9 X4 Yw Yr Xh Xe)) isAgg38 sizeOf38 rfl (fun _ h=>qF (h.cells 1 rfl) 0 3)) H ?_
  refine rt 1 (.agg #[.slice Xt aT.qy.length Xp,.slice VE aT.qE.length Vz,.slice QI aT.qA.length QD]) (yR (cs:=(yT aT Xt Xp VE Vz QI QD)) isAgg29 sizeOf29 rfl (fun _ h=>qF (h.cells 4 rfl) 0 3)) H ?_
  refine ro 2 rfl ?_
  have sz87:=H.base.size
  have lt88:=H.ltN (L:=[yQ,XJ,rF67a,QK,XH,yx,Qs,Xx,jU,jd,Qg,rF35a,Qu,Xy,jV,Qh,Xa,jL,vW,yP]) [0,1,2,3,4,5,6,7,8,9,10,11,12,13,14,15,16,17,18,19]
  refine oc (Jm _ aT (H.get 22 rfl).1 (H.get 23 rfl).1 (H.get 24 rfl).1 qg) ?_
  rintro v92 w90 r92 x91
  obtain ⟨a92Alive,c92Alive,XR,a92Bags,c92Bags,V5,a92Around,c92Around,Q3,rfl,f92,H⟩:=H.Js x91 r92
  replace N:=N.cons f92 sz87 lt88
  replace N:=N.split
  replace N:=N.split
  refine ⟨H.pick [0,1,2,3,4,5] [3,4,5,6,7,8,9,10,11,12,13,14,15,16,17,18,19,20,21,22,23,24,25,26,27,28,29,30],(ro 3 rfl (oq (eqState_ok _ aT aT (H.get 9 rfl).1 (H.get 10 rfl).1 (H.get 11 rfl).1 (H.get 0 rfl).1 (H.get 1 rfl).1 (H.get 2 rfl).1) H fun w93 H=>⟨H.pick [0,1,2,3,4,5] [3,4,5,6,7,8,9,10,11,12,13,14,15,16,17,18,19,20,21,22,23,24,25,26,27,28,29,30],(rtp 4 (.bool (!(decide (aT=aT)))) (H.pick [0,1,2,3,4,5] [3,4,5,6,7,8,9,10,11,12,13,14,15,16,17,18,19,20,21,22,23,24,25,26,27,28,29,30]) ?_)⟩))⟩
  refine xO qh (t_n (xI (!(decide (aT=aT))) rfl (fun h=>absurd (xn h) qm) (fun h95=>?_)))
  replace h95:=xh h95
  refine qV (t_n (xQ (xQ ?_)))
  refine vS rfl H fun H=>rt 0 (.agg #[.slice X8 aU.qy.length X3,.slice Yv aU.qE.length Yq,.slice Xg aU.qA.length Xd]) (yR (cs:=(yT aU X8 X3 Yv Yq Xg Xd)) isAgg38 sizeOf38 rfl (fun _ h=>qF (h.cells 0 rfl) 0 3)) H ?_
  refine rt 1 (.agg #[.slice Xr aU.qy.length Xo,.slice VD aU.qE.length Vy,.slice QH aU.qA.length QC]) (yR (cs:=(yT aU Xr Xo VD Vy QH QC)) isAgg29 sizeOf29 rfl (fun _ h=>qF (h.cells 3 rfl) 0 3)) H ?_
  refine ro 2 rfl ?_
  have sz97:=H.base.size
  have lt98:=H.ltN (L:=[XR,V5,Q3,yQ,XJ,rF67a,QK,XH,yx,Qs,Xx,jU,jd,Qg,rF35a,Qu,Xy,jV,Qh,Xa,jL,vW,yP]) [0,1,2,3,4,5,6,7,8,9,10,11,12,13,14,15,16,17,18,19,20,21,22]
  refine oc (Jm _ aU (H.get 28 rfl).1 (H.get 29 rfl).1 (H.get 30 rfl).1 qg) ?_
  rintro v102 w100 r102 x101
  obtain ⟨a102Alive,c102Alive,Xi,a102Bags,c102Bags,Ve,a102Around,c102Around,QN,rfl,f102,H⟩:=H.Js x101 r102
  replace N:=N.cons f102 sz97 lt98
  replace N:=N.split
  replace N:=N.split
  refine ⟨H.pick [0,1,2,3,4,5] [3,4,5,6,7,8,9,10,11,12,13,14,15,16,17,18,19,20,21,22,23,24,25,26,27,28,29,30,31,32,33],(ro 3 rfl (oq (eqState_ok _ aU aU (H.get 9 rfl).1 (H.get 10 rfl).1 (H.get 11 rfl).1 (H.get 0 rfl).1 (H.get 1 rfl).1 (H.get 2 rfl).1) H fun w103 H=>⟨H.pick [0,1,2,3,4,5] [3,4,5,6,7,8,9,10,11,12,13,14,15,16,17,18,19,20,21,22,23,24,25,26,27,28,29,30,31,32,33],(rtp 4 (.bool (!(decide (aU=aU)))) (H.pick [0,1,2,3,4,5] [3,4,5,6,7,8,9,10,11,12,13,14,15,16,17,18,19,20,21,22,23,24,25,26,27,28,29,30,31,32,33]) ?_)⟩))⟩
  refine xO qh (t_n (xI (!(decide (aU=aU))) rfl (fun h=>absurd (xn h) qm) (fun h105=>?_)))
  replace h105:=xh h105
  refine qV (t_n (zcr (sp (yI 1) (zjc (sw (zg (yS aS QM QL Va X5) isAgg36 sizeOf36 rfl (qF (H.cells 2 rfl) 0 3) (sp (yI 1) ?_)))))))
  have N106:Fresh w.heap.size [jd,Qg,Xi,Ve,QN,XR,V5,Q3,yQ,XJ,rF67a,QK,XH,yx,Qs,Xx,jU,rF35a,Qu,Xy,jV,Qh,Xa,jL,vW,yP]:=(N.pick [15,16,0,1,2,3,4,5,6,7,8,9,10,11,12,13,14,17,18,19,20,21,22,23,24,25])
  refine sw (VW #[.agg #[yI aS.xC,.slice QM aS.qw.length QL,.slice Va aS.qx.length X5],yI 1] rfl rfl call23 (markSystem_ok w103 aS 1 QM QL jd Va X5 Qg (H.get 15 rfl).1 (H.get 16 rfl).1 (N106.pick [0,1]:Fresh _ [jd,Qg]).join.one.2 (((H.get 15 rfl).2 rfl).app ((H.get 16 rfl).2 rfl)) qf qf) ?_)
  rintro _ w107 ⟨rfl,m109⟩ x108
  replace H:St _ _ [.box b64 (yT aU X8 X3 Yv Yq Xg Xd) 38,.box b55 (yT aT X9 X4 Yw Yr Xh Xe) 38,.box b46 (yS aS QM QL Va X5) 36,.box b5 (yT aU Xr Xo VD Vy QH QC) 29,.box b3 (yT aT Xt Xp VE Vz QI QD) 29,.box b1 (yS aS yF yC Xu Xq) 25] [isF true jd (.slice QM aS.qw.length QL) (mrk aS.qw (1)),isF true Qg (.slice Va aS.qx.length X5) (mrk aS.qx (1+(cnt aS.qw:Nat))),sF true Xi a102Alive c102Alive aU.qy,sF true Ve a102Bags c102Bags aU.qE,sF true QN a102Around c102Around aU.qA,sF true XR a92Alive c92Alive aT.qy,sF true V5 a92Bags c92Bags aT.qE,sF true Q3 a92Around c92Around aT.qA,sF true yQ a82Parents c82Parents aS.qw,sF true XJ a82Rules c82Rules aS.qx,sF true rF67a ra67a rc67a ((zW aS aT aU).1),sF true QK X8 X3 aU.qy,sF true XH Yv Yq aU.qE,sF true yx Xg Xd aU.qA,sF true Qs X9 X4 aT.qy,sF true Xx Yw Yr aT.qE,sF true jU Xh Xe aT.qA,sF true rF35a ra35a rc35a ((zW aS aT aU).1),sF true Qu a34Alive c34Alive aU.qy,sF true Xy a34Bags c34Bags aU.qE,sF true jV a34Around c34Around aU.qA,sF true Qh a28Alive c28Alive aT.qy,sF true Xa a28Bags c28Bags aT.qE,sF true jL a28Around c28Around aT.qA,sF true vW a22Parents c22Parents aS.qw,sF true yP a22Rules c22Rules aS.qx,sF false VK yF yC aS.qw,sF false FaSRules Xu Xq aS.qx,sF false FaTAlive Xt Xp aT.qy,sF false FaTBags VE Vz aT.qE,sF false Y4 QI QD aT.qA,sF false FaUAlive Xr Xo aU.qy,sF false FaUBags VD Vy aU.qE,sF false Y3 QH QC aU.qA]:=H.chgFacts (Fs:=[jd,Qg]) (L:=[Xi,Ve,QN,XR,V5,Q3,yQ,XJ,rF67a,QK,XH,yx,Qs,Xx,jU,rF35a,Qu,Xy,jV,Qh,Xa,jL,vW,yP]) (A:=[VK,FaSRules,FaTAlive,FaTBags,Y4,FaUAlive,FaUBags,Y3]) N106 A (x108.mono (by intro z hz;simpa using hz)) [15,16] [isF true jd (.slice QM aS.qw.length QL) (mrk aS.qw (1)),isF true Qg (.slice Va aS.qx.length X5) (mrk aS.qx (1+(cnt aS.qw:Nat)))] (all_of ⟨m109.1,⟨m109.2,trivial⟩⟩) [0,1,2,3,4,5,6,7,8,9,10,11,12,13,14,17,18,19,20,21,22,23,24,25,26,27,28,29,30,31,32,33] [0,1,2,3,4,5,6,7,8,9,10,11,12,13,14,15,16,17,18,19,20,21,22,23,24,25,26,27,28,29,30,31]
  replace N:=N106
  refine sp (yI (1+(cnt aS.qw:Nat)+(cnt aS.qx:Nat))) (zjc (sw (zg (yT aT X9 X4 Yw Yr Xh Xe) isAgg38 sizeOf38 rfl (qF (H.cells 1 rfl) 0 3) (sp (yI (1+(cnt aS.qw:Nat)+(cnt aS.qx:Nat))) ?_))))
  have N110:Fresh w.heap.size [Qs,Xx,jU,jd,Qg,Xi,Ve,QN,XR,V5,Q3,yQ,XJ,rF67a,QK,XH,yx,rF35a,Qu,Xy,jV,Qh,Xa,jL,vW,yP]:=(N.pick [14,15,16,0,1,2,3,4,5,6,7,8,9,10,11,12,13,17,18,19,20,21,22,23,24,25])
  refine sw (VW #[.agg #[.slice X9 aT.qy.length X4,.slice Yw aT.qE.length Yr,.slice Xh aT.qA.length Xe],yI (1+(cnt aS.qw:Nat)+(cnt aS.qx:Nat))] rfl rfl call24 (markState_ok w107 aT (1+(cnt aS.qw:Nat)+(cnt aS.qx:Nat)) X9 X4 Qs Yw Yr Xx Xh Xe jU (H.get 14 rfl).1 (H.get 15 rfl).1 (H.get 16 rfl).1 (N110.pick [0,1,2]:Fresh _ [Qs,Xx,jU]).join.join.one.2 ((((H.get 14 rfl).2 rfl).app ((H.get 15 rfl).2 rfl)).app ((H.get 16 rfl).2 rfl)) qf qf) ?_)
  rintro _ w111 ⟨rfl,m113⟩ x112
  replace H:St _ _ [.box b64 (yT aU X8 X3 Yv Yq Xg Xd) 38,.box b55 (yT aT X9 X4 Yw Yr Xh Xe) 38,.box b46 (yS aS QM QL Va X5) 36,.box b5 (yT aU Xr Xo VD Vy QH QC) 29,.box b3 (yT aT Xt Xp VE Vz QI QD) 29,.box b1 (yS aS yF yC Xu Xq) 25] [isF true Qs (.slice X9 aT.qy.length X4) (mrk aT.qy (1+(cnt aS.qw:Nat)+(cnt aS.qx:Nat))),isF true Xx (.slice Yw aT.qE.length Yr) (mrk aT.qE (1+(cnt aS.qw:Nat)+(cnt aS.qx:Nat)+(cnt aT.qy:Nat))),isF true jU (.slice Xh aT.qA.length Xe) (mrk aT.qA (1+(cnt aS.qw:Nat)+(cnt aS.qx:Nat)+(cnt aT.qy:Nat)+(cnt aT.qE:Nat))),isF true jd (.slice QM aS.qw.length QL) (mrk aS.qw (1)),isF true Qg (.slice Va aS.qx.length X5) (mrk aS.qx (1+(cnt aS.qw:Nat))),sF true Xi a102Alive c102Alive aU.qy,sF true Ve a102Bags c102Bags aU.qE,sF true QN a102Around c102Around aU.qA,sF true XR a92Alive c92Alive aT.qy,sF true V5 a92Bags c92Bags aT.qE,sF true Q3 a92Around c92Around aT.qA,sF true yQ a82Parents c82Parents aS.qw,sF true XJ a82Rules c82Rules aS.qx,sF true rF67a ra67a rc67a ((zW aS aT aU).1),sF true QK X8 X3 aU.qy,sF true XH Yv Yq aU.qE,sF true yx Xg Xd aU.qA,sF true rF35a ra35a rc35a ((zW aS aT aU).1),sF true Qu a34Alive c34Alive aU.qy,sF true Xy a34Bags c34Bags aU.qE,sF true jV a34Around c34Around aU.qA,sF true Qh a28Alive c28Alive aT.qy,sF true Xa a28Bags c28Bags aT.qE,sF true jL a28Around c28Around aT.qA,sF true vW a22Parents c22Parents aS.qw,sF true yP a22Rules c22Rules aS.qx,sF false VK yF yC aS.qw,sF false FaSRules Xu Xq aS.qx,sF false FaTAlive Xt Xp aT.qy,sF false FaTBags VE Vz aT.qE,sF false Y4 QI QD aT.qA,sF false FaUAlive Xr Xo aU.qy,sF false FaUBags VD Vy aU.qE,sF false Y3 QH QC aU.qA]:=H.chgFacts (Fs:=[Qs,Xx,jU]) (L:=[jd,Qg,Xi,Ve,QN,XR,V5,Q3,yQ,XJ,rF67a,QK,XH,yx,rF35a,Qu,Xy,jV,Qh,Xa,jL,vW,yP]) (A:=[VK,FaSRules,FaTAlive,FaTBags,Y4,FaUAlive,FaUBags,Y3]) N110 A (x112.mono (by intro z hz;simpa using hz)) [14,15,16] [isF true Qs (.slice X9 aT.qy.length X4) (mrk aT.qy (1+(cnt aS.qw:Nat)+(cnt aS.qx:Nat))),isF true Xx (.slice Yw aT.qE.length Yr) (mrk aT.qE (1+(cnt aS.qw:Nat)+(cnt aS.qx:Nat)+(cnt aT.qy:Nat))),isF true jU (.slice Xh aT.qA.length Xe) (mrk aT.qA (1+(cnt aS.qw:Nat)+(cnt aS.qx:Nat)+(cnt aT.qy:Nat)+(cnt aT.qE:Nat)))] (all_of ⟨m113.1,⟨m113.2.1,⟨m113.2.2,trivial⟩⟩⟩) [0,1,2,3,4,5,6,7,8,9,10,11,12,13,17,18,19,20,21,22,23,24,25,26,27,28,29,30,31,32,33] [0,1,2,3,4,5,6,7,8,9,10,11,12,13,14,15,16,17,18,19,20,21,22,23,24,25,26,27,28,29,30]
  replace N:=N110
  refine sp (yI (1+(cnt aS.qw:Nat)+(cnt aS.qx:Nat)+(cnt aT.qy:Nat)+(cnt aT.qE:Nat)+(cnt aT.qA:Nat))) (zjc (sw (zg (yT aU X8 X3 Yv Yq Xg Xd) isAgg38 sizeOf38 rfl (qF (H.cells 0 rfl) 0 3) (sp (yI (1+(cnt aS.qw:Nat)+(cnt aS.qx:Nat)+(cnt aT.qy:Nat)+(cnt aT.qE:Nat)+(cnt aT.qA:Nat))) ?_))))
  have N114:Fresh w.heap.size [QK,XH,yx,Qs,Xx,jU,jd,Qg,Xi,Ve,QN,XR,V5,Q3,yQ,XJ,rF67a,rF35a,Qu,Xy,jV,Qh,Xa,jL,vW,yP]:=(N.pick [14,15,16,0,1,2,3,4,5,6,7,8,9,10,11,12,13,17,18,19,20,21,22,23,24,25])
  refine sw (VW #[.agg #[.slice X8 aU.qy.length X3,.slice Yv aU.qE.length Yq,.slice Xg aU.qA.length Xd],yI (1+(cnt aS.qw:Nat)+(cnt aS.qx:Nat)+(cnt aT.qy:Nat)+(cnt aT.qE:Nat)+(cnt aT.qA:Nat))] rfl rfl call24 (markState_ok w111 aU (1+(cnt aS.qw:Nat)+(cnt aS.qx:Nat)+(cnt aT.qy:Nat)+(cnt aT.qE:Nat)+(cnt aT.qA:Nat)) X8 X3 QK Yv Yq XH Xg Xd yx (H.get 14 rfl).1 (H.get 15 rfl).1 (H.get 16 rfl).1 (N114.pick [0,1,2]:Fresh _ [QK,XH,yx]).join.join.one.2 ((((H.get 14 rfl).2 rfl).app ((H.get 15 rfl).2 rfl)).app ((H.get 16 rfl).2 rfl)) qf qf) ?_)
  rintro _ w115 ⟨rfl,m117⟩ x116
  replace H:St _ _ [.box b64 (yT aU X8 X3 Yv Yq Xg Xd) 38,.box b55 (yT aT X9 X4 Yw Yr Xh Xe) 38,.box b46 (yS aS QM QL Va X5) 36,.box b5 (yT aU Xr Xo VD Vy QH QC) 29,.box b3 (yT aT Xt Xp VE Vz QI QD) 29,.box b1 (yS aS yF yC Xu Xq) 25] [isF true QK (.slice X8 aU.qy.length X3) (mrk aU.qy (1+(cnt aS.qw:Nat)+(cnt aS.qx:Nat)+(cnt aT.qy:Nat)+(cnt aT.qE:Nat)+(cnt aT.qA:Nat))),isF true XH (.slice Yv aU.qE.length Yq) (mrk aU.qE (1+(cnt aS.qw:Nat)+(cnt aS.qx:Nat)+(cnt aT.qy:Nat)+(cnt aT.qE:Nat)+(cnt aT.qA:Nat)+(cnt aU.qy:Nat))),isF true yx (.slice Xg aU.qA.length Xd) (mrk aU.qA (1+(cnt aS.qw:Nat)+(cnt aS.qx:Nat)+(cnt aT.qy:Nat)+(cnt aT.qE:Nat)+(cnt aT.qA:Nat)+(cnt aU.qy:Nat)+(cnt aU.qE:Nat))),isF true Qs (.slice X9 aT.qy.length X4) (mrk aT.qy (1+(cnt aS.qw:Nat)+(cnt aS.qx:Nat))),isF true Xx (.slice Yw aT.qE.length Yr) (mrk aT.qE (1+(cnt aS.qw:Nat)+(cnt aS.qx:Nat)+(cnt aT.qy:Nat))),isF true jU (.slice Xh aT.qA.length Xe) (mrk aT.qA (1+(cnt aS.qw:Nat)+(cnt aS.qx:Nat)+(cnt aT.qy:Nat)+(cnt aT.qE:Nat))),isF true jd (.slice QM aS.qw.length QL) (mrk aS.qw (1)),isF true Qg (.slice Va aS.qx.length X5) (mrk aS.qx (1+(cnt aS.qw:Nat))),sF true Xi a102Alive c102Alive aU.qy,sF true Ve a102Bags c102Bags aU.qE,sF true QN a102Around c102Around aU.qA,sF true XR a92Alive c92Alive aT.qy,sF true V5 a92Bags c92Bags aT.qE,sF true Q3 a92Around c92Around aT.qA,sF true yQ a82Parents c82Parents aS.qw,sF true XJ a82Rules c82Rules aS.qx,sF true rF67a ra67a rc67a ((zW aS aT aU).1),sF true rF35a ra35a rc35a ((zW aS aT aU).1),sF true Qu a34Alive c34Alive aU.qy,sF true Xy a34Bags c34Bags aU.qE,sF true jV a34Around c34Around aU.qA,sF true Qh a28Alive c28Alive aT.qy,sF true Xa a28Bags c28Bags aT.qE,sF true jL a28Around c28Around aT.qA,sF true vW a22Parents c22Parents aS.qw,sF true yP a22Rules c22Rules aS.qx,sF false VK yF yC aS.qw,sF false FaSRules Xu Xq aS.qx,sF false FaTAlive Xt Xp aT.qy,sF false FaTBags VE Vz aT.qE,sF false Y4 QI QD aT.qA,sF false FaUAlive Xr Xo aU.qy,sF false FaUBags VD Vy aU.qE,sF false Y3 QH QC aU.qA]:=H.chgFacts (Fs:=[QK,XH,yx]) (L:=[Qs,Xx,jU,jd,Qg,Xi,Ve,QN,XR,V5,Q3,yQ,XJ,rF67a,rF35a,Qu,Xy,jV,Qh,Xa,jL,vW,yP]) (A:=[VK,FaSRules,FaTAlive,FaTBags,Y4,FaUAlive,FaUBags,Y3]) N114 A (x116.mono (by intro z hz;simpa using hz)) [14,15,16] [isF true QK (.slice X8 aU.qy.length X3) (mrk aU.qy (1+(cnt aS.qw:Nat)+(cnt aS.qx:Nat)+(cnt aT.qy:Nat)+(cnt aT.qE:Nat)+(cnt aT.qA:Nat))),isF true XH (.slice Yv aU.qE.length Yq) (mrk aU.qE (1+(cnt aS.qw:Nat)+(cnt aS.qx:Nat)+(cnt aT.qy:Nat)+(cnt aT.qE:Nat)+(cnt aT.qA:Nat)+(cnt aU.qy:Nat))),isF true yx (.slice Xg aU.qA.length Xd) (mrk aU.qA (1+(cnt aS.qw:Nat)+(cnt aS.qx:Nat)+(cnt aT.qy:Nat)+(cnt aT.qE:Nat)+(cnt aT.qA:Nat)+(cnt aU.qy:Nat)+(cnt aU.qE:Nat)))] (all_of ⟨m117.1,⟨m117.2.1,⟨m117.2.2,trivial⟩⟩⟩) [0,1,2,3,4,5,6,7,8,9,10,11,12,13,17,18,19,20,21,22,23,24,25,26,27,28,29,30,31,32,33] [0,1,2,3,4,5,6,7,8,9,10,11,12,13,14,15,16,17,18,19,20,21,22,23,24,25,26,27,28,29,30]
  replace N:=N114
  refine sp (yI (1+(cnt aS.qw:Nat)+(cnt aS.qx:Nat)+(cnt aT.qy:Nat)+(cnt aT.qE:Nat)+(cnt aT.qA:Nat)+(cnt aU.qy:Nat)+(cnt aU.qE:Nat)+(cnt aU.qA:Nat))) (zjcc ?_)
  refine sps [yI (1+(cnt aS.qw:Nat)+(cnt aS.qx:Nat)+(cnt aT.qy:Nat)+(cnt aT.qE:Nat)+(cnt aT.qA:Nat)+(cnt aU.qy:Nat)+(cnt aU.qE:Nat)+(cnt aU.qA:Nat)),.bool (decide ((1+(cnt aS.qw:Nat)+(cnt aS.qx:Nat)+(cnt aT.qy:Nat)+(cnt aT.qE:Nat)+(cnt aT.qA:Nat)+(cnt aU.qy:Nat)+(cnt aU.qE:Nat)+(cnt aU.qA:Nat):Int) < 0)),.bool (decide ((1+(cnt aS.qw:Nat)+(cnt aS.qx:Nat)+(cnt aT.qy:Nat)+(cnt aT.qE:Nat)+(cnt aT.qA:Nat)+(cnt aU.qy:Nat)+(cnt aU.qE:Nat)+(cnt aU.qA:Nat):Int) < 0))] ?_
  cases h118:(decide ((1+(cnt aS.qw:Nat)+(cnt aS.qx:Nat)+(cnt aT.qy:Nat)+(cnt aT.qE:Nat)+(cnt aT.qA:Nat)+(cnt aU.qy:Nat)+(cnt aU.qE:Nat)+(cnt aU.qA:Nat):Int) < 0))
  ·skip
   replace h118:=of_decide_eq_false h118
   refine qP 93 rfl rfl (sp (.slice ra67a (((zW aS aT aU).1).length) rc67a) (qP 93 rfl rfl (sp (.slice ra35a (((zW aS aT aU).1).length) rc35a) (qP 93 rfl rfl (sw (oq (eqInt64SS_ok _ ((zW aS aT aU).1) ((zW aS aT aU).1) (H.get 16 rfl).1 (H.get 17 rfl).1) H fun w119 H=>qP 93 rfl rfl (sps [.bool (!(decide (((zW aS aT aU).1)=((zW aS aT aU).1)))),.bool (!(decide (((zW aS aT aU).1)=((zW aS aT aU).1)))),.bool (!(decide (((zW aS aT aU).1)=((zW aS aT aU).1))))] ?_)))))))
   cases h121:(!(decide (((zW aS aT aU).1)=((zW aS aT aU).1))))
   ·skip
    replace h121:=xh h121
    refine qP 99 rfl rfl (sp (yI ((zW aS aT aU).2)) (qP 99 rfl rfl (sp (yI ((zW aS aT aU).2)) (qP 99 rfl rfl (sps [.bool (((zW aS aT aU).2:Int) != ((zW aS aT aU).2)),.bool (((zW aS aT aU).2:Int) != ((zW aS aT aU).2))] (zjn (xI (((zW aS aT aU).2:Int) != ((zW aS aT aU).2)) rfl (fun h=>absurd rfl (bne_iff_ne.1 h)) (fun h122=>?_))))))))
    replace h122:=xq h122
    refine qV (t_n (zcr (sp (yI 1) (zjc (sps [.slice ra67a (((zW aS aT aU).1).length) rc67a,yI 1] ?_)))))
    have N123:Fresh w.heap.size [rF67a,QK,XH,yx,Qs,Xx,jU,jd,Qg,Xi,Ve,QN,XR,V5,Q3,yQ,XJ,rF35a,Qu,Xy,jV,Qh,Xa,jL,vW,yP]:=(N.pick [16,0,1,2,3,4,5,6,7,8,9,10,11,12,13,14,15,17,18,19,20,21,22,23,24,25])
    refine sw (VW #[.slice ra67a (((zW aS aT aU).1).length) rc67a,yI 1] rfl rfl call25 (markInt64SS_ok w119 ((zW aS aT aU).1) 1 ra67a rc67a rF67a (H.get 16 rfl).1 (N123.pick [0]:Fresh _ [rF67a]).one.2 ((H.get 16 rfl).2 rfl) qf qf) ?_)
    rintro _ w124 ⟨rfl,m126⟩ x125
    replace H:St _ _ [.box b64 (yT aU X8 X3 Yv Yq Xg Xd) 38,.box b55 (yT aT X9 X4 Yw Yr Xh Xe) 38,.box b46 (yS aS QM QL Va X5) 36,.box b5 (yT aU Xr Xo VD Vy QH QC) 29,.box b3 (yT aT Xt Xp VE Vz QI QD) 29,.box b1 (yS aS yF yC Xu Xq) 25] [isF true rF67a (.slice ra67a (((zW aS aT aU).1).length) rc67a) (mrk ((zW aS aT aU).1) (1)),isF true QK (.slice X8 aU.qy.length X3) (mrk aU.qy (1+(cnt aS.qw:Nat)+(cnt aS.qx:Nat)+(cnt aT.qy:Nat)+(cnt aT.qE:Nat)+(cnt aT.qA:Nat))),isF true XH (.slice Yv aU.qE.length Yq) (mrk aU.qE (1+(cnt aS.qw:Nat)+(cnt aS.qx:Nat)+(cnt aT.qy:Nat)+(cnt aT.qE:Nat)+(cnt aT.qA:Nat)+(cnt aU.qy:Nat))),isF true yx (.slice Xg aU.qA.length Xd) (mrk aU.qA (1+(cnt aS.qw:Nat)+(cnt aS.qx:Nat)+(cnt aT.qy:Nat)+(cnt aT.qE:Nat)+(cnt aT.qA:Nat)+(cnt aU.qy:Nat)+(cnt aU.qE:Nat))),isF true Qs (.slice X9 aT.qy.length X4) (mrk aT.qy (1+(cnt aS.qw:Nat)+(cnt aS.qx:Nat))),isF true Xx (.slice Yw aT.qE.length Yr) (mrk aT.qE (1+(cnt aS.qw:Nat)+(cnt aS.qx:Nat)+(cnt aT.qy:Nat))),isF true jU (.slice Xh aT.qA.length Xe) (mrk aT.qA (1+(cnt aS.qw:Nat)+(cnt aS.qx:Nat)+(cnt aT.qy:Nat)+(cnt aT.qE:Nat))),isF true jd (.slice QM aS.qw.length QL) (mrk aS.qw (1)),isF true Qg (.slice Va aS.qx.length X5) (mrk aS.qx (1+(cnt aS.qw:Nat))),sF true Xi a102Alive c102Alive aU.qy,sF true Ve a102Bags c102Bags aU.qE,sF true QN a102Around c102Around aU.qA,sF true XR a92Alive c92Alive aT.qy,sF true V5 a92Bags c92Bags aT.qE,sF true Q3 a92Around c92Around aT.qA,sF true yQ a82Parents c82Parents aS.qw,sF true XJ a82Rules c82Rules aS.qx,sF true rF35a ra35a rc35a ((zW aS aT aU).1),sF true Qu a34Alive c34Alive aU.qy,sF true Xy a34Bags c34Bags aU.qE,sF true jV a34Around c34Around aU.qA,sF true Qh a28Alive c28Alive aT.qy,sF true Xa a28Bags c28Bags aT.qE,sF true jL a28Around c28Around aT.qA,sF true vW a22Parents c22Parents aS.qw,sF true yP a22Rules c22Rules aS.qx,sF false VK yF yC aS.qw,sF false FaSRules Xu Xq aS.qx,sF false FaTAlive Xt Xp aT.qy,sF false FaTBags VE Vz aT.qE,sF false Y4 QI QD aT.qA,sF false FaUAlive Xr Xo aU.qy,sF false FaUBags VD Vy aU.qE,sF false Y3 QH QC aU.qA]:=H.chgFacts (Fs:=[rF67a]) (L:=[QK,XH,yx,Qs,Xx,jU,jd,Qg,Xi,Ve,QN,XR,V5,Q3,yQ,XJ,rF35a,Qu,Xy,jV,Qh,Xa,jL,vW,yP]) (A:=[VK,FaSRules,FaTAlive,FaTBags,Y4,FaUAlive,FaUBags,Y3]) N123 A (x125.mono (by intro z hz;simpa using hz)) [16] [isF true rF67a (.slice ra67a (((zW aS aT aU).1).length) rc67a) (mrk ((zW aS aT aU).1) (1))] (all_of ⟨m126,trivial⟩) [0,1,2,3,4,5,6,7,8,9,10,11,12,13,14,15,17,18,19,20,21,22,23,24,25,26,27,28,29,30,31,32,33] [0,1,2,3,4,5,6,7,8,9,10,11,12,13,14,15,16,17,18,19,20,21,22,23,24,25,26,27,28,29,30,31,32]
    replace N:=N123
    refine sp (yI (1+(cnt ((zW aS aT aU).1):Nat))) (zjc (sp (yI 1) (zjc (sps [.slice ra67a (((zW aS aT aU).1).length) rc67a,yI 1] ?_))))
    have hn127:=H.isLen 0 rfl
    refine sw (oq (Yt (by rw [← hn127]) (heldInt64SS_ok _ (mrk ((zW aS aT aU).1) (1)) 1 (hn127▸(H.get 0 rfl).1) (by first | exact mkd_mark _ _ | omega | (simp only [cnt_mark];first | exact mkd_mark _ _ | omega)) (by first | exact mkd_mark _ _ | omega | (simp only [cnt_mark];first | exact mkd_mark _ _ | omega)) (by first | exact mkd_mark _ _ | omega | (simp only [cnt_mark];first | exact mkd_mark _ _ | omega)))) H fun w128 H=>sp (yI (1+(cnt (mrk ((zW aS aT aU).1) (1)):Nat))) (zjcc (sps [yI (1+(cnt (mrk ((zW aS aT aU).1) (1)):Nat)),.bool (decide ((1+(cnt (mrk ((zW aS aT aU).1) (1)):Nat):Int) < 0))] ?_)))
    refine zjn (cD rfl (fun h130=>?_) (fun h130=>?_))
    ·skip
     refine zcr (sp (.bool false) (zjr (t_r (ret1 (.bool false) rfl rfl ⟨_,rfl,?_,H.base⟩))))
     exfalso;first | omega | contradiction
    refine qV (t_n (zcc (sps [yI (1+(cnt (mrk ((zW aS aT aU).1) (1)):Nat)),yI (1+(cnt ((zW aS aT aU).1):Nat)),.bool ((1+(cnt (mrk ((zW aS aT aU).1) (1)):Nat):Int) != (1+(cnt ((zW aS aT aU).1):Nat)))] (zjn (xI ((1+(cnt (mrk ((zW aS aT aU).1) (1)):Nat):Int) != (1+(cnt ((zW aS aT aU).1):Nat))) rfl (fun h131=>?_) (fun h131=>?_))))))
    ·skip
     replace h131:=bne_iff_ne.1 h131
     refine zcr (sp (.bool false) (zjr (t_r (ret1 (.bool false) rfl rfl ⟨_,rfl,?_,H.base⟩))))
     exfalso;first | omega | contradiction | exact h131 (by simp only [cnt_mark])
    replace h131:=xq h131
    refine qV (t_n (xQ ?_))
    refine vS rfl H fun H=>rt 0 (.agg #[yI aS.xC,.slice yF aS.qw.length yC,.slice Xu aS.qx.length Xq]) (yR (cs:=(yS aS yF yC Xu Xq)) isAgg25 sizeOf25 rfl (fun _ h=>qF (h.cells 5 rfl) 0 3)) H ?_
    refine rt 2 (.agg #[.slice Xt aT.qy.length Xp,.slice VE aT.qE.length Vz,.slice QI aT.qA.length QD]) (yR (cs:=(yT aT Xt Xp VE Vz QI QD)) isAgg29 sizeOf29 rfl (fun _ h=>qF (h.cells 4 rfl) 0 3)) H ?_
    refine rt 4 (.agg #[.slice Xr aU.qy.length Xo,.slice VD aU.qE.length Vy,.slice QH aU.qA.length QC]) (yR (cs:=(yT aU Xr Xo VD Vy QH QC)) isAgg29 sizeOf29 rfl (fun _ h=>qF (h.cells 3 rfl) 0 3)) H ?_
    refine ro 1 rfl ?_
    have sz133:=H.base.size
    have lt134:=H.ltN (L:=[rF67a,QK,XH,yx,Qs,Xx,jU,jd,Qg,Xi,Ve,QN,XR,V5,Q3,yQ,XJ,rF35a,Qu,Xy,jV,Qh,Xa,jL,vW,yP]) [0,1,2,3,4,5,6,7,8,9,10,11,12,13,14,15,16,17,18,19,20,21,22,23,24,25]
    refine oc (toSystem_ok _ aS (H.get 26 rfl).1 (H.get 27 rfl).1 qg) ?_
    rintro v138 w136 r138 x137
    obtain ⟨a138Parents,c138Parents,F138Parents,a138Rules,c138Rules,F138Rules,rfl,f138,H⟩:=H.add_SystemD x137 r138
    replace N:=N.cons f138 sz133 lt134
    replace N:=N.split
    refine ⟨H.pick [0,1,2,3,4,5] [2,3,4,5,6,7,8,9,10,11,12,13,14,15,16,17,18,19,20,21,22,23,24,25,26,27,28,29,30,31,32,33,34,35],(ro 3 rfl ?_)⟩
    have sz139:=H.base.size
    have lt140:=H.ltN (L:=[F138Parents,F138Rules,rF67a,QK,XH,yx,Qs,Xx,jU,jd,Qg,Xi,Ve,QN,XR,V5,Q3,yQ,XJ,rF35a,Qu,Xy,jV,Qh,Xa,jL,vW,yP]) [0,1,2,3,4,5,6,7,8,9,10,11,12,13,14,15,16,17,18,19,20,21,22,23,24,25,26,27]
    refine oc (Jm _ aT (H.get 30 rfl).1 (H.get 31 rfl).1 (H.get 32 rfl).1 qg) ?_
    rintro v144 w142 r144 x143
    obtain ⟨a144Alive,c144Alive,F144Alive,a144Bags,c144Bags,F144Bags,a144Around,c144Around,F144Around,rfl,f144,H⟩:=H.Js x143 r144
    replace N:=N.cons f144 sz139 lt140
    replace N:=N.split
    replace N:=N.split
    refine ⟨H.pick [0,1,2,3,4,5] [5,6,7,8,9,10,11,12,13,14,15,16,17,18,19,20,21,22,23,24,25,26,27,28,29,30,31,32,33,34,35,36,37,38],(ro 5 rfl ?_)⟩
    have sz145:=H.base.size
    have lt146:=H.ltN (L:=[F144Alive,F144Bags,F144Around,F138Parents,F138Rules,rF67a,QK,XH,yx,Qs,Xx,jU,jd,Qg,Xi,Ve,QN,XR,V5,Q3,yQ,XJ,rF35a,Qu,Xy,jV,Qh,Xa,jL,vW,yP]) [0,1,2,3,4,5,6,7,8,9,10,11,12,13,14,15,16,17,18,19,20,21,22,23,24,25,26,27,28,29,30]
    refine oc (Jm _ aU (H.get 36 rfl).1 (H.get 37 rfl).1 (H.get 38 rfl).1 qg) ?_
    rintro v150 w148 r150 x149
    obtain ⟨a150Alive,c150Alive,F150Alive,a150Bags,c150Bags,F150Bags,a150Around,c150Around,F150Around,rfl,f150,H⟩:=H.Js x149 r150
    replace N:=N.cons f150 sz145 lt146
    replace N:=N.split
    replace N:=N.split
    refine ⟨H.pick [0,1,2,3,4,5] [8,9,10,11,12,13,14,15,16,17,18,19,20,21,22,23,24,25,26,27,28,29,30,31,32,33,34,35,36,37,38,39,40,41],(ro 6 rfl ?_)⟩
    have sz154:=H.base.size
    have lt155:=H.ltN (L:=[F150Alive,F150Bags,F150Around,F144Alive,F144Bags,F144Around,F138Parents,F138Rules,rF67a,QK,XH,yx,Qs,Xx,jU,jd,Qg,Xi,Ve,QN,XR,V5,Q3,yQ,XJ,rF35a,Qu,Xy,jV,Qh,Xa,jL,vW,yP]) [0,1,2,3,4,5,6,7,8,9,10,11,12,13,14,15,16,17,18,19,20,21,22,23,24,25,26,27,28,29,30,31,32,33]
    refine oc (implST_ok _ aS aT aU (H.get 6 rfl).1 (H.get 7 rfl).1 (H.get 3 rfl).1 (H.get 4 rfl).1 (H.get 5 rfl).1 (H.get 0 rfl).1 (H.get 1 rfl).1 (H.get 2 rfl).1) ?_
    rintro _ w152 ⟨ra151a,rc151a,rF151a,rfl,M,K⟩ _
    replace N:=N.merge sz154 lt155 M
    replace H:=H.merge K M
    refine ⟨H.pick [0,1,2,3,4,5] [9,10,11,12,13,14,15,16,17,18,19,20,21,22,23,24,25,26,27,28,29,30,31,32,33,34,35,36,37,38,39,40,41,42],?_⟩
    have S:=H.yG [0,1,2,3,4,5] [9,10,11,12,13,14,15,16,17,18,19,20,21,22,23,24,25,26,27,28,29,30,31,32,33,34,35,36,37,38,39,40,41,42]
    refine rtp 7 (.tuple #[.slice ra151a (((zW aS aT aU).1).length) rc151a,yI ((zW aS aT aU).2)]) S ?_
    refine rtp 8 (.slice ra151a (((zW aS aT aU).1).length) rc151a) S ?_
    refine rtp 9 (yI ((zW aS aT aU).2)) S ?_
    refine rtp 10 (.slice ra151a (((zW aS aT aU).1).length) rc151a) S ?_
    refine rtp 11 (yI ((zW aS aT aU).2)) S ?_
    refine xO qh (t_n (zcc (sps [.slice ra151a (((zW aS aT aU).1).length) rc151a,.slice ra35a (((zW aS aT aU).1).length) rc35a] (sw (oq (eqInt64SS_ok _ ((zW aS aT aU).1) ((zW aS aT aU).1) (H.get 0 rfl).1 (H.get 26 rfl).1) H fun w156 H=>sps [.bool (!(decide (((zW aS aT aU).1)=((zW aS aT aU).1)))),.bool (!(decide (((zW aS aT aU).1)=((zW aS aT aU).1))))] ?_)))))
    cases h158:(!(decide (((zW aS aT aU).1)=((zW aS aT aU).1))))
    ·skip
     replace h158:=xh h158
     refine qP 129 rfl rfl (sp (yI ((zW aS aT aU).2)) (qP 129 rfl rfl (sp (yI ((zW aS aT aU).2)) (qP 129 rfl rfl (sps [.bool (((zW aS aT aU).2:Int) != ((zW aS aT aU).2)),.bool (((zW aS aT aU).2:Int) != ((zW aS aT aU).2))] (zjn (xI (((zW aS aT aU).2:Int) != ((zW aS aT aU).2)) rfl (fun h=>absurd rfl (bne_iff_ne.1 h)) (fun h159=>?_))))))))
     replace h159:=xq h159
     refine qV (t_n (zcr (sp (yI 1) (zjc (sps [.slice ra67a (((zW aS aT aU).1).length) rc67a,yI 1] ?_)))))
     have hn160:=H.isLen 9 rfl
     refine sw (oq (Yt (by rw [← hn160]) (heldInt64SS_ok _ (mrk ((zW aS aT aU).1) (1)) 1 (hn160▸(H.get 9 rfl).1) (by first | exact mkd_mark _ _ | omega | (simp only [cnt_mark];first | exact mkd_mark _ _ | omega)) (by first | exact mkd_mark _ _ | omega | (simp only [cnt_mark];first | exact mkd_mark _ _ | omega)) (by first | exact mkd_mark _ _ | omega | (simp only [cnt_mark];first | exact mkd_mark _ _ | omega)))) H fun w161 H=>sp (yI (1+(cnt (mrk ((zW aS aT aU).1) (1)):Nat))) (zjcc ?_))
     refine sps [yI (1+(cnt (mrk ((zW aS aT aU).1) (1)):Nat)),.bool (decide ((1+(cnt (mrk ((zW aS aT aU).1) (1)):Nat):Int) < 0))] (zjn (cD rfl (fun h163=>?_) (fun h163=>?_)))
     ·skip
      refine zcr (sp (.bool false) (zjr (t_r (ret1 (.bool false) rfl rfl ⟨_,rfl,?_,H.base⟩))))
      exfalso;first | omega | contradiction
     refine qV (t_n (zcc (sps [yI (1+(cnt (mrk ((zW aS aT aU).1) (1)):Nat)),yI (1+(cnt ((zW aS aT aU).1):Nat)),.bool ((1+(cnt (mrk ((zW aS aT aU).1) (1)):Nat):Int) != (1+(cnt ((zW aS aT aU).1):Nat)))] (zjn (xI ((1+(cnt (mrk ((zW aS aT aU).1) (1)):Nat):Int) != (1+(cnt ((zW aS aT aU).1):Nat))) rfl (fun h=>absurd h131 (bne_iff_ne.1 h)) (fun h164=>?_))))))
     replace h164:=xq h164
     refine qV (t_n (zcr (sp (.bool true) (zjr (ret1 (.bool true) rfl rfl ⟨_,rfl,?_,H.base⟩)))))
     rfl
    · exact absurd (xn h158) qm
   · exact absurd (xn h121) qm
  replace h118:=of_decide_eq_true h118
  refine zo [94,95,96,97] (sps [.bool true,.bool true] (zo [100,101,102] (sp (.bool true) (zjn (xI true rfl (fun _=>zcr (sp (.bool false) (zjr (t_r (ret1 (.bool false) rfl rfl ⟨_,rfl,?_,H.base⟩))))) (fun h=>absurd h qj))))))
  exfalso;first | omega | contradiction
 · exact absurd (xn h74) qm
end
end Go.Proofs.YtgjnaocffdhnbaaGreat
