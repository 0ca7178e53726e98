/- Walks and laws, printed by program and by hand: what each function comes to, for all arguments, part 6. -/
import Derived.Test.YtgjnaocffdhnbaaGreatA5
namespace Go.Proofs.YtgjnaocffdhnbaaGreat
set_option linter.unusedVariables false
set_option linter.unusedSimpArgs false
open Go.Proofs.YtgjnaocffdhnbaaGreat.Tot (tot)
open Go.Proofs.YtgjnaocffdhnbaaGreat.Mark (cnt mrk mkd mkd_mark cnt_mark)
section
open Go.Proofs.Tryz
open Go.RowKit
set_option linter.unusedVariables false
set_option linter.unusedSimpArgs false
set_option maxRecDepth 100000
set_option maxHeartbeats 4000000
variable {cl cb qB qJ qR xh qL : Nat}
theorem isBag_ok (w:World) (l:yLI) {al:yOA} {Fl:yLN} (hl:qO.rep w Fl [.slice al l.length cl] l):Calls Tryz.prog 209 #[.slice al l.length cl] w (Ret (fun v w' =>v=.bool (dec (VE l))) w):=by
 refine en func209 ntmps209 ?_
 have H:=(St.start w).arg hl
 have nhl:=qK hl
 clear hl
 have N:=Fresh.nil w.heap.size
 refine zcr (sp (.bool false) (zjc (sp (.slice al l.length cl) (sw (oq (sizeI_ok _ l (H.get 0 rfl).1) H fun w1 H=>sp (.slice al l.length cl) (sw (oq (Ym _ (l.length:Int) l (H.get 0 rfl).1) H fun w3 H=>sp (.bool (dec (zU (l.length:Int) l))) (zjr (ret1 (.bool (dec (zU (l.length:Int) l))) rfl rfl ⟨_,rfl,?_,H.base⟩)))))))))
 rw [dec_congr bagAny_okH]

theorem isFull_ok (w:World) (rest:yLI) (parts:yLL) {arest:yOA} {crest:Nat} {Frest:yLN} {xZ:yOA} {xQ:Nat} {Fparts:yLN} (hrest:qO.rep w Frest [.slice arest rest.length crest] rest) (hparts:qO.rep w Fparts [.slice xZ parts.length xQ] parts) (p0:V9 parts rest):Calls Tryz.prog 178 #[.slice arest rest.length crest,.slice xZ parts.length xQ] w (Ret (fun v w' =>v=.bool (dec (FullOk parts rest))) w):=by
 refine en func178 ntmps178 ?_
 have H:=((St.start w).arg hparts).arg hrest
 have nhrest:=qK hrest
 have nhparts:=qK hparts
 clear hrest hparts
 have N:=Fresh.nil w.heap.size
 refine zcr (sw (vN H [.slice arest rest.length crest] fun b1 w2 H=>sp (.bool false) (zjc (sps [.slice xZ parts.length xQ,.func (.func 206) #[] #[pp b1 0]] (sw (vz #[.slice xZ parts.length xQ,.func (.func 206) #[] #[pp b1 0]] rfl rfl call205 (en func205 ntmps205 ?_)))))))
 refine zcr (sp (.bool false) (zjc (sps [.slice xZ parts.length xQ,.func (.func 206) #[] #[pp b1 0]] (sw (vz #[.slice xZ parts.length xQ,.func (.func 206) #[] #[pp b1 0]] rfl rfl call211 (en func211 ntmps211 ?_))))))
 refine zcr (sp (yI 0) (zjcc (sp (.slice xZ parts.length xQ) (oN rfl (sp (yI 0) (zjn (qW ?_)))))))
 refine zn (fun m' ρ w3=>∃ (xP:Env) (i:Nat),ρ=upd (upd (upd (upd xP 0 (.slice xZ parts.length xQ)) 1 (.func (.func 206) #[] #[pp b1 0])) 7 (yI parts.length)) 8 (yI i)∧((i:Int)≤parts.length)∧(FullTo parts rest i)∧m' =(parts.length - (i:Int)).toNat∧Fresh w.heap.size []∧St w w3 [.box b1 [.slice arest rest.length crest] 22] [sF false Frest arest crest rest,sF false Fparts xZ xQ parts]) ((parts.length - (0:Int)).toNat) ⟨_,0,uE4,qf,(by first | trivial | exact fun j hj=>by omega),rfl,N,H⟩ ?_
 clear H N
 rintro m' ρ w4 ⟨xP,i,rfl,i0,i1,rfl,N,H⟩
 refine zcr (sp (.bool (decide ((i:Int) < parts.length))) (zjn (xO (cD rfl (fun h5=>?_) (fun h5=>?_)))))
 ·skip
  obtain ⟨t1,t2,t3,t4,t5⟩:=p0.times (k:=i) qf
  refine qU (t_n (xO (qW (zcr (sps [yI i,yI i] (zjc (sps [.func (.func 206) #[] #[pp b1 0],.slice xZ parts.length xQ,yI i] ?_)))))))
  obtain ⟨b6,o7,rfl⟩:=H.addr 1 rfl qf
  obtain ⟨ae9,ce9,Fe9,H⟩:=H.vM 1 rfl i i qf qf qf
  refine oI rfl rfl (oL rfl (H.xR 1 rfl 0 rfl) (sw (vz #[.slice ae9 ((parts[i]!).length) ce9,pp b1 0] rfl rfl call206 (en func206 ntmps206 ?_))))
  refine zcr (sp (.bool false) (zjc (sp (.slice ae9 ((parts[i]!).length) ce9) (oL rfl (H.cell 0 rfl rfl) (sw (oq (isWithin_ok _ (parts[i]!) rest (H.get 0 rfl).1 (H.get 2 rfl).1 qg qg) H fun w10 H=>sp (.bool (within (parts[i]!) rest)) (zjr (ret1 (.bool (within (parts[i]!) rest)) rfl rfl ⟨_,rfl,(zjn (xG (within (parts[i]!) rest) rfl (fun h12=>?_) (fun h12=>?_)))⟩))))))))
  ·skip
   refine zcr (sps [yI i,yI i] (zjr (zr5 (ret1 (yI i) rfl rfl ⟨_,rfl,(sw (o_pure (.bool true) (by show some (Value.bool (decide ((i:Int)≥0)))=some (Value.bool true);rw [decide_eq_true qf]) (sp (.bool true) (zjr (ret1 (.bool true) rfl rfl ⟨_,rfl,(sps [.bool false,.bool false] (zjr (ret1 (.bool false) rfl rfl ⟨_,rfl,?_,H.base⟩)))⟩)))))⟩))))
   rw [xu (fun h=>by have:=h i qf;simp_all)]
  refine qU (b_n (t_n (xW (sw (zu i 1 rfl rfl qf (sp (yI (i+1)) (xU (qZ (m' :=(parts.length - ((i+1):Int)).toNat) qf ⟨_,i+1,uE4,?_,?_,rfl,N,H.pick [0] [2,3]⟩))))))))
  · omega
  · first | trivial | exact i1.succ ‹_›
 refine zx4 (zcr (sp (yI (-1)) (zjr (ret1 (yI (-1)) rfl rfl ⟨_,rfl,(sps [.bool false,.bool false] (zjr (ret1 (.bool false) rfl rfl ⟨_,rfl,(sps [.bool true,.bool true] (zjr (ret1 (.bool true) rfl rfl ⟨_,rfl,?_,H.base⟩)))⟩)))⟩))))
 rw [yf (show FullOk parts rest from fun j hj=>i1 j qf)]

theorem bagAndParts_ok (w:World) (b:yLI) (parts:yLL) {ab:yOA} {Fb:yLN} {xZ:yOA} {xQ:Nat} {Fparts:yLN} (hb:qO.rep w Fb [.slice ab b.length cb] b) (hparts:qO.rep w Fparts [.slice xZ parts.length xQ] parts) (p0:V9 parts b) (p1:1≤parts.length):Calls Tryz.prog 200 #[.slice ab b.length cb,.slice xZ parts.length xQ] w (Ret (fun v w' =>v=yI 0) w):=by
 refine en func200 ntmps200 ?_
 have H:=((St.start w).arg hparts).arg hb
 have nhb:=qK hb
 have nhparts:=qK hparts
 clear hb hparts
 have N:=Fresh.nil w.heap.size
 obtain ⟨pb,pl,pk⟩:=p0.bags p1
 refine zcr (sp (yI 0) (zjcc (sp (.slice ab b.length cb) (sw (oq (isBag_ok _ b (H.get 0 rfl).1) H fun w2 H=>sp (.bool (!(dec (VE b)))) (zjn (cQ rfl (fun h4=>?_) (fun h4=>?_))))))))
 ·skip
  refine zcr (sp (yI 1) (zjr (t_r (ret1 (yI 1) rfl rfl ⟨_,rfl,?_,H.base⟩))))
  exfalso;first | omega | exact ‹¬ VE _› pb
 refine qU (t_n (zcr (sp (.slice ab b.length cb) (oN rfl (sps [.slice xZ parts.length xQ,.slice xZ parts.length xQ] (oN rfl (sw (XA H underlying22 ti2 parts.length rfl rfl qf qf qf fun b5 w6 H=>sw (vz #[yI b.length,.slice xZ parts.length xQ,.slice (aa b5 0) parts.length parts.length] rfl rfl call210 (en func210 ntmps210 ?_))))))))))
 refine zcr (sp (yI 0) (zjcc (sp (.slice xZ parts.length xQ) (sw (vz #[.slice xZ parts.length xQ,.func (.func 212) #[] #[]] rfl rfl call205 (en func205 ntmps205 ?_))))))
 refine zcr (sp (.bool false) (zjc (sps [.slice xZ parts.length xQ,.func (.func 212) #[] #[]] (sw (vz #[.slice xZ parts.length xQ,.func (.func 212) #[] #[]] rfl rfl call211 (en func211 ntmps211 ?_))))))
 refine zcr (sp (yI 0) (zjcc (sp (.slice xZ parts.length xQ) (oN rfl (sp (yI 0) (zjn (qW ?_)))))))
 refine zn (fun m' ρ w7=>∃ (xP:Env) (i:Nat),ρ=upd (upd (upd (upd xP 0 (.slice xZ parts.length xQ)) 1 (.func (.func 212) #[] #[])) 7 (yI parts.length)) 8 (yI i)∧((i:Int)≤parts.length)∧(True)∧m' =(parts.length - (i:Int)).toNat∧Fresh w.heap.size []∧St w w7 [rr (aa b5 0) parts.length parts.length 2 1 ((List.replicate parts.length (0:Int)).map (Value.int .i64))] [sF false Fb ab cb b,sF false Fparts xZ xQ parts]) ((parts.length - (0:Int)).toNat) ⟨_,0,uE4,qf,(by first | trivial | exact fun j hj=>by omega),rfl,N,H⟩ ?_
 clear H N
 rintro m' ρ w8 ⟨xP,i,rfl,i0,i1,rfl,N,H⟩
 refine zcr (sp (.bool (decide ((i:Int) < parts.length))) (zjn (xO (cD rfl (fun h9=>?_) (fun h9=>?_)))))
 ·skip
  refine qU (t_n (xO (qW (zcr (sps [yI i,yI i] (zjc (sps [.func (.func 212) #[] #[],.slice xZ parts.length xQ,yI i] ?_)))))))
  obtain ⟨b10,o11,rfl⟩:=H.addr 1 rfl qf
  obtain ⟨ae13,ce13,Fe13,H⟩:=H.vM 1 rfl i i qf qf qf
  refine oI rfl rfl (oL rfl (H.xR 1 rfl 0 rfl) (sw (vz #[.slice ae13 ((parts[i]!).length) ce13] rfl rfl call212 (en func212 ntmps212 ?_))))
  refine zcr (sp (.bool false) (zjc (sp (.slice ae13 ((parts[i]!).length) ce13) (sw (oq (isBag_ok _ (parts[i]!) (H.get 0 rfl).1) H fun w15 H=>sps [.bool (!(dec (VE (parts[i]!)))),.bool (!(dec (VE (parts[i]!))))] (zjr (ret1 (.bool (!(dec (VE (parts[i]!))))) rfl rfl ⟨_,rfl,(zjn (cQ rfl (fun h17=>?_) (fun h17=>?_)))⟩)))))))
  ·skip
   exact absurd (pk i qf).1 h17
  refine qU (b_n (t_n (xW (sw (zu i 1 rfl rfl qf (sp (yI (i+1)) (xU (qZ (m' :=(parts.length - ((i+1):Int)).toNat) qf ⟨_,i+1,uE4,?_,?_,rfl,N,H.pick [0] [2,3]⟩))))))))
  · omega
  · first | trivial | exact i1.succ ‹_›
 refine zx4 (zcr (sp (yI (-1)) (zjr (ret1 (yI (-1)) rfl rfl ⟨_,rfl,(sps [.bool false,.bool false] (zjr (ret1 (.bool false) rfl rfl ⟨_,rfl,(zjn (xG false rfl (fun h=>absurd h qj) (fun _=>qU (t_n (zcc (sp (.slice xZ parts.length xQ) (oN rfl (sps [.bool (decide ((parts.length:Int) > 8)),.bool (decide ((parts.length:Int) > 8))] ?_))))))))⟩)))⟩))))
 cases h18:(decide ((parts.length:Int) > 8))
 ·skip
  replace h18:=of_decide_eq_false h18
  refine qP 14 rfl rfl (sp (.slice (aa b5 0) parts.length parts.length) (qP 14 rfl rfl (oN rfl (qP 14 rfl rfl (sp (.slice xZ parts.length xQ) (qP 14 rfl rfl (oN rfl (qP 14 rfl rfl (sps [.bool ((parts.length:Int) != parts.length),.bool ((parts.length:Int) != parts.length)] (zjn (xG ((parts.length:Int) != parts.length) rfl (fun h=>absurd rfl (bne_iff_ne.1 h)) (fun h19=>?_))))))))))))
  replace h19:=xq h19
  refine qU (t_n (zcc (sp (.slice xZ parts.length xQ) (oN rfl (sp (yI 0) (zjn (qW ?_)))))))
  refine zn (fun m' ρ w20=>∃ (xP:Env) (i_1:Nat),ρ=upd (upd (upd (upd (upd xP 0 (yI b.length)) 2 (.slice (aa b5 0) parts.length parts.length)) 21 (.slice xZ parts.length xQ)) 22 (yI parts.length)) 23 (yI i_1)∧((i_1:Int)≤parts.length)∧m' =(parts.length - (i_1:Int)).toNat∧Fresh w.heap.size []∧St w w20 [rr (aa b5 0) parts.length parts.length 2 1 ((List.replicate parts.length (0:Int)).map (Value.int .i64))] [sF false Fb ab cb b,sF false Fparts xZ xQ parts]) ((parts.length - (0:Int)).toNat) ⟨_,0,uE5,qf,rfl,N,H⟩ ?_
  clear H N
  rintro m' ρ w21 ⟨xP,i_1,rfl,i0,rfl,N,H⟩
  refine zcr (sp (.bool (decide ((i_1:Int) < parts.length))) (zjn (xO (cD rfl (fun h22=>?_) (fun h22=>?_)))))
  ·skip
   obtain ⟨r1,r2,r3⟩:=pk i_1 qf
   have r4:=Qd r1
   have r5:(List.replicate parts.length (0:Int))[i_1]! =0:=by rw [getElem!_pos _ i_1 (by simp;omega)];simp
   refine qU (t_n (xO (qW (zcr (sp (yI i_1) ?_)))))
   obtain ⟨b23,o24,rfl⟩:=H.addr 1 rfl qf
   obtain ⟨ae26,ce26,Fe26,H⟩:=H.vM 1 rfl i_1 i_1 qf qf qf
   refine oI rfl rfl (oL rfl (H.xR 1 rfl 0 rfl) (sps [yI i_1,.slice ae26 ((parts[i_1]!).length) ce26] (zjc (sp (.slice ae26 ((parts[i_1]!).length) ce26) (oN rfl (sps [yI b.length,.bool (((parts[i_1]!).length:Int) != b.length),.bool (((parts[i_1]!).length:Int) != b.length)] ?_))))))
   cases h27:(((parts[i_1]!).length:Int) != b.length)
   ·skip
    replace h27:=xq h27
    refine qP 32 rfl rfl (sp (.slice ae26 ((parts[i_1]!).length) ce26) (qP 32 rfl rfl (sw (oq (Vw _ (parts[i_1]!) (H.get 0 rfl).1 (by first | assumption | exact vg ql | exact Qd ql)) H fun w28 H=>qP 32 rfl rfl (sps [.bool ((VC (parts[i_1]!):Int) == 0),.bool ((VC (parts[i_1]!):Int) == 0),.bool ((VC (parts[i_1]!):Int) == 0)] ?_)))))
    cases h30:((VC (parts[i_1]!):Int) == 0)
    ·skip
     replace h30:=ne_of_beq_false h30
     refine qP 37 rfl rfl (sp (.slice (aa b5 0) parts.length parts.length) (qP 37 rfl rfl (sp (yI i_1) (qP 37 rfl rfl (oI rfl rfl (qP 37 rfl rfl (oL rfl (H.rowInt 0 rfl (iv:=i_1) (i:=i_1) qf qf) (qP 37 rfl rfl (sw (oq (Vp w28 ((List.replicate parts.length (0:Int))[i_1]!) 0 1000) H fun w31 H=>qP 37 rfl rfl (sps [.bool (!(inR ((List.replicate parts.length (0:Int))[i_1]!) 0 1000)),.bool (!(inR ((List.replicate parts.length (0:Int))[i_1]!) 0 1000))] (zjn (xG (!(inR ((List.replicate parts.length (0:Int))[i_1]!) 0 1000)) rfl (fun h33=>?_) (fun h33=>?_))))))))))))))
     ·skip
      replace h33:=xk h33
      replace h33:=XC h33
      refine zcr (sp (yI 2) (zjr (zr5 (ret1 (yI 2) rfl rfl ⟨_,rfl,(sp (yI 2) (zjr (ret1 (yI 2) rfl rfl ⟨_,rfl,?_,H.base⟩)))⟩))))
      exfalso;first | omega | exact ‹¬ VE _› pb
     replace h33:=xe h33
     replace h33:=Xa.1 h33
     refine qU (b_n (t_n (xW (sw (zu i_1 1 rfl rfl qf (sp (yI (i_1+1)) (xU (qZ (m' :=(parts.length - ((i_1+1):Int)).toNat) qf ⟨_,i_1+1,uE5,?_,rfl,N,H.pick [0] [2,3]⟩))))))))
     · omega
    replace h30:=eq_of_beq h30
    refine zf [38,39,40,41,42,43] (sp (.bool true) (zjn (xG true rfl (fun _=>zcr (sp (yI 2) (zjr (zr5 (ret1 (yI 2) rfl rfl ⟨_,rfl,(sp (yI 2) (zjr (ret1 (yI 2) rfl rfl ⟨_,rfl,?_,H.base⟩)))⟩))))) (fun h=>absurd h qj))))
    exfalso;first | omega | exact ‹¬ VE _› pb
   replace h27:=bne_iff_ne.1 h27
   refine zf [33,34,35] (sps [.bool true,.bool true] (zf [38,39,40,41,42,43] (sp (.bool true) (zjn (xG true rfl (fun _=>zcr (sp (yI 2) (zjr (zr5 (ret1 (yI 2) rfl rfl ⟨_,rfl,(sp (yI 2) (zjr (ret1 (yI 2) rfl rfl ⟨_,rfl,?_,H.base⟩)))⟩))))) (fun h=>absurd h qj))))))
   exfalso;first | omega | exact ‹¬ VE _› pb
  refine zx4 (zcr (sp (yI 0) (zjr (ret1 (yI 0) rfl rfl ⟨_,rfl,(sp (yI 0) (zjr (ret1 (yI 0) rfl rfl ⟨_,rfl,?_,H.base⟩)))⟩))))
  rfl
 replace h18:=of_decide_eq_true h18
 refine zf [15,16,17,18,19] (sp (.bool true) (zjn (xG true rfl (fun _=>zcr (sp (yI 2) (zjr (t_r (ret1 (yI 2) rfl rfl ⟨_,rfl,(sp (yI 2) (zjr (ret1 (yI 2) rfl rfl ⟨_,rfl,?_,H.base⟩)))⟩))))) (fun h=>absurd h qj))))
 exfalso;first | omega | exact ‹¬ VE _› pb

def packFrom_ok_S (f:Nat):Prop:=∀ {W0 w:World} {ps:List Prv} {Γ:List Fact} {Ns:List yLN} (i:Nat) (rest:yLI) (parts:yLL) (out:yLL) (cs:yLI) (arest:yOA) (crest:Nat) (Frest:yLN) (xZ:yOA) (xQ:Nat) (Fparts:yLN) (bp:Nat) (bi:Nat) (bq:Nat) (bo:Nat) (bl:Nat) (bc:Nat) (bf:Nat) (raout:yOA) (rnout:Nat) (rcout:Nat) (rxout:List Value) (rFout:yLN) (racs:yOA) (rncs:Nat) (rccs:Nat) (H:St W0 w ((.box bp [.slice xZ parts.length xQ] 27) :: (.box bi [.func (.func 177) #[] #[pp bq 0]] 170) :: (.box bq [.slice xZ parts.length xQ] 27) :: (.box bo [pp bl 0] 219) :: (.box bl [.slice raout rnout rcout] 221) :: (.box bc [.slice racs rncs rccs] 22) :: (.box bf [.func (.func 201) #[] #[pp bp 0,pp bi 0,pp bo 0,pp bc 0,pp bf 0]] 222) :: (rr raout rnout rcout 22 1 rxout) :: (rr racs rncs rccs 2 1 (cs.map (Value.int .i64))) :: ps) ((sF false Frest arest crest rest) :: (sF false Fparts xZ xQ parts) :: (xX true rFout rxout out) :: Γ)) (N:Fresh W0.heap.size (rFout :: Ns)) (K0:Kept Ns Γ) (p0:i+f=parts.length) (p1:V9 parts rest) (p2:out.length≤2000) (p3:cs.length=parts.length),Calls Tryz.prog 201 #[yI i,.slice arest rest.length crest,pp bp 0,pp bi 0,pp bo 0,pp bc 0,pp bf 0] w (fun e w' =>∃ v,e=.returned v∧∃ (cs_:yLI) (raout_:yOA) (rnout_:Nat) (rcout_:Nat) (rxout_:List Value) (rFout_:yLN),(cs_.length=cs.length)∧(cs_.take i=cs.take i)∧v=.bool (dec ((gath out (begins (cs.take i) (packs parts (parts.length - i) i rest))).length≤2000))∧Fresh W0.heap.size (rFout_ :: Ns)∧St W0 w' ((.box bp [.slice xZ parts.length xQ] 27) :: (.box bi [.func (.func 177) #[] #[pp bq 0]] 170) :: (.box bq [.slice xZ parts.length xQ] 27) :: (.box bo [pp bl 0] 219) :: (.box bl [.slice raout_ rnout_ rcout_] 221) :: (.box bc [.slice racs rncs rccs] 22) :: (.box bf [.func (.func 201) #[] #[pp bp 0,pp bi 0,pp bo 0,pp bc 0,pp bf 0]] 222) :: (rr raout_ rnout_ rcout_ 22 1 rxout_) :: (rr racs rncs rccs 2 1 (cs_.map (Value.int .i64))) :: ps) ((sF false Frest arest crest rest) :: (sF false Fparts xZ xQ parts) :: (xX true rFout_ rxout_ (gath out (begins (cs.take i) (packs parts (parts.length - i) i rest)))) :: Γ))
theorem packFrom_ok_step (f:Nat) (IH:∀ k,k < f→packFrom_ok_S k) {W0 w:World} {ps:List Prv} {Γ:List Fact} {Ns:List yLN} (i:Nat) (rest:yLI) (parts:yLL) (out:yLL) (cs:yLI) (arest:yOA) (crest:Nat) (Frest:yLN) (xZ:yOA) (xQ:Nat) (Fparts:yLN) (bp:Nat) (bi:Nat) (bq:Nat) (bo:Nat) (bl:Nat) (bc:Nat) (bf:Nat) (raout:yOA) (rnout:Nat) (rcout:Nat) (rxout:List Value) (rFout:yLN) (racs:yOA) (rncs:Nat) (rccs:Nat) (H:St W0 w ((.box bp [.slice xZ parts.length xQ] 27) :: (.box bi [.func (.func 177) #[] #[pp bq 0]] 170) :: (.box bq [.slice xZ parts.length xQ] 27) :: (.box bo [pp bl 0] 219) :: (.box bl [.slice raout rnout rcout] 221) :: (.box bc [.slice racs rncs rccs] 22) :: (.box bf [.func (.func 201) #[] #[pp bp 0,pp bi 0,pp bo 0,pp bc 0,pp bf 0]] 222) :: (rr raout rnout rcout 22 1 rxout) :: (rr racs rncs rccs 2 1 (cs.map (Value.int .i64))) :: ps) ((sF false Frest arest crest rest) :: (sF false Fparts xZ xQ parts) :: (xX true rFout rxout out) :: Γ)) (N:Fresh W0.heap.size (rFout :: Ns)) (K0:Kept Ns Γ) (p0:i+f=parts.length) (p1:V9 parts rest) (p2:out.length≤2000) (p3:cs.length=parts.length):Calls Tryz.prog 201 #[yI i,.slice arest rest.length crest,pp bp 0,pp bi 0,pp bo 0,pp bc 0,pp bf 0] w (fun e w' =>∃ v,e=.returned v∧∃ (cs_:yLI) (raout_:yOA) (rnout_:Nat) (rcout_:Nat) (rxout_:List Value) (rFout_:yLN),(cs_.length=cs.length)∧(cs_.take i=cs.take i)∧v=.bool (dec ((gath out (begins (cs.take i) (packs parts (parts.length - i) i rest))).length≤2000))∧Fresh W0.heap.size (rFout_ :: Ns)∧St W0 w' ((.box bp [.slice xZ parts.length xQ] 27) :: (.box bi [.func (.func 177) #[] #[pp bq 0]] 170) :: (.box bq [.slice xZ parts.length xQ] 27) :: (.box bo [pp bl 0] 219) :: (.box bl [.slice raout_ rnout_ rcout_] 221) :: (.box bc [.slice racs rncs rccs] 22) :: (.box bf [.func (.func 201) #[] #[pp bp 0,pp bi 0,pp bo 0,pp bc 0,pp bf 0]] 222) :: (rr raout_ rnout_ rcout_ 22 1 rxout_) :: (rr racs rncs rccs 2 1 (cs_.map (Value.int .i64))) :: ps) ((sF false Frest arest crest rest) :: (sF false Fparts xZ xQ parts) :: (xX true rFout_ rxout_ (gath out (begins (cs.take i) (packs parts (parts.length - i) i rest)))) :: Γ)):=by
 refine en func201 ntmps201 ?_
 have nrest:=qK (H.get 0 rfl).1
 have nparts:=qK (H.get 1 rfl).1
 obtain rfl:=H.zk (α:=yLI) 7 rfl 2 rfl qj
 obtain rfl:=H.rowNI 8 rfl
 have p4:=p1.small
 refine zcr (sp (.bool false) (zjcc (sp (yI i) (oL rfl (H.cell 0 rfl rfl) (oN rfl (sp (.bool ((i:Int) == parts.length)) (zjn (cE rfl (fun h1=>?_) (fun h1=>?_)))))))))
 ·skip
  refine zcr (oL rfl (H.cell 1 rfl rfl) (sp (.slice arest rest.length crest) (sw (vz #[.slice arest rest.length crest,pp bq 0] rfl rfl call177 (en func177 ntmps177 ?_)))))
  refine zcr (sp (.bool false) (zjc (sp (.slice arest rest.length crest) (oL rfl (H.cell 2 rfl rfl) (sw (oq (isFull_ok _ rest parts (H.get 0 rfl).1 (H.get 1 rfl).1 qg) H fun w3 H=>sp (.bool (dec (FullOk parts rest))) (zjr (ret1 (.bool (dec (FullOk parts rest))) rfl rfl ⟨_,rfl,(sps [.bool (!(dec (FullOk parts rest))),.bool (!(dec (FullOk parts rest)))] ?_)⟩))))))))
  cases h5:(!(dec (FullOk parts rest)))
  ·skip
   replace h5:=xe h5
   replace h5:=Qx h5
   refine qP 19 rfl rfl (oL rfl (H.cell 3 rfl rfl) (qP 19 rfl rfl (oL rfl (H.cell 5 rfl rfl) (qP 19 rfl rfl (sw (vz #[pp bl 0,.slice racs cs.length rccs] rfl rfl call202 (en func202 ntmps202 ?_)))))))
   refine zcr (sp (.bool false) (zjcc (sps [pp bl 0,pp bl 0] (oF rfl (oL rfl (H.cell 4 rfl rfl) (oN rfl (sp (.bool (decide ((out.length:Int) > 2000))) (zjn (cD rfl (fun h6=>?_) (fun h6=>?_))))))))))
   ·skip
    refine zcr (sp (.bool false) (zjr (t_r (ret1 (.bool false) rfl rfl ⟨_,rfl,(sps [.bool false,.bool false] (zjr (t_r (ret1 (.bool false) rfl rfl ⟨_,rfl,?_⟩))))⟩))))
    exfalso;omega
   refine qU (t_n (xO ?_))
   refine c_cut (fun ρ w12=>∃ (xP:Env) (a7:yOA) (c8:Nat) (a9:yOA) (c10:Nat) (G11:yLN),ρ=upd xP 0 (pp bl 0)∧Fresh W0.heap.size ((rFout++G11) :: Ns)∧St W0 w12 ((.box bp [.slice xZ parts.length xQ] 27) :: (.box bi [.func (.func 177) #[] #[pp bq 0]] 170) :: (.box bq [.slice xZ parts.length xQ] 27) :: (.box bo [pp bl 0] 219) :: (.box bl [.slice a7 (out.length+1) c8] 221) :: (.box bc [.slice racs cs.length rccs] 22) :: (.box bf [.func (.func 201) #[] #[pp bp 0,pp bi 0,pp bo 0,pp bc 0,pp bf 0]] 222) :: (rr a7 (out.length+1) c8 22 1 (rxout++[.slice a9 cs.length c10])) :: (rr racs cs.length rccs 2 1 (cs.map (Value.int .i64))) :: ps) ((xX true (rFout++G11) (rxout++[.slice a9 cs.length c10]) (out++[cs])) :: (sF true G11 a9 c10 cs) :: (sF false Frest arest crest rest) :: (sF false Fparts xZ xQ parts) :: Γ)) ?_ ?_
   ·skip
    refine c_drawK2 rfl H [0,1,2,3,5,6,8] [0,1,2] fun H=>?_
    have S:=H.yO [0,1,2,3,5,6,8] [0,1,2]
    refine rtp 0 (pp bl 0) S ?_
    refine rtp 1 (pp bl 0) S ?_
    refine rtp 2 (pp bl 0) S ?_
    refine tF 3 rfl rfl S ?_
    refine rtp 5 (.slice racs cs.length rccs) S ?_
    refine jl [4,6] qh qm (yZ rfl ?_ (yZ rfl ?_ jm))
    ·skip
     refine zJ (.slice raout out.length rcout) isAgg27 rfl (H.cell 4 rfl rfl) (⟨H.pick [0,1,2,3,5,6,8] [0,1,2],(ro 6 rfl ?_)⟩)
     obtain ⟨G14,hn15,h16⟩:=H.rowIsI 8 rfl
     have sz17:=H.base.size
     have lt18:=all_two (H.ltN (L:=[rFout]) [2]) (H.ltK (K0.behind 3 rfl))
     refine oc (cloneI_ok _ cs h16 qg) ?_
     rintro v22 w20 r22 x21
     replace H:=H.zy x21 r22
     obtain ⟨a23,c24,rfl,hc25,hm26⟩:=H.jh 0 rfl
     refine ⟨H.pick [1,2,3,4,6,7,9] [0,1,2],(ro 7 rfl (zX H underlying27 ti22 [.slice a23 cs.length c24] fun b27 w28 H=>⟨H.pick [2,3,4,5,7,8,10] [0,1,2],(ro 8 rfl ?_)⟩))⟩
     obtain ⟨G32,N,hn33,H⟩:=H.vW 1 rfl N (fun F hF b hb=>(List.mem_append.1 (show F∈[rFout]++Ns from hF)).elim (fun h=>(H.jX (L:=[rFout]) [2]) F h b hb) fun h=>H.awayK (K0.behind 3 rfl) F h b hb)
     try dsimp only [List.set] at H
     refine vC H 9 rfl 0 rfl underlying27 ti22 rfl qj rfl rfl rfl (by simp [Value.oneCell',Value.cells]) qp qf fun a29 c30 w31 H=>?_
     try dsimp only [List.set] at H
     replace H:=H.yX 3 rfl 0 rfl
     replace N:Fresh W0.heap.size ((rFout++G32) :: Ns):=(N.YB 2 [1,0] qo).join
     refine ⟨H.pick [2,3,4,5,7,8,10] [2,3,4],?_⟩
     have S:=H.yO [2,3,4,5,7,8,10] [2,3,4]
     refine rtp 9 (pp bl 0) S ?_
     refine tF 10 rfl rfl S ?_
     refine ro 11 rfl (zI H 6 [.slice a29 (out.length+1) c30] sizeOf27 fun w34 H=>?_)
     try dsimp only [List.set] at H
     refine ⟨H.pick [2,3,4,5,7,8,10] [2,3,4],(xK qh ((meet ⟨_,a29,c30,a23,c24,G32,uE1,N,H.YB 11 5 [2,3,4,5,6,7,8,9,10] [0,1,2,3] qo qo⟩)))⟩
    obtain ⟨G35,hn36,h37⟩:=H.rowIsI 8 rfl
    have sz38:=H.base.size
    have lt39:=all_two (H.ltN (L:=[rFout]) [2]) (H.ltK (K0.behind 3 rfl))
    refine oc (cloneI_ok _ cs h37 qg) ?_
    rintro v43 w41 r43 x42
    replace H:=H.zy x42 r43
    obtain ⟨a44,c45,rfl,hc46,hm47⟩:=H.jh 0 rfl
    refine ⟨H.pick [1,2,3,4,6,7,9] [0,1,2],(jl [4,7] qh qm (yZ rfl ?_ (yZ rfl ?_ jm)))⟩
    ·skip
     refine zJ (.slice raout out.length rcout) isAgg27 rfl (H.cell 5 rfl rfl) (⟨H.pick [1,2,3,4,6,7,9] [0,1,2],(ro 7 rfl (zX H underlying27 ti22 [.slice a44 cs.length c45] fun b48 w49 H=>⟨H.pick [2,3,4,5,7,8,10] [0,1,2],(ro 8 rfl ?_)⟩))⟩)
     obtain ⟨G53,N,hn54,H⟩:=H.vW 1 rfl N (fun F hF b hb=>(List.mem_append.1 (show F∈[rFout]++Ns from hF)).elim (fun h=>(H.jX (L:=[rFout]) [2]) F h b hb) fun h=>H.awayK (K0.behind 3 rfl) F h b hb)
     try dsimp only [List.set] at H
     refine vC H 9 rfl 0 rfl underlying27 ti22 rfl qj rfl rfl rfl (by simp [Value.oneCell',Value.cells]) qp qf fun a50 c51 w52 H=>?_
     try dsimp only [List.set] at H
     replace H:=H.yX 3 rfl 0 rfl
     replace N:Fresh W0.heap.size ((rFout++G53) :: Ns):=(N.YB 2 [1,0] qo).join
     refine ⟨H.pick [2,3,4,5,7,8,10] [2,3,4],?_⟩
     have S:=H.yO [2,3,4,5,7,8,10] [2,3,4]
     refine rtp 9 (pp bl 0) S ?_
     refine tF 10 rfl rfl S ?_
     refine ro 11 rfl (zI H 6 [.slice a50 (out.length+1) c51] sizeOf27 fun w55 H=>?_)
     try dsimp only [List.set] at H
     refine ⟨H.pick [2,3,4,5,7,8,10] [2,3,4],(xK qh ((meet ⟨_,a50,c51,a44,c45,G53,uE1,N,H.YB 11 5 [2,3,4,5,6,7,8,9,10] [0,1,2,3] qo qo⟩)))⟩
    refine zX H underlying27 ti22 [.slice a44 cs.length c45] fun b56 w57 H=>⟨H.pick [2,3,4,5,7,8,10] [0,1,2],(ro 4 rfl (zJ (.slice raout out.length rcout) isAgg27 rfl (H.cell 6 rfl rfl) (⟨H.pick [2,3,4,5,7,8,10] [0,1,2],(ro 8 rfl ?_)⟩)))⟩
    obtain ⟨G61,N,hn62,H⟩:=H.vW 1 rfl N (fun F hF b hb=>(List.mem_append.1 (show F∈[rFout]++Ns from hF)).elim (fun h=>(H.jX (L:=[rFout]) [2]) F h b hb) fun h=>H.awayK (K0.behind 3 rfl) F h b hb)
    try dsimp only [List.set] at H
    refine vC H 9 rfl 0 rfl underlying27 ti22 rfl qj rfl rfl rfl (by simp [Value.oneCell',Value.cells]) qp qf fun a58 c59 w60 H=>?_
    try dsimp only [List.set] at H
    replace H:=H.yX 3 rfl 0 rfl
    replace N:Fresh W0.heap.size ((rFout++G61) :: Ns):=(N.YB 2 [1,0] qo).join
    refine ⟨H.pick [2,3,4,5,7,8,10] [2,3,4],?_⟩
    have S:=H.yO [2,3,4,5,7,8,10] [2,3,4]
    refine rtp 9 (pp bl 0) S ?_
    refine tF 10 rfl rfl S ?_
    refine ro 11 rfl (zI H 6 [.slice a58 (out.length+1) c59] sizeOf27 fun w63 H=>?_)
    try dsimp only [List.set] at H
    refine ⟨H.pick [2,3,4,5,7,8,10] [2,3,4],(xK qh ((meet ⟨_,a58,c59,a44,c45,G61,uE1,N,H.YB 11 5 [2,3,4,5,6,7,8,9,10] [0,1,2,3] qo qo⟩)))⟩
   clear H N
   rintro ρ w64 ⟨xP,a7,c8,a9,c10,G11,rfl,N,H⟩
   refine t_n (zcr (sps [pp bl 0,pp bl 0] (oF rfl (oL rfl (H.cell 4 rfl rfl) (oN rfl (sps [.bool (decide ((out.length+1:Int)≤2000)),.bool (decide ((out.length+1:Int)≤2000))] (zjr (ret1 (.bool (decide ((out.length+1:Int)≤2000))) rfl rfl ⟨_,rfl,(sps [.bool (decide ((out.length+1:Int)≤2000)),.bool (decide ((out.length+1:Int)≤2000))] (zjr (t_r (ret1 (.bool (decide ((out.length+1:Int)≤2000))) rfl rfl ⟨_,rfl,?_⟩))))⟩))))))))
   rw [pack_fullI qf p3 ‹FullOk _ _› p2,show decide ((out.length+1:Int)≤2000)=dec ((out++[cs]).length≤2000) from dec_eq (by simp;omega)]
   exact ⟨cs,a7,out.length+1,c8,rxout++[Value.slice a9 cs.length c10],(rFout++G11),(by first | rfl | omega | (have:=‹_=(List.set _ _ _).length›;rw [List.length_set] at this;omega)),(by first | rfl | assumption | exact pack_keep ‹_› j2),rfl,N,H.YB 9 4 [0,1,2,3,4,5,6,7,8] [2,3,0] qo qo⟩
  replace h5:=xk h5
  replace h5:=zS h5
  refine zf [20,21,22] (sps [.bool true,.bool true] (zjr (t_r (ret1 (.bool true) rfl rfl ⟨_,rfl,?_⟩))))
  rw [pack_noneI qf ‹_› p2,yf p2]
  exact ⟨cs,raout,out.length,rcout,rxout,rFout,(by first | rfl | omega | (have:=‹_=(List.set _ _ _).length›;rw [List.length_set] at this;omega)),(by first | rfl | assumption | exact pack_keep ‹_› j2),rfl,N,H.YB 9 3 [0,1,2,3,4,5,6,7,8] [0,1,2] qo qo⟩
 refine qU (t_n (zcc (sp (yI 0) (zjn (qW ?_)))))
 obtain ⟨t1,t2,t3,t4,t5,t6⟩:=p1.times (k:=i) qf
 refine zn (fun m' ρ w65=>∃ (xP:Env) (n:Nat) (Yu:yOA) (Yp:Nat) (Yt:Nat) (out_lists:yLL) (Yl:List Value) (Xq:yLN) (cs_1:yLI),ρ=upd (upd (upd (upd (upd (upd xP 0 (yI i)) 1 (.slice arest rest.length crest)) 2 (pp bp 0)) 5 (pp bc 0)) 6 (pp bf 0)) 10 (yI n)∧out_lists=(gath out (begins (cs.take i) (jo parts (f - 1) i rest n)))∧((n:Int)≤jf (parts[i]!) rest+1)∧(cs_1.length=parts.length)∧(cs_1.take i=cs.take i)∧((gath out (begins (cs.take i) (jo parts (f - 1) i rest n))).length≤2000)∧m' =(jf (parts[i]!) rest+1 - (n:Int)).toNat∧Fresh W0.heap.size (Xq :: Ns)∧St W0 w65 ((.box bp [.slice xZ parts.length xQ] 27) :: (.box bi [.func (.func 177) #[] #[pp bq 0]] 170) :: (.box bq [.slice xZ parts.length xQ] 27) :: (.box bo [pp bl 0] 219) :: (.box bl [.slice Yu Yp Yt] 221) :: (.box bc [.slice racs cs.length rccs] 22) :: (.box bf [.func (.func 201) #[] #[pp bp 0,pp bi 0,pp bo 0,pp bc 0,pp bf 0]] 222) :: (rr Yu Yp Yt 22 1 Yl) :: (rr racs cs.length rccs 2 1 (cs_1.map (Value.int .i64))) :: ps) ((sF false Frest arest crest rest) :: (sF false Fparts xZ xQ parts) :: (xX true Xq Yl out_lists) :: Γ)) ((jf (parts[i]!) rest+1 - (0:Int)).toNat) ⟨_,0,raout,out.length,rcout,out,rxout,rFout,cs,uE6,(by exact pack_startI p2),qf,ql,(by rfl),(by rw [← pack_startI p2];exact p2),rfl,N,H⟩ ?_
 clear H N
 rintro m' ρ w66 ⟨xP,n,Yu,Yp,Yt,out_lists,Yl,Xq,cs_1,rfl,rfl,i0,j1,j2,j3,rfl,N,H⟩
 have hn_out_lists:=H.zk (α:=yLI) 7 rfl 2 rfl qj
 have hn_cs:=H.rowNI 8 rfl
 refine zcc (sp (yI n) (oL rfl (H.cell 0 rfl rfl) (sp (yI i) ?_)))
 obtain ⟨b67,o68,rfl⟩:=H.addr 1 rfl qf
 obtain ⟨ae70,ce70,Fe70,H⟩:=H.vM 1 rfl i i qf qf qf
 refine oI rfl rfl (oL rfl (H.xR 1 rfl 0 rfl) (sp (.slice arest rest.length crest) ?_))
 obtain ⟨t1,t2,t3,t4,t5,t6⟩:=p1.times (k:=i) qf
 refine sw (oq (timesIn_ok _ (parts[i]!) rest (H.get 0 rfl).1 (H.get 2 rfl).1 qg qg) H fun w72 H=>sp (.bool (decide ((n:Int)≤(jf (parts[i]!) rest)))) (zjn (cD rfl (fun h74=>?_) (fun h74=>?_))))
 ·skip
  refine qU (t_n (xO (qW (zcr (oL rfl (H.cell 5 rfl rfl) (sps [yI i,yI n] ?_))))))
  obtain ⟨b75,rfl⟩:=H.Qw 8 rfl qf
  refine oI rfl rfl (sw (o_storeInt H 8 rfl n sizeOf2 rfl rfl (i:=i) qf qf fun w76 H=>?_))
  try dsimp only [List.set] at H
  refine zjn (xO ?_)
  refine c_drawK2 rfl H [0,1,2,3,5,6] [0,1,2,3] fun H=>?_
  have S:=H.yO [0,1,2,3,5,6] [0,1,2,3]
  refine tL 0 rfl rfl (fun _ h=>h.cell 5 rfl rfl) S ?_
  refine rtp 1 (yI i) S ?_
  refine rt 2 (yI (i+1)) (y_add i 1 rfl rfl qf) S ?_
  refine rtp 3 (.slice arest rest.length crest) S ?_
  refine tL 4 rfl rfl (fun _ h=>h.cell 0 rfl rfl) S ?_
  refine rtp 5 (yI i) S ?_
  refine tI 6 rfl rfl rfl S ?_
  refine tL 7 rfl rfl (fun _ h=>h.xR 1 rfl 0 rfl) S ?_
  refine rtp 8 (yI n) S ?_
  refine rt 9 (yI (-n)) (y_neg n rfl qf) S ?_
  refine ro 10 rfl ?_
  obtain ⟨u1,u2,u3,u4⟩:=p1.plus (k:=i) qf (n:=(n:Int)) qf qf
  have sz78:=H.base.size
  have lt79:=all_two (H.ltN (L:=[Xq]) [4]) (H.ltK (K0.behind 5 rfl))
  refine oc (plus_ok _ rest (parts[i]!) (-n) (H.get 2 rfl).1 (H.get 0 rfl).1 qg qg qg) ?_
  rintro v83 w81 r83 x82
  replace H:=H.zy x82 r83
  obtain ⟨a84,c85,rfl,hc86,hm87⟩:=H.jh 0 rfl
  refine ⟨H.pick [1,2,3,4,6,7] [0,1,2,3],(ro 11 rfl ?_)⟩
  obtain ⟨G88,N,hn89,H⟩:=H.vW 0 rfl N (fun F hF b hb=>(List.mem_append.1 (show F∈[Xq]++Ns from hF)).elim (fun h=>(H.jX (L:=[Xq]) [4]) F h b hb) fun h=>H.awayK (K0.behind 5 rfl) F h b hb)
  try dsimp only [List.set] at H
  replace H:=H.unfreeI 0 rfl
  have H1:St W0 w81 ((.box bp [.slice (aa b67 o68) parts.length xQ] 27) :: (.box bi [.func (.func 177) #[] #[pp bq 0]] 170) :: (.box bq [.slice (aa b67 o68) parts.length xQ] 27) :: (.box bo [pp bl 0] 219) :: (.box bl [.slice Yu Yp Yt] 221) :: (.box bc [.slice (aa b75 0) cs.length rccs] 22) :: (.box bf [.func (.func 201) #[] #[pp bp 0,pp bi 0,pp bo 0,pp bc 0,pp bf 0]] 222) :: (rr Yu Yp Yt 22 1 Yl) :: (rr (aa b75 0) cs.length rccs 2 1 ((cs_1.set i n).map (Value.int .i64))) :: (rr none 0 0 0 1 []) :: ps) ((sF false G88 a84 c85 (vV rest (parts[i]!) (-n))) :: (sF false Fparts (aa b67 o68) xQ parts) :: (xX true Xq Yl (gath out (begins (cs.take i) (jo parts (f - 1) i rest n)))) :: (sF false G88 a84 c85 (vV rest (parts[i]!) (-n))) :: (sF true G88 a84 c85 (vV rest (parts[i]!) (-n))) :: (sF false Fe70 ae70 ce70 (parts[i]!)) :: (atF b67 (o68+(i:Int).toNat * 1) [.slice ae70 ((parts[i]!).length) ce70]) :: (sF false Frest arest crest rest) :: (sF false Fparts (aa b67 o68) xQ parts) :: Γ):=H.YB 10 7 [1,2,3,4,5,6,7,8,9,0] [0,5,6,0,1,2,3,4,5] qo qo
  have N1:Fresh _ (Xq :: G88 :: Ns):=(N.YB 2 [1,0] qo)
  have K1:Kept (Ns) ((sF false G88 a84 c85 (vV rest (parts[i]!) (-n))) :: (sF true G88 a84 c85 (vV rest (parts[i]!) (-n))) :: (sF false Fe70 ae70 ce70 (parts[i]!)) :: (atF b67 (o68+(i:Int).toNat * 1) [.slice ae70 ((parts[i]!).length) ce70]) :: (sF false Frest arest crest rest) :: (sF false Fparts (aa b67 o68) xQ parts) :: Γ):=K0.behind 6 rfl
  replace K1:=K1.cons (F:=G88) 0 rfl rfl
  refine o_callF #[yI (i+1),.slice a84 ((vV rest (parts[i]!) (-n)).length) c85,pp bp 0,pp bi 0,pp bo 0,pp bc 0,pp bf 0] rfl rfl call201 (IH (f - 1) qf (i+1) (vV rest (parts[i]!) (-n)) parts (gath out (begins (cs.take i) (jo parts (f - 1) i rest n))) (cs_1.set i n) a84 c85 G88 (aa b67 o68) xQ Fparts bp bi bq bo bl bc bf Yu Yp Yt Yl Xq (aa b75 0) cs.length rccs H1 N1 K1 qf (by first | assumption | exact u4) (by first | assumption | exact j3 | (simp;done)) (by first | assumption | (rw [List.length_set];exact j1) | (simp;done))) ?_
  clear H H1 N1 K1
  rintro _ w90 ⟨cs91,raout91,rnout91,rcout91,rxout91,rFout91,hx92,hx93,rfl,N,H⟩
  obtain rfl:=H.zk (α:=yLI) 7 rfl 2 rfl qj
  refine ⟨H.pick [0,1,2,3,5,6] [5,6,7,8],(rtp 12 (.bool (!(dec ((gath (gath out (begins (cs.take i) (jo parts (f - 1) i rest n))) (begins ((cs_1.set i n).take (i+1)) (packs parts (parts.length - (i+1)) (i+1) (vV rest (parts[i]!) (-n))))).length≤2000)))) (H.pick [0,1,2,3,5,6] [5,6,7,8]) ?_)⟩
  refine xK qh (t_n (cQ rfl (fun h94=>?_) (fun h94=>?_)))
  ·skip
   refine zcr (sp (.bool false) (zjr (zr5 (ret1 (.bool false) rfl rfl ⟨_,rfl,?_⟩))))
   have e1:=pack_stepI (out:=out) p0 qf j1 j2 j3
   have e2:=‹¬ (gath (gath _ _) _).length≤2000›
   rw [e1] at e2
   rw [pack_endI (n:=n+1) p0 qf qf qf (.inr e2),← e1,xu (by rw [e1];exact e2)]
   exact ⟨cs91,raout91,(gath (gath out (begins (cs.take i) (jo parts (f - 1) i rest n))) (begins ((cs_1.set i n).take (i+1)) (packs parts (parts.length - (i+1)) (i+1) (vV rest (parts[i]!) (-n))))).length,rcout91,rxout91,rFout91,(by first | rfl | omega | (have:=‹_=(List.set _ _ _).length›;rw [List.length_set] at this;omega)),(by first | rfl | assumption | exact pack_keep ‹_› j2),rfl,(N.YB 2 [0] qo),H.YB 10 9 [0,1,2,3,4,5,6,7,8] [7,1,2] qo qo⟩
  refine qU (b_n (t_n (xW (sp (yI n) (sw (zu n 1 rfl rfl qf (sp (yI (n+1)) (xU ?_))))))))
  refine qZ (m' :=(jf (parts[i]!) rest+1 - ((n+1):Int)).toNat) qf ⟨_,n+1,raout91,(gath (gath out (begins (cs.take i) (jo parts (f - 1) i rest n))) (begins ((cs_1.set i n).take (i+1)) (packs parts (parts.length - (i+1)) (i+1) (vV rest (parts[i]!) (-n))))).length,rcout91,(gath (gath out (begins (cs.take i) (jo parts (f - 1) i rest n))) (begins ((cs_1.set i n).take (i+1)) (packs parts (parts.length - (i+1)) (i+1) (vV rest (parts[i]!) (-n))))),rxout91,rFout91,cs91,uE6,?_,?_,?_,?_,?_,rfl,(N.YB 2 [0] qo),H.YB 10 9 [0,1,2,3,4,5,6,7,8] [7,8,2] qo qo⟩
  · exact pack_stepI p0 qf j1 j2 j3
  · omega
  · have:=‹_=(List.set _ _ _).length›;rw [List.length_set] at this;omega
  · exact pack_keep ‹_› j2
  · rw [← pack_stepI p0 qf j1 j2 j3];assumption
 refine zx4 (zcr (sp (.bool true) (zjr (ret1 (.bool true) rfl rfl ⟨_,rfl,?_⟩))))
 rw [pack_endI (f:=f) (n:=n) p0 qf i0 qf (.inl qf),yf j3]
 exact ⟨cs_1,Yu,Yp,Yt,Yl,Xq,(by first | rfl | omega | (have:=‹_=(List.set _ _ _).length›;rw [List.length_set] at this;omega)),(by first | rfl | assumption | exact pack_keep ‹_› j2),rfl,N,H.YB 9 5 [0,1,2,3,4,5,6,7,8] [2,3,4] qo qo⟩

theorem packFrom_ok (f:Nat):packFrom_ok_S f:=Nat.strongRecOn (motive:=packFrom_ok_S) f fun f IH=>by unfold packFrom_ok_S;intros;apply packFrom_ok_step f IH <;> assumption

theorem maxPack_ok (w:World) (b:yLI) (parts:yLL) {ab:yOA} {Fb:yLN} {xZ:yOA} {xQ:Nat} {Fparts:yLN} (hb:qO.rep w Fb [.slice ab b.length cb] b) (hparts:qO.rep w Fparts [.slice xZ parts.length xQ] parts) (p0:V9 parts b) (p1:1≤parts.length):Calls Tryz.prog 142 #[.slice ab b.length cb,.slice xZ parts.length xQ] w (Ret (fun v w' =>∃ (ra0:yOA) (rn0:Nat) (rc0:Nat) (rx0:List Value) (rF0:yLN),v=.tuple #[.slice ra0 rn0 rc0,yI ((zQ b parts).2)]∧Fresh w.heap.size [rF0]∧St w w' [rr ra0 rn0 rc0 22 1 rx0] [xX true rF0 rx0 ((zQ b parts).1)]) w):=by
 refine en func142 ntmps142 ?_
 have H:=((St.start w).arg hparts).arg hb
 have nhb:=qK hb
 have nhparts:=qK hparts
 clear hb hparts
 have N:=Fresh.nil w.heap.size
 have p3:=p0.small
 have p4:=p0.smallB
 refine zcr (sw (vN H [.slice xZ parts.length xQ] fun b1 w2 H=>sps [yN,yI 0] (zjc (sp (.slice ab b.length cb) (oL rfl (H.cell 0 rfl rfl) (sp (.func (.func 177) #[] #[pp b1 0]) (sw (vz #[.slice ab b.length cb,.slice xZ parts.length xQ,.func (.func 177) #[] #[pp b1 0]] rfl rfl call176 (en func176 ntmps176 ?_)))))))))
 refine zcr (sw (vN H [.slice xZ parts.length xQ] fun b3 w4 H=>sw (vN H [.func (.func 177) #[] #[pp b1 0]] fun b5 w6 H=>sps [yN,yI 0] (zjcc (sp (.slice ab b.length cb) (oL rfl (H.cell 1 rfl rfl) (sw (oq (bagAndParts_ok _ b parts (H.get 0 rfl).1 (H.get 1 rfl).1 qg qg) H fun w8 H=>sp (yI 0) (zjc (sps [yI 0,.bool false] (zjn (xG false rfl (fun h=>absurd h qj) (fun _=>qU (t_n (zcc (sp (.slice ab b.length cb) ?_))))))))))))))))
 refine sw (oq (Vw _ b (H.get 0 rfl).1 (by first | assumption | exact vg ql | exact Qd ql)) H fun w10 H=>sp (.bool (decide ((VC b:Int) > 16))) (zjn (cD rfl (fun h12=>?_) (fun h12=>?_))))
 ·skip
  refine zcr (sps [yN,yI 3] (zjr (t_r (ret2 yN (yI 3) rfl rfl rfl ⟨_,rfl,?_⟩))))
  replace H:=H.erases [1,0]
  dsimp only [jA,List.eraseIdx] at H
  refine sps [yN,yI 3,yN,yI 3] (zjr ?_)
  replace H:=H.nilRow 22 1
  replace H:=H.vH (α:=yLI)
  refine ret2 yN (yI 3) rfl rfl rfl ⟨_,rfl,?_,H.base⟩
  first | rw [all_a ql] | rw [all_bI (cs:=(List.replicate parts.length (0:Int))) ql qf]
  exact ⟨none,0,0,[],[],rfl,N.emp,H.pick [0] [0]⟩
 refine qU (t_n (xO ?_))
 refine c_cut (fun ρ w17=>∃ (xP:Env) (b13:Nat) (b14:Nat) (b15:Nat) (b16:Nat),ρ=upd (upd (upd (upd (upd xP 0 (.slice ab b.length cb)) 4 (pp b3 0)) 5 (pp b5 0)) 9 (pp b13 0)) 10 (pp b14 0)∧Fresh w.heap.size []∧St w w17 [.box b14 [.slice (aa b15 0) parts.length parts.length] 22,.box b13 [pp b16 0] 219,rr (aa b15 0) parts.length parts.length 2 1 ((List.replicate parts.length (0:Int)).map (Value.int .i64)),.box b16 [yN] 221,.box b5 [.func (.func 177) #[] #[pp b1 0]] 170,.box b3 [.slice xZ parts.length xQ] 27,.box b1 [.slice xZ parts.length xQ] 27] [sF false Fb ab cb b,sF false Fparts xZ xQ parts]) ?_ ?_
 ·skip
  refine jb rfl H fun H=>?_
  refine r_have (fun ρ w23=>∃ (xP:Env) (b19:Nat) (b20:Nat) (b21:Nat),ρ=upd (upd (upd (upd (upd (upd (upd xP 0 (.slice ab b.length cb)) 4 (pp b3 0)) 5 (pp b5 0)) 9 (pp b20 0)) 10 (pp b21 0)) 22 (pp b19 0)) 24 (yI parts.length)∧Fresh w.heap.size []∧St w w23 [.box b21 [yN] 22,.box b20 [.pointer none] 219,.box b19 [yN] 221,.box b5 [.func (.func 177) #[] #[pp b1 0]] 170,.box b3 [.slice xZ parts.length xQ] 27,.box b1 [.slice xZ parts.length xQ] 27] [sF false Fb ab cb b,sF false Fparts xZ xQ parts]) 3 #[true,true,true,true,false,true,true,false,false] ?_ fun L22=>?_
  ·skip
   rintro ρ w24 ⟨xP,b19,b20,b21,rfl,N,H⟩
   refine jl [4,7] qh qm (yZ rfl ?_ (yZ rfl ?_ jm))
   ·skip
    refine XA H underlying22 ti2 parts.length rfl rfl qf qf qf fun b25 w26 H=>⟨H.pick [4,5,6] [0,1],(ro 7 rfl (zI H 2 [pp b19 0] sizeOf219 fun w27 H=>⟨H.pick [4,5,6] [0,1],(ro 8 rfl (zI H 1 [.slice (aa b25 0) parts.length parts.length] sizeOf22 fun w28 H=>⟨H.pick [4,5,6] [0,1],(xK qh ((meet ⟨_,b20,b21,b25,b19,uE5,N,H.pick [1,2,0,3,4,5,6] [0,1]⟩)))⟩))⟩))⟩
   refine zI H 1 [pp b19 0] sizeOf219 fun w29 H=>⟨H.pick [3,4,5] [0,1],(ro 4 rfl (XA H underlying22 ti2 parts.length rfl rfl qf qf qf fun b30 w31 H=>⟨H.pick [4,5,6] [0,1],(ro 8 rfl (zI H 1 [.slice (aa b30 0) parts.length parts.length] sizeOf22 fun w32 H=>⟨H.pick [4,5,6] [0,1],(xK qh ((meet ⟨_,b20,b21,b30,b19,uE5,N,H.pick [1,2,0,3,4,5,6] [0,1]⟩)))⟩))⟩))⟩
  refine r_have (fun ρ w36=>∃ (xP:Env) (b33:Nat) (b34:Nat),ρ=upd (upd (upd (upd (upd xP 0 (.slice ab b.length cb)) 4 (pp b3 0)) 5 (pp b5 0)) 22 (pp b33 0)) 25 (.slice (aa b34 0) parts.length parts.length)∧Fresh w.heap.size []∧St w w36 [rr (aa b34 0) parts.length parts.length 2 1 ((List.replicate parts.length (0:Int)).map (Value.int .i64)),.box b33 [yN] 221,.box b5 [.func (.func 177) #[] #[pp b1 0]] 170,.box b3 [.slice xZ parts.length xQ] 27,.box b1 [.slice xZ parts.length xQ] 27] [sF false Fb ab cb b,sF false Fparts xZ xQ parts]) 4 #[true,true,true,true,true,false,false,false,false] ?_ fun L35=>?_
  ·skip
   rintro ρ w37 ⟨xP,b33,b34,rfl,N,H⟩
   refine jl [5,6] qh qm (yZ rfl ?_ (yZ rfl ?_ jm))
   ·skip
    refine zl H ti219 [.pointer none] fun b38 w39 H=>⟨H.pick [3,4,5] [0,1],(ro 6 rfl (zl H ti22 [yN] fun b40 w41 H=>⟨H.pick [4,5,6] [0,1],(ro 7 rfl (zI H 1 [pp b33 0] sizeOf219 fun w42 H=>⟨H.pick [4,5,6] [0,1],(ro 8 rfl (zI H 0 [.slice (aa b34 0) parts.length parts.length] sizeOf22 fun w43 H=>⟨H.pick [4,5,6] [0,1],(xK qh ((meet ⟨_,b38,b40,b34,b33,uE5,N,H⟩)))⟩))⟩))⟩))⟩
   refine zl H ti22 [yN] fun b44 w45 H=>⟨H.pick [3,4,5] [0,1],(ro 5 rfl (zl H ti219 [.pointer none] fun b46 w47 H=>⟨H.pick [4,5,6] [0,1],(ro 7 rfl (zI H 0 [pp b33 0] sizeOf219 fun w48 H=>⟨H.pick [4,5,6] [0,1],(ro 8 rfl (zI H 1 [.slice (aa b34 0) parts.length parts.length] sizeOf22 fun w49 H=>⟨H.pick [4,5,6] [0,1],(xK qh ((meet ⟨_,b46,b44,b34,b33,uE5,N,H.pick [1,0,2,3,4,5,6] [0,1]⟩)))⟩))⟩))⟩))⟩
  refine r_have (fun ρ w53=>∃ (xP:Env) (b50:Nat) (b51:Nat),ρ=upd (upd (upd (upd (upd (upd xP 0 (.slice ab b.length cb)) 4 (pp b3 0)) 5 (pp b5 0)) 9 (pp b51 0)) 22 (pp b50 0)) 24 (yI parts.length)∧Fresh w.heap.size []∧St w w53 [.box b51 [.pointer none] 219,.box b50 [yN] 221,.box b5 [.func (.func 177) #[] #[pp b1 0]] 170,.box b3 [.slice xZ parts.length xQ] 27,.box b1 [.slice xZ parts.length xQ] 27] [sF false Fb ab cb b,sF false Fparts xZ xQ parts]) 4 #[true,true,true,true,false,true,false,false,false] ?_ fun L52=>?_
  ·skip
   rintro ρ w54 ⟨xP,b50,b51,rfl,N,H⟩
   refine jl [4,6] qh qm (yZ rfl ?_ (yZ rfl ?_ jm))
   ·skip
    refine XA H underlying22 ti2 parts.length rfl rfl qf qf qf fun b55 w56 H=>⟨H.pick [3,4,5] [0,1],(ro 6 rfl (zl H ti22 [yN] fun b57 w58 H=>⟨H.pick [4,5,6] [0,1],(ro 7 rfl (zI H 2 [pp b50 0] sizeOf219 fun w59 H=>⟨H.pick [4,5,6] [0,1],(ro 8 rfl (zI H 0 [.slice (aa b55 0) parts.length parts.length] sizeOf22 fun w60 H=>⟨H.pick [4,5,6] [0,1],(xK qh ((meet ⟨_,b51,b57,b55,b50,uE5,N,H.pick [0,2,1,3,4,5,6] [0,1]⟩)))⟩))⟩))⟩))⟩
   refine zl H ti22 [yN] fun b61 w62 H=>⟨H.pick [3,4,5] [0,1],(XK L22 ⟨_,b50,b51,b61,uE7,N,H⟩)⟩
  refine r_have (fun ρ w66=>∃ (xP:Env) (b63:Nat) (b64:Nat),ρ=upd (upd (upd (upd (upd (upd xP 0 (.slice ab b.length cb)) 4 (pp b3 0)) 5 (pp b5 0)) 10 (pp b64 0)) 22 (pp b63 0)) 24 (yI parts.length)∧Fresh w.heap.size []∧St w w66 [.box b64 [yN] 22,.box b63 [yN] 221,.box b5 [.func (.func 177) #[] #[pp b1 0]] 170,.box b3 [.slice xZ parts.length xQ] 27,.box b1 [.slice xZ parts.length xQ] 27] [sF false Fb ab cb b,sF false Fparts xZ xQ parts]) 4 #[true,true,true,true,false,false,true,false,false] ?_ fun L65=>?_
  ·skip
   rintro ρ w67 ⟨xP,b63,b64,rfl,N,H⟩
   refine jl [4,5] qh qm (yZ rfl ?_ (yZ rfl ?_ jm))
   ·skip
    refine XA H underlying22 ti2 parts.length rfl rfl qf qf qf fun b68 w69 H=>⟨H.pick [3,4,5] [0,1],(ro 5 rfl (zl H ti219 [.pointer none] fun b70 w71 H=>⟨H.pick [4,5,6] [0,1],(ro 7 rfl (zI H 0 [pp b63 0] sizeOf219 fun w72 H=>⟨H.pick [4,5,6] [0,1],(ro 8 rfl (zI H 2 [.slice (aa b68 0) parts.length parts.length] sizeOf22 fun w73 H=>⟨H.pick [4,5,6] [0,1],(xK qh ((meet ⟨_,b70,b64,b68,b63,uE5,N,H.pick [2,0,1,3,4,5,6] [0,1]⟩)))⟩))⟩))⟩))⟩
   refine zl H ti219 [.pointer none] fun b74 w75 H=>⟨H.pick [3,4,5] [0,1],(XK L22 ⟨_,b63,b74,b64,uE7,N,H.pick [1,0,2,3,4,5] [0,1]⟩)⟩
  refine r_have (fun ρ w79=>∃ (xP:Env) (b76:Nat) (b77:Nat),ρ=upd (upd (upd (upd (upd (upd xP 0 (.slice ab b.length cb)) 4 (pp b3 0)) 5 (pp b5 0)) 9 (pp b77 0)) 21 (.agg #[yN])) 25 (.slice (aa b76 0) parts.length parts.length)∧Fresh w.heap.size []∧St w w79 [.box b77 [.pointer none] 219,rr (aa b76 0) parts.length parts.length 2 1 ((List.replicate parts.length (0:Int)).map (Value.int .i64)),.box b5 [.func (.func 177) #[] #[pp b1 0]] 170,.box b3 [.slice xZ parts.length xQ] 27,.box b1 [.slice xZ parts.length xQ] 27] [sF false Fb ab cb b,sF false Fparts xZ xQ parts]) 4 #[true,false,true,true,true,true,false,false,false] ?_ fun L78=>?_
  ·skip
   rintro ρ w80 ⟨xP,b76,b77,rfl,N,H⟩
   refine jl [1,6] qh qm (yZ rfl ?_ (yZ rfl ?_ jm))
   ·skip
    refine vN H [yN] fun b81 w82 H=>⟨H.pick [3,4,5] [0,1],(ro 6 rfl (zl H ti22 [yN] fun b83 w84 H=>⟨H.pick [4,5,6] [0,1],(ro 7 rfl (zI H 2 [pp b81 0] sizeOf219 fun w85 H=>⟨H.pick [4,5,6] [0,1],(ro 8 rfl (zI H 0 [.slice (aa b76 0) parts.length parts.length] sizeOf22 fun w86 H=>⟨H.pick [4,5,6] [0,1],(xK qh ((meet ⟨_,b77,b83,b76,b81,uE5,N,H.pick [0,2,3,1,4,5,6] [0,1]⟩)))⟩))⟩))⟩))⟩
   refine zl H ti22 [yN] fun b87 w88 H=>⟨H.pick [3,4,5] [0,1],(ro 1 rfl (vN H [yN] fun b89 w90 H=>⟨H.pick [4,5,6] [0,1],(ro 7 rfl (zI H 2 [pp b89 0] sizeOf219 fun w91 H=>⟨H.pick [4,5,6] [0,1],(ro 8 rfl (zI H 1 [.slice (aa b76 0) parts.length parts.length] sizeOf22 fun w92 H=>⟨H.pick [4,5,6] [0,1],(xK qh ((meet ⟨_,b77,b87,b76,b89,uE5,N,H.pick [1,2,3,0,4,5,6] [0,1]⟩)))⟩))⟩))⟩))⟩
  refine r_have (fun ρ w96=>∃ (xP:Env) (b93:Nat) (b94:Nat),ρ=upd (upd (upd (upd (upd (upd xP 0 (.slice ab b.length cb)) 4 (pp b3 0)) 5 (pp b5 0)) 10 (pp b94 0)) 21 (.agg #[yN])) 25 (.slice (aa b93 0) parts.length parts.length)∧Fresh w.heap.size []∧St w w96 [.box b94 [yN] 22,rr (aa b93 0) parts.length parts.length 2 1 ((List.replicate parts.length (0:Int)).map (Value.int .i64)),.box b5 [.func (.func 177) #[] #[pp b1 0]] 170,.box b3 [.slice xZ parts.length xQ] 27,.box b1 [.slice xZ parts.length xQ] 27] [sF false Fb ab cb b,sF false Fparts xZ xQ parts]) 4 #[true,false,true,true,true,false,true,false,false] ?_ fun L95=>?_
  ·skip
   rintro ρ w97 ⟨xP,b93,b94,rfl,N,H⟩
   refine jl [1,5] qh qm (yZ rfl ?_ (yZ rfl ?_ jm))
   ·skip
    refine vN H [yN] fun b98 w99 H=>⟨H.pick [3,4,5] [0,1],(ro 5 rfl (zl H ti219 [.pointer none] fun b100 w101 H=>⟨H.pick [4,5,6] [0,1],(ro 7 rfl (zI H 0 [pp b98 0] sizeOf219 fun w102 H=>⟨H.pick [4,5,6] [0,1],(ro 8 rfl (zI H 2 [.slice (aa b93 0) parts.length parts.length] sizeOf22 fun w103 H=>⟨H.pick [4,5,6] [0,1],(xK qh ((meet ⟨_,b100,b94,b93,b98,uE5,N,H.pick [2,0,3,1,4,5,6] [0,1]⟩)))⟩))⟩))⟩))⟩
   refine zl H ti219 [.pointer none] fun b104 w105 H=>⟨H.pick [3,4,5] [0,1],(ro 1 rfl (vN H [yN] fun b106 w107 H=>⟨H.pick [4,5,6] [0,1],(ro 7 rfl (zI H 1 [pp b106 0] sizeOf219 fun w108 H=>⟨H.pick [4,5,6] [0,1],(ro 8 rfl (zI H 2 [.slice (aa b93 0) parts.length parts.length] sizeOf22 fun w109 H=>⟨H.pick [4,5,6] [0,1],(xK qh ((meet ⟨_,b104,b94,b93,b106,uE5,N,H.pick [2,1,3,0,4,5,6] [0,1]⟩)))⟩))⟩))⟩))⟩
  refine r_have (fun ρ w113=>∃ (xP:Env) (b110:Nat) (b111:Nat),ρ=upd (upd (upd (upd (upd (upd (upd xP 0 (.slice ab b.length cb)) 4 (pp b3 0)) 5 (pp b5 0)) 9 (pp b110 0)) 10 (pp b111 0)) 21 (.agg #[yN])) 24 (yI parts.length)∧Fresh w.heap.size []∧St w w113 [.box b111 [yN] 22,.box b110 [.pointer none] 219,.box b5 [.func (.func 177) #[] #[pp b1 0]] 170,.box b3 [.slice xZ parts.length xQ] 27,.box b1 [.slice xZ parts.length xQ] 27] [sF false Fb ab cb b,sF false Fparts xZ xQ parts]) 4 #[true,false,true,true,false,true,true,false,false] ?_ fun L112=>?_
  ·skip
   rintro ρ w114 ⟨xP,b110,b111,rfl,N,H⟩
   refine jl [1,4] qh qm (yZ rfl ?_ (yZ rfl ?_ jm))
   ·skip
    refine vN H [yN] fun b115 w116 H=>⟨H.pick [3,4,5] [0,1],(XK L22 ⟨_,b115,b110,b111,uE7,N,H.pick [1,2,0,3,4,5] [0,1]⟩)⟩
   refine XA H underlying22 ti2 parts.length rfl rfl qf qf qf fun b117 w118 H=>⟨H.pick [3,4,5] [0,1],(ro 1 rfl (vN H [yN] fun b119 w120 H=>⟨H.pick [4,5,6] [0,1],(ro 7 rfl (zI H 3 [pp b119 0] sizeOf219 fun w121 H=>⟨H.pick [4,5,6] [0,1],(ro 8 rfl (zI H 2 [.slice (aa b117 0) parts.length parts.length] sizeOf22 fun w122 H=>⟨H.pick [4,5,6] [0,1],(xK qh ((meet ⟨_,b110,b111,b117,b119,uE5,N,H.pick [2,3,1,0,4,5,6] [0,1]⟩)))⟩))⟩))⟩))⟩
  refine r_have (fun ρ w125=>∃ (xP:Env) (b123:Nat),ρ=upd (upd (upd (upd (upd xP 0 (.slice ab b.length cb)) 4 (pp b3 0)) 5 (pp b5 0)) 21 (.agg #[yN])) 25 (.slice (aa b123 0) parts.length parts.length)∧Fresh w.heap.size []∧St w w125 [rr (aa b123 0) parts.length parts.length 2 1 ((List.replicate parts.length (0:Int)).map (Value.int .i64)),.box b5 [.func (.func 177) #[] #[pp b1 0]] 170,.box b3 [.slice xZ parts.length xQ] 27,.box b1 [.slice xZ parts.length xQ] 27] [sF false Fb ab cb b,sF false Fparts xZ xQ parts]) 5 #[true,false,true,true,true,false,false,false,false] ?_ fun L124=>?_
  ·skip
   rintro ρ w126 ⟨xP,b123,rfl,N,H⟩
   refine jl [1,5,6] qh qm (yZ rfl ?_ (yZ rfl ?_ (yZ rfl ?_ jm)))
   ·skip
    refine vN H [yN] fun b127 w128 H=>⟨H.pick [2,3,4] [0,1],(XK L35 ⟨_,b127,b123,uE5,N,H.pick [1,0,2,3,4] [0,1]⟩)⟩
   ·skip
    refine zl H ti219 [.pointer none] fun b129 w130 H=>⟨H.pick [2,3,4] [0,1],(XK L78 ⟨_,b123,b129,uE6,N,H⟩)⟩
   refine zl H ti22 [yN] fun b131 w132 H=>⟨H.pick [2,3,4] [0,1],(XK L95 ⟨_,b123,b131,uE6,N,H⟩)⟩
  refine r_have (fun ρ w135=>∃ (xP:Env) (b133:Nat),ρ=upd (upd (upd (upd (upd (upd xP 0 (.slice ab b.length cb)) 4 (pp b3 0)) 5 (pp b5 0)) 9 (pp b133 0)) 21 (.agg #[yN])) 24 (yI parts.length)∧Fresh w.heap.size []∧St w w135 [.box b133 [.pointer none] 219,.box b5 [.func (.func 177) #[] #[pp b1 0]] 170,.box b3 [.slice xZ parts.length xQ] 27,.box b1 [.slice xZ parts.length xQ] 27] [sF false Fb ab cb b,sF false Fparts xZ xQ parts]) 5 #[true,false,true,true,false,true,false,false,false] ?_ fun L134=>?_
  ·skip
   rintro ρ w136 ⟨xP,b133,rfl,N,H⟩
   refine jl [1,4,6] qh qm (yZ rfl ?_ (yZ rfl ?_ (yZ rfl ?_ jm)))
   ·skip
    refine vN H [yN] fun b137 w138 H=>⟨H.pick [2,3,4] [0,1],(XK L52 ⟨_,b137,b133,uE6,N,H.pick [1,0,2,3,4] [0,1]⟩)⟩
   ·skip
    refine XA H underlying22 ti2 parts.length rfl rfl qf qf qf fun b139 w140 H=>⟨H.pick [2,3,4] [0,1],(XK L78 ⟨_,b139,b133,uE6,N,H.pick [1,0,2,3,4] [0,1]⟩)⟩
   refine zl H ti22 [yN] fun b141 w142 H=>⟨H.pick [2,3,4] [0,1],(XK L112 ⟨_,b133,b141,uE7,N,H⟩)⟩
  refine r_have (fun ρ w145=>∃ (xP:Env) (b143:Nat),ρ=upd (upd (upd (upd (upd (upd xP 0 (.slice ab b.length cb)) 4 (pp b3 0)) 5 (pp b5 0)) 10 (pp b143 0)) 21 (.agg #[yN])) 24 (yI parts.length)∧Fresh w.heap.size []∧St w w145 [.box b143 [yN] 22,.box b5 [.func (.func 177) #[] #[pp b1 0]] 170,.box b3 [.slice xZ parts.length xQ] 27,.box b1 [.slice xZ parts.length xQ] 27] [sF false Fb ab cb b,sF false Fparts xZ xQ parts]) 5 #[true,false,true,true,false,false,true,false,false] ?_ fun L144=>?_
  ·skip
   rintro ρ w146 ⟨xP,b143,rfl,N,H⟩
   refine jl [1,4,5] qh qm (yZ rfl ?_ (yZ rfl ?_ (yZ rfl ?_ jm)))
   ·skip
    refine vN H [yN] fun b147 w148 H=>⟨H.pick [2,3,4] [0,1],(XK L65 ⟨_,b147,b143,uE6,N,H.pick [1,0,2,3,4] [0,1]⟩)⟩
   ·skip
    refine XA H underlying22 ti2 parts.length rfl rfl qf qf qf fun b149 w150 H=>⟨H.pick [2,3,4] [0,1],(XK L95 ⟨_,b149,b143,uE6,N,H.pick [1,0,2,3,4] [0,1]⟩)⟩
   refine zl H ti219 [.pointer none] fun b151 w152 H=>⟨H.pick [2,3,4] [0,1],(XK L112 ⟨_,b151,b143,uE7,N,H.pick [1,0,2,3,4] [0,1]⟩)⟩
  refine r_have (fun ρ w156=>∃ (xP:Env) (b153:Nat) (b154:Nat),ρ=upd (upd (upd (upd (upd xP 0 (.slice ab b.length cb)) 4 (pp b3 0)) 5 (pp b5 0)) 9 (pp b154 0)) 25 (.slice (aa b153 0) parts.length parts.length)∧Fresh w.heap.size []∧St w w156 [.box b154 [.pointer none] 219,rr (aa b153 0) parts.length parts.length 2 1 ((List.replicate parts.length (0:Int)).map (Value.int .i64)),.box b5 [.func (.func 177) #[] #[pp b1 0]] 170,.box b3 [.slice xZ parts.length xQ] 27,.box b1 [.slice xZ parts.length xQ] 27] [sF false Fb ab cb b,sF false Fparts xZ xQ parts]) 5 #[false,false,true,true,true,true,false,false,false] ?_ fun L155=>?_
  ·skip
   rintro ρ w157 ⟨xP,b153,b154,rfl,N,H⟩
   refine jl [0,6] qh qm (yZ rfl ?_ (yZ rfl ?_ jm))
   ·skip
    refine jY [yN] [] (⟨H.pick [2,3,4] [0,1],(XK L78 ⟨_,b153,b154,uE6,N,H⟩)⟩)
   refine zl H ti22 [yN] fun b158 w159 H=>⟨H.pick [3,4,5] [0,1],(ro 0 rfl (jY [yN] [] (⟨H.pick [3,4,5] [0,1],(ro 1 rfl (vN H [yN] fun b160 w161 H=>⟨H.pick [4,5,6] [0,1],(ro 7 rfl (zI H 2 [pp b160 0] sizeOf219 fun w162 H=>⟨H.pick [4,5,6] [0,1],(ro 8 rfl (zI H 1 [.slice (aa b153 0) parts.length parts.length] sizeOf22 fun w163 H=>⟨H.pick [4,5,6] [0,1],(xK qh ((meet ⟨_,b154,b158,b153,b160,uE5,N,H.pick [1,2,3,0,4,5,6] [0,1]⟩)))⟩))⟩))⟩))⟩)))⟩
  refine r_have (fun ρ w167=>∃ (xP:Env) (b164:Nat) (b165:Nat),ρ=upd (upd (upd (upd (upd xP 0 (.slice ab b.length cb)) 4 (pp b3 0)) 5 (pp b5 0)) 10 (pp b165 0)) 25 (.slice (aa b164 0) parts.length parts.length)∧Fresh w.heap.size []∧St w w167 [.box b165 [yN] 22,rr (aa b164 0) parts.length parts.length 2 1 ((List.replicate parts.length (0:Int)).map (Value.int .i64)),.box b5 [.func (.func 177) #[] #[pp b1 0]] 170,.box b3 [.slice xZ parts.length xQ] 27,.box b1 [.slice xZ parts.length xQ] 27] [sF false Fb ab cb b,sF false Fparts xZ xQ parts]) 5 #[false,false,true,true,true,false,true,false,false] ?_ fun L166=>?_
  ·skip
   rintro ρ w168 ⟨xP,b164,b165,rfl,N,H⟩
   refine jl [0,5] qh qm (yZ rfl ?_ (yZ rfl ?_ jm))
   ·skip
    refine jY [yN] [] (⟨H.pick [2,3,4] [0,1],(XK L95 ⟨_,b164,b165,uE6,N,H⟩)⟩)
   refine zl H ti219 [.pointer none] fun b169 w170 H=>⟨H.pick [3,4,5] [0,1],(ro 0 rfl (jY [yN] [] (⟨H.pick [3,4,5] [0,1],(ro 1 rfl (vN H [yN] fun b171 w172 H=>⟨H.pick [4,5,6] [0,1],(ro 7 rfl (zI H 1 [pp b171 0] sizeOf219 fun w173 H=>⟨H.pick [4,5,6] [0,1],(ro 8 rfl (zI H 2 [.slice (aa b164 0) parts.length parts.length] sizeOf22 fun w174 H=>⟨H.pick [4,5,6] [0,1],(xK qh ((meet ⟨_,b169,b165,b164,b171,uE5,N,H.pick [2,1,3,0,4,5,6] [0,1]⟩)))⟩))⟩))⟩))⟩)))⟩
  refine r_have (fun ρ w178=>∃ (xP:Env) (b175:Nat) (b176:Nat),ρ=upd (upd (upd (upd (upd (upd xP 0 (.slice ab b.length cb)) 4 (pp b3 0)) 5 (pp b5 0)) 9 (pp b175 0)) 10 (pp b176 0)) 24 (yI parts.length)∧Fresh w.heap.size []∧St w w178 [.box b176 [yN] 22,.box b175 [.pointer none] 219,.box b5 [.func (.func 177) #[] #[pp b1 0]] 170,.box b3 [.slice xZ parts.length xQ] 27,.box b1 [.slice xZ parts.length xQ] 27] [sF false Fb ab cb b,sF false Fparts xZ xQ parts]) 5 #[false,false,true,true,false,true,true,false,false] ?_ fun L177=>?_
  ·skip
   rintro ρ w179 ⟨xP,b175,b176,rfl,N,H⟩
   refine jl [0,4] qh qm (yZ rfl ?_ (yZ rfl ?_ jm))
   ·skip
    refine jY [yN] [] (⟨H.pick [2,3,4] [0,1],(XK L112 ⟨_,b175,b176,uE7,N,H⟩)⟩)
   refine XA H underlying22 ti2 parts.length rfl rfl qf qf qf fun b180 w181 H=>⟨H.pick [3,4,5] [0,1],(ro 0 rfl (jY [yN] [] (⟨H.pick [3,4,5] [0,1],(ro 1 rfl (vN H [yN] fun b182 w183 H=>⟨H.pick [4,5,6] [0,1],(ro 7 rfl (zI H 3 [pp b182 0] sizeOf219 fun w184 H=>⟨H.pick [4,5,6] [0,1],(ro 8 rfl (zI H 2 [.slice (aa b180 0) parts.length parts.length] sizeOf22 fun w185 H=>⟨H.pick [4,5,6] [0,1],(xK qh ((meet ⟨_,b175,b176,b180,b182,uE5,N,H.pick [2,3,1,0,4,5,6] [0,1]⟩)))⟩))⟩))⟩))⟩)))⟩
  refine tL 2 rfl rfl (fun _ h=>h.cell 1 rfl rfl) H ?_
  refine tN 3 rfl rfl H ?_
  refine jl [0,4,5,6] qh qm (yZ rfl ?_ (yZ rfl ?_ (yZ rfl ?_ (yZ rfl ?_ jm))))
  ·skip
   refine jY [yN] [] (⟨H,(jl [1,4,5,6] qh qm (yZ rfl ?_ (yZ rfl ?_ (yZ rfl ?_ (yZ rfl ?_ jm)))))⟩)
   ·skip
    refine vN H [yN] fun b186 w187 H=>⟨H.pick [1,2,3] [0,1],(jl [4,5,6] qh qm (yZ rfl ?_ (yZ rfl ?_ (yZ rfl ?_ jm))))⟩
    ·skip
     refine XA H underlying22 ti2 parts.length rfl rfl qf qf qf fun b188 w189 H=>⟨H.pick [2,3,4] [0,1],(XK L35 ⟨_,b186,b188,uE5,N,H⟩)⟩
    ·skip
     refine zl H ti219 [.pointer none] fun b190 w191 H=>⟨H.pick [2,3,4] [0,1],(XK L52 ⟨_,b186,b190,uE6,N,H⟩)⟩
    refine zl H ti22 [yN] fun b192 w193 H=>⟨H.pick [2,3,4] [0,1],(XK L65 ⟨_,b186,b192,uE6,N,H⟩)⟩
   ·skip
    refine XA H underlying22 ti2 parts.length rfl rfl qf qf qf fun b194 w195 H=>⟨H.pick [1,2,3] [0,1],(XK L124 ⟨_,b194,uE5,N,H⟩)⟩
   ·skip
    refine zl H ti219 [.pointer none] fun b196 w197 H=>⟨H.pick [1,2,3] [0,1],(XK L134 ⟨_,b196,uE6,N,H⟩)⟩
   refine zl H ti22 [yN] fun b198 w199 H=>⟨H.pick [1,2,3] [0,1],(XK L144 ⟨_,b198,uE6,N,H⟩)⟩
  ·skip
   refine XA H underlying22 ti2 parts.length rfl rfl qf qf qf fun b200 w201 H=>⟨H.pick [1,2,3] [0,1],(jl [0,5,6] qh qm (yZ rfl ?_ (yZ rfl ?_ (yZ rfl ?_ jm))))⟩
   ·skip
    refine jY [yN] [] (⟨H.pick [1,2,3] [0,1],(XK L124 ⟨_,b200,uE5,N,H⟩)⟩)
   ·skip
    refine zl H ti219 [.pointer none] fun b202 w203 H=>⟨H.pick [2,3,4] [0,1],(XK L155 ⟨_,b200,b202,uE5,N,H⟩)⟩
   refine zl H ti22 [yN] fun b204 w205 H=>⟨H.pick [2,3,4] [0,1],(XK L166 ⟨_,b200,b204,uE5,N,H⟩)⟩
  ·skip
   refine zl H ti219 [.pointer none] fun b206 w207 H=>⟨H.pick [1,2,3] [0,1],(jl [0,4,6] qh qm (yZ rfl ?_ (yZ rfl ?_ (yZ rfl ?_ jm))))⟩
   ·skip
    refine jY [yN] [] (⟨H.pick [1,2,3] [0,1],(XK L134 ⟨_,b206,uE6,N,H⟩)⟩)
   ·skip
    refine XA H underlying22 ti2 parts.length rfl rfl qf qf qf fun b208 w209 H=>⟨H.pick [2,3,4] [0,1],(XK L155 ⟨_,b208,b206,uE5,N,H.pick [1,0,2,3,4] [0,1]⟩)⟩
   refine zl H ti22 [yN] fun b210 w211 H=>⟨H.pick [2,3,4] [0,1],(XK L177 ⟨_,b206,b210,uE6,N,H⟩)⟩
  refine zl H ti22 [yN] fun b212 w213 H=>⟨H.pick [1,2,3] [0,1],(jl [0,4,5] qh qm (yZ rfl ?_ (yZ rfl ?_ (yZ rfl ?_ jm))))⟩
  ·skip
   refine jY [yN] [] (⟨H.pick [1,2,3] [0,1],(XK L144 ⟨_,b212,uE6,N,H⟩)⟩)
  ·skip
   refine XA H underlying22 ti2 parts.length rfl rfl qf qf qf fun b214 w215 H=>⟨H.pick [2,3,4] [0,1],(XK L166 ⟨_,b214,b212,uE5,N,H.pick [1,0,2,3,4] [0,1]⟩)⟩
  refine zl H ti219 [.pointer none] fun b216 w217 H=>⟨H.pick [2,3,4] [0,1],(XK L177 ⟨_,b216,b212,uE6,N,H.pick [1,0,2,3,4] [0,1]⟩)⟩
 clear H N
 rintro ρ w218 ⟨xP,b13,b14,b15,b16,rfl,N,H⟩
 refine t_n (zcr (sw (zl H ti222 [.nilFunc] fun b219 w220 H=>zjc (sp (.func (.func 201) #[] #[pp b3 0,pp b5 0,pp b13 0,pp b14 0,pp b219 0]) (sw (zI H 0 [.func (.func 201) #[] #[pp b3 0,pp b5 0,pp b13 0,pp b14 0,pp b219 0]] sizeOf222 fun w221 H=>zjc (oL rfl (H.cell 0 rfl rfl) (sp (.slice ab b.length cb) ?_))))))))
 replace H:=H.nilRow 22 1
 replace H:=H.vH (α:=yLI)
 have H1:St w w221 [.box b3 [.slice xZ parts.length xQ] 27,.box b5 [.func (.func 177) #[] #[pp b1 0]] 170,.box b1 [.slice xZ parts.length xQ] 27,.box b13 [pp b16 0] 219,.box b16 [yN] 221,.box b14 [.slice (aa b15 0) parts.length parts.length] 22,.box b219 [.func (.func 201) #[] #[pp b3 0,pp b5 0,pp b13 0,pp b14 0,pp b219 0]] 222,rr none 0 0 22 1 [],rr (aa b15 0) parts.length parts.length 2 1 ((List.replicate parts.length (0:Int)).map (Value.int .i64))] [sF false Fb ab cb b,sF false Fparts xZ xQ parts,xX true [] [] ([]:yLL),sF false Fb ab cb b,sF false Fparts xZ xQ parts]:=H.pick [7,6,8,3,5,2,1,0,4] [1,2,0,1,2]
 have N1:Fresh _ [[]]:=N.emp
 have K1:Kept [] [sF false Fb ab cb b,sF false Fparts xZ xQ parts]:=Kept.nil _
 refine sw (o_callF #[yI 0,.slice ab b.length cb,pp b3 0,pp b5 0,pp b13 0,pp b14 0,pp b219 0] rfl rfl call201 (packFrom_ok parts.length 0 b parts ([]:yLL) (List.replicate parts.length (0:Int)) ab cb Fb xZ xQ Fparts b3 b5 b1 b13 b16 b14 b219 none 0 0 [] [] (aa b15 0) parts.length parts.length H1 N1 K1 qf (by first | assumption | exact u4) (by first | assumption | exact j3 | (simp;done)) (by first | assumption | (rw [List.length_set];exact j1) | (simp;done))) ?_)
 clear H H1 N1 K1
 rintro _ w222 ⟨cs223,raout223,rnout223,rcout223,rxout223,rFout223,hx224,hx225,rfl,N,H⟩
 obtain rfl:=H.zk (α:=yLI) 7 rfl 2 rfl qj
 refine zjc (oL rfl (H.cell 3 rfl rfl) (sw (vz #[pp b16 0] rfl rfl call204 (en func204 ntmps204 ?_))))
 refine zcr (sps [yN,yI 0] (zjcc (sps [pp b16 0,pp b16 0] (oF rfl (oL rfl (H.cell 4 rfl rfl) (oN rfl (sp (.bool (decide (((gath ([]:yLL) (begins ((List.replicate parts.length (0:Int)).take 0) (packs parts (parts.length - 0) 0 b))).length:Int) > 2000))) (zjn (cD rfl (fun h226=>?_) (fun h226=>?_))))))))))
 ·skip
  refine zcr (sps [yN,yI 3] (zjr (t_r (ret2 yN (yI 3) rfl rfl rfl ⟨_,rfl,(sps [yN,yI 3,yN,yI 3] (zjr (ret2 yN (yI 3) rfl rfl rfl ⟨_,rfl,?_⟩)))⟩))))
  replace H:=H.erases [8,7,6,5,4,3,1,0]
  dsimp only [jA,List.eraseIdx] at H
  refine sps [yN,yI 3,yN,yI 3] (zjr ?_)
  replace H:=H.nilRow 22 1
  replace H:=H.vH (α:=yLI)
  refine ret2 yN (yI 3) rfl rfl rfl ⟨_,rfl,?_,H.base⟩
  first | rw [all_a ql] | rw [all_bI (cs:=(List.replicate parts.length (0:Int))) ql qf]
  exact ⟨none,0,0,[],[],rfl,(N.emp.pick [0]),H.pick [0] [0]⟩
 refine qU (t_n (zcr (sps [pp b16 0,pp b16 0] (oF rfl (oL rfl (H.cell 4 rfl rfl) (sps [.slice raout223 ((gath ([]:yLL) (begins ((List.replicate parts.length (0:Int)).take 0) (packs parts (parts.length - 0) 0 b))).length) rcout223,yI 0] (zjr (ret2 (.slice raout223 ((gath ([]:yLL) (begins ((List.replicate parts.length (0:Int)).take 0) (packs parts (parts.length - 0) 0 b))).length) rcout223) (yI 0) rfl rfl rfl ⟨_,rfl,?_⟩))))))))
 refine sps [.slice raout223 ((gath ([]:yLL) (begins ((List.replicate parts.length (0:Int)).take 0) (packs parts (parts.length - 0) 0 b))).length) rcout223,yI 0,.slice raout223 ((gath ([]:yLL) (begins ((List.replicate parts.length (0:Int)).take 0) (packs parts (parts.length - 0) 0 b))).length) rcout223,yI 0] (zjr (ret2 (.slice raout223 ((gath ([]:yLL) (begins ((List.replicate parts.length (0:Int)).take 0) (packs parts (parts.length - 0) 0 b))).length) rcout223) (yI 0) rfl rfl rfl ⟨_,rfl,?_⟩))
 replace H:=H.erases [8,6,5,4,3,1,0]
 dsimp only [jA,List.eraseIdx] at H
 refine sps [.slice raout223 ((gath ([]:yLL) (begins ((List.replicate parts.length (0:Int)).take 0) (packs parts (parts.length - 0) 0 b))).length) rcout223,yI 0,.slice raout223 ((gath ([]:yLL) (begins ((List.replicate parts.length (0:Int)).take 0) (packs parts (parts.length - 0) 0 b))).length) rcout223,yI 0] (zjr (ret2 (.slice raout223 ((gath ([]:yLL) (begins ((List.replicate parts.length (0:Int)).take 0) (packs parts (parts.length - 0) 0 b))).length) rcout223) (yI 0) rfl rfl rfl ⟨_,rfl,?_,H.base⟩))
 rw [all_0I (cs:=(List.replicate parts.length (0:Int))) ql qf]
 exact ⟨raout223,(gath ([]:yLL) (begins ((List.replicate parts.length (0:Int)).take 0) (packs parts (parts.length - 0) 0 b))).length,rcout223,rxout223,rFout223,rfl,N,H.pick [1] [2]⟩
theorem compareL_ok (w:World) (a:yLI) (b:yLI) (aa:yOA) (ca:Nat) (Fa:yLN) (ab:yOA) (cb:Nat) (Fb:yLN) (ha:qO.rep w Fa [.slice aa a.length ca] a) (hb:qO.rep w Fb [.slice ab b.length cb] b):Calls Tryz.prog 94 #[.slice aa a.length ca,.slice ab b.length cb] w (Ret (fun v w' =>v=yI (cmpL a b)∧w' =w) w):=by
 refine en func94 ntmps94 ?_
 have H:=((St.start w).arg hb).arg ha
 have nha:=qK ha
 have nhb:=qK hb
 clear ha hb
 have N:=Fresh.nil w.heap.size
 refine zcr (sp (yI 0) (zjcc (sp (.slice aa a.length ca) (oN rfl (sp (yI 0) (zjn (qW ?_)))))))
 refine zn (fun m' ρ w1=>∃ (xP:Env) (i:Nat),ρ=upd (upd (upd (upd (upd xP 0 (.slice aa a.length ca)) 1 (.slice ab b.length cb)) 9 (.slice aa a.length ca)) 10 (yI a.length)) 11 (yI i)∧((i:Int)≤a.length)∧(w1=w)∧(cmpL a b=cmpL (a.drop i) (b.drop i))∧(i≤b.length)∧m' =(a.length - (i:Int)).toNat∧Fresh w.heap.size []∧St w w1 [] [sF false Fa aa ca a,sF false Fb ab cb b]) ((a.length - (0:Int)).toNat) ⟨_,0,uE5,qf,(by rfl),(by rfl),qf,rfl,N,H⟩ ?_
 clear H N
 rintro m' ρ w2 ⟨xP,i,rfl,i0,wk,i1,i2,rfl,N,H⟩
 refine zcr (sp (.bool (decide ((i:Int) < a.length))) (zjn (xO (cD rfl (fun h3=>?_) (fun h3=>?_)))))
 ·skip
  refine qU (t_n (xO (qW (zcr (sp (yI i) ?_)))))
  obtain ⟨b4,o5,rfl⟩:=H.addr 0 rfl qf
  refine oI rfl rfl (oL rfl (H.jD 0 rfl i qf qf) (sps [yI i,yI (a[i]!)] (zjcc (sps [yI i,.slice ab b.length cb] (oN rfl (sp (.bool (decide ((i:Int)≥b.length))) (zjn (cD rfl (fun h7=>?_) (fun h7=>?_)))))))))
  ·skip
   refine zcr (sp (yI 1) (zjr (t_r (zr5 (ret1 (yI 1) rfl rfl ⟨_,rfl,(⟨?_,wk⟩),H.base⟩)))))
   rw [i1,show cmpL (a.drop i) (b.drop i)=1 by first | exact cmp_a qf qf | exact cmp_e qf qf ‹_›]
  refine qU (t_n (zcr (sps [.slice ab b.length cb,yI i] ?_)))
  obtain ⟨b8,o9,rfl⟩:=H.addr 1 rfl qf
  refine oI rfl rfl (oL rfl (H.jD 1 rfl i qf qf) (sp (yI (b[i]!)) (zjc (sps [yI (a[i]!),yI (b[i]!)] (sw (vz #[yI (a[i]!),yI (b[i]!)] rfl rfl call131 (en func131 ntmps131 ?_)))))))
  refine zcr (sp (yI 0) (zjc (sp (yI (a[i]!)) (sw (vz #[yI (a[i]!)] rfl rfl call168 (en func168 ntmps168 ?_))))))
  refine zcr (sp (.bool false) (zjc (sps [yI (a[i]!),yI (a[i]!),.bool ((a[i]! :Int) != (a[i]!)),.bool ((a[i]! :Int) != (a[i]!))] (zjr (ret1 (.bool ((a[i]! :Int) != (a[i]!))) rfl rfl ⟨_,rfl,(sp (.bool ((a[i]! :Int) != (a[i]!))) (zjc (sp (yI (b[i]!)) (sw (vz #[yI (b[i]!)] rfl rfl call168 (en func168 ntmps168 ?_))))))⟩)))))
  refine zcr (sp (.bool false) (zjc (sps [yI (b[i]!),yI (b[i]!),.bool ((b[i]! :Int) != (b[i]!)),.bool ((b[i]! :Int) != (b[i]!))] (zjr (ret1 (.bool ((b[i]! :Int) != (b[i]!))) rfl rfl ⟨_,rfl,(sp (.bool ((b[i]! :Int) != (b[i]!))) (zjcc (sp (.bool ((a[i]! :Int) != (a[i]!))) (zjn (xG ((a[i]! :Int) != (a[i]!)) rfl (fun h=>absurd rfl (bne_iff_ne.1 h)) (fun h11=>?_))))))⟩)))))
  replace h11:=xq h11
  refine qU (t_n (zcc (sp (.bool ((b[i]! :Int) != (b[i]!))) (zjn (xG ((b[i]! :Int) != (b[i]!)) rfl (fun h=>absurd rfl (bne_iff_ne.1 h)) (fun h12=>?_))))))
  replace h12:=xq h12
  refine qU (t_n (zcc (sps [yI (a[i]!),yI (b[i]!),.bool (decide ((a[i]! :Int) < (b[i]!)))] (zjn (cD rfl (fun h13=>?_) (fun h13=>?_))))))
  ·skip
   refine zcr (sp (yI (-1)) (zjr (t_r (ret1 (yI (-1)) rfl rfl ⟨_,rfl,(sp (yI (-1)) (zjc (sps [yI (-1),.bool true] (zjn (xG true rfl (fun _=>zcr (sps [yI (-1),yI (-1)] (zjr (zr5 (ret1 (yI (-1)) rfl rfl ⟨_,rfl,(⟨?_,wk⟩),H.base⟩))))) (fun h=>absurd h qj))))))⟩))))
   rw [i1,show cmpL (a.drop i) (b.drop i)= -1 by first | exact cmp_b qf qf | exact cmp_d qf qf ‹_›]
  refine qU (t_n (zcc (sps [yI (a[i]!),yI (b[i]!),.bool (decide ((a[i]! :Int) > (b[i]!)))] (zjn (cD rfl (fun h14=>?_) (fun h14=>?_))))))
  ·skip
   refine zcr (sp (yI 1) (zjr (t_r (ret1 (yI 1) rfl rfl ⟨_,rfl,(sp (yI 1) (zjc (sps [yI 1,.bool true] (zjn (xG true rfl (fun _=>zcr (sps [yI 1,yI 1] (zjr (zr5 (ret1 (yI 1) rfl rfl ⟨_,rfl,(⟨?_,wk⟩),H.base⟩))))) (fun h=>absurd h qj))))))⟩))))
   rw [i1,show cmpL (a.drop i) (b.drop i)=1 by first | exact cmp_a qf qf | exact cmp_e qf qf ‹_›]
  refine qU (t_n (zcr (sp (yI 0) (zjr (ret1 (yI 0) rfl rfl ⟨_,rfl,(sp (yI 0) (zjc (sps [yI 0,.bool false] (zjn (xG false rfl (fun h=>absurd h qj) (fun _=>qU (b_n (t_n (xW (sw (zu i 1 rfl rfl qf (sp (yI (i+1)) (xU (qZ (m' :=(a.length - ((i+1):Int)).toNat) qf ⟨_,i+1,uE5,?_,?_,?_,?_,rfl,N,H⟩))))))))))))))⟩)))))
  · omega
  · exact wk
  · exact i1.trans (cmp_f qf qf ‹_› ‹_›)
  · omega
 refine zx4 (zcc (sp (.slice aa a.length ca) (oN rfl (sp (.slice ab b.length cb) (oN rfl (sp (.bool (decide ((a.length:Int) < b.length))) (zjn (cD rfl (fun h15=>?_) (fun h15=>?_)))))))))
 ·skip
  refine zcr (sp (yI (-1)) (zjr (t_r (ret1 (yI (-1)) rfl rfl ⟨_,rfl,(⟨?_,wk⟩),H.base⟩))))
  rw [i1,show cmpL (a.drop i) (b.drop i)= -1 by first | exact cmp_b qf qf | exact cmp_d qf qf ‹_›]
 refine qU (t_n (zcr (sp (yI 0) (zjr (ret1 (yI 0) rfl rfl ⟨_,rfl,(⟨?_,wk⟩),H.base⟩)))))
 rw [i1,cmp_c qf qf]
def sortL_ren:Go.Shelf.Ren:=⟨fun | 6=>93 | 15=>130 | 14=>129 | 28=>166 | 29=>167 | 20=>158 | 21=>159 | 22=>160 | 23=>161 | 24=>162 | 25=>163 | 26=>164 | 27=>165 | 46=>193 | 47=>194 | 48=>195 | 49=>196 | 50=>197 | 57=>208 | n=>n,fun | 22=>27 | 24=>22 | 25=>106 | 3=>3 | 39=>149 | 0=>0 | 53=>186 | 55=>188 | 4=>4 | 46=>179 | 45=>178 | 50=>183 | 5=>5 | 9=>9 | 66=>211 | 70=>215 | 76=>226 | 77=>227 | n=>n,fun | n=>n⟩
theorem sortL:Go.Proofs.SlLaysF.n6 Tryz.prog sortL_ren:={
  mixed:=by kernel_rfl
  f6:=⟨Tryz.f93.name,by decide,Tryz.func93.trans (congrArg some (by kernel_rfl))⟩
  f14:=⟨Tryz.f129.name,by decide,Tryz.func129.trans (congrArg some (by kernel_rfl))⟩
  f15:=Tryz.func130.trans (congrArg some (by kernel_rfl))
  f20:=⟨Tryz.f158.name,by decide,Tryz.func158.trans (congrArg some (by kernel_rfl))⟩
  f21:=⟨Tryz.f159.name,by decide,Tryz.func159.trans (congrArg some (by kernel_rfl))⟩
  f22:=⟨Tryz.f160.name,by decide,Tryz.func160.trans (congrArg some (by kernel_rfl))⟩
  f23:=⟨Tryz.f161.name,by decide,Tryz.func161.trans (congrArg some (by kernel_rfl))⟩
  f24:=⟨Tryz.f162.name,by decide,Tryz.func162.trans (congrArg some (by kernel_rfl))⟩
  f25:=⟨Tryz.f163.name,by decide,Tryz.func163.trans (congrArg some (by kernel_rfl))⟩
  f26:=⟨Tryz.f164.name,by decide,Tryz.func164.trans (congrArg some (by kernel_rfl))⟩
  f27:=⟨Tryz.f165.name,by decide,Tryz.func165.trans (congrArg some (by kernel_rfl))⟩
  f28:=Tryz.func166.trans (congrArg some (by kernel_rfl))
  f29:=Tryz.func167.trans (congrArg some (by kernel_rfl))
  f46:=⟨Tryz.f193.name,by decide,Tryz.func193.trans (congrArg some (by kernel_rfl))⟩
  f47:=Tryz.func194.trans (congrArg some (by kernel_rfl))
  f48:=Tryz.func195.trans (congrArg some (by kernel_rfl))
  f49:=⟨Tryz.f196.name,by decide,Tryz.func196.trans (congrArg some (by kernel_rfl))⟩
  f50:=⟨Tryz.f197.name,by decide,Tryz.func197.trans (congrArg some (by kernel_rfl))⟩
  f57:=⟨Tryz.f208.name,by decide,Tryz.func208.trans (congrArg some (by kernel_rfl))⟩
  t0:=Tryz.underlying0
  a0:=Tryz.isAgg0
  z0:=Tryz.sizeOf0
  v0:=Tryz.zeroValue0
  t3:=Tryz.underlying3
  a3:=Tryz.isAgg3
  z3:=Tryz.sizeOf3
  v3:=Tryz.zeroValue3
  t4:=Tryz.underlying4
  a4:=Tryz.isAgg4
  z4:=Tryz.sizeOf4
  v4:=Tryz.zeroValue4
  t5:=Tryz.underlying5
  a5:=Tryz.isAgg5
  z5:=Tryz.sizeOf5
  v5:=Tryz.zeroValue5
  t9:=Tryz.underlying9
  a9:=Tryz.isAgg9
  z9:=Tryz.sizeOf9
  v9:=Tryz.zeroValue9
  t22:=Tryz.underlying27
  a22:=Tryz.isAgg27
  z22:=Tryz.sizeOf27
  v22:=Tryz.zeroValue27
  a24:=Tryz.isAgg22
  z24:=Tryz.sizeOf22
  t25:=Tryz.underlying106
  a25:=Tryz.isAgg106
  z25:=Tryz.sizeOf106
  v25:=Tryz.zeroValue106
  t39:=Tryz.underlying149
  a39:=Tryz.isAgg149
  z39:=Tryz.sizeOf149
  v39:=Tryz.zeroValue149
  t45:=Tryz.underlying178
  a45:=Tryz.isAgg178
  z45:=Tryz.sizeOf178
  v45:=Tryz.zeroValue178
  t46:=Tryz.underlying179
  a46:=Tryz.isAgg179
  z46:=Tryz.sizeOf179
  v46:=Tryz.zeroValue179
  t50:=Tryz.underlying183
  a50:=Tryz.isAgg183
  z50:=Tryz.sizeOf183
  v50:=Tryz.zeroValue183
  t53:=Tryz.underlying186
  a53:=Tryz.isAgg186
  z53:=Tryz.sizeOf186
  v53:=Tryz.zeroValue186
  t55:=Tryz.underlying188
  a55:=Tryz.isAgg188
  z55:=Tryz.sizeOf188
  v55:=Tryz.zeroValue188
  t66:=Tryz.underlying211
  a66:=Tryz.isAgg211
  z66:=Tryz.sizeOf211
  v66:=Tryz.zeroValue211
  t70:=Tryz.underlying215
  a70:=Tryz.isAgg215
  z70:=Tryz.sizeOf215
  v70:=Tryz.zeroValue215
  t76:=Tryz.underlying226
  a76:=Tryz.isAgg226
  z76:=Tryz.sizeOf226
  v76:=Tryz.zeroValue226
  t77:=Tryz.underlying227
  a77:=Tryz.isAgg227
  z77:=Tryz.sizeOf227
  v77:=Tryz.zeroValue227 }
theorem cmpSort (W:World) (x y:yLI) (a:yOA) (c:Nat) (F:yLN) (a' :yOA) (c' :Nat) (F' :yLN) (hx:qO.rep W F [.slice a x.length c] x) (hy:qO.rep W F' [.slice a' y.length c'] y):
    Calls Tryz.prog 94 #[.slice a x.length c,.slice a' y.length c'] W fun e w' =>e=.returned (yI (cmpL x y))∧w' =W:=
  (compareL_ok W x y a c F a' c' F' hx hy).mono fun _ _ ⟨_,he,⟨hv,hw⟩,_⟩=>⟨he.trans (by rw [hv]),hw⟩

theorem choices_ok (w:World) (s:qI) (t:qH) {qC:yOA} {qX:yLN} {qN:yOA} {xF:yLN} {qV:yOA} {xN:yLN} {xn:yOA} {zo:yLN} {qM:yOA} {xC:yLN} (xf:qO.rep w qX [.slice qC s.qw.length qB] s.qw) (xJ:qO.rep w xF [.slice qN s.qx.length qJ] s.qx) (zi:qO.rep w xN [.slice qV t.qy.length qR] t.qy) (zK:qO.rep w zo [.slice xn t.qE.length xh] t.qE) (xM:qO.rep w xC [.slice qM t.qA.length qL] t.qA) (p0:jZ s) (p1:zB s t):Calls Tryz.prog 64 #[.agg #[yI s.xA,.slice qC s.qw.length qB,.slice qN s.qx.length qJ],.agg #[.slice qV t.qy.length qR,.slice xn t.qE.length xh,.slice qM t.qA.length qL]] w (Ret (fun v w' =>∃ (ra0:yOA) (rn0:Nat) (rc0:Nat) (rx0:List Value) (rF0:yLN),v=.tuple #[.slice ra0 rn0 rc0,yI ((zY s t).2)]∧Fresh w.heap.size [rF0]∧St w w' [rr ra0 rn0 rc0 22 1 rx0] [xX true rF0 rx0 ((zY s t).1)]) w):=by
 refine en func64 ntmps64 ?_
 have H:=(((((St.start w).arg xM).arg zK).arg zi).arg xJ).arg xf
 have ve:=qK xf
 have jq:=qK xJ
 have Qk:=qK zi
 have Q9:=qK zK
 have jV:=qK xM
 clear xf xJ zi zK xM
 have N:=Fresh.nil w.heap.size
 have A:=H.ltN (L:=[qX,xF,xN,zo,xC]) [0,1,2,3,4]
 have p2:=p0.2.1
 have p3:=p0.1.2.1
 have p4:=p1.1
 have p5:=p1.2.1
 refine zcr (sw (vN H (yS s qC qB qN qJ) fun b1 w2 H=>sw (vN H (yT t qV qR xn xh qM qL) fun b3 w4 H=>sps [yN,yI 0] (zjc (sw (zh (yS s qC qB qN qJ) isAgg36 sizeOf36 rfl (qG (H.cells 1 rfl) 0 3) ?_))))))
 refine sw (zh (yT t qV qR xn xh qM qL) isAgg38 sizeOf38 rfl (qG (H.cells 0 rfl) 0 3) (sw (vz #[.agg #[yI s.xA,.slice qC s.qw.length qB,.slice qN s.qx.length qJ],.agg #[.slice qV t.qy.length qR,.slice xn t.qE.length xh,.slice qM t.qA.length qL]] rfl rfl call107 (en func107 ntmps107 ?_))))
 refine zcr (sw (vN H (yS s qC qB qN qJ) fun b5 w6 H=>sw (vN H (yT t qV qR xn xh qM qL) fun b7 w8 H=>sps [yN,yI 0] (zjc (oF rfl (oL rfl (H.cell 1 rfl rfl) (oN rfl (sw (o_makeZ (⟨[]⟩:OwnI 2) H underlying27 ti22 qj (fun _=>⟨yN,rfl,Or.inl ⟨rfl,rfl,rfl⟩⟩) s.qw.length rfl rfl qf qf qf fun b9 w10 xs11 H=>?_)))))))))
 refine sp (.slice (aa b9 0) s.qw.length s.qw.length) (zjcc (sw (zh (yS s qC qB qN qJ) isAgg36 sizeOf36 rfl (qG (H.cells 2 rfl) 0 3) (sw (zh (yT t qV qR xn xh qM qL) isAgg38 sizeOf38 rfl (qG (H.cells 1 rfl) 0 3) ?_)))))
 have sz15:=H.base.size
 refine sw (oc (applicable_ok _ s t (H.get 1 rfl).1 (H.get 2 rfl).1 (H.get 3 rfl).1 (H.get 4 rfl).1 (H.get 5 rfl).1 qg qg) ?_)
 rintro _ w13 ⟨ra12,rn12,rc12,rfl,M,K⟩ _
 replace H:=H.merge K M
 obtain rfl:=H.rowNI 0 rfl
 have al:(appls s t).length≤s.qx.length:=applL_le s t s.qx.length
 refine oN rfl (sp (yI 0) (zjn (qW ?_)))
 refine zn (fun m' ρ w18=>∃ (xP:Env) (k:Nat) (own:List (OwnI 2)) (x_own:List Value) (F_own:yLN),ρ=upd (upd (upd (upd (upd (upd xP 2 (pp b5 0)) 3 (pp b7 0)) 6 (.slice (aa b9 0) s.qw.length s.qw.length)) 24 (.slice ra12 ((appls s t).length) rc12)) 25 (yI ((appls s t).length))) 26 (yI k)∧own=(ownL 2 s t s.qw.length k)∧((k:Int)≤((appls s t).length))∧m' =(((appls s t).length) - (k:Int)).toNat∧Fresh w.heap.size [F_own]∧St w w18 [rr ra12 ((appls s t).length) rc12 2 1 ((appls s t).map (Value.int .i64)),rr (aa b9 0) s.qw.length s.qw.length 22 1 x_own,.box b7 (yT t qV qR xn xh qM qL) 38,.box b5 (yS s qC qB qN qJ) 36,.box b3 (yT t qV qR xn xh qM qL) 38,.box b1 (yS s qC qB qN qJ) 36] [xX true F_own x_own own,sF false qX qC qB s.qw,sF false xF qN qJ s.qx,sF false xN qV qR t.qy,sF false zo xn xh t.qE,sF false xC qM qL t.qA]) ((((appls s t).length) - (0:Int)).toNat) ⟨_,0,(List.replicate s.qw.length (⟨[]⟩:OwnI 2)),xs11,[],uE6,(by exact ownL_zero 2 s t _),qf,rfl,N.emp,H⟩ ?_
 clear H N
 rintro m' ρ w19 ⟨xP,k,own,x_own,F_own,rfl,rfl,i0,rfl,N,H⟩
 have hn_own:=H.zk (α:=OwnI 2) 1 rfl 0 rfl qj
 have ol:=ownL_len 2 s t s.qw.length k
 refine zcr (sp (.bool (decide ((k:Int) < ((appls s t).length)))) (zjn (xO (cD rfl (fun h20=>?_) (fun h20=>?_)))))
 ·skip
  obtain ⟨a0,a1,a2⟩:=appls_inH (s:=s) (t:=t) (q:=k) qf
  have q:=p0.rule (i:=((appls s t)[k]!).toNat) qf
  have qc:=q.1
  have qk:(s.qx[((appls s t)[k]!).toNat]!).qF.toNat < s.qw.length:=q.cell
  have le:=ownL_le (e:=2) (s:=s) (t:=t) (n:=s.qw.length) (q:=k) (c:=(s.qx[((appls s t)[k]!).toNat]!).qF.toNat) qf
  have sm:=vg (p1.2.2.2.2 (s.qx[((appls s t)[k]!).toNat]!).qF.toNat qf).1
  refine qU (t_n (xO (qW (zcr ?_))))
  obtain ⟨b21,rfl⟩:=H.Qw 0 rfl qf
  refine oI rfl rfl (oL rfl (H.rowInt 0 rfl (iv:=k) (i:=k) qf qf) (sp (yI ((appls s t)[k]!)) (zjc (oF rfl (oL rfl (H.cell 3 rfl rfl) (sp (yI ((appls s t)[k]!)) ?_))))))
  obtain ⟨b22,o23,rfl⟩:=H.addr 2 rfl qf
  obtain ⟨ae25Need,ce25Need,Fe25Need,ae25Have,ce25Have,Fe25Have,ae25Lack,ce25Lack,Fe25Lack,ae25Here,ce25Here,Fe25Here,ae25Out,ce25Out,Fe25Out,ae25Into,ce25Into,Fe25Into,H⟩:=H.jR 2 rfl ((appls s t)[k]!) (((appls s t)[k]!).toNat) qf qf qf
  refine oI rfl rfl (oF rfl (oL rfl (H.xR 6 rfl 0 rfl) (sp (yI ((s.qx[((appls s t)[k]!).toNat]!).qF)) (zjcc (oF rfl (oL rfl (H.cell 2 rfl rfl) (sp (yI ((s.qx[((appls s t)[k]!).toNat]!).qF)) ?_)))))))
  obtain ⟨b26,o27,rfl⟩:=H.addr 11 rfl qf
  obtain ⟨ae29,ce29,Fe29,H⟩:=H.vM 11 rfl ((s.qx[((appls s t)[k]!).toNat]!).qF) (((s.qx[((appls s t)[k]!).toNat]!).qF).toNat) qf qf qf
  refine oI rfl rfl (oL rfl (H.xR 1 rfl 0 rfl) (sw (oq (Vw _ (t.qE[((s.qx[((appls s t)[k]!).toNat]!).qF).toNat]!) (H.get 0 rfl).1 (by first | assumption | exact vg ql | exact Qd ql)) H fun w30 H=>sp (.bool (decide ((VC (t.qE[((s.qx[((appls s t)[k]!).toNat]!).qF).toNat]!):Int) > 16))) (zjn (cD rfl (fun h32=>?_) (fun h32=>?_))))))
  ·skip
   refine zcr (sps [yN,yI 3] (zjr (t_r (zr5 (ret2 yN (yI 3) rfl rfl rfl ⟨_,rfl,?_⟩)))))
   replace H:=H.erases [3,2,1,0]
   dsimp only [jA,List.eraseIdx] at H
   refine sps [.tuple #[yN,yI 3],yN,yI 3,yN,yI 3] (zjcc (sps [yI 3,.bool true] (zjn (xG true rfl (fun _=>zcr (sps [yI 3,yN,yI 3] (zjr (t_r ?_)))) (fun h=>absurd h qj)))))
   replace H:=H.nilRow 22 1
   replace H:=H.vH (α:=yLI)
   refine ret2 yN (yI 3) rfl rfl rfl ⟨_,rfl,?_,H.base⟩
   first | rw [cho_3 (.inl (own_bad p0 (q:=k) qf qf))] | rw [cho_3 (.inr (prod_stop (G:=(ja s.qx.length (qY s t s.qw.length) (xB s t s.qw.length) k_1)) (r:=((qY s t s.qw.length)[k_1]!)) (k:=k_51+1) (i:=k_1) kn qf (X9 _) qf (by rw [← nextX_end (x:=k_52) qf qf];omega)))]
   exact ⟨none,0,0,[],[],rfl,(N.emp.pick [0]),H.pick [0] [0]⟩
  refine qU (t_n (xW (sps [.slice (aa b9 0) s.qw.length s.qw.length,yI ((s.qx[((appls s t)[k]!).toNat]!).qF),.slice (aa b9 0) s.qw.length s.qw.length,yI ((s.qx[((appls s t)[k]!).toNat]!).qF)] (oI rfl rfl ?_))))
  replace N:Fresh w.heap.size [F_own]:=N
  obtain ⟨a33,c34,F35,h36,N,H⟩:=H.openI 1 rfl 9 rfl N (iv:=(s.qx[((appls s t)[k]!).toNat]!).qF) (((s.qx[((appls s t)[k]!).toNat]!).qF).toNat) qf qf [sF false qX qC qB s.qw,sF false xF (aa b22 o23) qJ s.qx,sF false xN qV qR t.qy,sF false zo (aa b26 o27) xh t.qE,sF false xC qM qL t.qA] (keepA A N [10,11,12,13,14] rfl rfl)
  refine oL rfl h36 (sp (yI ((appls s t)[k]!)) (sw (zX H underlying22 ti2 [yI ((appls s t)[k]!)] fun b37 w38 H=>sw (vC H 1 rfl 0 rfl underlying22 ti2 rfl qj rfl rfl rfl (by simp [Value.oneCell',Value.cells]) qp qf fun a39 c40 w41 H=>?_))))
  rw [snocI] at H
  refine oI rfl rfl (sw (o_closeI H 3 rfl 1 qj rfl 0 rfl (c:=(((s.qx[((appls s t)[k]!).toNat]!).qF).toNat)) (N:Fresh w.heap.size [F35]) (H.jX []) sizeOf22 rfl rfl qf qf fun w42 F43 N H=>xU (b_n (t_n (xW (sw (zu k 1 rfl rfl qf (sp (yI (k+1)) (xU ?_)))))))))
  refine qZ (m' :=(((appls s t).length) - ((k+1):Int)).toNat) qf ⟨_,k+1,(((ownL 2 s t s.qw.length k).set (((s.qx[((appls s t)[k]!).toNat]!).qF).toNat) ⟨[]⟩).set (((s.qx[((appls s t)[k]!).toNat]!).qF).toNat) ⟨(((ownL 2 s t s.qw.length k)[((s.qx[((appls s t)[k]!).toNat]!).qF).toNat]!).l++[(appls s t)[k]!])⟩),(x_own.set (((s.qx[((appls s t)[k]!).toNat]!).qF).toNat) (.slice a39 ((((ownL 2 s t s.qw.length k)[((s.qx[((appls s t)[k]!).toNat]!).qF).toNat]!).l.length)+1) c40)),F43,uE6,?_,?_,rfl,N,H.pick [2,3,4,5,6,7] [0,2,3,4,5,6]⟩
  · exact ownL_set qf rfl qf qf (by rw [List.set_set])
  · omega
 refine zx4 (zcr (sw (vJ H underlying125 ti129 fun b44 w45 H=>sp (.slice (aa b44 0) 0 0) (zjcc (sp (.slice (aa b9 0) s.qw.length s.qw.length) (oN rfl (sp (yI 0) (zjn (qW ?_)))))))))
 replace H:=H.ofOwn 0 rfl
 rw [ownL_end qf] at H
 have cl:=cellsR_len s t s.qw.length
 replace H:=H.boxRow 0 rfl 2 0 rfl qj
 replace H:=H.vH (α:=inCellD)
 replace H:St _ _ [rr (aa b44 0) 0 0 129 2 [],rr ra12 ((appls s t).length) rc12 2 1 ((appls s t).map (Value.int .i64)),rr (aa b9 0) s.qw.length s.qw.length 22 1 x_own,.box b7 (yT t qV qR xn xh qM qL) 38,.box b5 (yS s qC qB qN qJ) 36,.box b3 (yT t qV qR xn xh qM qL) 38,.box b1 (yS s qC qB qN qJ) 36] [xX true [] [] ([]:List inCellD),xX true F_own x_own (cellsR s t s.qw.length),xX true F_own x_own (ownL 2 s t s.qw.length k),sF false qX qC qB s.qw,sF false xF qN qJ s.qx,sF false xN qV qR t.qy,sF false zo xn xh t.qE,sF false xC qM qL t.qA]:=H
 refine zn (fun m' ρ w46=>∃ (xP:Env) (vk:yOA) (zA:Nat) (zT:Nat) (out:List inCellD) (Qv:List Value) (yg:yLN) (c:Nat),ρ=upd (upd (upd (upd (upd (upd xP 2 (pp b5 0)) 3 (pp b7 0)) 10 (.slice vk zA zT)) 55 (.slice (aa b9 0) s.qw.length s.qw.length)) 56 (yI s.qw.length)) 57 (yI c)∧out=(QR s t c)∧((c:Int)≤s.qw.length)∧(GoodP s t c)∧m' =(s.qw.length - (c:Int)).toNat∧Fresh w.heap.size [F_own]∧St w w46 [rr vk zA zT 129 2 Qv,rr ra12 ((appls s t).length) rc12 2 1 ((appls s t).map (Value.int .i64)),rr (aa b9 0) s.qw.length s.qw.length 22 1 x_own,.box b7 (yT t qV qR xn xh qM qL) 38,.box b5 (yS s qC qB qN qJ) 36,.box b3 (yT t qV qR xn xh qM qL) 38,.box b1 (yS s qC qB qN qJ) 36] [xX true yg Qv out,xX true F_own x_own (cellsR s t s.qw.length),xX true F_own x_own (ownL 2 s t s.qw.length k),sF false qX qC qB s.qw,sF false xF qN qJ s.qx,sF false xN qV qR t.qy,sF false zo xn xh t.qE,sF false xC qM qL t.qA]) ((s.qw.length - (0:Int)).toNat) ⟨_,(aa b44 0),0,0,([]:List inCellD),[],[],0,uE6,(by rfl),qf,(by exact fun j hj=>by omega),rfl,N,H⟩ ?_
 clear H N
 rintro m' ρ w47 ⟨xP,vk,zA,zT,out,Qv,yg,c,rfl,rfl,i0,gp,rfl,N,H⟩
 have hn_out:=H.zk (α:=inCellD) 0 rfl 0 rfl qj
 have ce:=cells_len s t c
 have rl:=rules_le s t c
 refine zcr (sp (.bool (decide ((c:Int) < s.qw.length))) (zjn (xO (cD rfl (fun h48=>?_) (fun h48=>?_)))))
 ·skip
  refine qU (t_n (xO (qW (zcr (sp (yI c) (oI rfl rfl ?_))))))
  obtain ⟨a49,c50,G51,s52,h53,H⟩:=H.jK 2 rfl 1 rfl (iv:=c) c qf qf
  refine oL rfl (h53) (sps [yI c,.slice a49 (((cellsR s t s.qw.length)[c]!).length) c50] (zjcc (sp (.slice a49 (((cellsR s t s.qw.length)[c]!).length) c50) (oN rfl (sp (.bool ((((cellsR s t s.qw.length)[c]!).length:Int) == 0)) (zjn (cE rfl (fun h54=>?_) (fun h54=>?_))))))))
  ·skip
   rw [cellsR_get (s:=s) (t:=t) (n:=s.qw.length) (c:=c) qf] at H h54 ⊢
   refine c_exit (t_x (b_x (t_n (xW (sw (zu c 1 rfl rfl qf (sp (yI (c+1)) (xU (qZ (m' :=(s.qw.length - ((c+1):Int)).toNat) qf ⟨_,vk,zA,zT,(QR s t c),Qv,yg,c+1,uE6,?_,?_,?_,rfl,N,H.pick [0,1,2,3,4,5,6] [1,2,3,4,5,6,7,8]⟩)))))))))
   · first | exact cells_yes qf | exact cells_no qf
   · omega
   · exact gp.succ (by first | exact .inl qf | exact .inr (show (zQ _ _).2=0 from ‹_›))
  rw [cellsR_get (s:=s) (t:=t) (n:=s.qw.length) (c:=c) qf] at H h54 ⊢
  refine qU (t_n (zcr (sw (vJ H underlying27 ti22 fun b55 w56 H=>sp (.slice (aa b55 0) 0 0) (zjcc (sp (.slice a49 ((zC s t c).length) c50) (oN rfl (sp (yI 0) (zjn (qW ?_))))))))))
  replace H:=H.boxRow 0 rfl 1 0 rfl qj
  replace H:=H.vH (α:=yLI)
  replace H:=H.unfree 0 rfl
  refine zn (fun m' ρ w57=>∃ (xP:Env) (yC:yOA) (jy:Nat) (yw:Nat) (needs:yLL) (XP:List Value) (Yv:yLN) (k_1:Nat),ρ=upd (upd (upd (upd (upd (upd (upd (upd (upd (upd (upd (upd xP 2 (pp b5 0)) 3 (pp b7 0)) 10 (.slice vk zA zT)) 11 (yI c)) 12 (.slice a49 ((zC s t c).length) c50)) 13 (.slice yC jy yw)) 55 (.slice (aa b9 0) s.qw.length s.qw.length)) 56 (yI s.qw.length)) 57 (yI c)) 66 (.slice a49 ((zC s t c).length) c50)) 67 (yI ((zC s t c).length))) 68 (yI k_1)∧needs=(zg s ((zC s t c).take k_1))∧((k_1:Int)≤((zC s t c).length))∧m' =(((zC s t c).length) - (k_1:Int)).toNat∧Fresh w.heap.size [F_own]∧St w w57 [rr yC jy yw 22 1 XP,rr vk zA zT 129 2 Qv,rr ra12 ((appls s t).length) rc12 2 1 ((appls s t).map (Value.int .i64)),rr (aa b9 0) s.qw.length s.qw.length 22 1 x_own,.box b7 (yT t qV qR xn xh qM qL) 38,.box b5 (yS s qC qB qN qJ) 36,.box b3 (yT t qV qR xn xh qM qL) 38,.box b1 (yS s qC qB qN qJ) 36] [xX false Yv XP needs,sF true G51 a49 c50 (zC s t c),xX true yg Qv (QR s t c),xX true F_own x_own (cellsR s t s.qw.length),xX true F_own x_own (ownL 2 s t s.qw.length k),sF false qX qC qB s.qw,sF false xF qN qJ s.qx,sF false xN qV qR t.qy,sF false zo xn xh t.qE,sF false xC qM qL t.qA]) ((((zC s t c).length) - (0:Int)).toNat) ⟨_,(aa b55 0),0,0,([]:yLL),[],[],0,uE12,(by rfl),qf,rfl,N,H.pick [0,1,2,3,4,5,6,7] [0,2,3,4,5,6,7,8,9,10]⟩ ?_
  clear H N
  rintro m' ρ w58 ⟨xP,yC,jy,yw,needs,XP,Yv,k_1,rfl,rfl,i0,rfl,N,H⟩
  have hn_needs:=H.zk (α:=yLI) 0 rfl 0 rfl qj
  have nl:=Va s ((zC s t c).take k_1)
  have tl:=List.length_take_le k_1 (zC s t c)
  have cl8:=cellR_len (t:=t) p0 c
  refine zcr (sp (.bool (decide ((k_1:Int) < ((zC s t c).length)))) (zjn (xO (cD rfl (fun h59=>?_) (fun h59=>?_)))))
  ·skip
   obtain ⟨e1,e2,e3,e4⟩:=cellR_at (s:=s) (t:=t) (c:=c) (j:=k_1) qf
   refine qU (t_n (xO (qW (zcr ?_))))
   obtain ⟨b60,o61,rfl⟩:=H.addr 1 rfl qf
   refine oI rfl rfl (oL rfl (H.jD 1 rfl k_1 qf qf) (sp (yI ((zC s t c)[k_1]!)) (zjn (xW (sp (.slice yC jy yw) (oF rfl (oL rfl (H.cell 5 rfl rfl) (sp (yI ((zC s t c)[k_1]!)) ?_))))))))
   obtain ⟨b63,o64,rfl⟩:=H.addr 6 rfl qf
   obtain ⟨ae66Need,ce66Need,Fe66Need,ae66Have,ce66Have,Fe66Have,ae66Lack,ce66Lack,Fe66Lack,ae66Here,ce66Here,Fe66Here,ae66Out,ce66Out,Fe66Out,ae66Into,ce66Into,Fe66Into,H⟩:=H.jR 6 rfl ((zC s t c)[k_1]!) (((zC s t c)[k_1]!).toNat) qf qf qf
   refine oI rfl rfl (oF rfl (oL rfl (H.xR 6 rfl 2 rfl) (sw (zX H underlying27 ti22 [.slice ae66Need (((s.qx[((zC s t c)[k_1]!).toNat]!).xg).length) ce66Need] fun b67 w68 H=>sw (vC H 1 rfl 0 rfl underlying27 ti22 rfl qj rfl rfl rfl (by simp [Value.oneCell',Value.cells]) qp qf fun a69 c70 w71 H=>?_)))))
   replace H:=H.yX 7 rfl 0 rfl
   refine sp (.slice a69 (jy+1) c70) (xU (b_n (t_n (xW (sw (zu k_1 1 rfl rfl qf (sp (yI (k_1+1)) (xU (qZ (m' :=(((zC s t c).length) - ((k_1+1):Int)).toNat) qf ⟨_,a69,jy+1,c70,((zg s ((zC s t c).take k_1))++[(s.qx[((zC s t c)[k_1]!).toNat]!).xg]),XP++[.slice ae66Need (((s.qx[((zC s t c)[k_1]!).toNat]!).xg).length) ce66Need],(Yv++Fe66Need),k_1+1,uE12,?_,?_,rfl,N,H.pick [1,2,3,4,5,6,7,8] [0,9,10,11,12,13,14,15,16,17]⟩)))))))))
   · exact needs_take qf
   · omega
  rw [List.take_of_length_le (l:=zC s t c) (i:=k_1) qf] at H
  refine zx4 (zcr (oF rfl (oL rfl (H.cell 4 rfl rfl) (sp (yI c) ?_))))
  obtain ⟨b72,o73,rfl⟩:=H.addr 8 rfl qf
  obtain ⟨ae75,ce75,Fe75,H⟩:=H.vM 8 rfl c c qf qf qf
  refine oI rfl rfl (oL rfl (H.xR 1 rfl 0 rfl) (sp (.slice yC jy yw) ?_))
  obtain ⟨G76,hn77,h78⟩:=H.rowIsR (α:=yLI) 0 rfl 2 rfl qj
  have cp:=cell_pack p0 p1 (c:=c) qf
  have nl2:=Va s (zC s t c)
  have sz82:=H.base.size
  have lt83:=H.ltN (L:=[F_own]) [5]
  refine sw (oc (args_eq (by rw [← hn77]) (maxPack_ok _ (t.qE[c]!) (zg s (zC s t c)) (H.get 0 rfl).1 (hn77▸h78) qg qg)) ?_)
  rintro _ w80 ⟨ra79a,rn79a,rc79a,rx79a,rF79a,rfl,M,K⟩ _
  replace N:=N.merge sz82 lt83 M
  replace H:=H.merge K M
  obtain rfl:=H.zk (α:=yLI) 0 rfl 0 rfl qj
  refine sps [.tuple #[.slice ra79a (((zQ (t.qE[c]!) (zg s (zC s t c))).1).length) rc79a,yI ((zQ (t.qE[c]!) (zg s (zC s t c))).2)],.slice ra79a (((zQ (t.qE[c]!) (zg s (zC s t c))).1).length) rc79a,yI ((zQ (t.qE[c]!) (zg s (zC s t c))).2),.slice ra79a (((zQ (t.qE[c]!) (zg s (zC s t c))).1).length) rc79a,yI ((zQ (t.qE[c]!) (zg s (zC s t c))).2)] (zjcc (sps [yI ((zQ (t.qE[c]!) (zg s (zC s t c))).2),.bool (((zQ (t.qE[c]!) (zg s (zC s t c))).2:Int) != 0)] (zjn ?_)))
  refine xG (((zQ (t.qE[c]!) (zg s (zC s t c))).2:Int) != 0) rfl (fun h85=>?_) (fun h85=>?_)
  ·skip
   replace h85:=bne_iff_ne.1 h85
   refine zcr (sps [yI ((zQ (t.qE[c]!) (zg s (zC s t c))).2),yN,yI ((zQ (t.qE[c]!) (zg s (zC s t c))).2)] (zjr (t_r (zr5 (ret2 yN (yI ((zQ (t.qE[c]!) (zg s (zC s t c))).2)) rfl rfl rfl ⟨_,rfl,?_⟩)))))
   replace H:=H.erases [6,5,4,3,2,1,0]
   dsimp only [jA,List.eraseIdx] at H
   refine sps [.tuple #[yN,yI ((zQ (t.qE[c]!) (zg s (zC s t c))).2)],yN,yI ((zQ (t.qE[c]!) (zg s (zC s t c))).2),yN,yI ((zQ (t.qE[c]!) (zg s (zC s t c))).2)] (zjcc (sps [yI ((zQ (t.qE[c]!) (zg s (zC s t c))).2),.bool (((zQ (t.qE[c]!) (zg s (zC s t c))).2:Int) != 0)] (zjn (xG (((zQ (t.qE[c]!) (zg s (zC s t c))).2:Int) != 0) rfl (fun h86=>?_) (fun h=>absurd (xq h) h85)))))
   replace h86:=bne_iff_ne.1 h86
   refine zcr (sps [yI ((zQ (t.qE[c]!) (zg s (zC s t c))).2),yN,yI ((zQ (t.qE[c]!) (zg s (zC s t c))).2)] (zjr (t_r ?_)))
   replace H:=H.nilRow 22 1
   replace H:=H.vH (α:=yLI)
   refine ret2 yN (yI ((zQ (t.qE[c]!) (zg s (zC s t c))).2)) rfl rfl rfl ⟨_,rfl,?_,H.base⟩
   rw [cho_code (bad_code (c:=c) qf qf ‹_›) ‹_›]
   exact ⟨none,0,0,[],[],rfl,(N.emp.pick [0]),H.pick [0] [0]⟩
  replace h85:=xq h85
  refine qU (t_n (xW (sps [.slice vk zA zT,.slice a49 ((zC s t c).length) c50,.slice ra79a (((zQ (t.qE[c]!) (zg s (zC s t c))).1).length) rc79a] (sw (jY [.slice a49 ((zC s t c).length) c50,.slice ra79a (((zQ (t.qE[c]!) (zg s (zC s t c))).1).length) rc79a] [(0,.slice a49 ((zC s t c).length) c50),(1,.slice ra79a (((zQ (t.qE[c]!) (zg s (zC s t c))).1).length) rc79a)] (sw (zX H underlying125 ti129 [.slice a49 ((zC s t c).length) c50,.slice ra79a (((zQ (t.qE[c]!) (zg s (zC s t c))).1).length) rc79a] fun b87 w88 H=>?_)))))))
  have H0:=H
  obtain ⟨G92,hg94,hn93,H⟩:=H.QI (α:=yLI) 1 rfl 0 rfl qj
  replace N:Fresh w.heap.size [G92,F_own]:=Fresh.ice N H0 1 hg94.1 hg94.2 (H0.jX [6])
  clear H0
  refine sw (vC H 3 rfl 0 rfl underlying125 ti129 rfl qj rfl rfl rfl (by simp [Value.oneCell',Value.cells]) qp qf fun a89 c90 w91 H=>?_)
  replace H:=H.snoc_inCellD 6 rfl 5 rfl 0 rfl
  refine sp (.slice a89 (zA+1) c90) (xU (b_n (t_n (xW (sw (zu c 1 rfl rfl qf (sp (yI (c+1)) (xU (qZ (m' :=(s.qw.length - ((c+1):Int)).toNat) qf ⟨_,a89,zA+1,c90,((QR s t c)++[⟨zC s t c,(zQ (t.qE[c]!) (zg s (zC s t c))).1⟩]),Qv++[.slice a49 ((zC s t c).length) c50,.slice ra79a (((zQ (t.qE[c]!) (zg s (zC s t c))).1).length) rc79a],(yg++(G51++G92)),c+1,uE6,?_,?_,?_,rfl,(N.pick [1]),H.pick [3,4,5,6,7,8,9] [0,8,9,10,11,12,13,14]⟩)))))))))
  · first | exact cells_yes qf | exact cells_no qf
  · omega
  · exact gp.succ (by first | exact .inl qf | exact .inr (show (zQ _ _).2=0 from ‹_›))
 refine zx4 (zcr (sps [.slice vk zA zT,.slice vk zA zT,yI 0] (zjr (ret2 (.slice vk zA zT) (yI 0) rfl rfl rfl ⟨_,rfl,?_⟩))))
 replace H:=H.erases [4,3,2,1]
 dsimp only [jA,List.eraseIdx] at H
 obtain rfl:c=s.qw.length:=by omega
 have kn:=packsL_ne p0 p1 (k:=s.qw.length) qf gp
 have kr:=rules_le s t s.qw.length
 have kl:=packsL_le s t s.qw.length
 have ce:=cells_len s t s.qw.length
 refine sps [.tuple #[.slice vk zA zT,yI 0],.slice vk zA zT,yI 0,.slice vk zA zT,yI 0] (zjcc (sps [yI 0,.bool false] (zjn (xG false rfl (fun h=>absurd h qj) (fun _=>qU (t_n (zcr (oF rfl (oL rfl (H.cell 2 rfl rfl) (oN rfl (sw (XA H underlying22 ti2 s.qx.length rfl rfl qf qf qf fun b95 w96 H=>sw (zX H underlying27 ti22 [.slice (aa b95 0) s.qx.length s.qx.length] fun b97 w98 H=>sp (.slice (aa b97 0) 1 1) (zjcc ?_))))))))))))))
 refine sp (.slice vk zA zT) (oN rfl (sp (yI 0) (zjn (qW ?_))))
 obtain ⟨G99,hg101,hn100,H⟩:=H.QI (α:=inCellD) 2 rfl 0 rfl qj
 replace H:=H.boxRow 0 rfl 1 1 rfl qj
 replace H:=H.vH (α:=yLI)
 obtain ⟨G102,N,hn103,H⟩:=H.vW 1 rfl N (H.jX [3])
 replace H:=H.Yh true 0 rfl 1 rfl qm
 replace N:Fresh w.heap.size [(G102++[]),F_own]:=(N.emp.pick [1,0,2]).join
 refine zn (fun m' ρ w104=>∃ (xP:Env) (Vk:yOA) (jC:Nat) (QB:Nat) (out_1:yLL) (QP:List Value) (Qi:yLN) (k_1:Nat),ρ=upd (upd (upd (upd xP 8 (.slice Vk jC QB)) 33 (.slice vk zA zT)) 34 (yI zA)) 35 (yI k_1)∧out_1=(ja s.qx.length (qY s t s.qw.length) (xB s t s.qw.length) k_1)∧((k_1:Int)≤zA)∧((ja s.qx.length (qY s t s.qw.length) (xB s t s.qw.length) k_1).length≤300)∧m' =(zA - (k_1:Int)).toNat∧Fresh w.heap.size [Qi]∧St w w104 [rr Vk jC QB 22 1 QP,.box b3 (yT t qV qR xn xh qM qL) 38,.box b1 (yS s qC qB qN qJ) 36] [xX true Qi QP out_1,isF true G99 (.slice vk zA zT) (QR s t s.qw.length),sF false qX qC qB s.qw,sF false xF qN qJ s.qx,sF false xN qV qR t.qy,sF false zo xn xh t.qE,sF false xC qM qL t.qA]) ((zA - (0:Int)).toNat) ⟨_,(aa b97 0),1,1,[(List.replicate s.qx.length (0:Int))],[.slice (aa b95 0) s.qx.length s.qx.length],(G102++[]),0,uE4,(by rfl),qf,(by rw [X9];show 1≤300;omega),rfl,(N.pick [0]),H.pick [0,3,4] [0,3,7,8,9,10,11]⟩ ?_
 clear H N
 rintro m' ρ w105 ⟨xP,Vk,jC,QB,out_1,QP,Qi,k_1,rfl,rfl,i0,g3,rfl,N,H⟩
 have hn_out:=H.zk (α:=yLI) 0 rfl 0 rfl qj
 refine zcr (sp (.bool (decide ((k_1:Int) < zA))) (zjn (xO (cD rfl (fun h106=>?_) (fun h106=>?_)))))
 ·skip
  obtain ⟨gb,gc⟩:=cell_few (s:=s) (t:=t) (n:=s.qw.length) (i:=k_1) p0 qf
  refine qU (t_n (xO (qW (zcr ?_))))
  have hl109:=H.isLen 1 rfl
  obtain ⟨b107,o108,rfl⟩:=H.addr 1 rfl qf
  obtain ⟨ae110rules,ce110rules,Fe110rules,ae110packings,ce110packings,Fe110packings,H⟩:=H.elem_inCellD 1 rfl k_1 k_1 qf qf qf
  refine oI rfl rfl (sw (zh [.slice ae110rules ((((QR s t s.qw.length)[k_1]!).frules).length) ce110rules,.slice ae110packings ((((QR s t s.qw.length)[k_1]!).fpackings).length) ce110packings] isAgg129 sizeOf129 rfl (qG (H.get 2 rfl) 0 2) (sw (zl H ti129 [yN,yN] fun b111 w112 H=>sw (zV H 0 [.slice ae110rules ((((QR s t s.qw.length)[k_1]!).frules).length) ce110rules,.slice ae110packings ((((QR s t s.qw.length)[k_1]!).fpackings).length) ce110packings] sizeOf129 fun w113 H=>zjc (sw (vJ H underlying27 ti22 fun b114 w115 H=>?_)))))))
  refine sp (.slice (aa b114 0) 0 0) (zjcc (sp (.slice Vk jC QB) (oN rfl (sp (yI 0) (zjn (qW ?_))))))
  obtain ⟨ce1,ce2⟩:=cells_at (s:=s) (t:=t) (k:=s.qw.length) (i:=k_1) qf
  rw [ce1,ce2] at H
  replace H:=H.boxRow 0 rfl 1 0 rfl qj
  replace H:=H.vH (α:=yLI)
  refine zn (fun m' ρ w116=>∃ (xP:Env) (Vl:yOA) (Vb:Nat) (Vg:Nat) (next:yLL) (x_next:List Value) (F_next:yLN) (k_51:Nat),ρ=upd (upd (upd (upd (upd (upd (upd (upd xP 10 (pp b111 0)) 11 (.slice Vl Vb Vg)) 33 (.slice (aa b107 o108) zA zT)) 34 (yI zA)) 35 (yI k_1)) 40 (.slice Vk jC QB)) 41 (yI jC)) 42 (yI k_51)∧next=(nextK (ja s.qx.length (qY s t s.qw.length) (xB s t s.qw.length) k_1) ((qY s t s.qw.length)[k_1]!) ((xB s t s.qw.length)[k_1]!) k_51)∧((k_51:Int)≤jC)∧((nextK (ja s.qx.length (qY s t s.qw.length) (xB s t s.qw.length) k_1) ((qY s t s.qw.length)[k_1]!) ((xB s t s.qw.length)[k_1]!) k_51).length≤300)∧m' =(jC - (k_51:Int)).toNat∧Fresh w.heap.size [Qi,F_next]∧St w w116 [rr Vl Vb Vg 22 1 x_next,.box b111 [.slice ae110rules (((qY s t s.qw.length)[k_1]!).length) ce110rules,.slice ae110packings (((xB s t s.qw.length)[k_1]!).length) ce110packings] 129,rr Vk jC QB 22 1 QP,.box b3 (yT t qV qR xn xh qM qL) 38,.box b1 (yS s qC qB qN qJ) 36] [xX true F_next x_next next,sF true Fe110rules ae110rules ce110rules ((qY s t s.qw.length)[k_1]!),sF true Fe110packings ae110packings ce110packings ((xB s t s.qw.length)[k_1]!),atF b107 (o108+(k_1:Int).toNat * 2) [.slice ae110rules (((qY s t s.qw.length)[k_1]!).length) ce110rules,.slice ae110packings (((xB s t s.qw.length)[k_1]!).length) ce110packings],xX true Qi QP (ja s.qx.length (qY s t s.qw.length) (xB s t s.qw.length) k_1),isF true G99 (.slice (aa b107 o108) zA zT) (QR s t s.qw.length),sF false qX qC qB s.qw,sF false xF qN qJ s.qx,sF false xN qV qR t.qy,sF false zo xn xh t.qE,sF false xC qM qL t.qA]) ((jC - (0:Int)).toNat) ⟨_,(aa b114 0),0,0,([]:yLL),[],[],0,uE8,(by rfl),qf,(by show 0≤300;omega),rfl,(N.emp.pick [1,0]),H⟩ ?_
  clear H N
  rintro m' ρ w117 ⟨xP,Vl,Vb,Vg,next,x_next,F_next,k_51,rfl,rfl,i0,n3,rfl,N,H⟩
  have hn_next:=H.zk (α:=yLI) 0 rfl 0 rfl qj
  refine zcr (sp (.bool (decide ((k_51:Int) < jC))) (zjn (xO (cD rfl (fun h118=>?_) (fun h118=>?_)))))
  ·skip
   refine qU (t_n (xO (qW (zcr ?_))))
   obtain ⟨b119,rfl⟩:=H.Qw 2 rfl qf
   refine oI rfl rfl ?_
   obtain ⟨a120,c121,G122,s123,h124,H⟩:=H.jK 2 rfl 4 rfl (iv:=k_51) k_51 qf qf
   refine oL rfl (h124) (sp (.slice a120 (((ja s.qx.length (qY s t s.qw.length) (xB s t s.qw.length) k_1)[k_51]!).length) c121) (zjcc (oF rfl (oL rfl (H.cell 1 rfl rfl) (oN rfl (sp (yI 0) (zjn (qW ?_))))))))
   refine zn (fun m' ρ w125=>∃ (xP:Env) (yF:yOA) (jg:Nat) (yE:Nat) (next_1:yLL) (Qj:List Value) (jL:yLN) (k_52:Nat),ρ=upd (upd (upd (upd (upd (upd (upd (upd (upd (upd (upd (upd xP 10 (pp b111 0)) 11 (.slice yF jg yE)) 13 (.slice a120 (((ja s.qx.length (qY s t s.qw.length) (xB s t s.qw.length) k_1)[k_51]!).length) c121)) 33 (.slice (aa b107 o108) zA zT)) 34 (yI zA)) 35 (yI k_1)) 40 (.slice (aa b119 0) jC QB)) 41 (yI jC)) 42 (yI k_51)) 47 (.slice ae110packings (((xB s t s.qw.length)[k_1]!).length) ce110packings)) 48 (yI (((xB s t s.qw.length)[k_1]!).length))) 49 (yI k_52)∧next_1=(nextX (ja s.qx.length (qY s t s.qw.length) (xB s t s.qw.length) k_1) ((qY s t s.qw.length)[k_1]!) ((xB s t s.qw.length)[k_1]!) k_51 k_52)∧((k_52:Int)≤(((xB s t s.qw.length)[k_1]!).length))∧m' =((((xB s t s.qw.length)[k_1]!).length) - (k_52:Int)).toNat∧Fresh w.heap.size [Qi,jL]∧St w w125 [rr yF jg yE 22 1 Qj,.box b111 [.slice ae110rules (((qY s t s.qw.length)[k_1]!).length) ce110rules,.slice ae110packings (((xB s t s.qw.length)[k_1]!).length) ce110packings] 129,rr (aa b119 0) jC QB 22 1 QP,.box b3 (yT t qV qR xn xh qM qL) 38,.box b1 (yS s qC qB qN qJ) 36] [sF true G122 a120 c121 ((ja s.qx.length (qY s t s.qw.length) (xB s t s.qw.length) k_1)[k_51]!),xX true jL Qj next_1,sF true Fe110rules ae110rules ce110rules ((qY s t s.qw.length)[k_1]!),sF true Fe110packings ae110packings ce110packings ((xB s t s.qw.length)[k_1]!),atF b107 (o108+(k_1:Int).toNat * 2) [.slice ae110rules (((qY s t s.qw.length)[k_1]!).length) ce110rules,.slice ae110packings (((xB s t s.qw.length)[k_1]!).length) ce110packings],xX true Qi QP (ja s.qx.length (qY s t s.qw.length) (xB s t s.qw.length) k_1),isF true G99 (.slice (aa b107 o108) zA zT) (QR s t s.qw.length),sF false qX qC qB s.qw,sF false xF qN qJ s.qx,sF false xN qV qR t.qy,sF false zo xn xh t.qE,sF false xC qM qL t.qA]) (((((xB s t s.qw.length)[k_1]!).length) - (0:Int)).toNat) ⟨_,Vl,Vb,Vg,(nextK (ja s.qx.length (qY s t s.qw.length) (xB s t s.qw.length) k_1) ((qY s t s.qw.length)[k_1]!) ((xB s t s.qw.length)[k_1]!) k_51),x_next,F_next,0,uE12,(by exact nextX_zero _ _ _ _),qf,rfl,N,H⟩ ?_
   clear H N
   rintro m' ρ w126 ⟨xP,yF,jg,yE,next_1,Qj,jL,k_52,rfl,rfl,i0,rfl,N,H⟩
   have hn_next:=H.zk (α:=yLI) 0 rfl 1 rfl qj
   refine zcr (sp (.bool (decide ((k_52:Int) < (((xB s t s.qw.length)[k_1]!).length)))) (zjn (xO (cD rfl (fun h127=>?_) (fun h127=>?_)))))
   ·skip
    have nx:=nextX_len (r:=((qY s t s.qw.length)[k_1]!)) (show k_51 < (ja s.qx.length (qY s t s.qw.length) (xB s t s.qw.length) k_1).length by omega) (show k_52≤((xB s t s.qw.length)[k_1]!).length by omega)
    have nk:=nextK_len (r:=((qY s t s.qw.length)[k_1]!)) (P:=((xB s t s.qw.length)[k_1]!)) (show k_51≤(ja s.qx.length (qY s t s.qw.length) (xB s t s.qw.length) k_1).length by omega)
    have g1:=prodG_at (n:=s.qx.length) (rs:=(qY s t s.qw.length)) (all:=(xB s t s.qw.length)) (i:=k_1) (k:=k_51) qf
    have g2:=pack_at (s:=s) (t:=t) (n:=s.qw.length) (i:=k_1) (x:=k_52) qf qf
    refine qU (t_n (xO (qW (zcr ?_))))
    obtain ⟨b128,o129,rfl⟩:=H.addr 3 rfl qf
    obtain ⟨ae131,ce131,Fe131,H⟩:=H.vM 3 rfl k_52 k_52 qf qf qf
    refine oI rfl rfl (oL rfl (H.xR 1 rfl 0 rfl) (sp (.slice ae131 ((((xB s t s.qw.length)[k_1]!)[k_52]!).length) ce131) (zjc (sp (.slice a120 (((ja s.qx.length (qY s t s.qw.length) (xB s t s.qw.length) k_1)[k_51]!).length) c121) ?_))))
    have sz132:=H.base.size
    have lt133:=H.ltN (L:=[Qi,jL]) [7,3]
    refine sw (oc (cloneI_ok _ ((ja s.qx.length (qY s t s.qw.length) (xB s t s.qw.length) k_1)[k_51]!) (H.get 2 rfl).1 qg) ?_)
    rintro v137 w135 r137 x136
    replace H:=H.zy x136 r137
    obtain ⟨a138,c139,rfl,hc140,hm141⟩:=H.jh 0 rfl
    refine sp (.slice a138 (((ja s.qx.length (qY s t s.qw.length) (xB s t s.qw.length) k_1)[k_51]!).length) c139) (zjcc (oF rfl (oL rfl (H.cell 2 rfl rfl) (oN rfl (sp (yI 0) (zjn (qW ?_)))))))
    refine zn (fun m' ρ w142=>∃ (xP:Env) (k_53:Nat) (own_1:yLI),ρ=upd (upd (upd (upd (upd (upd (upd (upd (upd (upd (upd (upd (upd (upd (upd (upd (upd xP 10 (pp b111 0)) 11 (.slice yF jg yE)) 13 (.slice a120 (((ja s.qx.length (qY s t s.qw.length) (xB s t s.qw.length) k_1)[k_51]!).length) c121)) 15 (.slice ae131 ((((xB s t s.qw.length)[k_1]!)[k_52]!).length) ce131)) 16 (.slice a138 (((ja s.qx.length (qY s t s.qw.length) (xB s t s.qw.length) k_1)[k_51]!).length) c139)) 33 (.slice (aa b107 o108) zA zT)) 34 (yI zA)) 35 (yI k_1)) 40 (.slice (aa b119 0) jC QB)) 41 (yI jC)) 42 (yI k_51)) 47 (.slice (aa b128 o129) (((xB s t s.qw.length)[k_1]!).length) ce110packings)) 48 (yI (((xB s t s.qw.length)[k_1]!).length))) 49 (yI k_52)) 56 (.slice ae110rules (((qY s t s.qw.length)[k_1]!).length) ce110rules)) 57 (yI (((qY s t s.qw.length)[k_1]!).length))) 58 (yI k_53)∧own_1=(setTo ((ja s.qx.length (qY s t s.qw.length) (xB s t s.qw.length) k_1)[k_51]!) ((qY s t s.qw.length)[k_1]!) (((xB s t s.qw.length)[k_1]!)[k_52]!) k_53)∧((k_53:Int)≤(((qY s t s.qw.length)[k_1]!).length))∧m' =((((qY s t s.qw.length)[k_1]!).length) - (k_53:Int)).toNat∧Fresh w.heap.size [Qi,jL]∧St w w142 [rr a138 (((ja s.qx.length (qY s t s.qw.length) (xB s t s.qw.length) k_1)[k_51]!).length) c139 2 1 (own_1.map (Value.int .i64)),rr yF jg yE 22 1 Qj,.box b111 [.slice ae110rules (((qY s t s.qw.length)[k_1]!).length) ce110rules,.slice (aa b128 o129) (((xB s t s.qw.length)[k_1]!).length) ce110packings] 129,rr (aa b119 0) jC QB 22 1 QP,.box b3 (yT t qV qR xn xh qM qL) 38,.box b1 (yS s qC qB qN qJ) 36] [sF true Fe131 ae131 ce131 (((xB s t s.qw.length)[k_1]!)[k_52]!),atF b128 (o129+(k_52:Int).toNat * 1) [.slice ae131 ((((xB s t s.qw.length)[k_1]!)[k_52]!).length) ce131],sF true G122 a120 c121 ((ja s.qx.length (qY s t s.qw.length) (xB s t s.qw.length) k_1)[k_51]!),xX true jL Qj (nextX (ja s.qx.length (qY s t s.qw.length) (xB s t s.qw.length) k_1) ((qY s t s.qw.length)[k_1]!) ((xB s t s.qw.length)[k_1]!) k_51 k_52),sF true Fe110rules ae110rules ce110rules ((qY s t s.qw.length)[k_1]!),sF true Fe110packings (aa b128 o129) ce110packings ((xB s t s.qw.length)[k_1]!),atF b107 (o108+(k_1:Int).toNat * 2) [.slice ae110rules (((qY s t s.qw.length)[k_1]!).length) ce110rules,.slice (aa b128 o129) (((xB s t s.qw.length)[k_1]!).length) ce110packings],xX true Qi QP (ja s.qx.length (qY s t s.qw.length) (xB s t s.qw.length) k_1),isF true G99 (.slice (aa b107 o108) zA zT) (QR s t s.qw.length),sF false qX qC qB s.qw,sF false xF qN qJ s.qx,sF false xN qV qR t.qy,sF false zo xn xh t.qE,sF false xC qM qL t.qA]) (((((qY s t s.qw.length)[k_1]!).length) - (0:Int)).toNat) ⟨_,0,((ja s.qx.length (qY s t s.qw.length) (xB s t s.qw.length) k_1)[k_51]!),uE17,(by rfl),qf,rfl,N,H⟩ ?_
    clear H N
    rintro m' ρ w143 ⟨xP,k_53,own_1,rfl,rfl,i0,rfl,N,H⟩
    have hn_own:=H.rowNI 0 rfl
    have sl:=setTo_len ((ja s.qx.length (qY s t s.qw.length) (xB s t s.qw.length) k_1)[k_51]!) ((qY s t s.qw.length)[k_1]!) (((xB s t s.qw.length)[k_1]!)[k_52]!) k_53
    refine zcr (sp (.bool (decide ((k_53:Int) < (((qY s t s.qw.length)[k_1]!).length)))) (zjn (xO (cD rfl (fun h144=>?_) (fun h144=>?_)))))
    ·skip
     obtain ⟨g3',g4⟩:=choice_at (s:=s) (t:=t) (n:=s.qw.length) (i:=k_1) (r:=k_53) qf qf
     refine qU (t_n (xO (qW (zcr (sp (yI k_53) ?_)))))
     obtain ⟨b145,o146,rfl⟩:=H.addr 4 rfl qf
     refine oI rfl rfl (oL rfl (H.jD 4 rfl k_53 qf qf) (sps [yI k_53,yI (((qY s t s.qw.length)[k_1]!)[k_53]!)] (zjn (xW (sps [.slice a138 (((ja s.qx.length (qY s t s.qw.length) (xB s t s.qw.length) k_1)[k_51]!).length) c139,yI (((qY s t s.qw.length)[k_1]!)[k_53]!),.slice ae131 ((((xB s t s.qw.length)[k_1]!)[k_52]!).length) ce131,yI k_53] ?_)))))
     obtain ⟨b148,o149,rfl⟩:=H.addr 0 rfl qf
     refine oI rfl rfl (oL rfl (H.jD 0 rfl k_53 qf qf) ?_)
     obtain ⟨b151,rfl⟩:=H.Qw 0 rfl qf
     refine oI rfl rfl (sw (o_storeInt H 0 rfl ((((xB s t s.qw.length)[k_1]!)[k_52]!)[k_53]!) sizeOf2 rfl rfl (i:=((((qY s t s.qw.length)[k_1]!)[k_53]!).toNat)) qf qf fun w152 H=>xU (b_n (t_n (xW (sw (zu k_53 1 rfl rfl qf (sp (yI (k_53+1)) (xU ?_)))))))))
     refine qZ (m' :=((((qY s t s.qw.length)[k_1]!).length) - ((k_53+1):Int)).toNat) qf ⟨_,k_53+1,((setTo ((ja s.qx.length (qY s t s.qw.length) (xB s t s.qw.length) k_1)[k_51]!) ((qY s t s.qw.length)[k_1]!) (((xB s t s.qw.length)[k_1]!)[k_52]!) k_53).set ((((qY s t s.qw.length)[k_1]!)[k_53]!).toNat) ((((xB s t s.qw.length)[k_1]!)[k_52]!)[k_53]!)),uE17,?_,?_,rfl,N,H⟩
     · rfl
     · omega
    refine zx4 (xW (sps [.slice yF jg yE,.slice a138 (((ja s.qx.length (qY s t s.qw.length) (xB s t s.qw.length) k_1)[k_51]!).length) c139] (sw (zX H underlying27 ti22 [.slice a138 (((ja s.qx.length (qY s t s.qw.length) (xB s t s.qw.length) k_1)[k_51]!).length) c139] fun b153 w154 H=>?_))))
    obtain ⟨G158,N,hn159,H⟩:=H.vW 1 rfl N (H.jX [7,3])
    refine sw (vC H 2 rfl 0 rfl underlying27 ti22 rfl qj rfl rfl rfl (by simp [Value.oneCell',Value.cells]) qp qf fun a155 c156 w157 H=>?_)
    replace H:=H.yX 4 rfl 0 rfl
    replace N:Fresh w.heap.size [(jL++G158),Qi]:=(N.pick [2,0,1]).join
    refine sp (.slice a155 (jg+1) c156) (xU (b_n (t_n (xW (sw (zu k_52 1 rfl rfl qf (sp (yI (k_52+1)) (xU ?_))))))))
    refine qZ (m' :=((((xB s t s.qw.length)[k_1]!).length) - ((k_52+1):Int)).toNat) qf ⟨_,a155,jg+1,c156,((nextX (ja s.qx.length (qY s t s.qw.length) (xB s t s.qw.length) k_1) ((qY s t s.qw.length)[k_1]!) ((xB s t s.qw.length)[k_1]!) k_51 k_52)++[(setTo ((ja s.qx.length (qY s t s.qw.length) (xB s t s.qw.length) k_1)[k_51]!) ((qY s t s.qw.length)[k_1]!) (((xB s t s.qw.length)[k_1]!)[k_52]!) k_53)]),Qj++[.slice a138 (((ja s.qx.length (qY s t s.qw.length) (xB s t s.qw.length) k_1)[k_51]!).length) c139],(jL++G158),k_52+1,uE12,?_,?_,rfl,(N.pick [1,0]),H.pick [2,3,4,5,6] [4,0,6,7,8,9,10,11,12,13,14,15]⟩
    · exact nextX_succ qf (by rw [show k_53=((qY s t s.qw.length)[k_1]!).length by omega];rfl)
    · omega
   refine zx4 (zcr (sp (.slice yF jg yE) (oN rfl (sp (.bool (decide ((jg:Int) > 300))) (zjn (cD rfl (fun h160=>?_) (fun h160=>?_)))))))
   ·skip
    refine zcr (sps [yN,yI 3] (zjr (zr5 (zr5 ?_))))
    replace H:=H.nilRow 22 1
    replace H:=H.vH (α:=yLI)
    refine ret2 yN (yI 3) rfl rfl rfl ⟨_,rfl,?_,H.base⟩
    first | rw [cho_3 (.inl (own_bad p0 (q:=k) qf qf))] | rw [cho_3 (.inr (prod_stop (G:=(ja s.qx.length (qY s t s.qw.length) (xB s t s.qw.length) k_1)) (r:=((qY s t s.qw.length)[k_1]!)) (k:=k_51+1) (i:=k_1) kn qf (X9 _) qf (by rw [← nextX_end (x:=k_52) qf qf];omega)))]
    exact ⟨none,0,0,[],[],rfl,(N.emp.pick [0]),H.pick [0] [0]⟩
   refine qU (b_n (t_n (xW (sw (zu k_51 1 rfl rfl qf (sp (yI (k_51+1)) (xU (qZ (m' :=(jC - ((k_51+1):Int)).toNat) qf ⟨_,yF,jg,yE,(nextX (ja s.qx.length (qY s t s.qw.length) (xB s t s.qw.length) k_1) ((qY s t s.qw.length)[k_1]!) ((xB s t s.qw.length)[k_1]!) k_51 k_52),Qj,jL,k_51+1,uE8,?_,?_,?_,rfl,N,H.pick [0,1,2,3,4] [1,2,3,4,5,6,7,8,9,10,11]⟩))))))))
   · exact nextX_end qf qf
   · omega
   · rw [← nextX_end (x:=k_52) qf qf];omega
  refine zx4 (xW (sps [.slice Vl Vb Vg,.slice Vl Vb Vg] (xU (b_n (t_n (xW (sw (zu k_1 1 rfl rfl qf (sp (yI (k_1+1)) (xU (qZ (m' :=(zA - ((k_1+1):Int)).toNat) qf ⟨_,Vl,Vb,Vg,(nextK (ja s.qx.length (qY s t s.qw.length) (xB s t s.qw.length) k_1) ((qY s t s.qw.length)[k_1]!) ((xB s t s.qw.length)[k_1]!) k_51),x_next,F_next,k_1+1,uE4,?_,?_,?_,rfl,(N.pick [1]),H.pick [0,3,4] [0,5,6,7,8,9,10]⟩)))))))))))
  · rw [show k_51=(ja s.qx.length (qY s t s.qw.length) (xB s t s.qw.length) k_1).length by omega];rfl
  · omega
  · show (nextK (ja s.qx.length (qY s t s.qw.length) (xB s t s.qw.length) k_1) ((qY s t s.qw.length)[k_1]!) ((xB s t s.qw.length)[k_1]!) (ja s.qx.length (qY s t s.qw.length) (xB s t s.qw.length) k_1).length).length≤300;rw [← show k_51=(ja s.qx.length (qY s t s.qw.length) (xB s t s.qw.length) k_1).length by omega];exact n3
 obtain rfl:k_1=(xB s t s.qw.length).length:=by omega
 have on:0 < (ja s.qx.length (qY s t s.qw.length) (xB s t s.qw.length) (xB s t s.qw.length).length).length:=by rw [X9];exact prod_mono kn (Nat.zero_le _) (Nat.le_refl _)
 have kc:¬ Xm (xB s t s.qw.length) (xB s t s.qw.length).length > 300:=by rw [X9] at g3;omega
 refine zx4 (zcr (sp (.slice Vk jC QB) ?_))
 obtain ⟨b161,rfl⟩:=H.Qw 0 rfl qf
 refine sw (o_callF #[.slice (aa b161 0) jC QB,.func (.func 94) #[] #[]] rfl rfl call93 (sortRow sortL call94 cmpSort H 0 rfl 0 rfl qf qf) ?_)
 rintro _ w162 ⟨xs163,F164,l165,rfl,hF166,hp167,hs168,H⟩
 replace N:Fresh w.heap.size [F164]:=Fresh.perm N hF166
 refine zjc (sps [.slice (aa b161 0) jC QB,.slice (aa b161 0) jC QB,yI 0] (zjr (ret2 (.slice (aa b161 0) jC QB) (yI 0) rfl rfl rfl ⟨_,rfl,?_,H.base⟩)))
 rw [cho_0 gp kc hp167 (in_order (Nat.le_refl _) fun a b h1 h2 h3=>hs168 a b h1 h2 ((cmpL_ahead ((perm_rows hp167 b qf).trans (perm_rows hp167 a qf).symm)).2 h3))]
 exact ⟨(aa b161 0),jC,QB,xs163,F164,rfl,N,H.pick [0] [0]⟩
theorem l03Succ_ok (w:World) (s:qI) (t:qH) {bs os:Nat} {qC:yOA} {qX:yLN} {qN:yOA} {xF:yLN} {bt ot:Nat} {qV:yOA} {xN:yLN} {xn:yOA} {zo:yLN} {qM:yOA} {xC:yLN} (hs:zZ w bs os (yS s qC qB qN qJ)) (xf:qO.rep w qX [.slice qC s.qw.length qB] s.qw) (xJ:qO.rep w xF [.slice qN s.qx.length qJ] s.qx) (ht:zZ w bt ot (yT t qV qR xn xh qM qL)) (zi:qO.rep w xN [.slice qV t.qy.length qR] t.qy) (zK:qO.rep w zo [.slice xn t.qE.length xh] t.qE) (xM:qO.rep w xC [.slice qM t.qA.length qL] t.qA) (p0:jZ s) (p1:zB s t):Calls Tryz.prog 72 #[pp bs os,pp bt ot] w (Ret (fun v w' =>∃ (ra0:yOA) (rn0:Nat) (rc0:Nat) (rx0:List Value) (rF0:yLN),v=.tuple #[.slice ra0 rn0 rc0,yI ((xH s t).2)]∧Fresh w.heap.size [rF0]∧St w w' [rr ra0 rn0 rc0 38 3 rx0] [xX true rF0 rx0 ((xH s t).1)]) w):=by
 refine en func72 ntmps72 ?_
 have H:=(((((((St.start w).arg xM).arg zK).arg zi).Vx ht).arg xJ).arg xf).Vx hs
 have ve:=qK xf
 have jq:=qK xJ
 have Qk:=qK zi
 have Q9:=qK zK
 have jV:=qK xM
 clear hs xf xJ ht zi zK xM
 have N:=Fresh.nil w.heap.size
 refine zcr (sps [yN,yI 0] (zjcc (sps [pp bs os,pp bt ot] (sw (oq (l03Halted_ok _ s t (qG (H.get 0 rfl) 0 3) (H.get 1 rfl).1 (H.get 2 rfl).1 (qG (H.get 3 rfl) 0 3) (H.get 4 rfl).1 (H.get 5 rfl).1 (H.get 6 rfl).1 qg qg) H fun w2 H=>zjn (cP rfl (fun h4=>?_) (fun h4=>?_)))))))
 ·skip
  refine zcr (sw (vJ H underlying47 ti38 fun b5 w6 H=>sps [.slice (aa b5 0) 0 0,yI 0] (zjr (t_r ?_))))
  replace H:=H.boxRow 0 rfl 3 0 rfl qj
  replace H:=H.vH (α:=qH)
  replace H:St _ _ [rr (aa b5 0) 0 0 38 3 []] [xX true [] [] ([]:List qH),atF bs os (yS s qC qB qN qJ),sF false qX qC qB s.qw,sF false xF qN qJ s.qx,atF bt ot (yT t qV qR xn xh qM qL),sF false xN qV qR t.qy,sF false zo xn xh t.qE,sF false xC qM qL t.qA]:=H
  refine ret2 (.slice (aa b5 0) 0 0) (yI 0) rfl rfl rfl ⟨_,rfl,?_,H.base⟩
  rw [succ_h (by first | assumption | exact appls_halt.1 qf)]
  exact ⟨(aa b5 0),0,0,[],[],rfl,N.emp,H.pick [0] [0]⟩
 refine qU (t_n (zcr (sps [pp bs os,pp bt ot] ?_)))
 have sz10:=H.base.size
 refine sw (oc (l03Choices_ok _ s t (qG (H.get 0 rfl) 0 3) (H.get 1 rfl).1 (H.get 2 rfl).1 (qG (H.get 3 rfl) 0 3) (H.get 4 rfl).1 (H.get 5 rfl).1 (H.get 6 rfl).1 qg qg) ?_)
 rintro _ w8 ⟨ra7a,rn7a,rc7a,rx7a,rF7a,rfl,M,K⟩ _
 replace N:=N.merge sz10 qm M
 replace H:=H.merge K M
 obtain rfl:=H.zk (α:=yLI) 0 rfl 0 rfl qj
 refine sps [.tuple #[.slice ra7a (((zY s t).1).length) rc7a,yI ((zY s t).2)],.slice ra7a (((zY s t).1).length) rc7a,yI ((zY s t).2),.slice ra7a (((zY s t).1).length) rc7a,yI ((zY s t).2)] (zjcc (sps [yI ((zY s t).2),.bool (((zY s t).2:Int) != 0)] (zjn (xG (((zY s t).2:Int) != 0) rfl (fun h13=>?_) (fun h13=>?_)))))
 ·skip
  replace h13:=bne_iff_ne.1 h13
  refine zcr (sw (vJ H underlying47 ti38 fun b14 w15 H=>sps [yI ((zY s t).2),.slice (aa b14 0) 0 0,yI ((zY s t).2)] (zjr (t_r ?_))))
  replace H:=H.boxRow 0 rfl 3 0 rfl qj
  replace H:=H.vH (α:=qH)
  replace H:St _ _ [rr (aa b14 0) 0 0 38 3 [],rr ra7a (((zY s t).1).length) rc7a 22 1 rx7a] [xX true [] [] ([]:List qH),xX true rF7a rx7a ((zY s t).1),atF bs os (yS s qC qB qN qJ),sF false qX qC qB s.qw,sF false xF qN qJ s.qx,atF bt ot (yT t qV qR xn xh qM qL),sF false xN qV qR t.qy,sF false zo xn xh t.qE,sF false xC qM qL t.qA]:=H
  refine ret2 (.slice (aa b14 0) 0 0) (yI ((zY s t).2)) rfl rfl rfl ⟨_,rfl,?_,H.base⟩
  rw [succ_c ‹_›]
  exact ⟨(aa b14 0),0,0,[],[],rfl,(N.emp.pick [0]),H.pick [0] [0]⟩
 replace h13:=xq h13
 refine qU (t_n (zcr (sps [pp bs os,pp bt ot,.slice ra7a (((zY s t).1).length) rc7a] ?_)))
 obtain ⟨G16,hn17,h18⟩:=H.rowIsR (α:=yLI) 0 rfl 0 rfl qj
 have ln:=cho_len s t
 have cc:=fun q (hq:q < (zY s t).1.length)=>(cho_ok p0 p1 hq).1
 have ci:=fun q (hq:q < (zY s t).1.length)=>(cho_ok p0 p1 hq).2
 have sz22:=H.base.size
 have lt23:=H.ltN (L:=[rF7a]) [0]
 refine sw (oc (l03Next_ok _ s t ((zY s t).1) (qG (H.get 1 rfl) 0 3) (H.get 2 rfl).1 (H.get 3 rfl).1 (qG (H.get 4 rfl) 0 3) (H.get 5 rfl).1 (H.get 6 rfl).1 (H.get 7 rfl).1 h18 qg qg qg qg) ?_)
 rintro _ w20 ⟨ra19a,rn19a,rc19a,rx19a,rF19a,rfl,M,K⟩ _
 replace N:=N.merge sz22 lt23 M
 replace H:=H.merge K M
 obtain rfl:=H.zk (α:=qH) 0 rfl 0 rfl qj
 refine sps [.slice ra19a (((Qy s t ((zY s t).1)).1).length) rc19a,yI ((Qy s t ((zY s t).1)).2),.slice ra19a (((Qy s t ((zY s t).1)).1).length) rc19a,yI ((Qy s t ((zY s t).1)).2)] (zjr (ret2 (.slice ra19a (((Qy s t ((zY s t).1)).1).length) rc19a) (yI ((Qy s t ((zY s t).1)).2)) rfl rfl rfl ⟨_,rfl,?_,H.base⟩))
 rw [succ_0 (by first | assumption | exact fun h=>by have:=appls_halt.2 h;omega) ql]
 exact ⟨ra19a,((Qy s t ((zY s t).1)).1).length,rc19a,rx19a,rF19a,rfl,(N.pick [0]),H.pick [0] [0]⟩

theorem nextStates_ok (w:World) (s:qI) (t:qH) {qC:yOA} {qX:yLN} {qN:yOA} {xF:yLN} {qV:yOA} {xN:yLN} {xn:yOA} {zo:yLN} {qM:yOA} {xC:yLN} (xf:qO.rep w qX [.slice qC s.qw.length qB] s.qw) (xJ:qO.rep w xF [.slice qN s.qx.length qJ] s.qx) (zi:qO.rep w xN [.slice qV t.qy.length qR] t.qy) (zK:qO.rep w zo [.slice xn t.qE.length xh] t.qE) (xM:qO.rep w xC [.slice qM t.qA.length qL] t.qA) (p0:jZ s) (p1:zB s t):Calls Tryz.prog 73 #[.agg #[yI s.xA,.slice qC s.qw.length qB,.slice qN s.qx.length qJ],.agg #[.slice qV t.qy.length qR,.slice xn t.qE.length xh,.slice qM t.qA.length qL]] w (Ret (fun v w' =>∃ (ra0:yOA) (rn0:Nat) (rc0:Nat) (rx0:List Value) (rF0:yLN),v=.tuple #[.slice ra0 rn0 rc0,yI ((xH s t).2)]∧Fresh w.heap.size [rF0]∧St w w' [rr ra0 rn0 rc0 38 3 rx0] [xX true rF0 rx0 ((xH s t).1)]) w):=by
 refine en func73 ntmps73 ?_
 have H:=(((((St.start w).arg xM).arg zK).arg zi).arg xJ).arg xf
 have ve:=qK xf
 have jq:=qK xJ
 have Qk:=qK zi
 have Q9:=qK zK
 have jV:=qK xM
 clear xf xJ zi zK xM
 have N:=Fresh.nil w.heap.size
 refine zcr (sw (vN H (yS s qC qB qN qJ) fun b1 w2 H=>sw (vN H (yT t qV qR xn xh qM qL) fun b3 w4 H=>sps [yN,yI 0] (zjc (sw (zh (yS s qC qB qN qJ) isAgg36 sizeOf36 rfl (qG (H.cells 1 rfl) 0 3) ?_))))))
 refine sw (zh (yT t qV qR xn xh qM qL) isAgg38 sizeOf38 rfl (qG (H.cells 0 rfl) 0 3) ?_)
 have sz8:=H.base.size
 refine sw (oc (choices_ok _ s t (H.get 0 rfl).1 (H.get 1 rfl).1 (H.get 2 rfl).1 (H.get 3 rfl).1 (H.get 4 rfl).1 qg qg) ?_)
 rintro _ w6 ⟨ra5a,rn5a,rc5a,rx5a,rF5a,rfl,M,K⟩ _
 replace N:=N.merge sz8 qm M
 replace H:=H.merge K M
 obtain rfl:=H.zk (α:=yLI) 0 rfl 0 rfl qj
 refine sps [.tuple #[.slice ra5a (((zY s t).1).length) rc5a,yI ((zY s t).2)],.slice ra5a (((zY s t).1).length) rc5a,yI ((zY s t).2),.slice ra5a (((zY s t).1).length) rc5a,yI ((zY s t).2)] (zjcc (sps [yI ((zY s t).2),.bool (((zY s t).2:Int) != 0)] (zjn (xG (((zY s t).2:Int) != 0) rfl (fun h11=>?_) (fun h11=>?_)))))
 ·skip
  replace h11:=bne_iff_ne.1 h11
  refine zcr (sps [yI ((zY s t).2),yN,yI ((zY s t).2)] (zjr (t_r ?_)))
  replace H:=H.nilRow 38 3
  replace H:=H.vH (α:=qH)
  refine ret2 yN (yI ((zY s t).2)) rfl rfl rfl ⟨_,rfl,?_,H.base⟩
  rw [succ_c ‹_›]
  exact ⟨none,0,0,[],[],rfl,(N.emp.pick [0]),H.pick [0] [0]⟩
 replace h11:=xq h11
 refine qU (t_n (zcc (sw (zh (yS s qC qB qN qJ) isAgg36 sizeOf36 rfl (qG (H.cells 2 rfl) 0 3) (sw (zh (yT t qV qR xn xh qM qL) isAgg38 sizeOf38 rfl (qG (H.cells 1 rfl) 0 3) ?_))))))
 have sz15:=H.base.size
 refine sw (oc (applicable_ok _ s t (H.get 1 rfl).1 (H.get 2 rfl).1 (H.get 3 rfl).1 (H.get 4 rfl).1 (H.get 5 rfl).1 qg qg) ?_)
 rintro _ w13 ⟨ra12,rn12,rc12,rfl,M,K⟩ _
 replace H:=H.merge K M
 obtain rfl:=H.rowNI 0 rfl
 refine oN rfl (sp (.bool (((appls s t).length:Int) == 0)) (zjn (cE rfl (fun h18=>?_) (fun h18=>?_))))
 ·skip
  refine zcr (sps [yN,yI 0] (zjr (t_r ?_)))
  replace H:=H.nilRow 38 3
  replace H:=H.vH (α:=qH)
  refine ret2 yN (yI 0) rfl rfl rfl ⟨_,rfl,?_,H.base⟩
  rw [succ_h (by first | assumption | exact appls_halt.1 qf)]
  exact ⟨none,0,0,[],[],rfl,(N.emp.pick [0]),H.pick [0] [0]⟩
 refine qU (t_n (zcr (sw (zh (yS s qC qB qN qJ) isAgg36 sizeOf36 rfl (qG (H.cells 3 rfl) 0 3) (sw (zh (yT t qV qR xn xh qM qL) isAgg38 sizeOf38 rfl (qG (H.cells 2 rfl) 0 3) (sp (.slice ra5a (((zY s t).1).length) rc5a) ?_)))))))
 obtain ⟨G19,hn20,h21⟩:=H.rowIsR (α:=yLI) 1 rfl 0 rfl qj
 have ln:=cho_len s t
 have cc:=fun q (hq:q < (zY s t).1.length)=>(cho_ok p0 p1 hq).1
 have ci:=fun q (hq:q < (zY s t).1.length)=>(cho_ok p0 p1 hq).2
 have sz25:=H.base.size
 have lt26:=H.ltN (L:=[rF5a]) [0]
 refine sw (oc (behind_ok _ s t ((zY s t).1) (H.get 1 rfl).1 (H.get 2 rfl).1 (H.get 3 rfl).1 (H.get 4 rfl).1 (H.get 5 rfl).1 h21 qg qg qg qg qg) ?_)
 rintro _ w23 ⟨ra22a,rn22a,rc22a,rx22a,rF22a,rfl,M,K⟩ _
 replace N:=N.merge sz25 lt26 M
 replace H:=H.merge K M
 obtain rfl:=H.zk (α:=qH) 0 rfl 0 rfl qj
 refine sps [.slice ra22a (((Qy s t ((zY s t).1)).1).length) rc22a,yI ((Qy s t ((zY s t).1)).2),.slice ra22a (((Qy s t ((zY s t).1)).1).length) rc22a,yI ((Qy s t ((zY s t).1)).2)] (zjr (ret2 (.slice ra22a (((Qy s t ((zY s t).1)).1).length) rc22a) (yI ((Qy s t ((zY s t).1)).2)) rfl rfl rfl ⟨_,rfl,?_,H.base⟩))
 rw [succ_0 (by first | assumption | exact fun h=>by have:=appls_halt.2 h;omega) ql]
 exact ⟨ra22a,((Qy s t ((zY s t).1)).1).length,rc22a,rx22a,rF22a,rfl,(N.pick [0]),H.pick [0] [0]⟩
theorem find_ok (w:World) (l:List qH) (u:qH) {al:yOA} {Fl:yLN} {auAlive:yOA} {cuAlive:Nat} {FuAlive:yLN} {auBags:yOA} {cuBags:Nat} {FuBags:yLN} {auAround:yOA} {cuAround:Nat} {FuAround:yLN} (hl:qO.rep w Fl [.slice al l.length cl] l) (huAlive:qO.rep w FuAlive [.slice auAlive u.qy.length cuAlive] u.qy) (huBags:qO.rep w FuBags [.slice auBags u.qE.length cuBags] u.qE) (huAround:qO.rep w FuAround [.slice auAround u.qA.length cuAround] u.qA):Calls Tryz.prog 80 #[.slice al l.length cl,.agg #[.slice auAlive u.qy.length cuAlive,.slice auBags u.qE.length cuBags,.slice auAround u.qA.length cuAround]] w (Ret (fun v w' =>v=yI (firstIdx (fun zz=>decide (l[zz]! =u)) l.length)) w):=by
 refine en func80 ntmps80 ?_
 have H:=((((St.start w).arg huAround).arg huBags).arg huAlive).arg hl
 have nhl:=qK hl
 have nhuAlive:=qK huAlive
 have nhuBags:=qK huBags
 have nhuAround:=qK huAround
 clear hl huAlive huBags huAround
 have N:=Fresh.nil w.heap.size
 refine zcr (sw (vN H (yT u auAlive cuAlive auBags cuBags auAround cuAround) fun b1 w2 H=>sp (yI 0) (zjc (sps [.slice al l.length cl,.func (.func 117) #[] #[pp b1 0]] (sw (vz #[.slice al l.length cl,.func (.func 117) #[] #[pp b1 0]] rfl rfl call116 (en func116 ntmps116 ?_)))))))
 refine zcr (sp (yI 0) (zjcc (sp (.slice al l.length cl) (oN rfl (sp (yI 0) (zjn (qW ?_)))))))
 refine zn (fun m' ρ w3=>∃ (xP:Env) (i:Nat),ρ=upd (upd (upd (upd xP 0 (.slice al l.length cl)) 1 (.func (.func 117) #[] #[pp b1 0])) 7 (yI l.length)) 8 (yI i)∧((i:Int)≤l.length)∧(noneTo (fun zz=>decide (l[zz]! =u)) i)∧m' =(l.length - (i:Int)).toNat∧Fresh w.heap.size []∧St w w3 [.box b1 (yT u auAlive cuAlive auBags cuBags auAround cuAround) 38] [sF false Fl al cl l,sF false FuAlive auAlive cuAlive u.qy,sF false FuBags auBags cuBags u.qE,sF false FuAround auAround cuAround u.qA]) ((l.length - (0:Int)).toNat) ⟨_,0,uE4,qf,(by exact fun j hj=>by omega),rfl,N,H⟩ ?_
 clear H N
 rintro m' ρ w4 ⟨xP,i,rfl,i0,i1,rfl,N,H⟩
 refine zcr (sp (.bool (decide ((i:Int) < l.length))) (zjn (xO (cD rfl (fun h5=>?_) (fun h5=>?_)))))
 ·skip
  refine qU (t_n (xO (qW (zcr (sps [yI i,yI i] (zjc (sps [.func (.func 117) #[] #[pp b1 0],.slice al l.length cl,yI i] ?_)))))))
  obtain ⟨b6,o7,rfl⟩:=H.addr 0 rfl qf
  obtain ⟨ae9Alive,ce9Alive,Fe9Alive,ae9Bags,ce9Bags,Fe9Bags,ae9Around,ce9Around,Fe9Around,H⟩:=H.elem_StateD 0 rfl i i qf qf qf
  refine oI rfl rfl (sw (zh [.slice ae9Alive (((l[i]!).qy).length) ce9Alive,.slice ae9Bags (((l[i]!).qE).length) ce9Bags,.slice ae9Around (((l[i]!).qA).length) ce9Around] isAgg38 sizeOf38 rfl (qG (H.get 3 rfl) 0 3) (sw (vz #[.agg #[.slice ae9Alive (((l[i]!).qy).length) ce9Alive,.slice ae9Bags (((l[i]!).qE).length) ce9Bags,.slice ae9Around (((l[i]!).qA).length) ce9Around],pp b1 0] rfl rfl call117 (en func117 ntmps117 ?_)))))
  refine zcr (sw (vN H [.slice ae9Alive (((l[i]!).qy).length) ce9Alive,.slice ae9Bags (((l[i]!).qE).length) ce9Bags,.slice ae9Around (((l[i]!).qA).length) ce9Around] fun b10 w11 H=>sp (.bool false) (zjc (sw (zh [.slice ae9Alive (((l[i]!).qy).length) ce9Alive,.slice ae9Bags (((l[i]!).qE).length) ce9Bags,.slice ae9Around (((l[i]!).qA).length) ce9Around] isAgg38 sizeOf38 rfl (qG (H.cells 0 rfl) 0 3) ?_)))))
  refine sw (zh (yT u auAlive cuAlive auBags cuBags auAround cuAround) isAgg38 sizeOf38 rfl (qG (H.cells 1 rfl) 0 3) (sw (oq (sameState_ok _ (l[i]!) u (H.get 0 rfl).1 (H.get 1 rfl).1 (H.get 2 rfl).1 (H.get 5 rfl).1 (H.get 6 rfl).1 (H.get 7 rfl).1) H fun w13 H=>sp (.bool (decide ((l[i]!)=u))) (zjr (ret1 (.bool (decide ((l[i]!)=u))) rfl rfl ⟨_,rfl,?_⟩)))))
  replace H:=H.erases [0]
  dsimp only [jA,List.eraseIdx] at H
  refine zjn (cD rfl (fun h15=>?_) (fun h15=>?_))
  ·skip
   refine zcr (sps [yI i,yI i] (zjr (zr5 (ret1 (yI i) rfl rfl ⟨_,rfl,(sp (yI i) (zjr (ret1 (yI i) rfl rfl ⟨_,rfl,?_,H.base⟩)))⟩))))
   rw [firstIdx_some (k:=i) qf i1 (decide_eq_true ‹_›)]
  refine qU (b_n (t_n (xW (sw (zu i 1 rfl rfl qf (sp (yI (i+1)) (xU (qZ (m' :=(l.length - ((i+1):Int)).toNat) qf ⟨_,i+1,uE4,?_,?_,rfl,N,H.pick [0] [4,5,6,7]⟩))))))))
  · omega
  · exact noneTo_succ i1 (decide_eq_false ‹_›)
 refine zx4 (zcr (sp (yI (-1)) (zjr (ret1 (yI (-1)) rfl rfl ⟨_,rfl,(sp (yI (-1)) (zjr (ret1 (yI (-1)) rfl rfl ⟨_,rfl,?_,H.base⟩)))⟩))))
 rw [firstIdx_none (fun j hj=>i1 j qf)]
theorem specSA_ok (w:World) (s:qI) (t:qH) (steps:Int) {qC:yOA} {qX:yLN} {qN:yOA} {xF:yLN} {qV:yOA} {xN:yLN} {xn:yOA} {zo:yLN} {qM:yOA} {xC:yLN} (xf:qO.rep w qX [.slice qC s.qw.length qB] s.qw) (xJ:qO.rep w xF [.slice qN s.qx.length qJ] s.qx) (zi:qO.rep w xN [.slice qV t.qy.length qR] t.qy) (zK:qO.rep w zo [.slice xn t.qE.length xh] t.qE) (xM:qO.rep w xC [.slice qM t.qA.length qL] t.qA):Calls Tryz.prog 32 #[.agg #[yI s.xA,.slice qC s.qw.length qB,.slice qN s.qx.length qJ],.agg #[.slice qV t.qy.length qR,.slice xn t.qE.length xh,.slice qM t.qA.length qL],yI steps] w (Ret (fun v w' =>∃ (ra0:yOA) (rc0:Nat) (rF0:yLN),v=.tuple #[.slice ra0 (((zO s t steps).1).length) rc0,yI ((zO s t steps).2)]∧Fresh w.heap.size [rF0]∧St w w' [] [sF true rF0 ra0 rc0 ((zO s t steps).1)]) w):=by
 refine en func32 ntmps32 ?_
 have H:=(((((St.start w).arg xM).arg zK).arg zi).arg xJ).arg xf
 have ve:=qK xf
 have jq:=qK xJ
 have Qk:=qK zi
 have Q9:=qK zK
 have jV:=qK xM
 clear xf xJ zi zK xM
 have N:=Fresh.nil w.heap.size
 refine zcr (sw (vN H (yS s qC qB qN qJ) fun b1 w2 H=>sw (vN H (yT t qV qR xn xh qM qL) fun b3 w4 H=>sps [yN,yI 0] (zjcc (sw (oq (l03Both_ok _ s t (qG (H.cells 1 rfl) 0 3) (H.get 0 rfl).1 (H.get 1 rfl).1 (qG (H.cells 0 rfl) 0 3) (H.get 2 rfl).1 (H.get 3 rfl).1 (H.get 4 rfl).1) H fun w6 H=>sp (.bool (!(dec (jZ s∧zB s t)))) (zjn (cQ rfl (fun h8=>?_) (fun h8=>?_)))))))))
 ·skip
  refine zcr (sw (vJ H underlying47 ti38 fun b9 w10 H=>sps [.slice (aa b9 0) 0 0,yI 1] (zjr (t_r ?_))))
  replace H:=H.boxRow 0 rfl 3 0 rfl qj
  replace H:=H.vH (α:=qH)
  replace H:St _ _ [rr (aa b9 0) 0 0 38 3 [],.box b3 (yT t qV qR xn xh qM qL) 38,.box b1 (yS s qC qB qN qJ) 36] [xX true [] [] ([]:List qH),sF false qX qC qB s.qw,sF false xF qN qJ s.qx,sF false xN qV qR t.qy,sF false zo xn xh t.qE,sF false xC qM qL t.qA]:=H
  have H0:=H
  obtain ⟨G11,hg13,hn12,H⟩:=H.QI (α:=qH) 0 rfl 0 rfl qj
  replace N:Fresh w.heap.size [G11]:=Fresh.ice N.emp H0 0 hg13.1 hg13.2 (H0.jX [])
  clear H0
  refine ret2 (.slice (aa b9 0) 0 0) (yI 1) rfl rfl rfl ⟨_,rfl,?_,H.base⟩
  rw [sa_1 ‹_›]
  exact ⟨(aa b9 0),0,G11,rfl,N,H.pick [] [0]⟩
 have k0:=(‹jZ s∧zB s t›:jZ s∧zB s t)
 have k1:=k0.1
 have k2:=k0.2
 obtain ⟨q7,q8,q9,q10⟩:=k2.sizes k1.1
 have q13:=fun k hk=>Nat.le_trans (q10 k hk) (by decide:8≤1000000)
 refine qU (t_n (zcc (sp (yI steps) (sw (oq (l00In_ok w6 steps 0 200) H fun w14 H=>sp (.bool (!(inR steps 0 200))) (zjn (xG (!(inR steps 0 200)) rfl (fun h16=>?_) (fun h16=>?_))))))))
 ·skip
  replace h16:=xk h16
  replace h16:=XC h16
  refine zcr (sw (vJ H underlying47 ti38 fun b17 w18 H=>sps [.slice (aa b17 0) 0 0,yI 2] (zjr (t_r ?_))))
  replace H:=H.boxRow 0 rfl 3 0 rfl qj
  replace H:=H.vH (α:=qH)
  replace H:St _ _ [rr (aa b17 0) 0 0 38 3 [],.box b3 (yT t qV qR xn xh qM qL) 38,.box b1 (yS s qC qB qN qJ) 36] [xX true [] [] ([]:List qH),sF false qX qC qB s.qw,sF false xF qN qJ s.qx,sF false xN qV qR t.qy,sF false zo xn xh t.qE,sF false xC qM qL t.qA]:=H
  have H0:=H
  obtain ⟨G19,hg21,hn20,H⟩:=H.QI (α:=qH) 0 rfl 0 rfl qj
  replace N:Fresh w.heap.size [G19]:=Fresh.ice N.emp H0 0 hg21.1 hg21.2 (H0.jX [])
  clear H0
  refine ret2 (.slice (aa b17 0) 0 0) (yI 2) rfl rfl rfl ⟨_,rfl,?_,H.base⟩
  rw [sa_2 k0 ‹_›]
  exact ⟨(aa b17 0),0,G19,rfl,N,H.pick [] [0]⟩
 replace h16:=xe h16
 replace h16:=Xa.1 h16
 refine qU (t_n (zcr ?_))
 have sz25:=H.base.size
 refine sw (oc (l02Own_ok _ t (qG (H.cells 0 rfl) 0 3) (H.get 2 rfl).1 (H.get 3 rfl).1 (H.get 4 rfl).1 qg qg qg qg) ?_)
 rintro _ w23 ⟨ra22Alive,rn22Alive,rc22Alive,ra22Bags,rn22Bags,rc22Bags,rx22Bags,rF22Bags,ra22Around,rn22Around,rc22Around,rfl,M,K⟩ _
 replace N:=N.merge sz25 qm M
 replace H:=H.merge K M
 obtain rfl:=H.rowNB 0 rfl
 obtain rfl:=H.zk (α:=yLI) 1 rfl 0 rfl qj
 obtain rfl:=H.rowNI 2 rfl
 refine sw (zX H underlying47 ti38 (yT t ra22Alive rc22Alive ra22Bags rc22Bags ra22Around rc22Around) fun b30 w31 H=>sp (.slice (aa b30 0) 1 1) (zjcc (sp (yI 0) (zjn (qW ?_)))))
 replace H:=H.boxRow 0 rfl 3 1 rfl qj
 replace H:=H.vH (α:=qH)
 obtain ⟨G32,N,hn33,H⟩:=H.freezeB 1 rfl N (H.jX [1])
 have H0:=H
 obtain ⟨G34,hg36,hn35,H⟩:=H.QI (α:=yLI) 2 rfl 2 rfl qj
 replace N:Fresh w.heap.size [G34,G32]:=Fresh.ice (N.pick [1,0]) H0 2 hg36.1 hg36.2 (H0.jX [0])
 clear H0
 obtain ⟨G37,N,hn38,H⟩:=H.vW 3 rfl N (H.jX [0,1])
 replace H:=H.snoc_StateD 3 rfl 2 rfl 1 rfl 0 rfl
 replace N:Fresh w.heap.size [([]++(G32++G34++G37))]:=(N.emp.pick [3,2,1,0]).join.join.swap.join
 replace H:St _ _ [rr (aa b30 0) 1 1 38 3 (yT t ra22Alive rc22Alive ra22Bags rc22Bags ra22Around rc22Around),rr none 0 0 0 1 [],rr none 0 0 0 1 [],rr none 0 0 0 1 [],.box b3 (yT t qV qR xn xh qM qL) 38,.box b1 (yS s qC qB qN qJ) 36] [xX true ([]++(G32++G34++G37)) (yT t ra22Alive rc22Alive ra22Bags rc22Bags ra22Around rc22Around) [t],sF true G37 ra22Around rc22Around t.qA,sF true G34 ra22Bags rc22Bags t.qE,sF true G32 ra22Alive rc22Alive t.qy,xX true [] [] ([]:List qH),xX true rF22Bags rx22Bags t.qE,sF false qX qC qB s.qw,sF false xF qN qJ s.qx,sF false xN qV qR t.qy,sF false zo xn xh t.qE,sF false xC qM qL t.qA]:=H
 refine zn (fun m' ρ w39=>∃ (xP:Env) (Q7:yOA) (jG:Nat) (Ql:Nat) (list:List qH) (X8:List Value) (Xl:yLN) (k:Nat),ρ=upd (upd (upd (upd xP 2 (yI steps)) 3 (pp b1 0)) 8 (.slice Q7 jG Ql)) 9 (yI k)∧(0≤(k:Int)∧(k:Int)≤steps)∧(zO s t steps=saRun s (steps.toNat - k) list)∧(∀ u∈list,zB s u)∧(list.length≤300)∧m' =(steps - (k:Int)).toNat∧Fresh w.heap.size [Xl]∧St w w39 [rr Q7 jG Ql 38 3 X8,.box b3 (yT t qV qR xn xh qM qL) 38,.box b1 (yS s qC qB qN qJ) 36] [xX true Xl X8 list,sF false qX qC qB s.qw,sF false xF qN qJ s.qx,sF false xN qV qR t.qy,sF false zo xn xh t.qE,sF false xC qM qL t.qA]) ((steps - (0:Int)).toNat) ⟨_,(aa b30 0),1,1,[t],(yT t ra22Alive rc22Alive ra22Bags rc22Bags ra22Around rc22Around),([]++(G32++G34++G37)),0,uE4,qf,(by exact sa_0 k0 qf),(by exact fun u hu=>by obtain rfl:=List.mem_singleton.1 hu;exact k2),qm,rfl,N,H.pick [0,4,5] [0,6,7,8,9,10]⟩ ?_
 clear H N
 rintro m' ρ w40 ⟨xP,Q7,jG,Ql,list,X8,Xl,k,rfl,k1i,kr,ka,kl,rfl,N,H⟩
 have hn_list:=H.zk (α:=qH) 0 rfl 0 rfl qj
 refine zcc (sps [yI k,yI steps,.bool (decide ((k:Int) < steps)),.bool (decide ((k:Int) < steps))] ?_)
 cases h41:(decide ((k:Int) < steps))
 ·skip
  replace h41:=of_decide_eq_false h41
  refine zf [28,29,30] (sp (.bool false) (zjn (xG false rfl (fun h=>absurd h qj) (fun _=>zx4 (zcr (sps [.slice Q7 jG Ql,.slice Q7 jG Ql,yI 0] (zjr ?_)))))))
  have H0:=H
  obtain ⟨G42,hg44,hn43,H⟩:=H.QI (α:=qH) 0 rfl 0 rfl qj
  replace N:Fresh w.heap.size [G42]:=Fresh.ice N H0 0 hg44.1 hg44.2 (H0.jX [])
  clear H0
  obtain rfl:=H.isLen 0 rfl
  refine ret2 (.slice Q7 list.length Ql) (yI 0) rfl rfl rfl ⟨_,rfl,?_,H.base⟩
  rw [kr,sr_end qf]
  exact ⟨Q7,Ql,G42,rfl,N,H.pick [] [0]⟩
 replace h41:=of_decide_eq_true h41
 refine qP 27 rfl rfl (sp (.slice Q7 jG Ql) (qP 27 rfl rfl (oN rfl (qP 27 rfl rfl (sps [.bool (decide ((jG:Int) > 0)),.bool (decide ((jG:Int) > 0))] (zjn (cD rfl (fun h45=>?_) (fun h45=>?_))))))))
 ·skip
  refine qU (t_n (xO (qW (zcr (sw (vJ H underlying47 ti38 fun b46 w47 H=>sp (.slice (aa b46 0) 0 0) (zjcc (sp (yI 0) (zjn (qW ?_))))))))))
  replace H:=H.boxRow 0 rfl 3 0 rfl qj
  replace H:=H.vH (α:=qH)
  replace H:St _ _ [rr (aa b46 0) 0 0 38 3 [],rr Q7 jG Ql 38 3 X8,.box b3 (yT t qV qR xn xh qM qL) 38,.box b1 (yS s qC qB qN qJ) 36] [xX true [] [] ([]:List qH),xX true Xl X8 list,sF false qX qC qB s.qw,sF false xF qN qJ s.qx,sF false xN qV qR t.qy,sF false zo xn xh t.qE,sF false xC qM qL t.qA]:=H
  refine zn (fun m' ρ w48=>∃ (xP:Env) (vk:yOA) (zA:Nat) (zT:Nat) (out:List qH) (Qv:List Value) (yg:yLN) (i:Nat),ρ=upd (upd (upd (upd (upd (upd (upd (upd (upd xP 2 (yI steps)) 3 (pp b1 0)) 8 (.slice Q7 jG Ql)) 9 (yI k)) 10 (.slice vk zA zT)) 11 (yI i)) 28 (.slice Q7 jG Ql)) 29 (yI jG)) 30 (.bool (decide ((jG:Int) > 0)))∧((i:Int)≤jG)∧(saGo s (list.drop i) out=saGo s list [])∧(∀ u∈out,zB s u)∧(out.length≤300)∧m' =(jG - (i:Int)).toNat∧Fresh w.heap.size [Xl,yg]∧St w w48 [rr vk zA zT 38 3 Qv,rr Q7 jG Ql 38 3 X8,.box b3 (yT t qV qR xn xh qM qL) 38,.box b1 (yS s qC qB qN qJ) 36] [xX true yg Qv out,xX true Xl X8 list,sF false qX qC qB s.qw,sF false xF qN qJ s.qx,sF false xN qV qR t.qy,sF false zo xn xh t.qE,sF false xC qM qL t.qA]) ((jG - (0:Int)).toNat) ⟨_,(aa b46 0),0,0,([]:List qH),[],[],0,uE9,qf,(by rfl),qm,qm,rfl,(N.emp.pick [1,0]),H⟩ ?_
  clear H N
  rintro m' ρ w49 ⟨xP,vk,zA,zT,out,Qv,yg,i,rfl,i0,kg,kb,km,rfl,N,H⟩
  have hn_out:=H.zk (α:=qH) 0 rfl 0 rfl qj
  refine zcc (sps [yI i,.slice Q7 jG Ql] (oN rfl (sp (.bool (decide ((i:Int) < jG))) (zjn (cD rfl (fun h50=>?_) (fun h50=>?_))))))
  ·skip
   have ks:=ka (list[i]!) (mem_at (k:=i) qf rfl)
   have nl:=succ_len s (list[i]!)
   refine qU (t_n (xO (qW (zcr (sps [.slice Q7 jG Ql,yI i] ?_)))))
   obtain ⟨b51,rfl⟩:=H.Qw 1 rfl qf
   obtain ⟨ae52Alive,ce52Alive,Fe52Alive,ae52Bags,ce52Bags,Fe52Bags,ae52Around,ce52Around,Fe52Around,hx53,H⟩:=H.rowel_StateD 1 rfl 1 rfl (iv:=i) i qf qf
   refine oI rfl rfl ?_
   have sz57:=H.base.size
   have lt58:=H.ltN (L:=[Xl,yg]) [4,3]
   refine sw (oc (l03Succ_ok _ s (list[i]!) (qG (H.cells 3 rfl) 0 3) (H.get 5 rfl).1 (H.get 6 rfl).1 (qG (fun j v hj=>H.rowGet 1 rfl (hx53 j v hj)) 0 3) (H.get 0 rfl).1 (H.get 1 rfl).1 (H.get 2 rfl).1 qg qg) ?_)
   rintro _ w55 ⟨ra54a,rn54a,rc54a,rx54a,rF54a,rfl,M,K⟩ _
   replace N:=N.merge sz57 lt58 M
   replace H:=H.merge K M
   obtain rfl:=H.zk (α:=qH) 0 rfl 0 rfl qj
   refine sps [.tuple #[.slice ra54a (((xH s (list[i]!)).1).length) rc54a,yI ((xH s (list[i]!)).2)],.slice ra54a (((xH s (list[i]!)).1).length) rc54a,yI ((xH s (list[i]!)).2),.slice ra54a (((xH s (list[i]!)).1).length) rc54a,yI ((xH s (list[i]!)).2)] (zjcc (sps [yI ((xH s (list[i]!)).2),.bool (((xH s (list[i]!)).2:Int) != 0)] (zjn (xG (((xH s (list[i]!)).2:Int) != 0) rfl (fun h60=>?_) (fun h60=>?_)))))
   ·skip
    replace h60:=bne_iff_ne.1 h60
    refine zcr (sw (vJ H underlying47 ti38 fun b61 w62 H=>sps [yI ((xH s (list[i]!)).2),.slice (aa b61 0) 0 0,yI ((xH s (list[i]!)).2)] (zjr (t_r (zr5 (zr5 ?_))))))
    replace H:=H.boxRow 0 rfl 3 0 rfl qj
    replace H:=H.vH (α:=qH)
    replace H:St _ _ [rr (aa b61 0) 0 0 38 3 [],rr ra54a (((xH s (list[i]!)).1).length) rc54a 38 3 rx54a,rr vk zA zT 38 3 Qv,rr (aa b51 0) jG Ql 38 3 X8,.box b3 (yT t qV qR xn xh qM qL) 38,.box b1 (yS s qC qB qN qJ) 36] [xX true [] [] ([]:List qH),xX true rF54a rx54a ((xH s (list[i]!)).1),sF true Fe52Alive ae52Alive ce52Alive ((list[i]!).qy),sF true Fe52Bags ae52Bags ce52Bags ((list[i]!).qE),sF true Fe52Around ae52Around ce52Around ((list[i]!).qA),xX true yg Qv out,xX true Xl X8 list,sF false qX qC qB s.qw,sF false xF qN qJ s.qx,sF false xN qV qR t.qy,sF false zo xn xh t.qE,sF false xC qM qL t.qA]:=H
    have H0:=H
    obtain ⟨G63,hg65,hn64,H⟩:=H.QI (α:=qH) 0 rfl 0 rfl qj
    replace N:Fresh w.heap.size [G63,rF54a,Xl,yg]:=Fresh.ice N.emp H0 0 hg65.1 hg65.2 (H0.jX [1,6,5])
    clear H0
    refine ret2 (.slice (aa b61 0) 0 0) (yI ((xH s (list[i]!)).2)) rfl rfl rfl ⟨_,rfl,?_,H.base⟩
    rw [kr,sr_err qf (kg.symm.trans (sa_code qf ql)) ql]
    exact ⟨(aa b61 0),0,G63,rfl,(N.pick [0]),H.pick [] [0]⟩
   replace h60:=xq h60
   refine qU (t_n (zcc (sp (yI 0) (zjn (qW ?_)))))
   have H0:=H
   obtain ⟨G66,hg68,hn67,H⟩:=H.QI (α:=qH) 0 rfl 0 rfl qj
   replace N:Fresh w.heap.size [G66,Xl,yg]:=Fresh.ice N H0 0 hg68.1 hg68.2 (H0.jX [5,4])
   clear H0
   obtain ⟨xs69,B70,P71,N,H⟩:=H.pool (α:=qH) 0 rfl N
   refine zn (fun m' ρ w72=>∃ (xP:Env) (Vk:yOA) (jC:Nat) (QB:Nat) (out_1:List qH) (QP:List Value) (Qi:yLN) (x:Nat) (P_x:yLN),ρ=upd (upd (upd (upd (upd (upd (upd (upd (upd (upd (upd xP 2 (yI steps)) 3 (pp b1 0)) 8 (.slice (aa b51 0) jG Ql)) 9 (yI k)) 10 (.slice Vk jC QB)) 11 (yI i)) 12 (.slice ra54a (((xH s (list[i]!)).1).length) rc54a)) 14 (yI x)) 28 (.slice (aa b51 0) jG Ql)) 29 (yI jG)) 30 (.bool (decide ((jG:Int) > 0)))∧out_1=(je out (xH s (list[i]!)).1 x).1∧((x:Int)≤(((xH s (list[i]!)).1).length))∧m' =((((xH s (list[i]!)).1).length) - (x:Int)).toNat∧Fresh w.heap.size [Xl,Qi,P_x]∧St w w72 [rr Vk jC QB 38 3 QP,rr (aa b51 0) jG Ql 38 3 X8,.box b3 (yT t qV qR xn xh qM qL) 38,.box b1 (yS s qC qB qN qJ) 36] [xX true P_x (xs69.drop (x * 3)) (((xH s (list[i]!)).1).drop x),cellsF B70 (.slice ra54a (((xH s (list[i]!)).1).length) rc54a) xs69,sF true G66 ra54a rc54a ((xH s (list[i]!)).1),xX true Qi QP out_1,xX true Xl X8 list,sF false qX qC qB s.qw,sF false xF qN qJ s.qx,sF false xN qV qR t.qy,sF false zo xn xh t.qE,sF false xC qM qL t.qA]) (((((xH s (list[i]!)).1).length) - (0:Int)).toNat) ⟨_,vk,zA,zT,out,Qv,yg,0,P71,uE11,(by rfl),qf,rfl,(N.pick [1,2,0]),H.pick [1,2,3,4] [0,1,2,7,8,9,10,11,12,13]⟩ ?_
   clear H N
   rintro m' ρ w73 ⟨xP,Vk,jC,QB,out_1,QP,Qi,x,P_x,rfl,rfl,i0,rfl,N,H⟩
   have hn_out:=H.zk (α:=qH) 0 rfl 3 rfl qj
   obtain ⟨al1,al2,al3⟩:=addSt_len (S:=out) (nx:=(xH s (list[i]!)).1) x
   refine zcc (sps [yI x,.slice ra54a (((xH s (list[i]!)).1).length) rc54a] (oN rfl (sp (.bool (decide ((x:Int) < (((xH s (list[i]!)).1).length)))) (zjn (cD rfl (fun h74=>?_) (fun h74=>?_))))))
   ·skip
    obtain ⟨b75,o76,rfl⟩:=H.addr 2 rfl qf
    obtain ⟨ae78Alive,ce78Alive,Fe78Alive,ae78Bags,ce78Bags,Fe78Bags,ae78Around,ce78Around,Fe78Around,P79,N,H⟩:=H.drain_StateD 1 rfl 0 rfl ((N.pick [2,0,1]):Fresh w.heap.size [P_x,Xl,Qi]) x x qf qf qf
    refine qU (t_n (xO (qW (zcr (sps [.slice Vk jC QB,.slice (aa b75 o76) (((xH s (list[i]!)).1).length) rc54a,yI x] (oI rfl rfl ?_))))))
    obtain ⟨G80,hn81,h82⟩:=H.rowIsR (α:=qH) 0 rfl 8 rfl qj
    refine sw (oq (args_eq (by rw [← hn81]) (l03Find_ok _ ((je out (xH s (list[i]!)).1 x).1) (((xH s (list[i]!)).1)[x]!) (hn81▸h82) (qG (H.get 3 rfl) 0 3) (H.get 0 rfl).1 (H.get 1 rfl).1 (H.get 2 rfl).1)) H fun w84 H=>sp (.bool (decide ((firstIdx (fun zz=>decide (((je out (xH s (list[i]!)).1 x).1)[zz]! =(((xH s (list[i]!)).1)[x]!))) ((je out (xH s (list[i]!)).1 x).1).length:Int) < 0))) (zjn (cD rfl (fun h86=>?_) (fun h86=>?_))))
    ·skip
     refine xW (sps [.slice Vk jC QB,.slice (aa b75 o76) (((xH s (list[i]!)).1).length) rc54a,yI x] (oI rfl rfl (sw (zh [.slice ae78Alive (((((xH s (list[i]!)).1)[x]!).qy).length) ce78Alive,.slice ae78Bags (((((xH s (list[i]!)).1)[x]!).qE).length) ce78Bags,.slice ae78Around (((((xH s (list[i]!)).1)[x]!).qA).length) ce78Around] isAgg38 sizeOf38 rfl (qG (H.get 3 rfl) 0 3) ?_))))
     refine sw (zX H underlying47 ti38 [.slice ae78Alive (((((xH s (list[i]!)).1)[x]!).qy).length) ce78Alive,.slice ae78Bags (((((xH s (list[i]!)).1)[x]!).qE).length) ce78Bags,.slice ae78Around (((((xH s (list[i]!)).1)[x]!).qA).length) ce78Around] fun b87 w88 H=>sw (vC H 1 rfl 0 rfl underlying47 ti38 rfl qj rfl rfl rfl (by simp [Value.oneCell',Value.cells]) qp qf fun a89 c90 w91 H=>?_))
     replace H:=H.snoc_StateD 8 rfl 0 rfl 1 rfl 2 rfl
     replace N:Fresh w.heap.size [(Qi++(Fe78Alive++Fe78Bags++Fe78Around)),P79,Xl]:=(N.pick [0,1,2,5,3,4]).join.join.swap.join
     refine sp (.slice a89 (jC+1) c90) (xU (b_n (t_n (xW (sp (yI x) (sw (zu x 1 rfl rfl qf (sp (yI (x+1)) (xU ?_)))))))))
     refine qZ (m' :=((((xH s (list[i]!)).1).length) - ((x+1):Int)).toNat) qf ⟨_,a89,jC+1,c90,(((je out (xH s (list[i]!)).1 x).1)++[⟨(((xH s (list[i]!)).1)[x]!).qy,(((xH s (list[i]!)).1)[x]!).qE,(((xH s (list[i]!)).1)[x]!).qA⟩]),QP++[.slice ae78Alive (((((xH s (list[i]!)).1)[x]!).qy).length) ce78Alive,.slice ae78Bags (((((xH s (list[i]!)).1)[x]!).qE).length) ce78Bags,.slice ae78Around (((((xH s (list[i]!)).1)[x]!).qA).length) ce78Around],(Qi++(Fe78Alive++Fe78Bags++Fe78Around)),x+1,P79,uE11,?_,?_,rfl,(N.pick [2,0,1]),H.pick [1,2,3,4] [5,7,8,0,10,11,12,13,14,15]⟩
     · first | exact (addSt_new (k:=x) ‹_›).1 | exact (addSt_old (k:=x) ‹_›).1
     · omega
    refine qU (b_n (t_n (xW (sp (yI x) (sw (zu x 1 rfl rfl qf (sp (yI (x+1)) (xU (qZ (m' :=((((xH s (list[i]!)).1).length) - ((x+1):Int)).toNat) qf ⟨_,Vk,jC,QB,((je out (xH s (list[i]!)).1 x).1),QP,Qi,x+1,P79,uE11,?_,?_,rfl,(N.pick [4,5,3]),H.pick [0,1,2,3] [4,6,7,8,9,10,11,12,13,14]⟩)))))))))
    · first | exact (addSt_new (k:=x) ‹_›).1 | exact (addSt_old (k:=x) ‹_›).1
    · omega
   refine zx4 (zcr (sp (.slice Vk jC QB) (oN rfl (sp (.bool (decide ((jC:Int) > 300))) (zjn (cD rfl (fun h92=>?_) (fun h92=>?_)))))))
   ·skip
    refine zcr (sw (vJ H underlying47 ti38 fun b93 w94 H=>sps [.slice (aa b93 0) 0 0,yI 3] (zjr (zr5 (zr5 ?_)))))
    replace H:=H.boxRow 0 rfl 3 0 rfl qj
    replace H:=H.vH (α:=qH)
    replace H:St _ _ [rr (aa b93 0) 0 0 38 3 [],rr Vk jC QB 38 3 QP,rr (aa b51 0) jG Ql 38 3 X8,.box b3 (yT t qV qR xn xh qM qL) 38,.box b1 (yS s qC qB qN qJ) 36] [xX true [] [] ([]:List qH),xX true P_x (xs69.drop (x * 3)) (((xH s (list[i]!)).1).drop x),cellsF B70 (.slice ra54a (((xH s (list[i]!)).1).length) rc54a) xs69,sF true G66 ra54a rc54a ((xH s (list[i]!)).1),xX true Qi QP ((je out (xH s (list[i]!)).1 x).1),xX true Xl X8 list,sF false qX qC qB s.qw,sF false xF qN qJ s.qx,sF false xN qV qR t.qy,sF false zo xn xh t.qE,sF false xC qM qL t.qA]:=H
    have H0:=H
    obtain ⟨G95,hg97,hn96,H⟩:=H.QI (α:=qH) 0 rfl 0 rfl qj
    replace N:Fresh w.heap.size [G95,Xl,Qi,P_x]:=Fresh.ice N.emp H0 0 hg97.1 hg97.2 (H0.jX [5,4,1])
    clear H0
    refine ret2 (.slice (aa b93 0) 0 0) (yI 3) rfl rfl rfl ⟨_,rfl,?_,H.base⟩
    rw [kr,sr_err qf (kg.symm.trans (sa_many qf qf (k:=x) qf qf)) qj]
    exact ⟨(aa b93 0),0,G95,rfl,(N.pick [0]),H.pick [] [0]⟩
   refine qU (b_n (t_n (xW (sp (yI i) (sw (zu i 1 rfl rfl qf (sp (yI (i+1)) (xU (qZ (m' :=(jG - ((i+1):Int)).toNat) qf ⟨_,Vk,jC,QB,((je out (xH s (list[i]!)).1 x).1),QP,Qi,i+1,uE9,?_,?_,?_,?_,rfl,(N.pick [0,1]),H.pick [0,1,2,3] [3,4,5,6,7,8,9]⟩)))))))))
   · omega
   · exact (sa_go qf qf qf qf).symm.trans kg
   · exact addSt_mem kb succ_ok _ qf
   · omega
  refine zx4 (xW (sps [.slice vk zA zT,.slice vk zA zT] (xU (b_n (t_n (xW (sp (yI k) (sw (zu k 1 rfl rfl qf (sp (yI (k+1)) (xU (qZ (m' :=(steps - ((k+1):Int)).toNat) qf ⟨_,vk,zA,zT,out,Qv,yg,k+1,uE4,?_,?_,?_,?_,rfl,(N.pick [1]),H.pick [0,2,3] [0,2,3,4,5,6]⟩))))))))))))
  · omega
  · exact kr.trans (sr_go qf (kg.symm.trans (sa_end qf)))
  · assumption
  · omega
 refine zx4 (zcr (sps [.slice Q7 jG Ql,.slice Q7 jG Ql,yI 0] (zjr ?_)))
 have H0:=H
 obtain ⟨G98,hg100,hn99,H⟩:=H.QI (α:=qH) 0 rfl 0 rfl qj
 replace N:Fresh w.heap.size [G98]:=Fresh.ice N H0 0 hg100.1 hg100.2 (H0.jX [])
 clear H0
 obtain rfl:=H.isLen 0 rfl
 refine ret2 (.slice Q7 list.length Ql) (yI 0) rfl rfl rfl ⟨_,rfl,?_,H.base⟩
 rw [kr,sr_end qf]
 exact ⟨Q7,Ql,G98,rfl,N,H.pick [] [0]⟩

theorem implSA_ok (w:World) (s:qI) (t:qH) (steps:Int) {qC:yOA} {qX:yLN} {qN:yOA} {xF:yLN} {qV:yOA} {xN:yLN} {xn:yOA} {zo:yLN} {qM:yOA} {xC:yLN} (xf:qO.rep w qX [.slice qC s.qw.length qB] s.qw) (xJ:qO.rep w xF [.slice qN s.qx.length qJ] s.qx) (zi:qO.rep w xN [.slice qV t.qy.length qR] t.qy) (zK:qO.rep w zo [.slice xn t.qE.length xh] t.qE) (xM:qO.rep w xC [.slice qM t.qA.length qL] t.qA):Calls Tryz.prog 33 #[.agg #[yI s.xA,.slice qC s.qw.length qB,.slice qN s.qx.length qJ],.agg #[.slice qV t.qy.length qR,.slice xn t.qE.length xh,.slice qM t.qA.length qL],yI steps] w (Ret (fun v w' =>∃ (ra0:yOA) (rc0:Nat) (rF0:yLN),v=.tuple #[.slice ra0 (((zO s t steps).1).length) rc0,yI ((zO s t steps).2)]∧Fresh w.heap.size [rF0]∧St w w' [] [sF true rF0 ra0 rc0 ((zO s t steps).1)]) w):=by
 refine en func33 ntmps33 ?_
 have H:=(((((St.start w).arg xM).arg zK).arg zi).arg xJ).arg xf
 have ve:=qK xf
 have jq:=qK xJ
 have Qk:=qK zi
 have Q9:=qK zK
 have jV:=qK xM
 clear xf xJ zi zK xM
 have N:=Fresh.nil w.heap.size
 refine zcr (sw (vN H (yS s qC qB qN qJ) fun b1 w2 H=>sw (vN H (yT t qV qR xn xh qM qL) fun b3 w4 H=>sps [yN,yI 0] (zjcc (sw (zh (yS s qC qB qN qJ) isAgg36 sizeOf36 rfl (qG (H.cells 1 rfl) 0 3) ?_))))))
 refine sw (zh (yT t qV qR xn xh qM qL) isAgg38 sizeOf38 rfl (qG (H.cells 0 rfl) 0 3) (sw (oq (validState_ok _ s t (H.get 0 rfl).1 (H.get 1 rfl).1 (H.get 2 rfl).1 (H.get 3 rfl).1 (H.get 4 rfl).1) H fun w6 H=>sp (.bool (!(dec (jZ s∧zB s t)))) (zjn (cQ rfl (fun h8=>?_) (fun h8=>?_))))))
 ·skip
  refine zcr (sps [yN,yI 1] (zjr (t_r ?_)))
  replace H:=H.addNil (α:=qH)
  refine ret2 yN (yI 1) rfl rfl rfl ⟨_,rfl,?_,H.base⟩
  rw [sa_1 ‹_›]
  exact ⟨none,0,[],rfl,N.emp,H.pick [] [0]⟩
 have k0:=(‹jZ s∧zB s t›:jZ s∧zB s t)
 have k1:=k0.1
 have k2:=k0.2
 obtain ⟨q7,q8,q9,q10⟩:=k2.sizes k1.1
 have q13:=fun k hk=>Nat.le_trans (q10 k hk) (by decide:8≤1000000)
 refine qU (t_n (zcc (sp (yI steps) (sw (oq (Vp w6 steps 0 200) H fun w9 H=>sp (.bool (!(inR steps 0 200))) (zjn (xG (!(inR steps 0 200)) rfl (fun h11=>?_) (fun h11=>?_))))))))
 ·skip
  replace h11:=xk h11
  replace h11:=XC h11
  refine zcr (sps [yN,yI 2] (zjr (t_r ?_)))
  replace H:=H.addNil (α:=qH)
  refine ret2 yN (yI 2) rfl rfl rfl ⟨_,rfl,?_,H.base⟩
  rw [sa_2 k0 ‹_›]
  exact ⟨none,0,[],rfl,N.emp,H.pick [] [0]⟩
 replace h11:=xe h11
 replace h11:=Xa.1 h11
 refine qU (t_n (zcr (sw (zh (yT t qV qR xn xh qM qL) isAgg38 sizeOf38 rfl (qG (H.cells 0 rfl) 0 3) ?_))))
 have sz15:=H.base.size
 refine sw (oc (VV _ t (H.get 2 rfl).1 (H.get 3 rfl).1 (H.get 4 rfl).1 qg qg qg qg) ?_)
 rintro _ w13 ⟨ra12Alive,rn12Alive,rc12Alive,ra12Bags,rn12Bags,rc12Bags,rx12Bags,rF12Bags,ra12Around,rn12Around,rc12Around,rfl,M,K⟩ _
 replace N:=N.merge sz15 qm M
 replace H:=H.merge K M
 obtain rfl:=H.rowNB 0 rfl
 obtain rfl:=H.zk (α:=yLI) 1 rfl 0 rfl qj
 obtain rfl:=H.rowNI 2 rfl
 refine sw (zX H underlying47 ti38 (yT t ra12Alive rc12Alive ra12Bags rc12Bags ra12Around rc12Around) fun b20 w21 H=>sp (.slice (aa b20 0) 1 1) (zjcc (sps [yI steps,yI 0] (zjn (qW ?_)))))
 replace H:=H.boxRow 0 rfl 3 1 rfl qj
 replace H:=H.vH (α:=qH)
 obtain ⟨G22,N,hn23,H⟩:=H.freezeB 1 rfl N (H.jX [1])
 have H0:=H
 obtain ⟨G24,hg26,hn25,H⟩:=H.QI (α:=yLI) 2 rfl 2 rfl qj
 replace N:Fresh w.heap.size [G24,G22]:=Fresh.ice (N.pick [1,0]) H0 2 hg26.1 hg26.2 (H0.jX [0])
 clear H0
 obtain ⟨G27,N,hn28,H⟩:=H.vW 3 rfl N (H.jX [0,1])
 replace H:=H.snoc_StateD 3 rfl 2 rfl 1 rfl 0 rfl
 replace N:Fresh w.heap.size [([]++(G22++G24++G27))]:=(N.emp.pick [3,2,1,0]).join.join.swap.join
 replace H:St _ _ [rr (aa b20 0) 1 1 38 3 (yT t ra12Alive rc12Alive ra12Bags rc12Bags ra12Around rc12Around),rr none 0 0 0 1 [],rr none 0 0 0 1 [],rr none 0 0 0 1 [],.box b3 (yT t qV qR xn xh qM qL) 38,.box b1 (yS s qC qB qN qJ) 36] [xX true ([]++(G22++G24++G27)) (yT t ra12Alive rc12Alive ra12Bags rc12Bags ra12Around rc12Around) [t],sF true G27 ra12Around rc12Around t.qA,sF true G24 ra12Bags rc12Bags t.qE,sF true G22 ra12Alive rc12Alive t.qy,xX true [] [] ([]:List qH),xX true rF12Bags rx12Bags t.qE,sF false qX qC qB s.qw,sF false xF qN qJ s.qx,sF false xN qV qR t.qy,sF false zo xn xh t.qE,sF false xC qM qL t.qA]:=H
 refine zn (fun m' ρ w29=>∃ (xP:Env) (Q7:yOA) (jG:Nat) (Ql:Nat) (list:List qH) (X8:List Value) (Xl:yLN) (k:Nat),ρ=upd (upd (upd (upd xP 3 (pp b1 0)) 8 (.slice Q7 jG Ql)) 26 (yI steps)) 27 (yI k)∧((k:Int)≤steps)∧(zO s t steps=saRun s (steps.toNat - k) list)∧(∀ u∈list,zB s u)∧(list.length≤300)∧m' =(steps - (k:Int)).toNat∧Fresh w.heap.size [Xl]∧St w w29 [rr Q7 jG Ql 38 3 X8,.box b3 (yT t qV qR xn xh qM qL) 38,.box b1 (yS s qC qB qN qJ) 36] [xX true Xl X8 list,sF false qX qC qB s.qw,sF false xF qN qJ s.qx,sF false xN qV qR t.qy,sF false zo xn xh t.qE,sF false xC qM qL t.qA]) ((steps - (0:Int)).toNat) ⟨_,(aa b20 0),1,1,[t],(yT t ra12Alive rc12Alive ra12Bags rc12Bags ra12Around rc12Around),([]++(G22++G24++G27)),0,uE4,qf,(by exact sa_0 k0 qf),(by exact fun u hu=>by obtain rfl:=List.mem_singleton.1 hu;exact k2),qm,rfl,N,H.pick [0,4,5] [0,6,7,8,9,10]⟩ ?_
 clear H N
 rintro m' ρ w30 ⟨xP,Q7,jG,Ql,list,X8,Xl,k,rfl,i0,kr,ka,kl,rfl,N,H⟩
 have hn_list:=H.zk (α:=qH) 0 rfl 0 rfl qj
 refine zcr (sp (.bool (decide ((k:Int) < steps))) (zjn (xO (cD rfl (fun h31=>?_) (fun h31=>?_)))))
 ·skip
  refine qU (t_n (xO (qW (zcr (sw (vJ H underlying47 ti38 fun b32 w33 H=>sp (.slice (aa b32 0) 0 0) (zjcc (sp (.slice Q7 jG Ql) (oN rfl (sp (yI 0) (zjn (qW ?_))))))))))))
  replace H:=H.boxRow 0 rfl 3 0 rfl qj
  replace H:=H.vH (α:=qH)
  replace H:St _ _ [rr (aa b32 0) 0 0 38 3 [],rr Q7 jG Ql 38 3 X8,.box b3 (yT t qV qR xn xh qM qL) 38,.box b1 (yS s qC qB qN qJ) 36] [xX true [] [] ([]:List qH),xX true Xl X8 list,sF false qX qC qB s.qw,sF false xF qN qJ s.qx,sF false xN qV qR t.qy,sF false zo xn xh t.qE,sF false xC qM qL t.qA]:=H
  refine zn (fun m' ρ w34=>∃ (xP:Env) (Vl:yOA) (Vb:Nat) (Vg:Nat) (next:List qH) (x_next:List Value) (F_next:yLN) (k_1:Nat),ρ=upd (upd (upd (upd (upd (upd (upd xP 3 (pp b1 0)) 9 (.slice Vl Vb Vg)) 26 (yI steps)) 27 (yI k)) 30 (.slice Q7 jG Ql)) 31 (yI jG)) 32 (yI k_1)∧((k_1:Int)≤jG)∧(saGo s (list.drop k_1) next=saGo s list [])∧(∀ u∈next,zB s u)∧(next.length≤300)∧m' =(jG - (k_1:Int)).toNat∧Fresh w.heap.size [Xl,F_next]∧St w w34 [rr Vl Vb Vg 38 3 x_next,rr Q7 jG Ql 38 3 X8,.box b3 (yT t qV qR xn xh qM qL) 38,.box b1 (yS s qC qB qN qJ) 36] [xX true F_next x_next next,xX true Xl X8 list,sF false qX qC qB s.qw,sF false xF qN qJ s.qx,sF false xN qV qR t.qy,sF false zo xn xh t.qE,sF false xC qM qL t.qA]) ((jG - (0:Int)).toNat) ⟨_,(aa b32 0),0,0,([]:List qH),[],[],0,uE7,qf,(by rfl),qm,qm,rfl,(N.emp.pick [1,0]),H⟩ ?_
  clear H N
  rintro m' ρ w35 ⟨xP,Vl,Vb,Vg,next,x_next,F_next,k_1,rfl,i0,kg,kb,km,rfl,N,H⟩
  have hn_next:=H.zk (α:=qH) 0 rfl 0 rfl qj
  refine zcr (sp (.bool (decide ((k_1:Int) < jG))) (zjn (xO (cD rfl (fun h36=>?_) (fun h36=>?_)))))
  ·skip
   have ks:=ka (list[k_1]!) (mem_at (k:=k_1) qf rfl)
   have nl:=succ_len s (list[k_1]!)
   refine qU (t_n (xO (qW (zcr ?_))))
   obtain ⟨b37,rfl⟩:=H.Qw 1 rfl qf
   obtain ⟨ae38Alive,ce38Alive,Fe38Alive,ae38Bags,ce38Bags,Fe38Bags,ae38Around,ce38Around,Fe38Around,hx39,H⟩:=H.rowel_StateD 1 rfl 1 rfl (iv:=k_1) k_1 qf qf
   refine oI rfl rfl (sw (zh [.slice ae38Alive (((list[k_1]!).qy).length) ce38Alive,.slice ae38Bags (((list[k_1]!).qE).length) ce38Bags,.slice ae38Around (((list[k_1]!).qA).length) ce38Around] isAgg38 sizeOf38 rfl (qG (fun j v hj=>H.rowGet 1 rfl (hx39 j v hj)) 0 3) (sw (zl H ti38 [yN,yN,yN] fun b40 w41 H=>sw (zV H 0 [.slice ae38Alive (((list[k_1]!).qy).length) ce38Alive,.slice ae38Bags (((list[k_1]!).qE).length) ce38Bags,.slice ae38Around (((list[k_1]!).qA).length) ce38Around] sizeOf38 fun w42 H=>zjc ?_)))))
   refine sw (zh (yS s qC qB qN qJ) isAgg36 sizeOf36 rfl (qG (H.cells 4 rfl) 0 3) (sw (zh [.slice ae38Alive (((list[k_1]!).qy).length) ce38Alive,.slice ae38Bags (((list[k_1]!).qE).length) ce38Bags,.slice ae38Around (((list[k_1]!).qA).length) ce38Around] isAgg38 sizeOf38 rfl (qG (H.cells 0 rfl) 0 3) ?_)))
   have sz46:=H.base.size
   have lt47:=H.ltN (L:=[Xl,F_next]) [4,3]
   refine sw (oc (nextStates_ok _ s (list[k_1]!) (H.get 5 rfl).1 (H.get 6 rfl).1 (H.get 0 rfl).1 (H.get 1 rfl).1 (H.get 2 rfl).1 qg qg) ?_)
   rintro _ w44 ⟨ra43a,rn43a,rc43a,rx43a,rF43a,rfl,M,K⟩ _
   replace N:=N.merge sz46 lt47 M
   replace H:=H.merge K M
   obtain rfl:=H.zk (α:=qH) 0 rfl 0 rfl qj
   refine sps [.tuple #[.slice ra43a (((xH s (list[k_1]!)).1).length) rc43a,yI ((xH s (list[k_1]!)).2)],.slice ra43a (((xH s (list[k_1]!)).1).length) rc43a,yI ((xH s (list[k_1]!)).2),.slice ra43a (((xH s (list[k_1]!)).1).length) rc43a,yI ((xH s (list[k_1]!)).2)] (zjcc (sps [yI ((xH s (list[k_1]!)).2),.bool (((xH s (list[k_1]!)).2:Int) != 0)] (zjn (xG (((xH s (list[k_1]!)).2:Int) != 0) rfl (fun h49=>?_) (fun h49=>?_)))))
   ·skip
    replace h49:=bne_iff_ne.1 h49
    refine zcr (sps [yI ((xH s (list[k_1]!)).2),yN,yI ((xH s (list[k_1]!)).2)] (zjr (t_r (zr5 (zr5 ?_)))))
    replace H:=H.addNil (α:=qH)
    refine ret2 yN (yI ((xH s (list[k_1]!)).2)) rfl rfl rfl ⟨_,rfl,?_,H.base⟩
    rw [kr,sr_err qf (kg.symm.trans (sa_code qf ql)) ql]
    exact ⟨none,0,[],rfl,(N.emp.pick [0]),H.pick [] [0]⟩
   replace h49:=xq h49
   refine qU (t_n (zcc (sp (.slice ra43a (((xH s (list[k_1]!)).1).length) rc43a) (oN rfl (sp (yI 0) (zjn (qW ?_)))))))
   have H0:=H
   obtain ⟨G50,hg52,hn51,H⟩:=H.QI (α:=qH) 0 rfl 0 rfl qj
   replace N:Fresh w.heap.size [G50,Xl,F_next]:=Fresh.ice N H0 0 hg52.1 hg52.2 (H0.jX [5,4])
   clear H0
   obtain ⟨xs53,B54,P55,N,H⟩:=H.pool (α:=qH) 0 rfl N
   refine zn (fun m' ρ w56=>∃ (xP:Env) (yF:yOA) (jg:Nat) (yE:Nat) (next_1:List qH) (Qj:List Value) (jL:yLN) (k_51:Nat) (P_k_51:yLN),ρ=upd (upd (upd (upd (upd (upd (upd (upd (upd (upd xP 3 (pp b1 0)) 9 (.slice yF jg yE)) 26 (yI steps)) 27 (yI k)) 30 (.slice (aa b37 0) jG Ql)) 31 (yI jG)) 32 (yI k_1)) 45 (.slice ra43a (((xH s (list[k_1]!)).1).length) rc43a)) 46 (yI (((xH s (list[k_1]!)).1).length))) 47 (yI k_51)∧next_1=(je next (xH s (list[k_1]!)).1 k_51).1∧((k_51:Int)≤(((xH s (list[k_1]!)).1).length))∧m' =((((xH s (list[k_1]!)).1).length) - (k_51:Int)).toNat∧Fresh w.heap.size [Xl,jL,P_k_51]∧St w w56 [.box b40 [.slice ae38Alive (((list[k_1]!).qy).length) ce38Alive,.slice ae38Bags (((list[k_1]!).qE).length) ce38Bags,.slice ae38Around (((list[k_1]!).qA).length) ce38Around] 38,rr yF jg yE 38 3 Qj,rr (aa b37 0) jG Ql 38 3 X8,.box b3 (yT t qV qR xn xh qM qL) 38,.box b1 (yS s qC qB qN qJ) 36] [xX true P_k_51 (xs53.drop (k_51 * 3)) (((xH s (list[k_1]!)).1).drop k_51),cellsF B54 (.slice ra43a (((xH s (list[k_1]!)).1).length) rc43a) xs53,sF true G50 ra43a rc43a ((xH s (list[k_1]!)).1),sF true Fe38Alive ae38Alive ce38Alive ((list[k_1]!).qy),sF true Fe38Bags ae38Bags ce38Bags ((list[k_1]!).qE),sF true Fe38Around ae38Around ce38Around ((list[k_1]!).qA),xX true jL Qj next_1,xX true Xl X8 list,sF false qX qC qB s.qw,sF false xF qN qJ s.qx,sF false xN qV qR t.qy,sF false zo xn xh t.qE,sF false xC qM qL t.qA]) (((((xH s (list[k_1]!)).1).length) - (0:Int)).toNat) ⟨_,Vl,Vb,Vg,next,x_next,F_next,0,P55,uE10,(by rfl),qf,rfl,(N.pick [1,2,0]),H.pick [1,2,3,4,5] [0,1,2,4,5,6,7,8,9,10,11,12,13]⟩ ?_
   clear H N
   rintro m' ρ w57 ⟨xP,yF,jg,yE,next_1,Qj,jL,k_51,P_k_51,rfl,rfl,i0,rfl,N,H⟩
   have hn_next:=H.zk (α:=qH) 1 rfl 6 rfl qj
   obtain ⟨al1,al2,al3⟩:=addSt_len (S:=next) (nx:=(xH s (list[k_1]!)).1) k_51
   refine zcr (sp (.bool (decide ((k_51:Int) < (((xH s (list[k_1]!)).1).length)))) (zjn (xO (cD rfl (fun h58=>?_) (fun h58=>?_)))))
   ·skip
    obtain ⟨b59,o60,rfl⟩:=H.addr 2 rfl qf
    obtain ⟨ae62Alive,ce62Alive,Fe62Alive,ae62Bags,ce62Bags,Fe62Bags,ae62Around,ce62Around,Fe62Around,P63,N,H⟩:=H.drain_StateD 1 rfl 0 rfl ((N.pick [2,0,1]):Fresh w.heap.size [P_k_51,Xl,jL]) k_51 k_51 qf qf qf
    refine qU (t_n (xO (qW (zcr (oI rfl rfl (sw (zh [.slice ae62Alive (((((xH s (list[k_1]!)).1)[k_51]!).qy).length) ce62Alive,.slice ae62Bags (((((xH s (list[k_1]!)).1)[k_51]!).qE).length) ce62Bags,.slice ae62Around (((((xH s (list[k_1]!)).1)[k_51]!).qA).length) ce62Around] isAgg38 sizeOf38 rfl (qG (H.get 3 rfl) 0 3) (sw (zl H ti38 [yN,yN,yN] fun b64 w65 H=>?_)))))))))
    refine sw (zV H 0 [.slice ae62Alive (((((xH s (list[k_1]!)).1)[k_51]!).qy).length) ce62Alive,.slice ae62Bags (((((xH s (list[k_1]!)).1)[k_51]!).qE).length) ce62Bags,.slice ae62Around (((((xH s (list[k_1]!)).1)[k_51]!).qA).length) ce62Around] sizeOf38 fun w66 H=>zjc (sp (.slice yF jg yE) ?_))
    refine sw (zh [.slice ae62Alive (((((xH s (list[k_1]!)).1)[k_51]!).qy).length) ce62Alive,.slice ae62Bags (((((xH s (list[k_1]!)).1)[k_51]!).qE).length) ce62Bags,.slice ae62Around (((((xH s (list[k_1]!)).1)[k_51]!).qA).length) ce62Around] isAgg38 sizeOf38 rfl (qG (H.cells 0 rfl) 0 3) ?_)
    obtain ⟨G67,hn68,h69⟩:=H.rowIsR (α:=qH) 2 rfl 11 rfl qj
    refine sw (oq (args_eq (by rw [← hn68]) (find_ok _ ((je next (xH s (list[k_1]!)).1 k_51).1) (((xH s (list[k_1]!)).1)[k_51]!) (hn68▸h69) (H.get 0 rfl).1 (H.get 1 rfl).1 (H.get 2 rfl).1)) H fun w71 H=>sp (.bool (decide ((firstIdx (fun zz=>decide (((je next (xH s (list[k_1]!)).1 k_51).1)[zz]! =(((xH s (list[k_1]!)).1)[k_51]!))) ((je next (xH s (list[k_1]!)).1 k_51).1).length:Int) < 0))) (zjn (cD rfl (fun h73=>?_) (fun h73=>?_))))
    ·skip
     refine xW (sp (.slice yF jg yE) (sw (zh [.slice ae62Alive (((((xH s (list[k_1]!)).1)[k_51]!).qy).length) ce62Alive,.slice ae62Bags (((((xH s (list[k_1]!)).1)[k_51]!).qE).length) ce62Bags,.slice ae62Around (((((xH s (list[k_1]!)).1)[k_51]!).qA).length) ce62Around] isAgg38 sizeOf38 rfl (qG (H.cells 0 rfl) 0 3) ?_)))
     refine sw (zX H underlying47 ti38 [.slice ae62Alive (((((xH s (list[k_1]!)).1)[k_51]!).qy).length) ce62Alive,.slice ae62Bags (((((xH s (list[k_1]!)).1)[k_51]!).qE).length) ce62Bags,.slice ae62Around (((((xH s (list[k_1]!)).1)[k_51]!).qA).length) ce62Around] fun b74 w75 H=>sw (vC H 3 rfl 0 rfl underlying47 ti38 rfl qj rfl rfl rfl (by simp [Value.oneCell',Value.cells]) qp qf fun a76 c77 w78 H=>?_))
     replace H:=H.snoc_StateD 11 rfl 0 rfl 1 rfl 2 rfl
     replace N:Fresh w.heap.size [(jL++(Fe62Alive++Fe62Bags++Fe62Around)),P63,Xl]:=(N.pick [0,1,2,5,3,4]).join.join.swap.join
     refine sp (.slice a76 (jg+1) c77) (xU (b_n (t_n (xW (sw (zu k_51 1 rfl rfl qf (sp (yI (k_51+1)) (xU ?_))))))))
     refine qZ (m' :=((((xH s (list[k_1]!)).1).length) - ((k_51+1):Int)).toNat) qf ⟨_,a76,jg+1,c77,(((je next (xH s (list[k_1]!)).1 k_51).1)++[⟨(((xH s (list[k_1]!)).1)[k_51]!).qy,(((xH s (list[k_1]!)).1)[k_51]!).qE,(((xH s (list[k_1]!)).1)[k_51]!).qA⟩]),Qj++[.slice ae62Alive (((((xH s (list[k_1]!)).1)[k_51]!).qy).length) ce62Alive,.slice ae62Bags (((((xH s (list[k_1]!)).1)[k_51]!).qE).length) ce62Bags,.slice ae62Around (((((xH s (list[k_1]!)).1)[k_51]!).qA).length) ce62Around],(jL++(Fe62Alive++Fe62Bags++Fe62Around)),k_51+1,P63,uE10,?_,?_,rfl,(N.pick [2,0,1]),H.pick [2,3,4,5,6] [5,7,8,9,10,11,0,13,14,15,16,17,18]⟩
     · first | exact (addSt_new (k:=k_51) ‹_›).1 | exact (addSt_old (k:=k_51) ‹_›).1
     · omega
    refine qU (b_n (t_n (xW (sw (zu k_51 1 rfl rfl qf (sp (yI (k_51+1)) (xU (qZ (m' :=((((xH s (list[k_1]!)).1).length) - ((k_51+1):Int)).toNat) qf ⟨_,yF,jg,yE,((je next (xH s (list[k_1]!)).1 k_51).1),Qj,jL,k_51+1,P63,uE10,?_,?_,rfl,(N.pick [4,5,3]),H.pick [1,2,3,4,5] [4,6,7,8,9,10,11,12,13,14,15,16,17]⟩))))))))
    · first | exact (addSt_new (k:=k_51) ‹_›).1 | exact (addSt_old (k:=k_51) ‹_›).1
    · omega
   refine zx4 (zcr (sp (.slice yF jg yE) (oN rfl (sp (.bool (decide ((jg:Int) > 300))) (zjn (cD rfl (fun h79=>?_) (fun h79=>?_)))))))
   ·skip
    refine zcr (sps [yN,yI 3] (zjr (zr5 (zr5 ?_))))
    replace H:=H.addNil (α:=qH)
    refine ret2 yN (yI 3) rfl rfl rfl ⟨_,rfl,?_,H.base⟩
    rw [kr,sr_err qf (kg.symm.trans (sa_many qf qf (k:=k_51) qf qf)) qj]
    exact ⟨none,0,[],rfl,(N.emp.pick [0]),H.pick [] [0]⟩
   refine qU (b_n (t_n (xW (sw (zu k_1 1 rfl rfl qf (sp (yI (k_1+1)) (xU (qZ (m' :=(jG - ((k_1+1):Int)).toNat) qf ⟨_,yF,jg,yE,((je next (xH s (list[k_1]!)).1 k_51).1),Qj,jL,k_1+1,uE7,?_,?_,?_,?_,rfl,(N.pick [0,1]),H.pick [1,2,3,4] [6,7,8,9,10,11,12]⟩))))))))
   · omega
   · exact (sa_go qf qf qf qf).symm.trans kg
   · exact addSt_mem kb succ_ok _ qf
   · omega
  refine zx4 (xW (sps [.slice Vl Vb Vg,.slice Vl Vb Vg] (xU (b_n (t_n (xW (sw (zu k 1 rfl rfl qf (sp (yI (k+1)) (xU (qZ (m' :=(steps - ((k+1):Int)).toNat) qf ⟨_,Vl,Vb,Vg,next,x_next,F_next,k+1,uE4,?_,?_,?_,?_,rfl,(N.pick [1]),H.pick [0,2,3] [0,2,3,4,5,6]⟩)))))))))))
  · omega
  · exact kr.trans (sr_go qf (kg.symm.trans (sa_end qf)))
  · assumption
  · omega
 refine zx4 (zcr (sps [.slice Q7 jG Ql,.slice Q7 jG Ql,yI 0] (zjr ?_)))
 have H0:=H
 obtain ⟨G80,hg82,hn81,H⟩:=H.QI (α:=qH) 0 rfl 0 rfl qj
 replace N:Fresh w.heap.size [G80]:=Fresh.ice N H0 0 hg82.1 hg82.2 (H0.jX [])
 clear H0
 obtain rfl:=H.isLen 0 rfl
 refine ret2 (.slice Q7 list.length Ql) (yI 0) rfl rfl rfl ⟨_,rfl,?_,H.base⟩
 rw [kr,sr_end qf]
 exact ⟨Q7,Ql,G80,rfl,N,H.pick [] [0]⟩

theorem law_StatesAfter (w:World) (aS:qI) (aT:qH) (aSteps:Int) (yV:yOA) (yU:Nat) (YA:yLN) (Xj:yOA) (Xf:Nat) (FaSRules:yLN) (Xi:yOA) (Xe:Nat) (FaTAlive:yLN) (Vj:yOA) (Vf:Nat) (FaTBags:yLN) (QC:yOA) (QA:Nat) (FaTAround:yLN) (haSParents:qO.rep w YA [.slice yV aS.qw.length yU] aS.qw) (haSRules:qO.rep w FaSRules [.slice Xj aS.qx.length Xf] aS.qx) (haTAlive:qO.rep w FaTAlive [.slice Xi aT.qy.length Xe] aT.qy) (haTBags:qO.rep w FaTBags [.slice Vj aT.qE.length Vf] aT.qE) (haTAround:qO.rep w FaTAround [.slice QC aT.qA.length QA] aT.qA):Calls Tryz.prog 5 #[.agg #[yI aS.xA,.slice yV aS.qw.length yU,.slice Xj aS.qx.length Xf],.agg #[.slice Xi aT.qy.length Xe,.slice Vj aT.qE.length Vf,.slice QC aT.qA.length QA],yI aSteps] w (Ret (fun v w' =>v=.bool true) w):=by
 refine en func5 ntmps5 ?_
 have H:=(((((St.start w).arg haTAround).arg haTBags).arg haTAlive).arg haSRules).arg haSParents
 have nhaSParents:=qK haSParents
 have nhaSRules:=qK haSRules
 have nhaTAlive:=qK haTAlive
 have nhaTBags:=qK haTBags
 have nhaTAround:=qK haTAround
 clear haSParents haSRules haTAlive haTBags haTAround
 have N:=Fresh.nil w.heap.size
 have A:=H.ltN (L:=[YA,FaSRules,FaTAlive,FaTBags,FaTAround]) [0,1,2,3,4]
 have t1:=tot_SystemD aS
 have t2:=tot_StateD aT
 have c0:=Vr aS.qw
 have c1:=Vr aS.qx
 have c2:=Vr aT.qy
 have c3:=Vr aT.qE
 have c4:=Vr aT.qA
 have f1:=few_sa aS aT aSteps
 refine zcr (sw (vN H (yS aS yV yU Xj Xf) fun b1 w2 H=>sw (vN H (yT aT Xi Xe Vj Vf QC QA) fun b3 w4 H=>sp (.bool false) (zjc (sp (yI 1048576) (zjc (sw (zh (yS aS yV yU Xj Xf) isAgg25 sizeOf25 rfl (qG (H.cells 1 rfl) 0 3) (sp (yI 1048576) ?_)))))))))
 refine sw (oq (szSystem_ok _ aS 1048576 (H.get 0 rfl).1 (H.get 1 rfl).1 qf) H fun w5 H=>?_)
 have:=zG (tot aS) 1048576
 refine sp (yI (szR (tot aS) 1048576)) (zjcc (sps [yI (szR (tot aS) 1048576),.bool (decide ((szR (tot aS) 1048576:Int) < 0))] (zjn (cD rfl (fun h7=>?_) (fun h7=>?_)))))
 ·skip
  refine zcr (sp (.bool true) (zjr (t_r (ret1 (.bool true) rfl rfl ⟨_,rfl,?_,H.base⟩))))
  rfl
 refine qU (t_n (zcr (sw (zh (yT aT Xi Xe Vj Vf QC QA) isAgg29 sizeOf29 rfl (qG (H.cells 0 rfl) 0 3) (sp (yI (szR (tot aS) 1048576)) (sw (oq (szState_ok _ aT (szR (tot aS) 1048576) (H.get 2 rfl).1 (H.get 3 rfl).1 (H.get 4 rfl).1 qf) H fun w8 H=>?_)))))))
 have:=zG (tot aT) (szR (tot aS) 1048576)
 refine sp (yI (szR (tot aT) (szR (tot aS) 1048576))) (zjcc (sps [yI (szR (tot aT) (szR (tot aS) 1048576)),.bool (decide ((szR (tot aT) (szR (tot aS) 1048576):Int) < 0))] (zjn (cD rfl (fun h10=>?_) (fun h10=>?_)))))
 ·skip
  refine zcr (sp (.bool true) (zjr (t_r (ret1 (.bool true) rfl rfl ⟨_,rfl,?_,H.base⟩))))
  rfl
 refine qU (t_n (xO ?_))
 refine jb rfl H fun H=>rt 0 (.agg #[yI aS.xA,.slice yV aS.qw.length yU,.slice Xj aS.qx.length Xf]) (QO (cs:=(yS aS yV yU Xj Xf)) isAgg25 sizeOf25 rfl (fun _ h=>qG (h.cells 1 rfl) 0 3)) H ?_
 refine rt 2 (.agg #[.slice Xi aT.qy.length Xe,.slice Vj aT.qE.length Vf,.slice QC aT.qA.length QA]) (QO (cs:=(yT aT Xi Xe Vj Vf QC QA)) isAgg29 sizeOf29 rfl (fun _ h=>qG (h.cells 0 rfl) 0 3)) H ?_
 refine rtp 4 (yI aSteps) H ?_
 refine ro 1 rfl ?_
 have sz12:=H.base.size
 refine oc (toSystem_ok _ aS (H.get 0 rfl).1 (H.get 1 rfl).1 qg) ?_
 rintro v17 w15 r17 x16
 obtain ⟨a17Parents,c17Parents,jU,a17Rules,c17Rules,QU,rfl,f17,H⟩:=H.add_SystemD x16 r17
 replace N:=N.cons f17 sz12 (by intro F hF;simp at hF)
 replace N:=N.split
 refine ⟨H.pick [0,1] [2,3,4,5,6],(ro 3 rfl ?_)⟩
 have sz18:=H.base.size
 have lt19:=H.ltN (L:=[jU,QU]) [0,1]
 refine oc (toState_ok _ aT (H.get 4 rfl).1 (H.get 5 rfl).1 (H.get 6 rfl).1 qg) ?_
 rintro v23 w21 r23 x22
 obtain ⟨a23Alive,c23Alive,Q5,a23Bags,c23Bags,XV,a23Around,c23Around,Qn,rfl,f23,H⟩:=H.add_StateD x22 r23
 replace N:=N.cons f23 sz18 lt19
 replace N:=N.split
 replace N:=N.split
 refine ⟨H.pick [0,1] [5,6,7,8,9],(ro 5 rfl ?_)⟩
 have sz27:=H.base.size
 have lt28:=H.ltN (L:=[Q5,XV,Qn,jU,QU]) [0,1,2,3,4]
 refine oc (specSA_ok _ aS aT aSteps (H.get 3 rfl).1 (H.get 4 rfl).1 (H.get 0 rfl).1 (H.get 1 rfl).1 (H.get 2 rfl).1) ?_
 rintro _ w25 ⟨ra24a,rc24a,rF24a,rfl,M,K⟩ _
 replace N:=N.merge sz27 lt28 M
 replace H:=H.merge K M
 refine ⟨H.pick [0,1] [6,7,8,9,10],?_⟩
 have S:=H.yO [0,1] [6,7,8,9,10]
 refine rtp 6 (.tuple #[.slice ra24a (((zO aS aT aSteps).1).length) rc24a,yI ((zO aS aT aSteps).2)]) S ?_
 refine rtp 7 (.slice ra24a (((zO aS aT aSteps).1).length) rc24a) S ?_
 refine rtp 8 (yI ((zO aS aT aSteps).2)) S ?_
 refine rtp 9 (.slice ra24a (((zO aS aT aSteps).1).length) rc24a) S ?_
 refine rtp 10 (yI ((zO aS aT aSteps).2)) S ?_
 refine xK qh (t_n (zcr (sw (zh (yS aS yV yU Xj Xf) isAgg25 sizeOf25 rfl (qG (H.cells 1 rfl) 0 3) ?_))))
 have sz29:=H.base.size
 have lt30:=H.ltN (L:=[rF24a,Q5,XV,Qn,jU,QU]) [0,1,2,3,4,5]
 refine sw (oc (toSystem_ok _ aS (H.get 6 rfl).1 (H.get 7 rfl).1 qg) ?_)
 rintro v34 w32 r34 x33
 obtain ⟨QF,QE,jT,X6,XZ,QT,rfl,f34,H⟩:=H.add_SystemD x33 r34
 replace N:=N.cons f34 sz29 lt30
 replace N:=N.split
 refine sw (zl H ti36 [yI 0,yN,yN] fun b35 w36 H=>sw (zV H 0 (yS aS QF QE X6 XZ) sizeOf36 fun w37 H=>zjc (sw (zh (yT aT Xi Xe Vj Vf QC QA) isAgg29 sizeOf29 rfl (qG (H.cells 1 rfl) 0 3) ?_))))
 have sz38:=H.base.size
 have lt39:=H.ltN (L:=[jT,QT,rF24a,Q5,XV,Qn,jU,QU]) [0,1,2,3,4,5,6,7]
 refine sw (oc (toState_ok _ aT (H.get 10 rfl).1 (H.get 11 rfl).1 (H.get 12 rfl).1 qg) ?_)
 rintro v43 w41 r43 x42
 obtain ⟨X5,XY,Q4,a43Bags,c43Bags,XU,Xk,Xh,Qm,rfl,f43,H⟩:=H.add_StateD x42 r43
 replace N:=N.cons f43 sz38 lt39
 replace N:=N.split
 replace N:=N.split
 refine sw (zl H ti38 [yN,yN,yN] fun b44 w45 H=>sw (zV H 0 (yT aT X5 XY a43Bags c43Bags Xk Xh) sizeOf38 fun w46 H=>zjc (sw (zh (yS aS QF QE X6 XZ) isAgg36 sizeOf36 rfl (qG (H.cells 1 rfl) 0 3) ?_))))
 refine sw (zh (yT aT X5 XY a43Bags c43Bags Xk Xh) isAgg38 sizeOf38 rfl (qG (H.cells 0 rfl) 0 3) (sp (yI aSteps) ?_))
 have sz50:=H.base.size
 have lt51:=H.ltN (L:=[Q4,XU,Qm,jT,QT,rF24a,Q5,XV,Qn,jU,QU]) [0,1,2,3,4,5,6,7,8,9,10]
 refine sw (oc (implSA_ok _ aS aT aSteps (H.get 3 rfl).1 (H.get 4 rfl).1 (H.get 0 rfl).1 (H.get 1 rfl).1 (H.get 2 rfl).1) ?_)
 rintro _ w48 ⟨ra47a,rc47a,rF47a,rfl,M,K⟩ _
 replace N:=N.merge sz50 lt51 M
 replace H:=H.merge K M
 refine sps [.tuple #[.slice ra47a (((zO aS aT aSteps).1).length) rc47a,yI ((zO aS aT aSteps).2)],.slice ra47a (((zO aS aT aSteps).1).length) rc47a,yI ((zO aS aT aSteps).2),.slice ra47a (((zO aS aT aSteps).1).length) rc47a,yI ((zO aS aT aSteps).2)] (zjcc (sps [.slice ra47a (((zO aS aT aSteps).1).length) rc47a,.slice ra24a (((zO aS aT aSteps).1).length) rc24a] (sw (oq (eqStateS_ok _ ((zO aS aT aSteps).1) ((zO aS aT aSteps).1) (H.get 0 rfl).1 (H.get 6 rfl).1) H fun w52 H=>?_))))
 refine sps [.bool (!(decide (((zO aS aT aSteps).1)=((zO aS aT aSteps).1)))),.bool (!(decide (((zO aS aT aSteps).1)=((zO aS aT aSteps).1))))] ?_
 cases h54:(!(decide (((zO aS aT aSteps).1)=((zO aS aT aSteps).1))))
 ·skip
  replace h54:=xe h54
  refine qP 53 rfl rfl (sp (yI ((zO aS aT aSteps).2)) (qP 53 rfl rfl (sp (yI ((zO aS aT aSteps).2)) (qP 53 rfl rfl (sps [.bool (((zO aS aT aSteps).2:Int) != ((zO aS aT aSteps).2)),.bool (((zO aS aT aSteps).2:Int) != ((zO aS aT aSteps).2))] (zjn (xG (((zO aS aT aSteps).2:Int) != ((zO aS aT aSteps).2)) rfl (fun h=>absurd rfl (bne_iff_ne.1 h)) (fun h55=>?_))))))))
  replace h55:=xq h55
  refine qU (t_n (xO (xO ?_)))
  refine jb rfl H fun H=>rt 0 (.agg #[yI aS.xA,.slice QF aS.qw.length QE,.slice X6 aS.qx.length XZ]) (QO (cs:=(yS aS QF QE X6 XZ)) isAgg36 sizeOf36 rfl (fun _ h=>qG (h.cells 1 rfl) 0 3)) H ?_
  refine rt 1 (.agg #[yI aS.xA,.slice yV aS.qw.length yU,.slice Xj aS.qx.length Xf]) (QO (cs:=(yS aS yV yU Xj Xf)) isAgg25 sizeOf25 rfl (fun _ h=>qG (h.cells 3 rfl) 0 3)) H ?_
  refine ro 2 rfl ?_
  have sz57:=H.base.size
  have lt58:=H.ltN (L:=[rF47a,Q4,XU,Qm,jT,QT,rF24a,Q5,XV,Qn,jU,QU]) [0,1,2,3,4,5,6,7,8,9,10,11]
  refine oc (toSystem_ok _ aS (H.get 12 rfl).1 (H.get 13 rfl).1 qg) ?_
  rintro v62 w60 r62 x61
  obtain ⟨a62Parents,c62Parents,QV,a62Rules,c62Rules,VB,rfl,f62,H⟩:=H.add_SystemD x61 r62
  replace N:=N.cons f62 sz57 lt58
  replace N:=N.split
  refine ⟨H.pick [0,1,2,3] [2,3,4,5,6,7,8,9,10,11,12,13,14,15,16,17,18],(ro 3 rfl (oq (eqSystem_ok _ aS aS (H.get 6 rfl).1 (H.get 7 rfl).1 (H.get 0 rfl).1 (H.get 1 rfl).1) H fun w63 H=>⟨H.pick [0,1,2,3] [2,3,4,5,6,7,8,9,10,11,12,13,14,15,16,17,18],(rtp 4 (.bool (!(decide (aS=aS)))) (H.pick [0,1,2,3] [2,3,4,5,6,7,8,9,10,11,12,13,14,15,16,17,18]) ?_)⟩))⟩
  refine xK qh (t_n (xG (!(decide (aS=aS))) rfl (fun h=>absurd (xk h) qm) (fun h65=>?_)))
  replace h65:=xe h65
  refine qU (t_n (xO (xO ?_)))
  refine jb rfl H fun H=>rt 0 (.agg #[.slice X5 aT.qy.length XY,.slice a43Bags aT.qE.length c43Bags,.slice Xk aT.qA.length Xh]) (QO (cs:=(yT aT X5 XY a43Bags c43Bags Xk Xh)) isAgg38 sizeOf38 rfl (fun _ h=>qG (h.cells 0 rfl) 0 3)) H ?_
  refine rt 1 (.agg #[.slice Xi aT.qy.length Xe,.slice Vj aT.qE.length Vf,.slice QC aT.qA.length QA]) (QO (cs:=(yT aT Xi Xe Vj Vf QC QA)) isAgg29 sizeOf29 rfl (fun _ h=>qG (h.cells 2 rfl) 0 3)) H ?_
  refine ro 2 rfl ?_
  have sz67:=H.base.size
  have lt68:=H.ltN (L:=[QV,VB,rF47a,Q4,XU,Qm,jT,QT,rF24a,Q5,XV,Qn,jU,QU]) [0,1,2,3,4,5,6,7,8,9,10,11,12,13]
  refine oc (toState_ok _ aT (H.get 16 rfl).1 (H.get 17 rfl).1 (H.get 18 rfl).1 qg) ?_
  rintro v72 w70 r72 x71
  obtain ⟨a72Alive,c72Alive,Yk,a72Bags,c72Bags,F72Bags,a72Around,c72Around,XN,rfl,f72,H⟩:=H.add_StateD x71 r72
  replace N:=N.cons f72 sz67 lt68
  replace N:=N.split
  replace N:=N.split
  refine ⟨H.pick [0,1,2,3] [3,4,5,6,7,8,9,10,11,12,13,14,15,16,17,18,19,20,21],(ro 3 rfl (oq (eqState_ok _ aT aT (H.get 6 rfl).1 (H.get 7 rfl).1 (H.get 8 rfl).1 (H.get 0 rfl).1 (H.get 1 rfl).1 (H.get 2 rfl).1) H fun w73 H=>⟨H.pick [0,1,2,3] [3,4,5,6,7,8,9,10,11,12,13,14,15,16,17,18,19,20,21],(rtp 4 (.bool (!(decide (aT=aT)))) (H.pick [0,1,2,3] [3,4,5,6,7,8,9,10,11,12,13,14,15,16,17,18,19,20,21]) ?_)⟩))⟩
  refine xK qh (t_n (xG (!(decide (aT=aT))) rfl (fun h=>absurd (xk h) qm) (fun h75=>?_)))
  replace h75:=xe h75
  refine qU (t_n (zcr (sp (yI 1) (zjc (sw (zh (yS aS QF QE X6 XZ) isAgg36 sizeOf36 rfl (qG (H.cells 1 rfl) 0 3) (sp (yI 1) ?_)))))))
  have N76:Fresh w.heap.size [jT,QT,Yk,F72Bags,XN,QV,VB,rF47a,Q4,XU,Qm,rF24a,Q5,XV,Qn,jU,QU]:=(N.pick [9,10,0,1,2,3,4,5,6,7,8,11,12,13,14,15,16])
  refine sw (XB #[.agg #[yI aS.xA,.slice QF aS.qw.length QE,.slice X6 aS.qx.length XZ],yI 1] rfl rfl call23 (markSystem_ok w73 aS 1 QF QE jT X6 XZ QT (H.get 9 rfl).1 (H.get 10 rfl).1 (N76.pick [0,1]:Fresh _ [jT,QT]).join.one.2 (((H.get 9 rfl).2 rfl).app ((H.get 10 rfl).2 rfl)) qf qf) ?_)
  rintro _ w77 ⟨rfl,m79⟩ x78
  replace H:St _ _ [.box b44 (yT aT X5 XY a43Bags c43Bags Xk Xh) 38,.box b35 (yS aS QF QE X6 XZ) 36,.box b3 (yT aT Xi Xe Vj Vf QC QA) 29,.box b1 (yS aS yV yU Xj Xf) 25] [isF true jT (.slice QF aS.qw.length QE) (mrk aS.qw (1)),isF true QT (.slice X6 aS.qx.length XZ) (mrk aS.qx (1+(cnt aS.qw:Nat))),sF true Yk a72Alive c72Alive aT.qy,sF true F72Bags a72Bags c72Bags aT.qE,sF true XN a72Around c72Around aT.qA,sF true QV a62Parents c62Parents aS.qw,sF true VB a62Rules c62Rules aS.qx,sF true rF47a ra47a rc47a ((zO aS aT aSteps).1),sF true Q4 X5 XY aT.qy,sF true XU a43Bags c43Bags aT.qE,sF true Qm Xk Xh aT.qA,sF true rF24a ra24a rc24a ((zO aS aT aSteps).1),sF true Q5 a23Alive c23Alive aT.qy,sF true XV a23Bags c23Bags aT.qE,sF true Qn a23Around c23Around aT.qA,sF true jU a17Parents c17Parents aS.qw,sF true QU a17Rules c17Rules aS.qx,sF false YA yV yU aS.qw,sF false FaSRules Xj Xf aS.qx,sF false FaTAlive Xi Xe aT.qy,sF false FaTBags Vj Vf aT.qE,sF false FaTAround QC QA aT.qA]:=H.chgFacts (Fs:=[jT,QT]) (L:=[Yk,F72Bags,XN,QV,VB,rF47a,Q4,XU,Qm,rF24a,Q5,XV,Qn,jU,QU]) (A:=[YA,FaSRules,FaTAlive,FaTBags,FaTAround]) N76 A (x78.mono (by intro z hz;simpa using hz)) [9,10] [isF true jT (.slice QF aS.qw.length QE) (mrk aS.qw (1)),isF true QT (.slice X6 aS.qx.length XZ) (mrk aS.qx (1+(cnt aS.qw:Nat)))] (all_of ⟨m79.1,⟨m79.2,trivial⟩⟩) [0,1,2,3,4,5,6,7,8,11,12,13,14,15,16,17,18,19,20,21] [0,1,2,3,4,5,6,7,8,9,10,11,12,13,14,15,16,17,18,19]
  replace N:=N76
  refine sp (yI (1+(cnt aS.qw:Nat)+(cnt aS.qx:Nat))) (zjc (sw (zh (yT aT X5 XY a43Bags c43Bags Xk Xh) isAgg38 sizeOf38 rfl (qG (H.cells 0 rfl) 0 3) (sp (yI (1+(cnt aS.qw:Nat)+(cnt aS.qx:Nat))) ?_))))
  have N80:Fresh w.heap.size [Q4,XU,Qm,jT,QT,Yk,F72Bags,XN,QV,VB,rF47a,rF24a,Q5,XV,Qn,jU,QU]:=(N.pick [8,9,10,0,1,2,3,4,5,6,7,11,12,13,14,15,16])
  refine sw (XB #[.agg #[.slice X5 aT.qy.length XY,.slice a43Bags aT.qE.length c43Bags,.slice Xk aT.qA.length Xh],yI (1+(cnt aS.qw:Nat)+(cnt aS.qx:Nat))] rfl rfl call24 (markState_ok w77 aT (1+(cnt aS.qw:Nat)+(cnt aS.qx:Nat)) X5 XY Q4 a43Bags c43Bags XU Xk Xh Qm (H.get 8 rfl).1 (H.get 9 rfl).1 (H.get 10 rfl).1 (N80.pick [0,1,2]:Fresh _ [Q4,XU,Qm]).join.join.one.2 ((((H.get 8 rfl).2 rfl).app ((H.get 9 rfl).2 rfl)).app ((H.get 10 rfl).2 rfl)) qf qf) ?_)
  rintro _ w81 ⟨rfl,m83⟩ x82
  replace H:St _ _ [.box b44 (yT aT X5 XY a43Bags c43Bags Xk Xh) 38,.box b35 (yS aS QF QE X6 XZ) 36,.box b3 (yT aT Xi Xe Vj Vf QC QA) 29,.box b1 (yS aS yV yU Xj Xf) 25] [isF true Q4 (.slice X5 aT.qy.length XY) (mrk aT.qy (1+(cnt aS.qw:Nat)+(cnt aS.qx:Nat))),isF true XU (.slice a43Bags aT.qE.length c43Bags) (mrk aT.qE (1+(cnt aS.qw:Nat)+(cnt aS.qx:Nat)+(cnt aT.qy:Nat))),isF true Qm (.slice Xk aT.qA.length Xh) (mrk aT.qA (1+(cnt aS.qw:Nat)+(cnt aS.qx:Nat)+(cnt aT.qy:Nat)+(cnt aT.qE:Nat))),isF true jT (.slice QF aS.qw.length QE) (mrk aS.qw (1)),isF true QT (.slice X6 aS.qx.length XZ) (mrk aS.qx (1+(cnt aS.qw:Nat))),sF true Yk a72Alive c72Alive aT.qy,sF true F72Bags a72Bags c72Bags aT.qE,sF true XN a72Around c72Around aT.qA,sF true QV a62Parents c62Parents aS.qw,sF true VB a62Rules c62Rules aS.qx,sF true rF47a ra47a rc47a ((zO aS aT aSteps).1),sF true rF24a ra24a rc24a ((zO aS aT aSteps).1),sF true Q5 a23Alive c23Alive aT.qy,sF true XV a23Bags c23Bags aT.qE,sF true Qn a23Around c23Around aT.qA,sF true jU a17Parents c17Parents aS.qw,sF true QU a17Rules c17Rules aS.qx,sF false YA yV yU aS.qw,sF false FaSRules Xj Xf aS.qx,sF false FaTAlive Xi Xe aT.qy,sF false FaTBags Vj Vf aT.qE,sF false FaTAround QC QA aT.qA]:=H.chgFacts (Fs:=[Q4,XU,Qm]) (L:=[jT,QT,Yk,F72Bags,XN,QV,VB,rF47a,rF24a,Q5,XV,Qn,jU,QU]) (A:=[YA,FaSRules,FaTAlive,FaTBags,FaTAround]) N80 A (x82.mono (by intro z hz;simpa using hz)) [8,9,10] [isF true Q4 (.slice X5 aT.qy.length XY) (mrk aT.qy (1+(cnt aS.qw:Nat)+(cnt aS.qx:Nat))),isF true XU (.slice a43Bags aT.qE.length c43Bags) (mrk aT.qE (1+(cnt aS.qw:Nat)+(cnt aS.qx:Nat)+(cnt aT.qy:Nat))),isF true Qm (.slice Xk aT.qA.length Xh) (mrk aT.qA (1+(cnt aS.qw:Nat)+(cnt aS.qx:Nat)+(cnt aT.qy:Nat)+(cnt aT.qE:Nat)))] (all_of ⟨m83.1,⟨m83.2.1,⟨m83.2.2,trivial⟩⟩⟩) [0,1,2,3,4,5,6,7,11,12,13,14,15,16,17,18,19,20,21] [0,1,2,3,4,5,6,7,8,9,10,11,12,13,14,15,16,17,18]
  replace N:=N80
  refine sp (yI (1+(cnt aS.qw:Nat)+(cnt aS.qx:Nat)+(cnt aT.qy:Nat)+(cnt aT.qE:Nat)+(cnt aT.qA:Nat))) (zjcc (sps [yI (1+(cnt aS.qw:Nat)+(cnt aS.qx:Nat)+(cnt aT.qy:Nat)+(cnt aT.qE:Nat)+(cnt aT.qA:Nat)),.bool (decide ((1+(cnt aS.qw:Nat)+(cnt aS.qx:Nat)+(cnt aT.qy:Nat)+(cnt aT.qE:Nat)+(cnt aT.qA:Nat):Int) < 0)),.bool (decide ((1+(cnt aS.qw:Nat)+(cnt aS.qx:Nat)+(cnt aT.qy:Nat)+(cnt aT.qE:Nat)+(cnt aT.qA:Nat):Int) < 0))] ?_))
  cases h84:(decide ((1+(cnt aS.qw:Nat)+(cnt aS.qx:Nat)+(cnt aT.qy:Nat)+(cnt aT.qE:Nat)+(cnt aT.qA:Nat):Int) < 0))
  ·skip
   replace h84:=of_decide_eq_false h84
   refine qP 76 rfl rfl (sp (.slice ra47a (((zO aS aT aSteps).1).length) rc47a) (qP 76 rfl rfl (sp (.slice ra24a (((zO aS aT aSteps).1).length) rc24a) (qP 76 rfl rfl (sw (oq (eqStateS_ok _ ((zO aS aT aSteps).1) ((zO aS aT aSteps).1) (H.get 10 rfl).1 (H.get 11 rfl).1) H fun w85 H=>qP 76 rfl rfl (sps [.bool (!(decide (((zO aS aT aSteps).1)=((zO aS aT aSteps).1)))),.bool (!(decide (((zO aS aT aSteps).1)=((zO aS aT aSteps).1)))),.bool (!(decide (((zO aS aT aSteps).1)=((zO aS aT aSteps).1))))] ?_)))))))
   cases h87:(!(decide (((zO aS aT aSteps).1)=((zO aS aT aSteps).1))))
   ·skip
    replace h87:=xe h87
    refine qP 82 rfl rfl (sp (yI ((zO aS aT aSteps).2)) (qP 82 rfl rfl (sp (yI ((zO aS aT aSteps).2)) (qP 82 rfl rfl (sps [.bool (((zO aS aT aSteps).2:Int) != ((zO aS aT aSteps).2)),.bool (((zO aS aT aSteps).2:Int) != ((zO aS aT aSteps).2))] (zjn (xG (((zO aS aT aSteps).2:Int) != ((zO aS aT aSteps).2)) rfl (fun h=>absurd rfl (bne_iff_ne.1 h)) (fun h88=>?_))))))))
    replace h88:=xq h88
    refine qU (t_n (zcr (sp (yI 1) (zjc (sps [.slice ra47a (((zO aS aT aSteps).1).length) rc47a,yI 1] ?_)))))
    have N89:Fresh w.heap.size [rF47a,Q4,XU,Qm,jT,QT,Yk,F72Bags,XN,QV,VB,rF24a,Q5,XV,Qn,jU,QU]:=(N.pick [10,0,1,2,3,4,5,6,7,8,9,11,12,13,14,15,16])
    refine sw (XB #[.slice ra47a (((zO aS aT aSteps).1).length) rc47a,yI 1] rfl rfl call30 (markStateS_ok w85 ((zO aS aT aSteps).1) 1 ra47a rc47a rF47a (H.get 10 rfl).1 (N89.pick [0]:Fresh _ [rF47a]).one.2 ((H.get 10 rfl).2 rfl) qf qf) ?_)
    rintro _ w90 ⟨rfl,m92⟩ x91
    replace H:St _ _ [.box b44 (yT aT X5 XY a43Bags c43Bags Xk Xh) 38,.box b35 (yS aS QF QE X6 XZ) 36,.box b3 (yT aT Xi Xe Vj Vf QC QA) 29,.box b1 (yS aS yV yU Xj Xf) 25] [isF true rF47a (.slice ra47a (((zO aS aT aSteps).1).length) rc47a) (mrk ((zO aS aT aSteps).1) (1)),isF true Q4 (.slice X5 aT.qy.length XY) (mrk aT.qy (1+(cnt aS.qw:Nat)+(cnt aS.qx:Nat))),isF true XU (.slice a43Bags aT.qE.length c43Bags) (mrk aT.qE (1+(cnt aS.qw:Nat)+(cnt aS.qx:Nat)+(cnt aT.qy:Nat))),isF true Qm (.slice Xk aT.qA.length Xh) (mrk aT.qA (1+(cnt aS.qw:Nat)+(cnt aS.qx:Nat)+(cnt aT.qy:Nat)+(cnt aT.qE:Nat))),isF true jT (.slice QF aS.qw.length QE) (mrk aS.qw (1)),isF true QT (.slice X6 aS.qx.length XZ) (mrk aS.qx (1+(cnt aS.qw:Nat))),sF true Yk a72Alive c72Alive aT.qy,sF true F72Bags a72Bags c72Bags aT.qE,sF true XN a72Around c72Around aT.qA,sF true QV a62Parents c62Parents aS.qw,sF true VB a62Rules c62Rules aS.qx,sF true rF24a ra24a rc24a ((zO aS aT aSteps).1),sF true Q5 a23Alive c23Alive aT.qy,sF true XV a23Bags c23Bags aT.qE,sF true Qn a23Around c23Around aT.qA,sF true jU a17Parents c17Parents aS.qw,sF true QU a17Rules c17Rules aS.qx,sF false YA yV yU aS.qw,sF false FaSRules Xj Xf aS.qx,sF false FaTAlive Xi Xe aT.qy,sF false FaTBags Vj Vf aT.qE,sF false FaTAround QC QA aT.qA]:=H.chgFacts (Fs:=[rF47a]) (L:=[Q4,XU,Qm,jT,QT,Yk,F72Bags,XN,QV,VB,rF24a,Q5,XV,Qn,jU,QU]) (A:=[YA,FaSRules,FaTAlive,FaTBags,FaTAround]) N89 A (x91.mono (by intro z hz;simpa using hz)) [10] [isF true rF47a (.slice ra47a (((zO aS aT aSteps).1).length) rc47a) (mrk ((zO aS aT aSteps).1) (1))] (all_of ⟨m92,trivial⟩) [0,1,2,3,4,5,6,7,8,9,11,12,13,14,15,16,17,18,19,20,21] [0,1,2,3,4,5,6,7,8,9,10,11,12,13,14,15,16,17,18,19,20]
    replace N:=N89
    refine sp (yI (1+(cnt ((zO aS aT aSteps).1):Nat))) (zjc (sp (yI 1) (zjc (sps [.slice ra47a (((zO aS aT aSteps).1).length) rc47a,yI 1] ?_))))
    have hn93:=H.isLen 0 rfl
    refine sw (oq (args_eq (by rw [← hn93]) (heldStateS_ok _ (mrk ((zO aS aT aSteps).1) (1)) 1 (hn93▸(H.get 0 rfl).1) (by first | exact mkd_mark _ _ | omega | (simp only [cnt_mark];first | exact mkd_mark _ _ | omega)) (by first | exact mkd_mark _ _ | omega | (simp only [cnt_mark];first | exact mkd_mark _ _ | omega)) (by first | exact mkd_mark _ _ | omega | (simp only [cnt_mark];first | exact mkd_mark _ _ | omega)))) H fun w94 H=>sp (yI (1+(cnt (mrk ((zO aS aT aSteps).1) (1)):Nat))) (zjcc ?_))
    refine sps [yI (1+(cnt (mrk ((zO aS aT aSteps).1) (1)):Nat)),.bool (decide ((1+(cnt (mrk ((zO aS aT aSteps).1) (1)):Nat):Int) < 0))] (zjn (cD rfl (fun h96=>?_) (fun h96=>?_)))
    ·skip
     refine zcr (sp (.bool false) (zjr (t_r (ret1 (.bool false) rfl rfl ⟨_,rfl,?_,H.base⟩))))
     exfalso;first | omega | contradiction
    refine qU (t_n (zcc (sps [yI (1+(cnt (mrk ((zO aS aT aSteps).1) (1)):Nat)),yI (1+(cnt ((zO aS aT aSteps).1):Nat)),.bool ((1+(cnt (mrk ((zO aS aT aSteps).1) (1)):Nat):Int) != (1+(cnt ((zO aS aT aSteps).1):Nat)))] (zjn (xG ((1+(cnt (mrk ((zO aS aT aSteps).1) (1)):Nat):Int) != (1+(cnt ((zO aS aT aSteps).1):Nat))) rfl (fun h97=>?_) (fun h97=>?_))))))
    ·skip
     replace h97:=bne_iff_ne.1 h97
     refine zcr (sp (.bool false) (zjr (t_r (ret1 (.bool false) rfl rfl ⟨_,rfl,?_,H.base⟩))))
     exfalso;first | omega | contradiction | exact h97 (by simp only [cnt_mark])
    replace h97:=xq h97
    refine qU (t_n (xO ?_))
    refine jb rfl H fun H=>rt 0 (.agg #[yI aS.xA,.slice yV aS.qw.length yU,.slice Xj aS.qx.length Xf]) (QO (cs:=(yS aS yV yU Xj Xf)) isAgg25 sizeOf25 rfl (fun _ h=>qG (h.cells 3 rfl) 0 3)) H ?_
    refine rt 2 (.agg #[.slice Xi aT.qy.length Xe,.slice Vj aT.qE.length Vf,.slice QC aT.qA.length QA]) (QO (cs:=(yT aT Xi Xe Vj Vf QC QA)) isAgg29 sizeOf29 rfl (fun _ h=>qG (h.cells 2 rfl) 0 3)) H ?_
    refine rtp 4 (yI aSteps) H ?_
    refine ro 1 rfl ?_
    have sz99:=H.base.size
    have lt100:=H.ltN (L:=[rF47a,Q4,XU,Qm,jT,QT,Yk,F72Bags,XN,QV,VB,rF24a,Q5,XV,Qn,jU,QU]) [0,1,2,3,4,5,6,7,8,9,10,11,12,13,14,15,16]
    refine oc (toSystem_ok _ aS (H.get 17 rfl).1 (H.get 18 rfl).1 qg) ?_
    rintro v104 w102 r104 x103
    obtain ⟨a104Parents,c104Parents,F104Parents,a104Rules,c104Rules,F104Rules,rfl,f104,H⟩:=H.add_SystemD x103 r104
    replace N:=N.cons f104 sz99 lt100
    replace N:=N.split
    refine ⟨H.pick [0,1,2,3] [2,3,4,5,6,7,8,9,10,11,12,13,14,15,16,17,18,19,20,21,22,23],(ro 3 rfl ?_)⟩
    have sz105:=H.base.size
    have lt106:=H.ltN (L:=[F104Parents,F104Rules,rF47a,Q4,XU,Qm,jT,QT,Yk,F72Bags,XN,QV,VB,rF24a,Q5,XV,Qn,jU,QU]) [0,1,2,3,4,5,6,7,8,9,10,11,12,13,14,15,16,17,18]
    refine oc (toState_ok _ aT (H.get 21 rfl).1 (H.get 22 rfl).1 (H.get 23 rfl).1 qg) ?_
    rintro v110 w108 r110 x109
    obtain ⟨a110Alive,c110Alive,F110Alive,a110Bags,c110Bags,F110Bags,a110Around,c110Around,F110Around,rfl,f110,H⟩:=H.add_StateD x109 r110
    replace N:=N.cons f110 sz105 lt106
    replace N:=N.split
    replace N:=N.split
    refine ⟨H.pick [0,1,2,3] [5,6,7,8,9,10,11,12,13,14,15,16,17,18,19,20,21,22,23,24,25,26],(ro 5 rfl ?_)⟩
    have sz114:=H.base.size
    have lt115:=H.ltN (L:=[F110Alive,F110Bags,F110Around,F104Parents,F104Rules,rF47a,Q4,XU,Qm,jT,QT,Yk,F72Bags,XN,QV,VB,rF24a,Q5,XV,Qn,jU,QU]) [0,1,2,3,4,5,6,7,8,9,10,11,12,13,14,15,16,17,18,19,20,21]
    refine oc (implSA_ok _ aS aT aSteps (H.get 3 rfl).1 (H.get 4 rfl).1 (H.get 0 rfl).1 (H.get 1 rfl).1 (H.get 2 rfl).1) ?_
    rintro _ w112 ⟨ra111a,rc111a,rF111a,rfl,M,K⟩ _
    replace N:=N.merge sz114 lt115 M
    replace H:=H.merge K M
    refine ⟨H.pick [0,1,2,3] [6,7,8,9,10,11,12,13,14,15,16,17,18,19,20,21,22,23,24,25,26,27],?_⟩
    have S:=H.yO [0,1,2,3] [6,7,8,9,10,11,12,13,14,15,16,17,18,19,20,21,22,23,24,25,26,27]
    refine rtp 6 (.tuple #[.slice ra111a (((zO aS aT aSteps).1).length) rc111a,yI ((zO aS aT aSteps).2)]) S ?_
    refine rtp 7 (.slice ra111a (((zO aS aT aSteps).1).length) rc111a) S ?_
    refine rtp 8 (yI ((zO aS aT aSteps).2)) S ?_
    refine rtp 9 (.slice ra111a (((zO aS aT aSteps).1).length) rc111a) S ?_
    refine rtp 10 (yI ((zO aS aT aSteps).2)) S ?_
    refine xK qh (t_n (zcc (sps [.slice ra111a (((zO aS aT aSteps).1).length) rc111a,.slice ra24a (((zO aS aT aSteps).1).length) rc24a] (sw (oq (eqStateS_ok _ ((zO aS aT aSteps).1) ((zO aS aT aSteps).1) (H.get 0 rfl).1 (H.get 17 rfl).1) H fun w116 H=>sps [.bool (!(decide (((zO aS aT aSteps).1)=((zO aS aT aSteps).1)))),.bool (!(decide (((zO aS aT aSteps).1)=((zO aS aT aSteps).1))))] ?_)))))
    cases h118:(!(decide (((zO aS aT aSteps).1)=((zO aS aT aSteps).1))))
    ·skip
     replace h118:=xe h118
     refine qP 111 rfl rfl (sp (yI ((zO aS aT aSteps).2)) (qP 111 rfl rfl (sp (yI ((zO aS aT aSteps).2)) (qP 111 rfl rfl (sps [.bool (((zO aS aT aSteps).2:Int) != ((zO aS aT aSteps).2)),.bool (((zO aS aT aSteps).2:Int) != ((zO aS aT aSteps).2))] (zjn (xG (((zO aS aT aSteps).2:Int) != ((zO aS aT aSteps).2)) rfl (fun h=>absurd rfl (bne_iff_ne.1 h)) (fun h119=>?_))))))))
     replace h119:=xq h119
     refine qU (t_n (zcr (sp (yI 1) (zjc (sps [.slice ra47a (((zO aS aT aSteps).1).length) rc47a,yI 1] ?_)))))
     have hn120:=H.isLen 6 rfl
     refine sw (oq (args_eq (by rw [← hn120]) (heldStateS_ok _ (mrk ((zO aS aT aSteps).1) (1)) 1 (hn120▸(H.get 6 rfl).1) (by first | exact mkd_mark _ _ | omega | (simp only [cnt_mark];first | exact mkd_mark _ _ | omega)) (by first | exact mkd_mark _ _ | omega | (simp only [cnt_mark];first | exact mkd_mark _ _ | omega)) (by first | exact mkd_mark _ _ | omega | (simp only [cnt_mark];first | exact mkd_mark _ _ | omega)))) H fun w121 H=>sp (yI (1+(cnt (mrk ((zO aS aT aSteps).1) (1)):Nat))) (zjcc ?_))
     refine sps [yI (1+(cnt (mrk ((zO aS aT aSteps).1) (1)):Nat)),.bool (decide ((1+(cnt (mrk ((zO aS aT aSteps).1) (1)):Nat):Int) < 0))] (zjn (cD rfl (fun h123=>?_) (fun h123=>?_)))
     ·skip
      refine zcr (sp (.bool false) (zjr (t_r (ret1 (.bool false) rfl rfl ⟨_,rfl,?_,H.base⟩))))
      exfalso;first | omega | contradiction
     refine qU (t_n (zcc (sps [yI (1+(cnt (mrk ((zO aS aT aSteps).1) (1)):Nat)),yI (1+(cnt ((zO aS aT aSteps).1):Nat)),.bool ((1+(cnt (mrk ((zO aS aT aSteps).1) (1)):Nat):Int) != (1+(cnt ((zO aS aT aSteps).1):Nat)))] (zjn (xG ((1+(cnt (mrk ((zO aS aT aSteps).1) (1)):Nat):Int) != (1+(cnt ((zO aS aT aSteps).1):Nat))) rfl (fun h=>absurd h97 (bne_iff_ne.1 h)) (fun h124=>?_))))))
     replace h124:=xq h124
     refine qU (t_n (zcr (sp (.bool true) (zjr (ret1 (.bool true) rfl rfl ⟨_,rfl,?_,H.base⟩)))))
     rfl
    · exact absurd (xk h118) qm
   · exact absurd (xk h87) qm
  replace h84:=of_decide_eq_true h84
  refine zf [77,78,79,80] (sps [.bool true,.bool true] (zf [83,84,85] (sp (.bool true) (zjn (xG true rfl (fun _=>zcr (sp (.bool false) (zjr (t_r (ret1 (.bool false) rfl rfl ⟨_,rfl,?_,H.base⟩))))) (fun h=>absurd h qj))))))
  exfalso;first | omega | contradiction
 · exact absurd (xk h54) qm
end
end Go.Proofs.YtgjnaocffdhnbaaGreat
