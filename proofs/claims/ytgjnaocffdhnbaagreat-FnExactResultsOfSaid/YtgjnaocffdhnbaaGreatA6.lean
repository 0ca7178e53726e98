/- Walks and laws, printed by program and by hand: what each function comes to, for all arguments, part 6. -/
import Derived.Test.YtgjnaocffdhnbaaGreatA5
namespace Go.Proofs.YtgjnaocffdhnbaaGreat
set_option linter.unusedVariables false
set_option linter.unusedSimpArgs false
open Go.Proofs.YtgjnaocffdhnbaaGreat.Tot (tot)
open Go.Proofs.YtgjnaocffdhnbaaGreat.Mark (cnt mrk mkd mkd_mark cnt_mark)
section
open Go.Proofs.Tryz
open Go.RowKit
set_option linter.unusedVariables false
set_option linter.unusedSimpArgs false
set_option maxRecDepth 100000
set_option maxHeartbeats 4000000
variable {cl cb qB qJ qR xk qK : Nat}
theorem isBag_ok (w:World) (l:yLI) {al:yOA} {Fl:yLN} (hl:qO.rep w Fl [Sv al l.length cl] l):Calls Tryz.prog 209 #[Sv al l.length cl] w (Ret (fun v w' =>v=Bv (dec (Yg l))) w):=by
 refine en func209 ntmps209 ?_
 have H:=(St.start w).arg hl
 have nhl:=qM hl
 clear hl
 have N:=Fresh.nil w.heap.size
 refine zcr (sp (Bv false) (zjc (sp (Sv al l.length cl) (sw (oq (sizeI_ok _ l (H.get 0 rfl).1) H fun w1 H=>sp (Sv al l.length cl) (sw (oq (YV _ (l.length:Int) l (H.get 0 rfl).1) H fun w3 H=>sp (Bv (dec (vI (l.length:Int) l))) (zjr (ret1 (Bv (dec (vI (l.length:Int) l))) rfl rfl ⟨_,rfl,?_,H.base⟩)))))))))
 rw [dec_congr bagAny_okH]

theorem isFull_ok (w:World) (rest:yLI) (parts:yLL) {arest:yOA} {crest:Nat} {Frest:yLN} {zo:yOA} {zg:Nat} {Fparts:yLN} (hrest:qO.rep w Frest [Sv arest rest.length crest] rest) (hparts:qO.rep w Fparts [Sv zo parts.length zg] parts) (p0:YL parts rest):Calls Tryz.prog 178 #[Sv arest rest.length crest,Sv zo parts.length zg] w (Ret (fun v w' =>v=Bv (dec (FullOk parts rest))) w):=by
 refine en func178 ntmps178 ?_
 have H:=((St.start w).arg hparts).arg hrest
 have nhrest:=qM hrest
 have nhparts:=qM hparts
 clear hrest hparts
 have N:=Fresh.nil w.heap.size
 refine zcr (sw (vU H [Sv arest rest.length crest] fun b1 w2 H=>sp (Bv false) (zjc (sps [Sv zo parts.length zg,.func (.func 206) #[] #[pp b1 0]] (sw (vJ #[Sv zo parts.length zg,.func (.func 206) #[] #[pp b1 0]] rfl rfl call205 (en func205 ntmps205 ?_)))))))
 refine zcr (sp (Bv false) (zjc (sps [Sv zo parts.length zg,.func (.func 206) #[] #[pp b1 0]] (sw (vJ #[Sv zo parts.length zg,.func (.func 206) #[] #[pp b1 0]] rfl rfl call211 (en func211 ntmps211 ?_))))))
 refine zcr (sp (yI 0) (zjcc (sp (Sv zo parts.length zg) (oN rfl (sp (yI 0) (zjn (qX ?_)))))))
 refine zD (fun m' ρ w3=>∃ (xY:Env) (i:Nat),ρ=upd (upd (upd (upd xY 0 (Sv zo parts.length zg)) 1 (.func (.func 206) #[] #[pp b1 0])) 7 (yI parts.length)) 8 (yI i)∧((i:Int)≤parts.length)∧(FullTo parts rest i)∧m' =(parts.length - (i:Int)).toNat∧Fresh w.heap.size []∧St w w3 [.box b1 [Sv arest rest.length crest] 22] [sF false Frest arest crest rest,sF false Fparts zo zg parts]) ((parts.length - (0:Int)).toNat) ⟨_,0,uE4,qf,(by first | trivial | exact fun j hj=>by omega),rfl,N,H⟩ ?_
 clear H N
 rintro m' ρ w4 ⟨xY,i,rfl,i0,i1,rfl,N,H⟩
 refine zcr (sp (Bv (decide ((i:Int) < parts.length))) (zjn (xQ (cD rfl (fun h5=>?_) (fun h5=>?_)))))
 ·skip
  obtain ⟨t1,t2,t3,t4,t5⟩:=p0.times (k:=i) qf
  refine qW (t_n (xQ (qX (zcr (sps [yI i,yI i] (zjc (sps [.func (.func 206) #[] #[pp b1 0],Sv zo parts.length zg,yI i] ?_)))))))
  obtain ⟨b6,o7,rfl⟩:=H.addr 1 rfl qf
  obtain ⟨ae9,ce9,Fe9,H⟩:=H.vV 1 rfl i i qf qf qf
  refine oI rfl rfl (oL rfl (H.xW 1 rfl 0 rfl) (sw (vJ #[Sv ae9 ((parts[i]!).length) ce9,pp b1 0] rfl rfl call206 (en func206 ntmps206 ?_))))
  refine zcr (sp (Bv false) (zjc (sp (Sv ae9 ((parts[i]!).length) ce9) (oL rfl (H.cell 0 rfl rfl) (sw (oq (isWithin_ok _ (parts[i]!) rest (H.get 0 rfl).1 (H.get 2 rfl).1 qg qg) H fun w10 H=>sp (Bv (within (parts[i]!) rest)) (zjr (ret1 (Bv (within (parts[i]!) rest)) rfl rfl ⟨_,rfl,(zjn (xE (within (parts[i]!) rest) rfl (fun h12=>?_) (fun h12=>?_)))⟩))))))))
  ·skip
   refine zcr (sps [yI i,yI i] (zjr (zr5 (ret1 (yI i) rfl rfl ⟨_,rfl,(sw (o_pure (Bv true) (by show some (Value.bool (decide ((i:Int)≥0)))=some (Value.bool true);rw [decide_eq_true qf]) (sp (Bv true) (zjr (ret1 (Bv true) rfl rfl ⟨_,rfl,(sps [Bv false,Bv false] (zjr (ret1 (Bv false) rfl rfl ⟨_,rfl,?_,H.base⟩)))⟩)))))⟩))))
   rw [xx (fun h=>by have:=h i qf;simp_all)]
  refine qW (b_n (t_n (xO (sw (zB i 1 rfl rfl qf (sp (yI (i+1)) (xM (qY (m' :=(parts.length - ((i+1):Int)).toNat) qf ⟨_,i+1,uE4,?_,?_,rfl,N,H.pick [0] [2,3]⟩))))))))
  · omega
  · first | trivial | exact i1.succ ‹_›
 refine zx4 (zcr (sp (yI (-1)) (zjr (ret1 (yI (-1)) rfl rfl ⟨_,rfl,(sps [Bv false,Bv false] (zjr (ret1 (Bv false) rfl rfl ⟨_,rfl,(sps [Bv true,Bv true] (zjr (ret1 (Bv true) rfl rfl ⟨_,rfl,?_,H.base⟩)))⟩)))⟩))))
 rw [yH (show FullOk parts rest from fun j hj=>i1 j qf)]

theorem bagAndParts_ok (w:World) (b:yLI) (parts:yLL) {ab:yOA} {Fb:yLN} {zo:yOA} {zg:Nat} {Fparts:yLN} (hb:qO.rep w Fb [Sv ab b.length cb] b) (hparts:qO.rep w Fparts [Sv zo parts.length zg] parts) (p0:YL parts b) (p1:1≤parts.length):Calls Tryz.prog 200 #[Sv ab b.length cb,Sv zo parts.length zg] w (Ret (fun v w' =>v=yI 0) w):=by
 refine en func200 ntmps200 ?_
 have H:=((St.start w).arg hparts).arg hb
 have nhb:=qM hb
 have nhparts:=qM hparts
 clear hb hparts
 have N:=Fresh.nil w.heap.size
 obtain ⟨pb,pl,pk⟩:=p0.bags p1
 refine zcr (sp (yI 0) (zjcc (sp (Sv ab b.length cb) (sw (oq (isBag_ok _ b (H.get 0 rfl).1) H fun w2 H=>sp (Bv (!(dec (Yg b)))) (zjn (cQ rfl (fun h4=>?_) (fun h4=>?_))))))))
 ·skip
  refine zcr (sp (yI 1) (zjr (t_r (ret1 (yI 1) rfl rfl ⟨_,rfl,?_,H.base⟩))))
  exfalso;first | omega | exact ‹¬ Yg _› pb
 refine qW (t_n (zcr (sp (Sv ab b.length cb) (oN rfl (sps [Sv zo parts.length zg,Sv zo parts.length zg] (oN rfl (sw (Vg H underlying22 ti2 parts.length rfl rfl qf qf qf fun b5 w6 H=>sw (vJ #[yI b.length,Sv zo parts.length zg,Sv (aa b5 0) parts.length parts.length] rfl rfl call210 (en func210 ntmps210 ?_))))))))))
 refine zcr (sp (yI 0) (zjcc (sp (Sv zo parts.length zg) (sw (vJ #[Sv zo parts.length zg,.func (.func 212) #[] #[]] rfl rfl call205 (en func205 ntmps205 ?_))))))
 refine zcr (sp (Bv false) (zjc (sps [Sv zo parts.length zg,.func (.func 212) #[] #[]] (sw (vJ #[Sv zo parts.length zg,.func (.func 212) #[] #[]] rfl rfl call211 (en func211 ntmps211 ?_))))))
 refine zcr (sp (yI 0) (zjcc (sp (Sv zo parts.length zg) (oN rfl (sp (yI 0) (zjn (qX ?_)))))))
 refine zD (fun m' ρ w7=>∃ (xY:Env) (i:Nat),ρ=upd (upd (upd (upd xY 0 (Sv zo parts.length zg)) 1 (.func (.func 212) #[] #[])) 7 (yI parts.length)) 8 (yI i)∧((i:Int)≤parts.length)∧(True)∧m' =(parts.length - (i:Int)).toNat∧Fresh w.heap.size []∧St w w7 [rr (aa b5 0) parts.length parts.length 2 1 ((List.replicate parts.length (0:Int)).map (Value.int .i64))] [sF false Fb ab cb b,sF false Fparts zo zg parts]) ((parts.length - (0:Int)).toNat) ⟨_,0,uE4,qf,(by first | trivial | exact fun j hj=>by omega),rfl,N,H⟩ ?_
 clear H N
 rintro m' ρ w8 ⟨xY,i,rfl,i0,i1,rfl,N,H⟩
 refine zcr (sp (Bv (decide ((i:Int) < parts.length))) (zjn (xQ (cD rfl (fun h9=>?_) (fun h9=>?_)))))
 ·skip
  refine qW (t_n (xQ (qX (zcr (sps [yI i,yI i] (zjc (sps [.func (.func 212) #[] #[],Sv zo parts.length zg,yI i] ?_)))))))
  obtain ⟨b10,o11,rfl⟩:=H.addr 1 rfl qf
  obtain ⟨ae13,ce13,Fe13,H⟩:=H.vV 1 rfl i i qf qf qf
  refine oI rfl rfl (oL rfl (H.xW 1 rfl 0 rfl) (sw (vJ #[Sv ae13 ((parts[i]!).length) ce13] rfl rfl call212 (en func212 ntmps212 ?_))))
  refine zcr (sp (Bv false) (zjc (sp (Sv ae13 ((parts[i]!).length) ce13) (sw (oq (isBag_ok _ (parts[i]!) (H.get 0 rfl).1) H fun w15 H=>sps [Bv (!(dec (Yg (parts[i]!)))),Bv (!(dec (Yg (parts[i]!))))] (zjr (ret1 (Bv (!(dec (Yg (parts[i]!))))) rfl rfl ⟨_,rfl,(zjn (cQ rfl (fun h17=>?_) (fun h17=>?_)))⟩)))))))
  ·skip
   exact absurd (pk i qf).1 h17
  refine qW (b_n (t_n (xO (sw (zB i 1 rfl rfl qf (sp (yI (i+1)) (xM (qY (m' :=(parts.length - ((i+1):Int)).toNat) qf ⟨_,i+1,uE4,?_,?_,rfl,N,H.pick [0] [2,3]⟩))))))))
  · omega
  · first | trivial | exact i1.succ ‹_›
 refine zx4 (zcr (sp (yI (-1)) (zjr (ret1 (yI (-1)) rfl rfl ⟨_,rfl,(sps [Bv false,Bv false] (zjr (ret1 (Bv false) rfl rfl ⟨_,rfl,(zjn (xE false rfl (fun h=>absurd h qj) (fun _=>qW (t_n (zcc (sp (Sv zo parts.length zg) (oN rfl (sps [Bv (decide ((parts.length:Int) > 8)),Bv (decide ((parts.length:Int) > 8))] ?_))))))))⟩)))⟩))))
 cases h18:(decide ((parts.length:Int) > 8))
 ·skip
  replace h18:=of_decide_eq_false h18
  refine qQ 14 rfl rfl (sp (Sv (aa b5 0) parts.length parts.length) (qQ 14 rfl rfl (oN rfl (qQ 14 rfl rfl (sp (Sv zo parts.length zg) (qQ 14 rfl rfl (oN rfl (qQ 14 rfl rfl (sps [Bv ((parts.length:Int) != parts.length),Bv ((parts.length:Int) != parts.length)] (zjn (xE ((parts.length:Int) != parts.length) rfl (fun h=>absurd rfl (bne_iff_ne.1 h)) (fun h19=>?_))))))))))))
  replace h19:=xw h19
  refine qW (t_n (zcc (sp (Sv zo parts.length zg) (oN rfl (sp (yI 0) (zjn (qX ?_)))))))
  refine zD (fun m' ρ w20=>∃ (xY:Env) (i_1:Nat),ρ=upd (upd (upd (upd (upd xY 0 (yI b.length)) 2 (Sv (aa b5 0) parts.length parts.length)) 21 (Sv zo parts.length zg)) 22 (yI parts.length)) 23 (yI i_1)∧((i_1:Int)≤parts.length)∧m' =(parts.length - (i_1:Int)).toNat∧Fresh w.heap.size []∧St w w20 [rr (aa b5 0) parts.length parts.length 2 1 ((List.replicate parts.length (0:Int)).map (Value.int .i64))] [sF false Fb ab cb b,sF false Fparts zo zg parts]) ((parts.length - (0:Int)).toNat) ⟨_,0,uE5,qf,rfl,N,H⟩ ?_
  clear H N
  rintro m' ρ w21 ⟨xY,i_1,rfl,i0,rfl,N,H⟩
  refine zcr (sp (Bv (decide ((i_1:Int) < parts.length))) (zjn (xQ (cD rfl (fun h22=>?_) (fun h22=>?_)))))
  ·skip
   obtain ⟨r1,r2,r3⟩:=pk i_1 qf
   have r4:=QD r1
   have r5:(List.replicate parts.length (0:Int))[i_1]! =0:=by rw [getElem!_pos _ i_1 (by simp;omega)];simp
   refine qW (t_n (xQ (qX (zcr (sp (yI i_1) ?_)))))
   obtain ⟨b23,o24,rfl⟩:=H.addr 1 rfl qf
   obtain ⟨ae26,ce26,Fe26,H⟩:=H.vV 1 rfl i_1 i_1 qf qf qf
   refine oI rfl rfl (oL rfl (H.xW 1 rfl 0 rfl) (sps [yI i_1,Sv ae26 ((parts[i_1]!).length) ce26] (zjc (sp (Sv ae26 ((parts[i_1]!).length) ce26) (oN rfl (sps [yI b.length,Bv (((parts[i_1]!).length:Int) != b.length),Bv (((parts[i_1]!).length:Int) != b.length)] ?_))))))
   cases h27:(((parts[i_1]!).length:Int) != b.length)
   ·skip
    replace h27:=xw h27
    refine qQ 32 rfl rfl (sp (Sv ae26 ((parts[i_1]!).length) ce26) (qQ 32 rfl rfl (sw (oq (V6 _ (parts[i_1]!) (H.get 0 rfl).1 (by first | assumption | exact vX ql | exact QD ql)) H fun w28 H=>qQ 32 rfl rfl (sps [Bv ((Yd (parts[i_1]!):Int) == 0),Bv ((Yd (parts[i_1]!):Int) == 0),Bv ((Yd (parts[i_1]!):Int) == 0)] ?_)))))
    cases h30:((Yd (parts[i_1]!):Int) == 0)
    ·skip
     replace h30:=ne_of_beq_false h30
     refine qQ 37 rfl rfl (sp (Sv (aa b5 0) parts.length parts.length) (qQ 37 rfl rfl (sp (yI i_1) (qQ 37 rfl rfl (oI rfl rfl (qQ 37 rfl rfl (oL rfl (H.rowInt 0 rfl (iv:=i_1) (i:=i_1) qf qf) (qQ 37 rfl rfl (sw (oq (VX w28 ((List.replicate parts.length (0:Int))[i_1]!) 0 1000) H fun w31 H=>qQ 37 rfl rfl (sps [Bv (!(inR ((List.replicate parts.length (0:Int))[i_1]!) 0 1000)),Bv (!(inR ((List.replicate parts.length (0:Int))[i_1]!) 0 1000))] (zjn (xE (!(inR ((List.replicate parts.length (0:Int))[i_1]!) 0 1000)) rfl (fun h33=>?_) (fun h33=>?_))))))))))))))
     ·skip
      replace h33:=xq h33
      replace h33:=Vh h33
      refine zcr (sp (yI 2) (zjr (zr5 (ret1 (yI 2) rfl rfl ⟨_,rfl,(sp (yI 2) (zjr (ret1 (yI 2) rfl rfl ⟨_,rfl,?_,H.base⟩)))⟩))))
      exfalso;first | omega | exact ‹¬ Yg _› pb
     replace h33:=xg h33
     replace h33:=XA.1 h33
     refine qW (b_n (t_n (xO (sw (zB i_1 1 rfl rfl qf (sp (yI (i_1+1)) (xM (qY (m' :=(parts.length - ((i_1+1):Int)).toNat) qf ⟨_,i_1+1,uE5,?_,rfl,N,H.pick [0] [2,3]⟩))))))))
     · omega
    replace h30:=eq_of_beq h30
    refine zk [38,39,40,41,42,43] (sp (Bv true) (zjn (xE true rfl (fun _=>zcr (sp (yI 2) (zjr (zr5 (ret1 (yI 2) rfl rfl ⟨_,rfl,(sp (yI 2) (zjr (ret1 (yI 2) rfl rfl ⟨_,rfl,?_,H.base⟩)))⟩))))) (fun h=>absurd h qj))))
    exfalso;first | omega | exact ‹¬ Yg _› pb
   replace h27:=bne_iff_ne.1 h27
   refine zk [33,34,35] (sps [Bv true,Bv true] (zk [38,39,40,41,42,43] (sp (Bv true) (zjn (xE true rfl (fun _=>zcr (sp (yI 2) (zjr (zr5 (ret1 (yI 2) rfl rfl ⟨_,rfl,(sp (yI 2) (zjr (ret1 (yI 2) rfl rfl ⟨_,rfl,?_,H.base⟩)))⟩))))) (fun h=>absurd h qj))))))
   exfalso;first | omega | exact ‹¬ Yg _› pb
  refine zx4 (zcr (sp (yI 0) (zjr (ret1 (yI 0) rfl rfl ⟨_,rfl,(sp (yI 0) (zjr (ret1 (yI 0) rfl rfl ⟨_,rfl,?_,H.base⟩)))⟩))))
  rfl
 replace h18:=of_decide_eq_true h18
 refine zk [15,16,17,18,19] (sp (Bv true) (zjn (xE true rfl (fun _=>zcr (sp (yI 2) (zjr (t_r (ret1 (yI 2) rfl rfl ⟨_,rfl,(sp (yI 2) (zjr (ret1 (yI 2) rfl rfl ⟨_,rfl,?_,H.base⟩)))⟩))))) (fun h=>absurd h qj))))
 exfalso;first | omega | exact ‹¬ Yg _› pb

def packFrom_ok_S (f:Nat):Prop:=∀ {W0 w:World} {ps:List Prv} {Γ:List Fact} {Ns:List yLN} (i:Nat) (rest:yLI) (parts:yLL) (out:yLL) (cs:yLI) (arest:yOA) (crest:Nat) (Frest:yLN) (zo:yOA) (zg:Nat) (Fparts:yLN) (bp:Nat) (bi:Nat) (bq:Nat) (bo:Nat) (bl:Nat) (bc:Nat) (bf:Nat) (raout:yOA) (rnout:Nat) (rcout:Nat) (rxout:List Value) (rFout:yLN) (racs:yOA) (rncs:Nat) (rccs:Nat) (H:St W0 w ((.box bp [Sv zo parts.length zg] 27) :: (.box bi [.func (.func 177) #[] #[pp bq 0]] 170) :: (.box bq [Sv zo parts.length zg] 27) :: (.box bo [pp bl 0] 219) :: (.box bl [Sv raout rnout rcout] 221) :: (.box bc [Sv racs rncs rccs] 22) :: (.box bf [.func (.func 201) #[] #[pp bp 0,pp bi 0,pp bo 0,pp bc 0,pp bf 0]] 222) :: (rr raout rnout rcout 22 1 rxout) :: (rr racs rncs rccs 2 1 (cs.map (Value.int .i64))) :: ps) ((sF false Frest arest crest rest) :: (sF false Fparts zo zg parts) :: (zf true rFout rxout out) :: Γ)) (N:Fresh W0.heap.size (rFout :: Ns)) (K0:Kept Ns Γ) (p0:i+f=parts.length) (p1:YL parts rest) (p2:out.length≤2000) (p3:cs.length=parts.length),Calls Tryz.prog 201 #[yI i,Sv arest rest.length crest,pp bp 0,pp bi 0,pp bo 0,pp bc 0,pp bf 0] w (fun e w' =>∃ v,e=.returned v∧∃ (cs_:yLI) (raout_:yOA) (rnout_:Nat) (rcout_:Nat) (rxout_:List Value) (rFout_:yLN),(cs_.length=cs.length)∧(cs_.take i=cs.take i)∧v=Bv (dec ((gath out (begins (cs.take i) (packs parts (parts.length - i) i rest))).length≤2000))∧Fresh W0.heap.size (rFout_ :: Ns)∧St W0 w' ((.box bp [Sv zo parts.length zg] 27) :: (.box bi [.func (.func 177) #[] #[pp bq 0]] 170) :: (.box bq [Sv zo parts.length zg] 27) :: (.box bo [pp bl 0] 219) :: (.box bl [Sv raout_ rnout_ rcout_] 221) :: (.box bc [Sv racs rncs rccs] 22) :: (.box bf [.func (.func 201) #[] #[pp bp 0,pp bi 0,pp bo 0,pp bc 0,pp bf 0]] 222) :: (rr raout_ rnout_ rcout_ 22 1 rxout_) :: (rr racs rncs rccs 2 1 (cs_.map (Value.int .i64))) :: ps) ((sF false Frest arest crest rest) :: (sF false Fparts zo zg parts) :: (zf true rFout_ rxout_ (gath out (begins (cs.take i) (packs parts (parts.length - i) i rest)))) :: Γ))
theorem packFrom_ok_step (f:Nat) (IH:∀ k,k < f→packFrom_ok_S k) {W0 w:World} {ps:List Prv} {Γ:List Fact} {Ns:List yLN} (i:Nat) (rest:yLI) (parts:yLL) (out:yLL) (cs:yLI) (arest:yOA) (crest:Nat) (Frest:yLN) (zo:yOA) (zg:Nat) (Fparts:yLN) (bp:Nat) (bi:Nat) (bq:Nat) (bo:Nat) (bl:Nat) (bc:Nat) (bf:Nat) (raout:yOA) (rnout:Nat) (rcout:Nat) (rxout:List Value) (rFout:yLN) (racs:yOA) (rncs:Nat) (rccs:Nat) (H:St W0 w ((.box bp [Sv zo parts.length zg] 27) :: (.box bi [.func (.func 177) #[] #[pp bq 0]] 170) :: (.box bq [Sv zo parts.length zg] 27) :: (.box bo [pp bl 0] 219) :: (.box bl [Sv raout rnout rcout] 221) :: (.box bc [Sv racs rncs rccs] 22) :: (.box bf [.func (.func 201) #[] #[pp bp 0,pp bi 0,pp bo 0,pp bc 0,pp bf 0]] 222) :: (rr raout rnout rcout 22 1 rxout) :: (rr racs rncs rccs 2 1 (cs.map (Value.int .i64))) :: ps) ((sF false Frest arest crest rest) :: (sF false Fparts zo zg parts) :: (zf true rFout rxout out) :: Γ)) (N:Fresh W0.heap.size (rFout :: Ns)) (K0:Kept Ns Γ) (p0:i+f=parts.length) (p1:YL parts rest) (p2:out.length≤2000) (p3:cs.length=parts.length):Calls Tryz.prog 201 #[yI i,Sv arest rest.length crest,pp bp 0,pp bi 0,pp bo 0,pp bc 0,pp bf 0] w (fun e w' =>∃ v,e=.returned v∧∃ (cs_:yLI) (raout_:yOA) (rnout_:Nat) (rcout_:Nat) (rxout_:List Value) (rFout_:yLN),(cs_.length=cs.length)∧(cs_.take i=cs.take i)∧v=Bv (dec ((gath out (begins (cs.take i) (packs parts (parts.length - i) i rest))).length≤2000))∧Fresh W0.heap.size (rFout_ :: Ns)∧St W0 w' ((.box bp [Sv zo parts.length zg] 27) :: (.box bi [.func (.func 177) #[] #[pp bq 0]] 170) :: (.box bq [Sv zo parts.length zg] 27) :: (.box bo [pp bl 0] 219) :: (.box bl [Sv raout_ rnout_ rcout_] 221) :: (.box bc [Sv racs rncs rccs] 22) :: (.box bf [.func (.func 201) #[] #[pp bp 0,pp bi 0,pp bo 0,pp bc 0,pp bf 0]] 222) :: (rr raout_ rnout_ rcout_ 22 1 rxout_) :: (rr racs rncs rccs 2 1 (cs_.map (Value.int .i64))) :: ps) ((sF false Frest arest crest rest) :: (sF false Fparts zo zg parts) :: (zf true rFout_ rxout_ (gath out (begins (cs.take i) (packs parts (parts.length - i) i rest)))) :: Γ)):=by
 refine en func201 ntmps201 ?_
 have nrest:=qM (H.get 0 rfl).1
 have nparts:=qM (H.get 1 rfl).1
 obtain rfl:=H.zq (α:=yLI) 7 rfl 2 rfl qj
 obtain rfl:=H.YX 8 rfl
 have p4:=p1.small
 refine zcr (sp (Bv false) (zjcc (sp (yI i) (oL rfl (H.cell 0 rfl rfl) (oN rfl (sp (Bv ((i:Int) == parts.length)) (zjn (cE rfl (fun h1=>?_) (fun h1=>?_)))))))))
 ·skip
  refine zcr (oL rfl (H.cell 1 rfl rfl) (sp (Sv arest rest.length crest) (sw (vJ #[Sv arest rest.length crest,pp bq 0] rfl rfl call177 (en func177 ntmps177 ?_)))))
  refine zcr (sp (Bv false) (zjc (sp (Sv arest rest.length crest) (oL rfl (H.cell 2 rfl rfl) (sw (oq (isFull_ok _ rest parts (H.get 0 rfl).1 (H.get 1 rfl).1 qg) H fun w3 H=>sp (Bv (dec (FullOk parts rest))) (zjr (ret1 (Bv (dec (FullOk parts rest))) rfl rfl ⟨_,rfl,(sps [Bv (!(dec (FullOk parts rest))),Bv (!(dec (FullOk parts rest)))] ?_)⟩))))))))
  cases h5:(!(dec (FullOk parts rest)))
  ·skip
   replace h5:=xg h5
   replace h5:=QU h5
   refine qQ 19 rfl rfl (oL rfl (H.cell 3 rfl rfl) (qQ 19 rfl rfl (oL rfl (H.cell 5 rfl rfl) (qQ 19 rfl rfl (sw (vJ #[pp bl 0,Sv racs cs.length rccs] rfl rfl call202 (en func202 ntmps202 ?_)))))))
   refine zcr (sp (Bv false) (zjcc (sps [pp bl 0,pp bl 0] (oF rfl (oL rfl (H.cell 4 rfl rfl) (oN rfl (sp (Bv (decide ((out.length:Int) > 2000))) (zjn (cD rfl (fun h6=>?_) (fun h6=>?_))))))))))
   ·skip
    refine zcr (sp (Bv false) (zjr (t_r (ret1 (Bv false) rfl rfl ⟨_,rfl,(sps [Bv false,Bv false] (zjr (t_r (ret1 (Bv false) rfl rfl ⟨_,rfl,?_⟩))))⟩))))
    exfalso;omega
   refine qW (t_n (xQ ?_))
   refine c_cut (fun ρ w12=>∃ (xY:Env) (a7:yOA) (c8:Nat) (a9:yOA) (c10:Nat) (G11:yLN),ρ=upd xY 0 (pp bl 0)∧Fresh W0.heap.size ((rFout++G11) :: Ns)∧St W0 w12 ((.box bp [Sv zo parts.length zg] 27) :: (.box bi [.func (.func 177) #[] #[pp bq 0]] 170) :: (.box bq [Sv zo parts.length zg] 27) :: (.box bo [pp bl 0] 219) :: (.box bl [Sv a7 (out.length+1) c8] 221) :: (.box bc [Sv racs cs.length rccs] 22) :: (.box bf [.func (.func 201) #[] #[pp bp 0,pp bi 0,pp bo 0,pp bc 0,pp bf 0]] 222) :: (rr a7 (out.length+1) c8 22 1 (rxout++[Sv a9 cs.length c10])) :: (rr racs cs.length rccs 2 1 (cs.map (Value.int .i64))) :: ps) ((zf true (rFout++G11) (rxout++[Sv a9 cs.length c10]) (out++[cs])) :: (sF true G11 a9 c10 cs) :: (sF false Frest arest crest rest) :: (sF false Fparts zo zg parts) :: Γ)) ?_ ?_
   ·skip
    refine c_drawK2 rfl H [0,1,2,3,5,6,8] [0,1,2] fun H=>?_
    have S:=H.yU [0,1,2,3,5,6,8] [0,1,2]
    refine rtp 0 (pp bl 0) S ?_
    refine rtp 1 (pp bl 0) S ?_
    refine rtp 2 (pp bl 0) S ?_
    refine tF 3 rfl rfl S ?_
    refine rtp 5 (Sv racs cs.length rccs) S ?_
    refine jK [4,6] qh qm (Qy rfl ?_ (Qy rfl ?_ jL))
    ·skip
     refine zT (Sv raout out.length rcout) isAgg27 rfl (H.cell 4 rfl rfl) (⟨H.pick [0,1,2,3,5,6,8] [0,1,2],(ro 6 rfl ?_)⟩)
     obtain ⟨G14,hn15,h16⟩:=H.rowIsI 8 rfl
     have sz17:=H.base.size
     have lt18:=all_two (H.ltN (L:=[rFout]) [2]) (H.ltK (K0.behind 3 rfl))
     refine oc (cloneI_ok _ cs h16 qg) ?_
     rintro v22 w20 r22 x21
     replace H:=H.zJ x21 r22
     obtain ⟨a23,c24,rfl,hc25,hm26⟩:=H.jA 0 rfl
     refine ⟨H.pick [1,2,3,4,6,7,9] [0,1,2],(ro 7 rfl (zA H underlying27 ti22 [Sv a23 cs.length c24] fun b27 w28 H=>⟨H.pick [2,3,4,5,7,8,10] [0,1,2],(ro 8 rfl ?_)⟩))⟩
     obtain ⟨G32,N,hn33,H⟩:=H.jb 1 rfl N (fun F hF b hb=>(List.mem_append.1 (show F∈[rFout]++Ns from hF)).elim (fun h=>(H.jU (L:=[rFout]) [2]) F h b hb) fun h=>H.awayK (K0.behind 3 rfl) F h b hb)
     try dsimp only [List.set] at H
     refine zG H 9 rfl 0 rfl underlying27 ti22 rfl qj rfl rfl rfl (by simp [Value.oneCell',Value.cells]) qp qf fun a29 c30 w31 H=>?_
     try dsimp only [List.set] at H
     replace H:=H.jd 3 rfl 0 rfl
     replace N:Fresh W0.heap.size ((rFout++G32) :: Ns):=(N.Jc 2 [1,0] qo).join
     refine ⟨H.pick [2,3,4,5,7,8,10] [2,3,4],?_⟩
     have S:=H.yU [2,3,4,5,7,8,10] [2,3,4]
     refine rtp 9 (pp bl 0) S ?_
     refine tF 10 rfl rfl S ?_
     refine ro 11 rfl (zO H 6 [Sv a29 (out.length+1) c30] sizeOf27 fun w34 H=>?_)
     try dsimp only [List.set] at H
     refine ⟨H.pick [2,3,4,5,7,8,10] [2,3,4],(xP qh ((meet ⟨_,a29,c30,a23,c24,G32,uE1,N,H.Jc 11 5 [2,3,4,5,6,7,8,9,10] [0,1,2,3] qo qo⟩)))⟩
    obtain ⟨G35,hn36,h37⟩:=H.rowIsI 8 rfl
    have sz38:=H.base.size
    have lt39:=all_two (H.ltN (L:=[rFout]) [2]) (H.ltK (K0.behind 3 rfl))
    refine oc (cloneI_ok _ cs h37 qg) ?_
    rintro v43 w41 r43 x42
    replace H:=H.zJ x42 r43
    obtain ⟨a44,c45,rfl,hc46,hm47⟩:=H.jA 0 rfl
    refine ⟨H.pick [1,2,3,4,6,7,9] [0,1,2],(jK [4,7] qh qm (Qy rfl ?_ (Qy rfl ?_ jL)))⟩
    ·skip
     refine zT (Sv raout out.length rcout) isAgg27 rfl (H.cell 5 rfl rfl) (⟨H.pick [1,2,3,4,6,7,9] [0,1,2],(ro 7 rfl (zA H underlying27 ti22 [Sv a44 cs.length c45] fun b48 w49 H=>⟨H.pick [2,3,4,5,7,8,10] [0,1,2],(ro 8 rfl ?_)⟩))⟩)
     obtain ⟨G53,N,hn54,H⟩:=H.jb 1 rfl N (fun F hF b hb=>(List.mem_append.1 (show F∈[rFout]++Ns from hF)).elim (fun h=>(H.jU (L:=[rFout]) [2]) F h b hb) fun h=>H.awayK (K0.behind 3 rfl) F h b hb)
     try dsimp only [List.set] at H
     refine zG H 9 rfl 0 rfl underlying27 ti22 rfl qj rfl rfl rfl (by simp [Value.oneCell',Value.cells]) qp qf fun a50 c51 w52 H=>?_
     try dsimp only [List.set] at H
     replace H:=H.jd 3 rfl 0 rfl
     replace N:Fresh W0.heap.size ((rFout++G53) :: Ns):=(N.Jc 2 [1,0] qo).join
     refine ⟨H.pick [2,3,4,5,7,8,10] [2,3,4],?_⟩
     have S:=H.yU [2,3,4,5,7,8,10] [2,3,4]
     refine rtp 9 (pp bl 0) S ?_
     refine tF 10 rfl rfl S ?_
     refine ro 11 rfl (zO H 6 [Sv a50 (out.length+1) c51] sizeOf27 fun w55 H=>?_)
     try dsimp only [List.set] at H
     refine ⟨H.pick [2,3,4,5,7,8,10] [2,3,4],(xP qh ((meet ⟨_,a50,c51,a44,c45,G53,uE1,N,H.Jc 11 5 [2,3,4,5,6,7,8,9,10] [0,1,2,3] qo qo⟩)))⟩
    refine zA H underlying27 ti22 [Sv a44 cs.length c45] fun b56 w57 H=>⟨H.pick [2,3,4,5,7,8,10] [0,1,2],(ro 4 rfl (zT (Sv raout out.length rcout) isAgg27 rfl (H.cell 6 rfl rfl) (⟨H.pick [2,3,4,5,7,8,10] [0,1,2],(ro 8 rfl ?_)⟩)))⟩
    obtain ⟨G61,N,hn62,H⟩:=H.jb 1 rfl N (fun F hF b hb=>(List.mem_append.1 (show F∈[rFout]++Ns from hF)).elim (fun h=>(H.jU (L:=[rFout]) [2]) F h b hb) fun h=>H.awayK (K0.behind 3 rfl) F h b hb)
    try dsimp only [List.set] at H
    refine zG H 9 rfl 0 rfl underlying27 ti22 rfl qj rfl rfl rfl (by simp [Value.oneCell',Value.cells]) qp qf fun a58 c59 w60 H=>?_
    try dsimp only [List.set] at H
    replace H:=H.jd 3 rfl 0 rfl
    replace N:Fresh W0.heap.size ((rFout++G61) :: Ns):=(N.Jc 2 [1,0] qo).join
    refine ⟨H.pick [2,3,4,5,7,8,10] [2,3,4],?_⟩
    have S:=H.yU [2,3,4,5,7,8,10] [2,3,4]
    refine rtp 9 (pp bl 0) S ?_
    refine tF 10 rfl rfl S ?_
    refine ro 11 rfl (zO H 6 [Sv a58 (out.length+1) c59] sizeOf27 fun w63 H=>?_)
    try dsimp only [List.set] at H
    refine ⟨H.pick [2,3,4,5,7,8,10] [2,3,4],(xP qh ((meet ⟨_,a58,c59,a44,c45,G61,uE1,N,H.Jc 11 5 [2,3,4,5,6,7,8,9,10] [0,1,2,3] qo qo⟩)))⟩
   clear H N
   rintro ρ w64 ⟨xY,a7,c8,a9,c10,G11,rfl,N,H⟩
   refine t_n (zcr (sps [pp bl 0,pp bl 0] (oF rfl (oL rfl (H.cell 4 rfl rfl) (oN rfl (sps [Bv (decide ((out.length+1:Int)≤2000)),Bv (decide ((out.length+1:Int)≤2000))] (zjr (ret1 (Bv (decide ((out.length+1:Int)≤2000))) rfl rfl ⟨_,rfl,(sps [Bv (decide ((out.length+1:Int)≤2000)),Bv (decide ((out.length+1:Int)≤2000))] (zjr (t_r (ret1 (Bv (decide ((out.length+1:Int)≤2000))) rfl rfl ⟨_,rfl,?_⟩))))⟩))))))))
   rw [pack_fullI qf p3 ‹FullOk _ _› p2,show decide ((out.length+1:Int)≤2000)=dec ((out++[cs]).length≤2000) from dec_eq (by simp;omega)]
   exact ⟨cs,a7,out.length+1,c8,rxout++[Value.slice a9 cs.length c10],(rFout++G11),(by first | rfl | omega | (have:=‹_=(List.set _ _ _).length›;rw [List.length_set] at this;omega)),(by first | rfl | assumption | exact pack_keep ‹_› j2),rfl,N,H.Jc 9 4 [0,1,2,3,4,5,6,7,8] [2,3,0] qo qo⟩
  replace h5:=xq h5
  replace h5:=vG h5
  refine zk [20,21,22] (sps [Bv true,Bv true] (zjr (t_r (ret1 (Bv true) rfl rfl ⟨_,rfl,?_⟩))))
  rw [pack_noneI qf ‹_› p2,yH p2]
  exact ⟨cs,raout,out.length,rcout,rxout,rFout,(by first | rfl | omega | (have:=‹_=(List.set _ _ _).length›;rw [List.length_set] at this;omega)),(by first | rfl | assumption | exact pack_keep ‹_› j2),rfl,N,H.Jc 9 3 [0,1,2,3,4,5,6,7,8] [0,1,2] qo qo⟩
 refine qW (t_n (zcc (sp (yI 0) (zjn (qX ?_)))))
 obtain ⟨t1,t2,t3,t4,t5,t6⟩:=p1.times (k:=i) qf
 refine zD (fun m' ρ w65=>∃ (xY:Env) (n:Nat) (Y4:yOA) (YZ:Nat) (Y3:Nat) (out_lists:yLL) (YU:List Value) (XQ:yLN) (cs_1:yLI),ρ=upd (upd (upd (upd (upd (upd xY 0 (yI i)) 1 (Sv arest rest.length crest)) 2 (pp bp 0)) 5 (pp bc 0)) 6 (pp bf 0)) 10 (yI n)∧out_lists=(gath out (begins (cs.take i) (jM parts (f - 1) i rest n)))∧((n:Int)≤jD (parts[i]!) rest+1)∧(cs_1.length=parts.length)∧(cs_1.take i=cs.take i)∧((gath out (begins (cs.take i) (jM parts (f - 1) i rest n))).length≤2000)∧m' =(jD (parts[i]!) rest+1 - (n:Int)).toNat∧Fresh W0.heap.size (XQ :: Ns)∧St W0 w65 ((.box bp [Sv zo parts.length zg] 27) :: (.box bi [.func (.func 177) #[] #[pp bq 0]] 170) :: (.box bq [Sv zo parts.length zg] 27) :: (.box bo [pp bl 0] 219) :: (.box bl [Sv Y4 YZ Y3] 221) :: (.box bc [Sv racs cs.length rccs] 22) :: (.box bf [.func (.func 201) #[] #[pp bp 0,pp bi 0,pp bo 0,pp bc 0,pp bf 0]] 222) :: (rr Y4 YZ Y3 22 1 YU) :: (rr racs cs.length rccs 2 1 (cs_1.map (Value.int .i64))) :: ps) ((sF false Frest arest crest rest) :: (sF false Fparts zo zg parts) :: (zf true XQ YU out_lists) :: Γ)) ((jD (parts[i]!) rest+1 - (0:Int)).toNat) ⟨_,0,raout,out.length,rcout,out,rxout,rFout,cs,uE6,(by exact pack_startI p2),qf,ql,(by rfl),(by rw [← pack_startI p2];exact p2),rfl,N,H⟩ ?_
 clear H N
 rintro m' ρ w66 ⟨xY,n,Y4,YZ,Y3,out_lists,YU,XQ,cs_1,rfl,rfl,i0,j1,j2,j3,rfl,N,H⟩
 have hn_out_lists:=H.zq (α:=yLI) 7 rfl 2 rfl qj
 have hn_cs:=H.YX 8 rfl
 refine zcc (sp (yI n) (oL rfl (H.cell 0 rfl rfl) (sp (yI i) ?_)))
 obtain ⟨b67,o68,rfl⟩:=H.addr 1 rfl qf
 obtain ⟨ae70,ce70,Fe70,H⟩:=H.vV 1 rfl i i qf qf qf
 refine oI rfl rfl (oL rfl (H.xW 1 rfl 0 rfl) (sp (Sv arest rest.length crest) ?_))
 obtain ⟨t1,t2,t3,t4,t5,t6⟩:=p1.times (k:=i) qf
 refine sw (oq (timesIn_ok _ (parts[i]!) rest (H.get 0 rfl).1 (H.get 2 rfl).1 qg qg) H fun w72 H=>sp (Bv (decide ((n:Int)≤(jD (parts[i]!) rest)))) (zjn (cD rfl (fun h74=>?_) (fun h74=>?_))))
 ·skip
  refine qW (t_n (xQ (qX (zcr (oL rfl (H.cell 5 rfl rfl) (sps [yI i,yI n] ?_))))))
  obtain ⟨b75,rfl⟩:=H.Qn 8 rfl qf
  refine oI rfl rfl (sw (o_storeInt H 8 rfl n sizeOf2 rfl rfl (i:=i) qf qf fun w76 H=>?_))
  try dsimp only [List.set] at H
  refine zjn (xQ ?_)
  refine c_drawK2 rfl H [0,1,2,3,5,6] [0,1,2,3] fun H=>?_
  have S:=H.yU [0,1,2,3,5,6] [0,1,2,3]
  refine tL 0 rfl rfl (fun _ h=>h.cell 5 rfl rfl) S ?_
  refine rtp 1 (yI i) S ?_
  refine rt 2 (yI (i+1)) (y_add i 1 rfl rfl qf) S ?_
  refine rtp 3 (Sv arest rest.length crest) S ?_
  refine tL 4 rfl rfl (fun _ h=>h.cell 0 rfl rfl) S ?_
  refine rtp 5 (yI i) S ?_
  refine tI 6 rfl rfl rfl S ?_
  refine tL 7 rfl rfl (fun _ h=>h.xW 1 rfl 0 rfl) S ?_
  refine rtp 8 (yI n) S ?_
  refine rt 9 (yI (-n)) (y_neg n rfl qf) S ?_
  refine ro 10 rfl ?_
  obtain ⟨u1,u2,u3,u4⟩:=p1.plus (k:=i) qf (n:=(n:Int)) qf qf
  have sz78:=H.base.size
  have lt79:=all_two (H.ltN (L:=[XQ]) [4]) (H.ltK (K0.behind 5 rfl))
  refine oc (plus_ok _ rest (parts[i]!) (-n) (H.get 2 rfl).1 (H.get 0 rfl).1 qg qg qg) ?_
  rintro v83 w81 r83 x82
  replace H:=H.zJ x82 r83
  obtain ⟨a84,c85,rfl,hc86,hm87⟩:=H.jA 0 rfl
  refine ⟨H.pick [1,2,3,4,6,7] [0,1,2,3],(ro 11 rfl ?_)⟩
  obtain ⟨G88,N,hn89,H⟩:=H.jb 0 rfl N (fun F hF b hb=>(List.mem_append.1 (show F∈[XQ]++Ns from hF)).elim (fun h=>(H.jU (L:=[XQ]) [4]) F h b hb) fun h=>H.awayK (K0.behind 5 rfl) F h b hb)
  try dsimp only [List.set] at H
  replace H:=H.unfreeI 0 rfl
  have H1:St W0 w81 ((.box bp [Sv (aa b67 o68) parts.length zg] 27) :: (.box bi [.func (.func 177) #[] #[pp bq 0]] 170) :: (.box bq [Sv (aa b67 o68) parts.length zg] 27) :: (.box bo [pp bl 0] 219) :: (.box bl [Sv Y4 YZ Y3] 221) :: (.box bc [Sv (aa b75 0) cs.length rccs] 22) :: (.box bf [.func (.func 201) #[] #[pp bp 0,pp bi 0,pp bo 0,pp bc 0,pp bf 0]] 222) :: (rr Y4 YZ Y3 22 1 YU) :: (rr (aa b75 0) cs.length rccs 2 1 ((cs_1.set i n).map (Value.int .i64))) :: (rr none 0 0 0 1 []) :: ps) ((sF false G88 a84 c85 (ji rest (parts[i]!) (-n))) :: (sF false Fparts (aa b67 o68) zg parts) :: (zf true XQ YU (gath out (begins (cs.take i) (jM parts (f - 1) i rest n)))) :: (sF false G88 a84 c85 (ji rest (parts[i]!) (-n))) :: (sF true G88 a84 c85 (ji rest (parts[i]!) (-n))) :: (sF false Fe70 ae70 ce70 (parts[i]!)) :: (atF b67 (o68+(i:Int).toNat * 1) [Sv ae70 ((parts[i]!).length) ce70]) :: (sF false Frest arest crest rest) :: (sF false Fparts (aa b67 o68) zg parts) :: Γ):=H.Jc 10 7 [1,2,3,4,5,6,7,8,9,0] [0,5,6,0,1,2,3,4,5] qo qo
  have N1:Fresh _ (XQ :: G88 :: Ns):=(N.Jc 2 [1,0] qo)
  have K1:Kept (Ns) ((sF false G88 a84 c85 (ji rest (parts[i]!) (-n))) :: (sF true G88 a84 c85 (ji rest (parts[i]!) (-n))) :: (sF false Fe70 ae70 ce70 (parts[i]!)) :: (atF b67 (o68+(i:Int).toNat * 1) [Sv ae70 ((parts[i]!).length) ce70]) :: (sF false Frest arest crest rest) :: (sF false Fparts (aa b67 o68) zg parts) :: Γ):=K0.behind 6 rfl
  replace K1:=K1.cons (F:=G88) 0 rfl rfl
  refine o_callF #[yI (i+1),Sv a84 ((ji rest (parts[i]!) (-n)).length) c85,pp bp 0,pp bi 0,pp bo 0,pp bc 0,pp bf 0] rfl rfl call201 (IH (f - 1) qf (i+1) (ji rest (parts[i]!) (-n)) parts (gath out (begins (cs.take i) (jM parts (f - 1) i rest n))) (cs_1.set i n) a84 c85 G88 (aa b67 o68) zg Fparts bp bi bq bo bl bc bf Y4 YZ Y3 YU XQ (aa b75 0) cs.length rccs H1 N1 K1 qf (by first | assumption | exact u4) (by first | assumption | exact j3 | (simp;done)) (by first | assumption | (rw [List.length_set];exact j1) | (simp;done))) ?_
  clear H H1 N1 K1
  rintro _ w90 ⟨cs91,raout91,rnout91,rcout91,rxout91,rFout91,hx92,hx93,rfl,N,H⟩
  obtain rfl:=H.zq (α:=yLI) 7 rfl 2 rfl qj
  refine ⟨H.pick [0,1,2,3,5,6] [5,6,7,8],(rtp 12 (Bv (!(dec ((gath (gath out (begins (cs.take i) (jM parts (f - 1) i rest n))) (begins ((cs_1.set i n).take (i+1)) (packs parts (parts.length - (i+1)) (i+1) (ji rest (parts[i]!) (-n))))).length≤2000)))) (H.pick [0,1,2,3,5,6] [5,6,7,8]) ?_)⟩
  refine xP qh (t_n (cQ rfl (fun h94=>?_) (fun h94=>?_)))
  ·skip
   refine zcr (sp (Bv false) (zjr (zr5 (ret1 (Bv false) rfl rfl ⟨_,rfl,?_⟩))))
   have e1:=pack_stepI (out:=out) p0 qf j1 j2 j3
   have e2:=‹¬ (gath (gath _ _) _).length≤2000›
   rw [e1] at e2
   rw [pack_endI (n:=n+1) p0 qf qf qf (.inr e2),← e1,xx (by rw [e1];exact e2)]
   exact ⟨cs91,raout91,(gath (gath out (begins (cs.take i) (jM parts (f - 1) i rest n))) (begins ((cs_1.set i n).take (i+1)) (packs parts (parts.length - (i+1)) (i+1) (ji rest (parts[i]!) (-n))))).length,rcout91,rxout91,rFout91,(by first | rfl | omega | (have:=‹_=(List.set _ _ _).length›;rw [List.length_set] at this;omega)),(by first | rfl | assumption | exact pack_keep ‹_› j2),rfl,(N.Jc 2 [0] qo),H.Jc 10 9 [0,1,2,3,4,5,6,7,8] [7,1,2] qo qo⟩
  refine qW (b_n (t_n (xO (sp (yI n) (sw (zB n 1 rfl rfl qf (sp (yI (n+1)) (xM ?_))))))))
  refine qY (m' :=(jD (parts[i]!) rest+1 - ((n+1):Int)).toNat) qf ⟨_,n+1,raout91,(gath (gath out (begins (cs.take i) (jM parts (f - 1) i rest n))) (begins ((cs_1.set i n).take (i+1)) (packs parts (parts.length - (i+1)) (i+1) (ji rest (parts[i]!) (-n))))).length,rcout91,(gath (gath out (begins (cs.take i) (jM parts (f - 1) i rest n))) (begins ((cs_1.set i n).take (i+1)) (packs parts (parts.length - (i+1)) (i+1) (ji rest (parts[i]!) (-n))))),rxout91,rFout91,cs91,uE6,?_,?_,?_,?_,?_,rfl,(N.Jc 2 [0] qo),H.Jc 10 9 [0,1,2,3,4,5,6,7,8] [7,8,2] qo qo⟩
  · exact pack_stepI p0 qf j1 j2 j3
  · omega
  · have:=‹_=(List.set _ _ _).length›;rw [List.length_set] at this;omega
  · exact pack_keep ‹_› j2
  · rw [← pack_stepI p0 qf j1 j2 j3];assumption
 refine zx4 (zcr (sp (Bv true) (zjr (ret1 (Bv true) rfl rfl ⟨_,rfl,?_⟩))))
 rw [pack_endI (f:=f) (n:=n) p0 qf i0 qf (.inl qf),yH j3]
 exact ⟨cs_1,Y4,YZ,Y3,YU,XQ,(by first | rfl | omega | (have:=‹_=(List.set _ _ _).length›;rw [List.length_set] at this;omega)),(by first | rfl | assumption | exact pack_keep ‹_› j2),rfl,N,H.Jc 9 5 [0,1,2,3,4,5,6,7,8] [2,3,4] qo qo⟩

theorem packFrom_ok (f:Nat):packFrom_ok_S f:=Nat.strongRecOn (motive:=packFrom_ok_S) f fun f IH=>by unfold packFrom_ok_S;intros;apply packFrom_ok_step f IH <;> assumption

theorem maxPack_ok (w:World) (b:yLI) (parts:yLL) {ab:yOA} {Fb:yLN} {zo:yOA} {zg:Nat} {Fparts:yLN} (hb:qO.rep w Fb [Sv ab b.length cb] b) (hparts:qO.rep w Fparts [Sv zo parts.length zg] parts) (p0:YL parts b) (p1:1≤parts.length):Calls Tryz.prog 142 #[Sv ab b.length cb,Sv zo parts.length zg] w (Ret (fun v w' =>∃ (ra0:yOA) (rn0:Nat) (rc0:Nat) (rx0:List Value) (rF0:yLN),v=.tuple #[Sv ra0 rn0 rc0,yI ((vC b parts).2)]∧Fresh w.heap.size [rF0]∧St w w' [rr ra0 rn0 rc0 22 1 rx0] [zf true rF0 rx0 ((vC b parts).1)]) w):=by
 refine en func142 ntmps142 ?_
 have H:=((St.start w).arg hparts).arg hb
 have nhb:=qM hb
 have nhparts:=qM hparts
 clear hb hparts
 have N:=Fresh.nil w.heap.size
 have p3:=p0.small
 have p4:=p0.smallB
 refine zcr (sw (vU H [Sv zo parts.length zg] fun b1 w2 H=>sps [yN,yI 0] (zjc (sp (Sv ab b.length cb) (oL rfl (H.cell 0 rfl rfl) (sp (.func (.func 177) #[] #[pp b1 0]) (sw (vJ #[Sv ab b.length cb,Sv zo parts.length zg,.func (.func 177) #[] #[pp b1 0]] rfl rfl call176 (en func176 ntmps176 ?_)))))))))
 refine zcr (sw (vU H [Sv zo parts.length zg] fun b3 w4 H=>sw (vU H [.func (.func 177) #[] #[pp b1 0]] fun b5 w6 H=>sps [yN,yI 0] (zjcc (sp (Sv ab b.length cb) (oL rfl (H.cell 1 rfl rfl) (sw (oq (bagAndParts_ok _ b parts (H.get 0 rfl).1 (H.get 1 rfl).1 qg qg) H fun w8 H=>sp (yI 0) (zjc (sps [yI 0,Bv false] (zjn (xE false rfl (fun h=>absurd h qj) (fun _=>qW (t_n (zcc (sp (Sv ab b.length cb) ?_))))))))))))))))
 refine sw (oq (V6 _ b (H.get 0 rfl).1 (by first | assumption | exact vX ql | exact QD ql)) H fun w10 H=>sp (Bv (decide ((Yd b:Int) > 16))) (zjn (cD rfl (fun h12=>?_) (fun h12=>?_))))
 ·skip
  refine zcr (sps [yN,yI 3] (zjr (t_r (ret2 yN (yI 3) rfl rfl rfl ⟨_,rfl,?_⟩))))
  replace H:=H.erases [1,0]
  dsimp only [vS,List.eraseIdx] at H
  refine sps [yN,yI 3,yN,yI 3] (zjr ?_)
  replace H:=H.nilRow 22 1
  replace H:=H.vT (α:=yLI)
  refine ret2 yN (yI 3) rfl rfl rfl ⟨_,rfl,?_,H.base⟩
  first | rw [all_a ql] | rw [all_bI (cs:=(List.replicate parts.length (0:Int))) ql qf]
  exact ⟨none,0,0,[],[],rfl,N.emp,H.pick [0] [0]⟩
 refine qW (t_n (xQ ?_))
 refine c_cut (fun ρ w17=>∃ (xY:Env) (b13:Nat) (b14:Nat) (b15:Nat) (b16:Nat),ρ=upd (upd (upd (upd (upd xY 0 (Sv ab b.length cb)) 4 (pp b3 0)) 5 (pp b5 0)) 9 (pp b13 0)) 10 (pp b14 0)∧Fresh w.heap.size []∧St w w17 [.box b14 [Sv (aa b15 0) parts.length parts.length] 22,.box b13 [pp b16 0] 219,rr (aa b15 0) parts.length parts.length 2 1 ((List.replicate parts.length (0:Int)).map (Value.int .i64)),.box b16 [yN] 221,.box b5 [.func (.func 177) #[] #[pp b1 0]] 170,.box b3 [Sv zo parts.length zg] 27,.box b1 [Sv zo parts.length zg] 27] [sF false Fb ab cb b,sF false Fparts zo zg parts]) ?_ ?_
 ·skip
  refine jh rfl H fun H=>?_
  refine r_have (fun ρ w23=>∃ (xY:Env) (b19:Nat) (b20:Nat) (b21:Nat),ρ=upd (upd (upd (upd (upd (upd (upd xY 0 (Sv ab b.length cb)) 4 (pp b3 0)) 5 (pp b5 0)) 9 (pp b20 0)) 10 (pp b21 0)) 22 (pp b19 0)) 24 (yI parts.length)∧Fresh w.heap.size []∧St w w23 [.box b21 [yN] 22,.box b20 [.pointer none] 219,.box b19 [yN] 221,.box b5 [.func (.func 177) #[] #[pp b1 0]] 170,.box b3 [Sv zo parts.length zg] 27,.box b1 [Sv zo parts.length zg] 27] [sF false Fb ab cb b,sF false Fparts zo zg parts]) 3 #[true,true,true,true,false,true,true,false,false] ?_ fun L22=>?_
  ·skip
   rintro ρ w24 ⟨xY,b19,b20,b21,rfl,N,H⟩
   refine jK [4,7] qh qm (Qy rfl ?_ (Qy rfl ?_ jL))
   ·skip
    refine Vg H underlying22 ti2 parts.length rfl rfl qf qf qf fun b25 w26 H=>⟨H.pick [4,5,6] [0,1],(ro 7 rfl (zO H 2 [pp b19 0] sizeOf219 fun w27 H=>⟨H.pick [4,5,6] [0,1],(ro 8 rfl (zO H 1 [Sv (aa b25 0) parts.length parts.length] sizeOf22 fun w28 H=>⟨H.pick [4,5,6] [0,1],(xP qh ((meet ⟨_,b20,b21,b25,b19,uE5,N,H.pick [1,2,0,3,4,5,6] [0,1]⟩)))⟩))⟩))⟩
   refine zO H 1 [pp b19 0] sizeOf219 fun w29 H=>⟨H.pick [3,4,5] [0,1],(ro 4 rfl (Vg H underlying22 ti2 parts.length rfl rfl qf qf qf fun b30 w31 H=>⟨H.pick [4,5,6] [0,1],(ro 8 rfl (zO H 1 [Sv (aa b30 0) parts.length parts.length] sizeOf22 fun w32 H=>⟨H.pick [4,5,6] [0,1],(xP qh ((meet ⟨_,b20,b21,b30,b19,uE5,N,H.pick [1,2,0,3,4,5,6] [0,1]⟩)))⟩))⟩))⟩
  refine r_have (fun ρ w36=>∃ (xY:Env) (b33:Nat) (b34:Nat),ρ=upd (upd (upd (upd (upd xY 0 (Sv ab b.length cb)) 4 (pp b3 0)) 5 (pp b5 0)) 22 (pp b33 0)) 25 (Sv (aa b34 0) parts.length parts.length)∧Fresh w.heap.size []∧St w w36 [rr (aa b34 0) parts.length parts.length 2 1 ((List.replicate parts.length (0:Int)).map (Value.int .i64)),.box b33 [yN] 221,.box b5 [.func (.func 177) #[] #[pp b1 0]] 170,.box b3 [Sv zo parts.length zg] 27,.box b1 [Sv zo parts.length zg] 27] [sF false Fb ab cb b,sF false Fparts zo zg parts]) 4 #[true,true,true,true,true,false,false,false,false] ?_ fun L35=>?_
  ·skip
   rintro ρ w37 ⟨xY,b33,b34,rfl,N,H⟩
   refine jK [5,6] qh qm (Qy rfl ?_ (Qy rfl ?_ jL))
   ·skip
    refine zh H ti219 [.pointer none] fun b38 w39 H=>⟨H.pick [3,4,5] [0,1],(ro 6 rfl (zh H ti22 [yN] fun b40 w41 H=>⟨H.pick [4,5,6] [0,1],(ro 7 rfl (zO H 1 [pp b33 0] sizeOf219 fun w42 H=>⟨H.pick [4,5,6] [0,1],(ro 8 rfl (zO H 0 [Sv (aa b34 0) parts.length parts.length] sizeOf22 fun w43 H=>⟨H.pick [4,5,6] [0,1],(xP qh ((meet ⟨_,b38,b40,b34,b33,uE5,N,H⟩)))⟩))⟩))⟩))⟩
   refine zh H ti22 [yN] fun b44 w45 H=>⟨H.pick [3,4,5] [0,1],(ro 5 rfl (zh H ti219 [.pointer none] fun b46 w47 H=>⟨H.pick [4,5,6] [0,1],(ro 7 rfl (zO H 0 [pp b33 0] sizeOf219 fun w48 H=>⟨H.pick [4,5,6] [0,1],(ro 8 rfl (zO H 1 [Sv (aa b34 0) parts.length parts.length] sizeOf22 fun w49 H=>⟨H.pick [4,5,6] [0,1],(xP qh ((meet ⟨_,b46,b44,b34,b33,uE5,N,H.pick [1,0,2,3,4,5,6] [0,1]⟩)))⟩))⟩))⟩))⟩
  refine r_have (fun ρ w53=>∃ (xY:Env) (b50:Nat) (b51:Nat),ρ=upd (upd (upd (upd (upd (upd xY 0 (Sv ab b.length cb)) 4 (pp b3 0)) 5 (pp b5 0)) 9 (pp b51 0)) 22 (pp b50 0)) 24 (yI parts.length)∧Fresh w.heap.size []∧St w w53 [.box b51 [.pointer none] 219,.box b50 [yN] 221,.box b5 [.func (.func 177) #[] #[pp b1 0]] 170,.box b3 [Sv zo parts.length zg] 27,.box b1 [Sv zo parts.length zg] 27] [sF false Fb ab cb b,sF false Fparts zo zg parts]) 4 #[true,true,true,true,false,true,false,false,false] ?_ fun L52=>?_
  ·skip
   rintro ρ w54 ⟨xY,b50,b51,rfl,N,H⟩
   refine jK [4,6] qh qm (Qy rfl ?_ (Qy rfl ?_ jL))
   ·skip
    refine Vg H underlying22 ti2 parts.length rfl rfl qf qf qf fun b55 w56 H=>⟨H.pick [3,4,5] [0,1],(ro 6 rfl (zh H ti22 [yN] fun b57 w58 H=>⟨H.pick [4,5,6] [0,1],(ro 7 rfl (zO H 2 [pp b50 0] sizeOf219 fun w59 H=>⟨H.pick [4,5,6] [0,1],(ro 8 rfl (zO H 0 [Sv (aa b55 0) parts.length parts.length] sizeOf22 fun w60 H=>⟨H.pick [4,5,6] [0,1],(xP qh ((meet ⟨_,b51,b57,b55,b50,uE5,N,H.pick [0,2,1,3,4,5,6] [0,1]⟩)))⟩))⟩))⟩))⟩
   refine zh H ti22 [yN] fun b61 w62 H=>⟨H.pick [3,4,5] [0,1],(Vr L22 ⟨_,b50,b51,b61,uE7,N,H⟩)⟩
  refine r_have (fun ρ w66=>∃ (xY:Env) (b63:Nat) (b64:Nat),ρ=upd (upd (upd (upd (upd (upd xY 0 (Sv ab b.length cb)) 4 (pp b3 0)) 5 (pp b5 0)) 10 (pp b64 0)) 22 (pp b63 0)) 24 (yI parts.length)∧Fresh w.heap.size []∧St w w66 [.box b64 [yN] 22,.box b63 [yN] 221,.box b5 [.func (.func 177) #[] #[pp b1 0]] 170,.box b3 [Sv zo parts.length zg] 27,.box b1 [Sv zo parts.length zg] 27] [sF false Fb ab cb b,sF false Fparts zo zg parts]) 4 #[true,true,true,true,false,false,true,false,false] ?_ fun L65=>?_
  ·skip
   rintro ρ w67 ⟨xY,b63,b64,rfl,N,H⟩
   refine jK [4,5] qh qm (Qy rfl ?_ (Qy rfl ?_ jL))
   ·skip
    refine Vg H underlying22 ti2 parts.length rfl rfl qf qf qf fun b68 w69 H=>⟨H.pick [3,4,5] [0,1],(ro 5 rfl (zh H ti219 [.pointer none] fun b70 w71 H=>⟨H.pick [4,5,6] [0,1],(ro 7 rfl (zO H 0 [pp b63 0] sizeOf219 fun w72 H=>⟨H.pick [4,5,6] [0,1],(ro 8 rfl (zO H 2 [Sv (aa b68 0) parts.length parts.length] sizeOf22 fun w73 H=>⟨H.pick [4,5,6] [0,1],(xP qh ((meet ⟨_,b70,b64,b68,b63,uE5,N,H.pick [2,0,1,3,4,5,6] [0,1]⟩)))⟩))⟩))⟩))⟩
   refine zh H ti219 [.pointer none] fun b74 w75 H=>⟨H.pick [3,4,5] [0,1],(Vr L22 ⟨_,b63,b74,b64,uE7,N,H.pick [1,0,2,3,4,5] [0,1]⟩)⟩
  refine r_have (fun ρ w79=>∃ (xY:Env) (b76:Nat) (b77:Nat),ρ=upd (upd (upd (upd (upd (upd xY 0 (Sv ab b.length cb)) 4 (pp b3 0)) 5 (pp b5 0)) 9 (pp b77 0)) 21 (.agg #[yN])) 25 (Sv (aa b76 0) parts.length parts.length)∧Fresh w.heap.size []∧St w w79 [.box b77 [.pointer none] 219,rr (aa b76 0) parts.length parts.length 2 1 ((List.replicate parts.length (0:Int)).map (Value.int .i64)),.box b5 [.func (.func 177) #[] #[pp b1 0]] 170,.box b3 [Sv zo parts.length zg] 27,.box b1 [Sv zo parts.length zg] 27] [sF false Fb ab cb b,sF false Fparts zo zg parts]) 4 #[true,false,true,true,true,true,false,false,false] ?_ fun L78=>?_
  ·skip
   rintro ρ w80 ⟨xY,b76,b77,rfl,N,H⟩
   refine jK [1,6] qh qm (Qy rfl ?_ (Qy rfl ?_ jL))
   ·skip
    refine vU H [yN] fun b81 w82 H=>⟨H.pick [3,4,5] [0,1],(ro 6 rfl (zh H ti22 [yN] fun b83 w84 H=>⟨H.pick [4,5,6] [0,1],(ro 7 rfl (zO H 2 [pp b81 0] sizeOf219 fun w85 H=>⟨H.pick [4,5,6] [0,1],(ro 8 rfl (zO H 0 [Sv (aa b76 0) parts.length parts.length] sizeOf22 fun w86 H=>⟨H.pick [4,5,6] [0,1],(xP qh ((meet ⟨_,b77,b83,b76,b81,uE5,N,H.pick [0,2,3,1,4,5,6] [0,1]⟩)))⟩))⟩))⟩))⟩
   refine zh H ti22 [yN] fun b87 w88 H=>⟨H.pick [3,4,5] [0,1],(ro 1 rfl (vU H [yN] fun b89 w90 H=>⟨H.pick [4,5,6] [0,1],(ro 7 rfl (zO H 2 [pp b89 0] sizeOf219 fun w91 H=>⟨H.pick [4,5,6] [0,1],(ro 8 rfl (zO H 1 [Sv (aa b76 0) parts.length parts.length] sizeOf22 fun w92 H=>⟨H.pick [4,5,6] [0,1],(xP qh ((meet ⟨_,b77,b87,b76,b89,uE5,N,H.pick [1,2,3,0,4,5,6] [0,1]⟩)))⟩))⟩))⟩))⟩
  refine r_have (fun ρ w96=>∃ (xY:Env) (b93:Nat) (b94:Nat),ρ=upd (upd (upd (upd (upd (upd xY 0 (Sv ab b.length cb)) 4 (pp b3 0)) 5 (pp b5 0)) 10 (pp b94 0)) 21 (.agg #[yN])) 25 (Sv (aa b93 0) parts.length parts.length)∧Fresh w.heap.size []∧St w w96 [.box b94 [yN] 22,rr (aa b93 0) parts.length parts.length 2 1 ((List.replicate parts.length (0:Int)).map (Value.int .i64)),.box b5 [.func (.func 177) #[] #[pp b1 0]] 170,.box b3 [Sv zo parts.length zg] 27,.box b1 [Sv zo parts.length zg] 27] [sF false Fb ab cb b,sF false Fparts zo zg parts]) 4 #[true,false,true,true,true,false,true,false,false] ?_ fun L95=>?_
  ·skip
   rintro ρ w97 ⟨xY,b93,b94,rfl,N,H⟩
   refine jK [1,5] qh qm (Qy rfl ?_ (Qy rfl ?_ jL))
   ·skip
    refine vU H [yN] fun b98 w99 H=>⟨H.pick [3,4,5] [0,1],(ro 5 rfl (zh H ti219 [.pointer none] fun b100 w101 H=>⟨H.pick [4,5,6] [0,1],(ro 7 rfl (zO H 0 [pp b98 0] sizeOf219 fun w102 H=>⟨H.pick [4,5,6] [0,1],(ro 8 rfl (zO H 2 [Sv (aa b93 0) parts.length parts.length] sizeOf22 fun w103 H=>⟨H.pick [4,5,6] [0,1],(xP qh ((meet ⟨_,b100,b94,b93,b98,uE5,N,H.pick [2,0,3,1,4,5,6] [0,1]⟩)))⟩))⟩))⟩))⟩
   refine zh H ti219 [.pointer none] fun b104 w105 H=>⟨H.pick [3,4,5] [0,1],(ro 1 rfl (vU H [yN] fun b106 w107 H=>⟨H.pick [4,5,6] [0,1],(ro 7 rfl (zO H 1 [pp b106 0] sizeOf219 fun w108 H=>⟨H.pick [4,5,6] [0,1],(ro 8 rfl (zO H 2 [Sv (aa b93 0) parts.length parts.length] sizeOf22 fun w109 H=>⟨H.pick [4,5,6] [0,1],(xP qh ((meet ⟨_,b104,b94,b93,b106,uE5,N,H.pick [2,1,3,0,4,5,6] [0,1]⟩)))⟩))⟩))⟩))⟩
  refine r_have (fun ρ w113=>∃ (xY:Env) (b110:Nat) (b111:Nat),ρ=upd (upd (upd (upd (upd (upd (upd xY 0 (Sv ab b.length cb)) 4 (pp b3 0)) 5 (pp b5 0)) 9 (pp b110 0)) 10 (pp b111 0)) 21 (.agg #[yN])) 24 (yI parts.length)∧Fresh w.heap.size []∧St w w113 [.box b111 [yN] 22,.box b110 [.pointer none] 219,.box b5 [.func (.func 177) #[] #[pp b1 0]] 170,.box b3 [Sv zo parts.length zg] 27,.box b1 [Sv zo parts.length zg] 27] [sF false Fb ab cb b,sF false Fparts zo zg parts]) 4 #[true,false,true,true,false,true,true,false,false] ?_ fun L112=>?_
  ·skip
   rintro ρ w114 ⟨xY,b110,b111,rfl,N,H⟩
   refine jK [1,4] qh qm (Qy rfl ?_ (Qy rfl ?_ jL))
   ·skip
    refine vU H [yN] fun b115 w116 H=>⟨H.pick [3,4,5] [0,1],(Vr L22 ⟨_,b115,b110,b111,uE7,N,H.pick [1,2,0,3,4,5] [0,1]⟩)⟩
   refine Vg H underlying22 ti2 parts.length rfl rfl qf qf qf fun b117 w118 H=>⟨H.pick [3,4,5] [0,1],(ro 1 rfl (vU H [yN] fun b119 w120 H=>⟨H.pick [4,5,6] [0,1],(ro 7 rfl (zO H 3 [pp b119 0] sizeOf219 fun w121 H=>⟨H.pick [4,5,6] [0,1],(ro 8 rfl (zO H 2 [Sv (aa b117 0) parts.length parts.length] sizeOf22 fun w122 H=>⟨H.pick [4,5,6] [0,1],(xP qh ((meet ⟨_,b110,b111,b117,b119,uE5,N,H.pick [2,3,1,0,4,5,6] [0,1]⟩)))⟩))⟩))⟩))⟩
  refine r_have (fun ρ w125=>∃ (xY:Env) (b123:Nat),ρ=upd (upd (upd (upd (upd xY 0 (Sv ab b.length cb)) 4 (pp b3 0)) 5 (pp b5 0)) 21 (.agg #[yN])) 25 (Sv (aa b123 0) parts.length parts.length)∧Fresh w.heap.size []∧St w w125 [rr (aa b123 0) parts.length parts.length 2 1 ((List.replicate parts.length (0:Int)).map (Value.int .i64)),.box b5 [.func (.func 177) #[] #[pp b1 0]] 170,.box b3 [Sv zo parts.length zg] 27,.box b1 [Sv zo parts.length zg] 27] [sF false Fb ab cb b,sF false Fparts zo zg parts]) 5 #[true,false,true,true,true,false,false,false,false] ?_ fun L124=>?_
  ·skip
   rintro ρ w126 ⟨xY,b123,rfl,N,H⟩
   refine jK [1,5,6] qh qm (Qy rfl ?_ (Qy rfl ?_ (Qy rfl ?_ jL)))
   ·skip
    refine vU H [yN] fun b127 w128 H=>⟨H.pick [2,3,4] [0,1],(Vr L35 ⟨_,b127,b123,uE5,N,H.pick [1,0,2,3,4] [0,1]⟩)⟩
   ·skip
    refine zh H ti219 [.pointer none] fun b129 w130 H=>⟨H.pick [2,3,4] [0,1],(Vr L78 ⟨_,b123,b129,uE6,N,H⟩)⟩
   refine zh H ti22 [yN] fun b131 w132 H=>⟨H.pick [2,3,4] [0,1],(Vr L95 ⟨_,b123,b131,uE6,N,H⟩)⟩
  refine r_have (fun ρ w135=>∃ (xY:Env) (b133:Nat),ρ=upd (upd (upd (upd (upd (upd xY 0 (Sv ab b.length cb)) 4 (pp b3 0)) 5 (pp b5 0)) 9 (pp b133 0)) 21 (.agg #[yN])) 24 (yI parts.length)∧Fresh w.heap.size []∧St w w135 [.box b133 [.pointer none] 219,.box b5 [.func (.func 177) #[] #[pp b1 0]] 170,.box b3 [Sv zo parts.length zg] 27,.box b1 [Sv zo parts.length zg] 27] [sF false Fb ab cb b,sF false Fparts zo zg parts]) 5 #[true,false,true,true,false,true,false,false,false] ?_ fun L134=>?_
  ·skip
   rintro ρ w136 ⟨xY,b133,rfl,N,H⟩
   refine jK [1,4,6] qh qm (Qy rfl ?_ (Qy rfl ?_ (Qy rfl ?_ jL)))
   ·skip
    refine vU H [yN] fun b137 w138 H=>⟨H.pick [2,3,4] [0,1],(Vr L52 ⟨_,b137,b133,uE6,N,H.pick [1,0,2,3,4] [0,1]⟩)⟩
   ·skip
    refine Vg H underlying22 ti2 parts.length rfl rfl qf qf qf fun b139 w140 H=>⟨H.pick [2,3,4] [0,1],(Vr L78 ⟨_,b139,b133,uE6,N,H.pick [1,0,2,3,4] [0,1]⟩)⟩
   refine zh H ti22 [yN] fun b141 w142 H=>⟨H.pick [2,3,4] [0,1],(Vr L112 ⟨_,b133,b141,uE7,N,H⟩)⟩
  refine r_have (fun ρ w145=>∃ (xY:Env) (b143:Nat),ρ=upd (upd (upd (upd (upd (upd xY 0 (Sv ab b.length cb)) 4 (pp b3 0)) 5 (pp b5 0)) 10 (pp b143 0)) 21 (.agg #[yN])) 24 (yI parts.length)∧Fresh w.heap.size []∧St w w145 [.box b143 [yN] 22,.box b5 [.func (.func 177) #[] #[pp b1 0]] 170,.box b3 [Sv zo parts.length zg] 27,.box b1 [Sv zo parts.length zg] 27] [sF false Fb ab cb b,sF false Fparts zo zg parts]) 5 #[true,false,true,true,false,false,true,false,false] ?_ fun L144=>?_
  ·skip
   rintro ρ w146 ⟨xY,b143,rfl,N,H⟩
   refine jK [1,4,5] qh qm (Qy rfl ?_ (Qy rfl ?_ (Qy rfl ?_ jL)))
   ·skip
    refine vU H [yN] fun b147 w148 H=>⟨H.pick [2,3,4] [0,1],(Vr L65 ⟨_,b147,b143,uE6,N,H.pick [1,0,2,3,4] [0,1]⟩)⟩
   ·skip
    refine Vg H underlying22 ti2 parts.length rfl rfl qf qf qf fun b149 w150 H=>⟨H.pick [2,3,4] [0,1],(Vr L95 ⟨_,b149,b143,uE6,N,H.pick [1,0,2,3,4] [0,1]⟩)⟩
   refine zh H ti219 [.pointer none] fun b151 w152 H=>⟨H.pick [2,3,4] [0,1],(Vr L112 ⟨_,b151,b143,uE7,N,H.pick [1,0,2,3,4] [0,1]⟩)⟩
  refine r_have (fun ρ w156=>∃ (xY:Env) (b153:Nat) (b154:Nat),ρ=upd (upd (upd (upd (upd xY 0 (Sv ab b.length cb)) 4 (pp b3 0)) 5 (pp b5 0)) 9 (pp b154 0)) 25 (Sv (aa b153 0) parts.length parts.length)∧Fresh w.heap.size []∧St w w156 [.box b154 [.pointer none] 219,rr (aa b153 0) parts.length parts.length 2 1 ((List.replicate parts.length (0:Int)).map (Value.int .i64)),.box b5 [.func (.func 177) #[] #[pp b1 0]] 170,.box b3 [Sv zo parts.length zg] 27,.box b1 [Sv zo parts.length zg] 27] [sF false Fb ab cb b,sF false Fparts zo zg parts]) 5 #[false,false,true,true,true,true,false,false,false] ?_ fun L155=>?_
  ·skip
   rintro ρ w157 ⟨xY,b153,b154,rfl,N,H⟩
   refine jK [0,6] qh qm (Qy rfl ?_ (Qy rfl ?_ jL))
   ·skip
    refine jF [yN] [] (⟨H.pick [2,3,4] [0,1],(Vr L78 ⟨_,b153,b154,uE6,N,H⟩)⟩)
   refine zh H ti22 [yN] fun b158 w159 H=>⟨H.pick [3,4,5] [0,1],(ro 0 rfl (jF [yN] [] (⟨H.pick [3,4,5] [0,1],(ro 1 rfl (vU H [yN] fun b160 w161 H=>⟨H.pick [4,5,6] [0,1],(ro 7 rfl (zO H 2 [pp b160 0] sizeOf219 fun w162 H=>⟨H.pick [4,5,6] [0,1],(ro 8 rfl (zO H 1 [Sv (aa b153 0) parts.length parts.length] sizeOf22 fun w163 H=>⟨H.pick [4,5,6] [0,1],(xP qh ((meet ⟨_,b154,b158,b153,b160,uE5,N,H.pick [1,2,3,0,4,5,6] [0,1]⟩)))⟩))⟩))⟩))⟩)))⟩
  refine r_have (fun ρ w167=>∃ (xY:Env) (b164:Nat) (b165:Nat),ρ=upd (upd (upd (upd (upd xY 0 (Sv ab b.length cb)) 4 (pp b3 0)) 5 (pp b5 0)) 10 (pp b165 0)) 25 (Sv (aa b164 0) parts.length parts.length)∧Fresh w.heap.size []∧St w w167 [.box b165 [yN] 22,rr (aa b164 0) parts.length parts.length 2 1 ((List.replicate parts.length (0:Int)).map (Value.int .i64)),.box b5 [.func (.func 177) #[] #[pp b1 0]] 170,.box b3 [Sv zo parts.length zg] 27,.box b1 [Sv zo parts.length zg] 27] [sF false Fb ab cb b,sF false Fparts zo zg parts]) 5 #[false,false,true,true,true,false,true,false,false] ?_ fun L166=>?_
  ·skip
   rintro ρ w168 ⟨xY,b164,b165,rfl,N,H⟩
   refine jK [0,5] qh qm (Qy rfl ?_ (Qy rfl ?_ jL))
   ·skip
    refine jF [yN] [] (⟨H.pick [2,3,4] [0,1],(Vr L95 ⟨_,b164,b165,uE6,N,H⟩)⟩)
   refine zh H ti219 [.pointer none] fun b169 w170 H=>⟨H.pick [3,4,5] [0,1],(ro 0 rfl (jF [yN] [] (⟨H.pick [3,4,5] [0,1],(ro 1 rfl (vU H [yN] fun b171 w172 H=>⟨H.pick [4,5,6] [0,1],(ro 7 rfl (zO H 1 [pp b171 0] sizeOf219 fun w173 H=>⟨H.pick [4,5,6] [0,1],(ro 8 rfl (zO H 2 [Sv (aa b164 0) parts.length parts.length] sizeOf22 fun w174 H=>⟨H.pick [4,5,6] [0,1],(xP qh ((meet ⟨_,b169,b165,b164,b171,uE5,N,H.pick [2,1,3,0,4,5,6] [0,1]⟩)))⟩))⟩))⟩))⟩)))⟩
  refine r_have (fun ρ w178=>∃ (xY:Env) (b175:Nat) (b176:Nat),ρ=upd (upd (upd (upd (upd (upd xY 0 (Sv ab b.length cb)) 4 (pp b3 0)) 5 (pp b5 0)) 9 (pp b175 0)) 10 (pp b176 0)) 24 (yI parts.length)∧Fresh w.heap.size []∧St w w178 [.box b176 [yN] 22,.box b175 [.pointer none] 219,.box b5 [.func (.func 177) #[] #[pp b1 0]] 170,.box b3 [Sv zo parts.length zg] 27,.box b1 [Sv zo parts.length zg] 27] [sF false Fb ab cb b,sF false Fparts zo zg parts]) 5 #[false,false,true,true,false,true,true,false,false] ?_ fun L177=>?_
  ·skip
   rintro ρ w179 ⟨xY,b175,b176,rfl,N,H⟩
   refine jK [0,4] qh qm (Qy rfl ?_ (Qy rfl ?_ jL))
   ·skip
    refine jF [yN] [] (⟨H.pick [2,3,4] [0,1],(Vr L112 ⟨_,b175,b176,uE7,N,H⟩)⟩)
   refine Vg H underlying22 ti2 parts.length rfl rfl qf qf qf fun b180 w181 H=>⟨H.pick [3,4,5] [0,1],(ro 0 rfl (jF [yN] [] (⟨H.pick [3,4,5] [0,1],(ro 1 rfl (vU H [yN] fun b182 w183 H=>⟨H.pick [4,5,6] [0,1],(ro 7 rfl (zO H 3 [pp b182 0] sizeOf219 fun w184 H=>⟨H.pick [4,5,6] [0,1],(ro 8 rfl (zO H 2 [Sv (aa b180 0) parts.length parts.length] sizeOf22 fun w185 H=>⟨H.pick [4,5,6] [0,1],(xP qh ((meet ⟨_,b175,b176,b180,b182,uE5,N,H.pick [2,3,1,0,4,5,6] [0,1]⟩)))⟩))⟩))⟩))⟩)))⟩
  refine tL 2 rfl rfl (fun _ h=>h.cell 1 rfl rfl) H ?_
  refine tN 3 rfl rfl H ?_
  refine jK [0,4,5,6] qh qm (Qy rfl ?_ (Qy rfl ?_ (Qy rfl ?_ (Qy rfl ?_ jL))))
  ·skip
   refine jF [yN] [] (⟨H,(jK [1,4,5,6] qh qm (Qy rfl ?_ (Qy rfl ?_ (Qy rfl ?_ (Qy rfl ?_ jL)))))⟩)
   ·skip
    refine vU H [yN] fun b186 w187 H=>⟨H.pick [1,2,3] [0,1],(jK [4,5,6] qh qm (Qy rfl ?_ (Qy rfl ?_ (Qy rfl ?_ jL))))⟩
    ·skip
     refine Vg H underlying22 ti2 parts.length rfl rfl qf qf qf fun b188 w189 H=>⟨H.pick [2,3,4] [0,1],(Vr L35 ⟨_,b186,b188,uE5,N,H⟩)⟩
    ·skip
     refine zh H ti219 [.pointer none] fun b190 w191 H=>⟨H.pick [2,3,4] [0,1],(Vr L52 ⟨_,b186,b190,uE6,N,H⟩)⟩
    refine zh H ti22 [yN] fun b192 w193 H=>⟨H.pick [2,3,4] [0,1],(Vr L65 ⟨_,b186,b192,uE6,N,H⟩)⟩
   ·skip
    refine Vg H underlying22 ti2 parts.length rfl rfl qf qf qf fun b194 w195 H=>⟨H.pick [1,2,3] [0,1],(Vr L124 ⟨_,b194,uE5,N,H⟩)⟩
   ·skip
    refine zh H ti219 [.pointer none] fun b196 w197 H=>⟨H.pick [1,2,3] [0,1],(Vr L134 ⟨_,b196,uE6,N,H⟩)⟩
   refine zh H ti22 [yN] fun b198 w199 H=>⟨H.pick [1,2,3] [0,1],(Vr L144 ⟨_,b198,uE6,N,H⟩)⟩
  ·skip
   refine Vg H underlying22 ti2 parts.length rfl rfl qf qf qf fun b200 w201 H=>⟨H.pick [1,2,3] [0,1],(jK [0,5,6] qh qm (Qy rfl ?_ (Qy rfl ?_ (Qy rfl ?_ jL))))⟩
   ·skip
    refine jF [yN] [] (⟨H.pick [1,2,3] [0,1],(Vr L124 ⟨_,b200,uE5,N,H⟩)⟩)
   ·skip
    refine zh H ti219 [.pointer none] fun b202 w203 H=>⟨H.pick [2,3,4] [0,1],(Vr L155 ⟨_,b200,b202,uE5,N,H⟩)⟩
   refine zh H ti22 [yN] fun b204 w205 H=>⟨H.pick [2,3,4] [0,1],(Vr L166 ⟨_,b200,b204,uE5,N,H⟩)⟩
  ·skip
   refine zh H ti219 [.pointer none] fun b206 w207 H=>⟨H.pick [1,2,3] [0,1],(jK [0,4,6] qh qm (Qy rfl ?_ (Qy rfl ?_ (Qy rfl ?_ jL))))⟩
   ·skip
    refine jF [yN] [] (⟨H.pick [1,2,3] [0,1],(Vr L134 ⟨_,b206,uE6,N,H⟩)⟩)
   ·skip
    refine Vg H underlying22 ti2 parts.length rfl rfl qf qf qf fun b208 w209 H=>⟨H.pick [2,3,4] [0,1],(Vr L155 ⟨_,b208,b206,uE5,N,H.pick [1,0,2,3,4] [0,1]⟩)⟩
   refine zh H ti22 [yN] fun b210 w211 H=>⟨H.pick [2,3,4] [0,1],(Vr L177 ⟨_,b206,b210,uE6,N,H⟩)⟩
  refine zh H ti22 [yN] fun b212 w213 H=>⟨H.pick [1,2,3] [0,1],(jK [0,4,5] qh qm (Qy rfl ?_ (Qy rfl ?_ (Qy rfl ?_ jL))))⟩
  ·skip
   refine jF [yN] [] (⟨H.pick [1,2,3] [0,1],(Vr L144 ⟨_,b212,uE6,N,H⟩)⟩)
  ·skip
   refine Vg H underlying22 ti2 parts.length rfl rfl qf qf qf fun b214 w215 H=>⟨H.pick [2,3,4] [0,1],(Vr L166 ⟨_,b214,b212,uE5,N,H.pick [1,0,2,3,4] [0,1]⟩)⟩
  refine zh H ti219 [.pointer none] fun b216 w217 H=>⟨H.pick [2,3,4] [0,1],(Vr L177 ⟨_,b216,b212,uE6,N,H.pick [1,0,2,3,4] [0,1]⟩)⟩
 clear H N
 rintro ρ w218 ⟨xY,b13,b14,b15,b16,rfl,N,H⟩
 refine t_n (zcr (sw (zh H ti222 [.nilFunc] fun b219 w220 H=>zjc (sp (.func (.func 201) #[] #[pp b3 0,pp b5 0,pp b13 0,pp b14 0,pp b219 0]) (sw (zO H 0 [.func (.func 201) #[] #[pp b3 0,pp b5 0,pp b13 0,pp b14 0,pp b219 0]] sizeOf222 fun w221 H=>zjc (oL rfl (H.cell 0 rfl rfl) (sp (Sv ab b.length cb) ?_))))))))
 replace H:=H.nilRow 22 1
 replace H:=H.vT (α:=yLI)
 have H1:St w w221 [.box b3 [Sv zo parts.length zg] 27,.box b5 [.func (.func 177) #[] #[pp b1 0]] 170,.box b1 [Sv zo parts.length zg] 27,.box b13 [pp b16 0] 219,.box b16 [yN] 221,.box b14 [Sv (aa b15 0) parts.length parts.length] 22,.box b219 [.func (.func 201) #[] #[pp b3 0,pp b5 0,pp b13 0,pp b14 0,pp b219 0]] 222,rr none 0 0 22 1 [],rr (aa b15 0) parts.length parts.length 2 1 ((List.replicate parts.length (0:Int)).map (Value.int .i64))] [sF false Fb ab cb b,sF false Fparts zo zg parts,zf true [] [] ([]:yLL),sF false Fb ab cb b,sF false Fparts zo zg parts]:=H.pick [7,6,8,3,5,2,1,0,4] [1,2,0,1,2]
 have N1:Fresh _ [[]]:=N.emp
 have K1:Kept [] [sF false Fb ab cb b,sF false Fparts zo zg parts]:=Kept.nil _
 refine sw (o_callF #[yI 0,Sv ab b.length cb,pp b3 0,pp b5 0,pp b13 0,pp b14 0,pp b219 0] rfl rfl call201 (packFrom_ok parts.length 0 b parts ([]:yLL) (List.replicate parts.length (0:Int)) ab cb Fb zo zg Fparts b3 b5 b1 b13 b16 b14 b219 none 0 0 [] [] (aa b15 0) parts.length parts.length H1 N1 K1 qf (by first | assumption | exact u4) (by first | assumption | exact j3 | (simp;done)) (by first | assumption | (rw [List.length_set];exact j1) | (simp;done))) ?_)
 clear H H1 N1 K1
 rintro _ w222 ⟨cs223,raout223,rnout223,rcout223,rxout223,rFout223,hx224,hx225,rfl,N,H⟩
 obtain rfl:=H.zq (α:=yLI) 7 rfl 2 rfl qj
 refine zjc (oL rfl (H.cell 3 rfl rfl) (sw (vJ #[pp b16 0] rfl rfl call204 (en func204 ntmps204 ?_))))
 refine zcr (sps [yN,yI 0] (zjcc (sps [pp b16 0,pp b16 0] (oF rfl (oL rfl (H.cell 4 rfl rfl) (oN rfl (sp (Bv (decide (((gath ([]:yLL) (begins ((List.replicate parts.length (0:Int)).take 0) (packs parts (parts.length - 0) 0 b))).length:Int) > 2000))) (zjn (cD rfl (fun h226=>?_) (fun h226=>?_))))))))))
 ·skip
  refine zcr (sps [yN,yI 3] (zjr (t_r (ret2 yN (yI 3) rfl rfl rfl ⟨_,rfl,(sps [yN,yI 3,yN,yI 3] (zjr (ret2 yN (yI 3) rfl rfl rfl ⟨_,rfl,?_⟩)))⟩))))
  replace H:=H.erases [8,7,6,5,4,3,1,0]
  dsimp only [vS,List.eraseIdx] at H
  refine sps [yN,yI 3,yN,yI 3] (zjr ?_)
  replace H:=H.nilRow 22 1
  replace H:=H.vT (α:=yLI)
  refine ret2 yN (yI 3) rfl rfl rfl ⟨_,rfl,?_,H.base⟩
  first | rw [all_a ql] | rw [all_bI (cs:=(List.replicate parts.length (0:Int))) ql qf]
  exact ⟨none,0,0,[],[],rfl,(N.emp.pick [0]),H.pick [0] [0]⟩
 refine qW (t_n (zcr (sps [pp b16 0,pp b16 0] (oF rfl (oL rfl (H.cell 4 rfl rfl) (sps [Sv raout223 ((gath ([]:yLL) (begins ((List.replicate parts.length (0:Int)).take 0) (packs parts (parts.length - 0) 0 b))).length) rcout223,yI 0] (zjr (ret2 (Sv raout223 ((gath ([]:yLL) (begins ((List.replicate parts.length (0:Int)).take 0) (packs parts (parts.length - 0) 0 b))).length) rcout223) (yI 0) rfl rfl rfl ⟨_,rfl,?_⟩))))))))
 refine sps [Sv raout223 ((gath ([]:yLL) (begins ((List.replicate parts.length (0:Int)).take 0) (packs parts (parts.length - 0) 0 b))).length) rcout223,yI 0,Sv raout223 ((gath ([]:yLL) (begins ((List.replicate parts.length (0:Int)).take 0) (packs parts (parts.length - 0) 0 b))).length) rcout223,yI 0] (zjr (ret2 (Sv raout223 ((gath ([]:yLL) (begins ((List.replicate parts.length (0:Int)).take 0) (packs parts (parts.length - 0) 0 b))).length) rcout223) (yI 0) rfl rfl rfl ⟨_,rfl,?_⟩))
 replace H:=H.erases [8,6,5,4,3,1,0]
 dsimp only [vS,List.eraseIdx] at H
 refine sps [Sv raout223 ((gath ([]:yLL) (begins ((List.replicate parts.length (0:Int)).take 0) (packs parts (parts.length - 0) 0 b))).length) rcout223,yI 0,Sv raout223 ((gath ([]:yLL) (begins ((List.replicate parts.length (0:Int)).take 0) (packs parts (parts.length - 0) 0 b))).length) rcout223,yI 0] (zjr (ret2 (Sv raout223 ((gath ([]:yLL) (begins ((List.replicate parts.length (0:Int)).take 0) (packs parts (parts.length - 0) 0 b))).length) rcout223) (yI 0) rfl rfl rfl ⟨_,rfl,?_,H.base⟩))
 rw [all_0I (cs:=(List.replicate parts.length (0:Int))) ql qf]
 exact ⟨raout223,(gath ([]:yLL) (begins ((List.replicate parts.length (0:Int)).take 0) (packs parts (parts.length - 0) 0 b))).length,rcout223,rxout223,rFout223,rfl,N,H.pick [1] [2]⟩
theorem compareL_ok (w:World) (a:yLI) (b:yLI) (aa:yOA) (ca:Nat) (Fa:yLN) (ab:yOA) (cb:Nat) (Fb:yLN) (ha:qO.rep w Fa [Sv aa a.length ca] a) (hb:qO.rep w Fb [Sv ab b.length cb] b):Calls Tryz.prog 94 #[Sv aa a.length ca,Sv ab b.length cb] w (Ret (fun v w' =>v=yI (cmpL a b)∧w' =w) w):=by
 refine en func94 ntmps94 ?_
 have H:=((St.start w).arg hb).arg ha
 have nha:=qM ha
 have nhb:=qM hb
 clear ha hb
 have N:=Fresh.nil w.heap.size
 refine zcr (sp (yI 0) (zjcc (sp (Sv aa a.length ca) (oN rfl (sp (yI 0) (zjn (qX ?_)))))))
 refine zD (fun m' ρ w1=>∃ (xY:Env) (i:Nat),ρ=upd (upd (upd (upd (upd xY 0 (Sv aa a.length ca)) 1 (Sv ab b.length cb)) 9 (Sv aa a.length ca)) 10 (yI a.length)) 11 (yI i)∧((i:Int)≤a.length)∧(w1=w)∧(cmpL a b=cmpL (a.drop i) (b.drop i))∧(i≤b.length)∧m' =(a.length - (i:Int)).toNat∧Fresh w.heap.size []∧St w w1 [] [sF false Fa aa ca a,sF false Fb ab cb b]) ((a.length - (0:Int)).toNat) ⟨_,0,uE5,qf,(by rfl),(by rfl),qf,rfl,N,H⟩ ?_
 clear H N
 rintro m' ρ w2 ⟨xY,i,rfl,i0,wk,i1,i2,rfl,N,H⟩
 refine zcr (sp (Bv (decide ((i:Int) < a.length))) (zjn (xQ (cD rfl (fun h3=>?_) (fun h3=>?_)))))
 ·skip
  refine qW (t_n (xQ (qX (zcr (sp (yI i) ?_)))))
  obtain ⟨b4,o5,rfl⟩:=H.addr 0 rfl qf
  refine oI rfl rfl (oL rfl (H.jY 0 rfl i qf qf) (sps [yI i,yI (a[i]!)] (zjcc (sps [yI i,Sv ab b.length cb] (oN rfl (sp (Bv (decide ((i:Int)≥b.length))) (zjn (cD rfl (fun h7=>?_) (fun h7=>?_)))))))))
  ·skip
   refine zcr (sp (yI 1) (zjr (t_r (zr5 (ret1 (yI 1) rfl rfl ⟨_,rfl,(⟨?_,wk⟩),H.base⟩)))))
   rw [i1,show cmpL (a.drop i) (b.drop i)=1 by first | exact cmp_a qf qf | exact cmp_e qf qf ‹_›]
  refine qW (t_n (zcr (sps [Sv ab b.length cb,yI i] ?_)))
  obtain ⟨b8,o9,rfl⟩:=H.addr 1 rfl qf
  refine oI rfl rfl (oL rfl (H.jY 1 rfl i qf qf) (sp (yI (b[i]!)) (zjc (sps [yI (a[i]!),yI (b[i]!)] (sw (vJ #[yI (a[i]!),yI (b[i]!)] rfl rfl call131 (en func131 ntmps131 ?_)))))))
  refine zcr (sp (yI 0) (zjc (sp (yI (a[i]!)) (sw (vJ #[yI (a[i]!)] rfl rfl call168 (en func168 ntmps168 ?_))))))
  refine zcr (sp (Bv false) (zjc (sps [yI (a[i]!),yI (a[i]!),Bv ((a[i]! :Int) != (a[i]!)),Bv ((a[i]! :Int) != (a[i]!))] (zjr (ret1 (Bv ((a[i]! :Int) != (a[i]!))) rfl rfl ⟨_,rfl,(sp (Bv ((a[i]! :Int) != (a[i]!))) (zjc (sp (yI (b[i]!)) (sw (vJ #[yI (b[i]!)] rfl rfl call168 (en func168 ntmps168 ?_))))))⟩)))))
  refine zcr (sp (Bv false) (zjc (sps [yI (b[i]!),yI (b[i]!),Bv ((b[i]! :Int) != (b[i]!)),Bv ((b[i]! :Int) != (b[i]!))] (zjr (ret1 (Bv ((b[i]! :Int) != (b[i]!))) rfl rfl ⟨_,rfl,(sp (Bv ((b[i]! :Int) != (b[i]!))) (zjcc (sp (Bv ((a[i]! :Int) != (a[i]!))) (zjn (xE ((a[i]! :Int) != (a[i]!)) rfl (fun h=>absurd rfl (bne_iff_ne.1 h)) (fun h11=>?_))))))⟩)))))
  replace h11:=xw h11
  refine qW (t_n (zcc (sp (Bv ((b[i]! :Int) != (b[i]!))) (zjn (xE ((b[i]! :Int) != (b[i]!)) rfl (fun h=>absurd rfl (bne_iff_ne.1 h)) (fun h12=>?_))))))
  replace h12:=xw h12
  refine qW (t_n (zcc (sps [yI (a[i]!),yI (b[i]!),Bv (decide ((a[i]! :Int) < (b[i]!)))] (zjn (cD rfl (fun h13=>?_) (fun h13=>?_))))))
  ·skip
   refine zcr (sp (yI (-1)) (zjr (t_r (ret1 (yI (-1)) rfl rfl ⟨_,rfl,(sp (yI (-1)) (zjc (sps [yI (-1),Bv true] (zjn (xE true rfl (fun _=>zcr (sps [yI (-1),yI (-1)] (zjr (zr5 (ret1 (yI (-1)) rfl rfl ⟨_,rfl,(⟨?_,wk⟩),H.base⟩))))) (fun h=>absurd h qj))))))⟩))))
   rw [i1,show cmpL (a.drop i) (b.drop i)= -1 by first | exact cmp_b qf qf | exact cmp_d qf qf ‹_›]
  refine qW (t_n (zcc (sps [yI (a[i]!),yI (b[i]!),Bv (decide ((a[i]! :Int) > (b[i]!)))] (zjn (cD rfl (fun h14=>?_) (fun h14=>?_))))))
  ·skip
   refine zcr (sp (yI 1) (zjr (t_r (ret1 (yI 1) rfl rfl ⟨_,rfl,(sp (yI 1) (zjc (sps [yI 1,Bv true] (zjn (xE true rfl (fun _=>zcr (sps [yI 1,yI 1] (zjr (zr5 (ret1 (yI 1) rfl rfl ⟨_,rfl,(⟨?_,wk⟩),H.base⟩))))) (fun h=>absurd h qj))))))⟩))))
   rw [i1,show cmpL (a.drop i) (b.drop i)=1 by first | exact cmp_a qf qf | exact cmp_e qf qf ‹_›]
  refine qW (t_n (zcr (sp (yI 0) (zjr (ret1 (yI 0) rfl rfl ⟨_,rfl,(sp (yI 0) (zjc (sps [yI 0,Bv false] (zjn (xE false rfl (fun h=>absurd h qj) (fun _=>qW (b_n (t_n (xO (sw (zB i 1 rfl rfl qf (sp (yI (i+1)) (xM (qY (m' :=(a.length - ((i+1):Int)).toNat) qf ⟨_,i+1,uE5,?_,?_,?_,?_,rfl,N,H⟩))))))))))))))⟩)))))
  · omega
  · exact wk
  · exact i1.trans (cmp_f qf qf ‹_› ‹_›)
  · omega
 refine zx4 (zcc (sp (Sv aa a.length ca) (oN rfl (sp (Sv ab b.length cb) (oN rfl (sp (Bv (decide ((a.length:Int) < b.length))) (zjn (cD rfl (fun h15=>?_) (fun h15=>?_)))))))))
 ·skip
  refine zcr (sp (yI (-1)) (zjr (t_r (ret1 (yI (-1)) rfl rfl ⟨_,rfl,(⟨?_,wk⟩),H.base⟩))))
  rw [i1,show cmpL (a.drop i) (b.drop i)= -1 by first | exact cmp_b qf qf | exact cmp_d qf qf ‹_›]
 refine qW (t_n (zcr (sp (yI 0) (zjr (ret1 (yI 0) rfl rfl ⟨_,rfl,(⟨?_,wk⟩),H.base⟩)))))
 rw [i1,cmp_c qf qf]
def sortL_ren:Go.Shelf.Ren:=⟨fun | 6=>93 | 15=>130 | 14=>129 | 28=>166 | 29=>167 | 20=>158 | 21=>159 | 22=>160 | 23=>161 | 24=>162 | 25=>163 | 26=>164 | 27=>165 | 46=>193 | 47=>194 | 48=>195 | 49=>196 | 50=>197 | 57=>208 | n=>n,fun | 22=>27 | 24=>22 | 25=>106 | 3=>3 | 39=>149 | 0=>0 | 53=>186 | 55=>188 | 4=>4 | 46=>179 | 45=>178 | 50=>183 | 5=>5 | 9=>9 | 66=>211 | 70=>215 | 76=>226 | 77=>227 | n=>n,fun | n=>n⟩
theorem sortL:Go.Proofs.SlLaysF.n6 Tryz.prog sortL_ren:={
  mixed:=by kernel_rfl
  f6:=⟨Tryz.f93.name,by decide,Tryz.func93.trans (congrArg some (by kernel_rfl))⟩
  f14:=⟨Tryz.f129.name,by decide,Tryz.func129.trans (congrArg some (by kernel_rfl))⟩
  f15:=Tryz.func130.trans (congrArg some (by kernel_rfl))
  f20:=⟨Tryz.f158.name,by decide,Tryz.func158.trans (congrArg some (by kernel_rfl))⟩
  f21:=⟨Tryz.f159.name,by decide,Tryz.func159.trans (congrArg some (by kernel_rfl))⟩
  f22:=⟨Tryz.f160.name,by decide,Tryz.func160.trans (congrArg some (by kernel_rfl))⟩
  f23:=⟨Tryz.f161.name,by decide,Tryz.func161.trans (congrArg some (by kernel_rfl))⟩
  f24:=⟨Tryz.f162.name,by decide,Tryz.func162.trans (congrArg some (by kernel_rfl))⟩
  f25:=⟨Tryz.f163.name,by decide,Tryz.func163.trans (congrArg some (by kernel_rfl))⟩
  f26:=⟨Tryz.f164.name,by decide,Tryz.func164.trans (congrArg some (by kernel_rfl))⟩
  f27:=⟨Tryz.f165.name,by decide,Tryz.func165.trans (congrArg some (by kernel_rfl))⟩
  f28:=Tryz.func166.trans (congrArg some (by kernel_rfl))
  f29:=Tryz.func167.trans (congrArg some (by kernel_rfl))
  f46:=⟨Tryz.f193.name,by decide,Tryz.func193.trans (congrArg some (by kernel_rfl))⟩
  f47:=Tryz.func194.trans (congrArg some (by kernel_rfl))
  f48:=Tryz.func195.trans (congrArg some (by kernel_rfl))
  f49:=⟨Tryz.f196.name,by decide,Tryz.func196.trans (congrArg some (by kernel_rfl))⟩
  f50:=⟨Tryz.f197.name,by decide,Tryz.func197.trans (congrArg some (by kernel_rfl))⟩
  f57:=⟨Tryz.f208.name,by decide,Tryz.func208.trans (congrArg some (by kernel_rfl))⟩
  t0:=Tryz.underlying0
  a0:=Tryz.isAgg0
  z0:=Tryz.sizeOf0
  v0:=Tryz.zeroValue0
  t3:=Tryz.underlying3
  a3:=Tryz.isAgg3
  z3:=Tryz.sizeOf3
  v3:=Tryz.zeroValue3
  t4:=Tryz.underlying4
  a4:=Tryz.isAgg4
  z4:=Tryz.sizeOf4
  v4:=Tryz.zeroValue4
  t5:=Tryz.underlying5
  a5:=Tryz.isAgg5
  z5:=Tryz.sizeOf5
  v5:=Tryz.zeroValue5
  t9:=Tryz.underlying9
  a9:=Tryz.isAgg9
  z9:=Tryz.sizeOf9
  v9:=Tryz.zeroValue9
  t22:=Tryz.underlying27
  a22:=Tryz.isAgg27
  z22:=Tryz.sizeOf27
  v22:=Tryz.zeroValue27
  a24:=Tryz.isAgg22
  z24:=Tryz.sizeOf22
  t25:=Tryz.underlying106
  a25:=Tryz.isAgg106
  z25:=Tryz.sizeOf106
  v25:=Tryz.zeroValue106
  t39:=Tryz.underlying149
  a39:=Tryz.isAgg149
  z39:=Tryz.sizeOf149
  v39:=Tryz.zeroValue149
  t45:=Tryz.underlying178
  a45:=Tryz.isAgg178
  z45:=Tryz.sizeOf178
  v45:=Tryz.zeroValue178
  t46:=Tryz.underlying179
  a46:=Tryz.isAgg179
  z46:=Tryz.sizeOf179
  v46:=Tryz.zeroValue179
  t50:=Tryz.underlying183
  a50:=Tryz.isAgg183
  z50:=Tryz.sizeOf183
  v50:=Tryz.zeroValue183
  t53:=Tryz.underlying186
  a53:=Tryz.isAgg186
  z53:=Tryz.sizeOf186
  v53:=Tryz.zeroValue186
  t55:=Tryz.underlying188
  a55:=Tryz.isAgg188
  z55:=Tryz.sizeOf188
  v55:=Tryz.zeroValue188
  t66:=Tryz.underlying211
  a66:=Tryz.isAgg211
  z66:=Tryz.sizeOf211
  v66:=Tryz.zeroValue211
  t70:=Tryz.underlying215
  a70:=Tryz.isAgg215
  z70:=Tryz.sizeOf215
  v70:=Tryz.zeroValue215
  t76:=Tryz.underlying226
  a76:=Tryz.isAgg226
  z76:=Tryz.sizeOf226
  v76:=Tryz.zeroValue226
  t77:=Tryz.underlying227
  a77:=Tryz.isAgg227
  z77:=Tryz.sizeOf227
  v77:=Tryz.zeroValue227 }
theorem cmpSort (W:World) (x y:yLI) (a:yOA) (c:Nat) (F:yLN) (a' :yOA) (c' :Nat) (F' :yLN) (hx:qO.rep W F [Sv a x.length c] x) (hy:qO.rep W F' [Sv a' y.length c'] y):
    Calls Tryz.prog 94 #[Sv a x.length c,Sv a' y.length c'] W fun e w' =>e=.returned (yI (cmpL x y))∧w' =W:=
  (compareL_ok W x y a c F a' c' F' hx hy).mono fun _ _ ⟨_,he,⟨hv,hw⟩,_⟩=>⟨he.trans (by rw [hv]),hw⟩

theorem choices_ok (w:World) (s:qI) (t:qH) {qC:yOA} {qZ:yLN} {qN:yOA} {xG:yLN} {qV:yOA} {xR:yLN} {xm:yOA} {zC:yLN} {qL:yOA} {xC:yLN} (xf:qO.rep w qZ [Sv qC s.qw.length qB] s.qw) (xJ:qO.rep w xG [Sv qN s.qx.length qJ] s.qx) (zi:qO.rep w xR [Sv qV t.qA.length qR] t.qA) (zM:qO.rep w zC [Sv xm t.qE.length xk] t.qE) (xN:qO.rep w xC [Sv qL t.qy.length qK] t.qy) (p0:jE s) (p1:zu s t):Calls Tryz.prog 64 #[.agg #[yI s.xB,Sv qC s.qw.length qB,Sv qN s.qx.length qJ],.agg #[Sv qV t.qA.length qR,Sv xm t.qE.length xk,Sv qL t.qy.length qK]] w (Ret (fun v w' =>∃ (ra0:yOA) (rn0:Nat) (rc0:Nat) (rx0:List Value) (rF0:yLN),v=.tuple #[Sv ra0 rn0 rc0,yI ((vF s t).2)]∧Fresh w.heap.size [rF0]∧St w w' [rr ra0 rn0 rc0 22 1 rx0] [zf true rF0 rx0 ((vF s t).1)]) w):=by
 refine en func64 ntmps64 ?_
 have H:=(((((St.start w).arg xN).arg zM).arg zi).arg xJ).arg xf
 have vH:=qM xf
 have jw:=qM xJ
 have Qj:=qM zi
 have Q7:=qM zM
 have jV:=qM xN
 clear xf xJ zi zM xN
 have N:=Fresh.nil w.heap.size
 have A:=H.ltN (L:=[qZ,xG,xR,zC,xC]) [0,1,2,3,4]
 have p2:=p0.2.1
 have p3:=p0.1.2.1
 have p4:=p1.1
 have p5:=p1.2.1
 refine zcr (sw (vU H (yS s qC qB qN qJ) fun b1 w2 H=>sw (vU H (yT t qV qR xm xk qL qK) fun b3 w4 H=>sps [yN,yI 0] (zjc (sw (zl (yS s qC qB qN qJ) isAgg36 sizeOf36 rfl (qF (H.cells 1 rfl) 0 3) ?_))))))
 refine sw (zl (yT t qV qR xm xk qL qK) isAgg38 sizeOf38 rfl (qF (H.cells 0 rfl) 0 3) (sw (vJ #[.agg #[yI s.xB,Sv qC s.qw.length qB,Sv qN s.qx.length qJ],.agg #[Sv qV t.qA.length qR,Sv xm t.qE.length xk,Sv qL t.qy.length qK]] rfl rfl call107 (en func107 ntmps107 ?_))))
 refine zcr (sw (vU H (yS s qC qB qN qJ) fun b5 w6 H=>sw (vU H (yT t qV qR xm xk qL qK) fun b7 w8 H=>sps [yN,yI 0] (zjc (oF rfl (oL rfl (H.cell 1 rfl rfl) (oN rfl (sw (o_makeZ (⟨[]⟩:OwnI 2) H underlying27 ti22 qj (fun _=>⟨yN,rfl,Or.inl ⟨rfl,rfl,rfl⟩⟩) s.qw.length rfl rfl qf qf qf fun b9 w10 xs11 H=>?_)))))))))
 refine sp (Sv (aa b9 0) s.qw.length s.qw.length) (zjcc (sw (zl (yS s qC qB qN qJ) isAgg36 sizeOf36 rfl (qF (H.cells 2 rfl) 0 3) (sw (zl (yT t qV qR xm xk qL qK) isAgg38 sizeOf38 rfl (qF (H.cells 1 rfl) 0 3) ?_)))))
 have sz15:=H.base.size
 refine sw (oc (applicable_ok _ s t (H.get 1 rfl).1 (H.get 2 rfl).1 (H.get 3 rfl).1 (H.get 4 rfl).1 (H.get 5 rfl).1 qg qg) ?_)
 rintro _ w13 ⟨ra12,rn12,rc12,rfl,M,K⟩ _
 replace H:=H.merge K M
 obtain rfl:=H.YX 0 rfl
 have al:(appls s t).length≤s.qx.length:=applL_le s t s.qx.length
 refine oN rfl (sp (yI 0) (zjn (qX ?_)))
 refine zD (fun m' ρ w18=>∃ (xY:Env) (k:Nat) (own:List (OwnI 2)) (x_own:List Value) (F_own:yLN),ρ=upd (upd (upd (upd (upd (upd xY 2 (pp b5 0)) 3 (pp b7 0)) 6 (Sv (aa b9 0) s.qw.length s.qw.length)) 24 (Sv ra12 ((appls s t).length) rc12)) 25 (yI ((appls s t).length))) 26 (yI k)∧own=(ownL 2 s t s.qw.length k)∧((k:Int)≤((appls s t).length))∧m' =(((appls s t).length) - (k:Int)).toNat∧Fresh w.heap.size [F_own]∧St w w18 [rr ra12 ((appls s t).length) rc12 2 1 ((appls s t).map (Value.int .i64)),rr (aa b9 0) s.qw.length s.qw.length 22 1 x_own,.box b7 (yT t qV qR xm xk qL qK) 38,.box b5 (yS s qC qB qN qJ) 36,.box b3 (yT t qV qR xm xk qL qK) 38,.box b1 (yS s qC qB qN qJ) 36] [zf true F_own x_own own,sF false qZ qC qB s.qw,sF false xG qN qJ s.qx,sF false xR qV qR t.qA,sF false zC xm xk t.qE,sF false xC qL qK t.qy]) ((((appls s t).length) - (0:Int)).toNat) ⟨_,0,(List.replicate s.qw.length (⟨[]⟩:OwnI 2)),xs11,[],uE6,(by exact ownL_zero 2 s t _),qf,rfl,N.emp,H⟩ ?_
 clear H N
 rintro m' ρ w19 ⟨xY,k,own,x_own,F_own,rfl,rfl,i0,rfl,N,H⟩
 have hn_own:=H.zq (α:=OwnI 2) 1 rfl 0 rfl qj
 have ol:=ownL_len 2 s t s.qw.length k
 refine zcr (sp (Bv (decide ((k:Int) < ((appls s t).length)))) (zjn (xQ (cD rfl (fun h20=>?_) (fun h20=>?_)))))
 ·skip
  obtain ⟨a0,a1,a2⟩:=appls_inH (s:=s) (t:=t) (q:=k) qf
  have q:=p0.rule (i:=((appls s t)[k]!).toNat) qf
  have qc:=q.1
  have qk:(s.qx[((appls s t)[k]!).toNat]!).qG.toNat < s.qw.length:=q.cell
  have le:=ownL_le (e:=2) (s:=s) (t:=t) (n:=s.qw.length) (q:=k) (c:=(s.qx[((appls s t)[k]!).toNat]!).qG.toNat) qf
  have sm:=vX (p1.2.2.2.2 (s.qx[((appls s t)[k]!).toNat]!).qG.toNat qf).1
  refine qW (t_n (xQ (qX (zcr ?_))))
  obtain ⟨b21,rfl⟩:=H.Qn 0 rfl qf
  refine oI rfl rfl (oL rfl (H.rowInt 0 rfl (iv:=k) (i:=k) qf qf) (sp (yI ((appls s t)[k]!)) (zjc (oF rfl (oL rfl (H.cell 3 rfl rfl) (sp (yI ((appls s t)[k]!)) ?_))))))
  obtain ⟨b22,o23,rfl⟩:=H.addr 2 rfl qf
  obtain ⟨ae25Need,ce25Need,Fe25Need,ae25Have,ce25Have,Fe25Have,ae25Lack,ce25Lack,Fe25Lack,ae25Here,ce25Here,Fe25Here,ae25Out,ce25Out,Fe25Out,ae25Into,ce25Into,Fe25Into,H⟩:=H.yF 2 rfl ((appls s t)[k]!) (((appls s t)[k]!).toNat) qf qf qf
  refine oI rfl rfl (oF rfl (oL rfl (H.xW 6 rfl 0 rfl) (sp (yI ((s.qx[((appls s t)[k]!).toNat]!).qG)) (zjcc (oF rfl (oL rfl (H.cell 2 rfl rfl) (sp (yI ((s.qx[((appls s t)[k]!).toNat]!).qG)) ?_)))))))
  obtain ⟨b26,o27,rfl⟩:=H.addr 11 rfl qf
  obtain ⟨ae29,ce29,Fe29,H⟩:=H.vV 11 rfl ((s.qx[((appls s t)[k]!).toNat]!).qG) (((s.qx[((appls s t)[k]!).toNat]!).qG).toNat) qf qf qf
  refine oI rfl rfl (oL rfl (H.xW 1 rfl 0 rfl) (sw (oq (V6 _ (t.qE[((s.qx[((appls s t)[k]!).toNat]!).qG).toNat]!) (H.get 0 rfl).1 (by first | assumption | exact vX ql | exact QD ql)) H fun w30 H=>sp (Bv (decide ((Yd (t.qE[((s.qx[((appls s t)[k]!).toNat]!).qG).toNat]!):Int) > 16))) (zjn (cD rfl (fun h32=>?_) (fun h32=>?_))))))
  ·skip
   refine zcr (sps [yN,yI 3] (zjr (t_r (zr5 (ret2 yN (yI 3) rfl rfl rfl ⟨_,rfl,?_⟩)))))
   replace H:=H.erases [3,2,1,0]
   dsimp only [vS,List.eraseIdx] at H
   refine sps [.tuple #[yN,yI 3],yN,yI 3,yN,yI 3] (zjcc (sps [yI 3,Bv true] (zjn (xE true rfl (fun _=>zcr (sps [yI 3,yN,yI 3] (zjr (t_r ?_)))) (fun h=>absurd h qj)))))
   replace H:=H.nilRow 22 1
   replace H:=H.vT (α:=yLI)
   refine ret2 yN (yI 3) rfl rfl rfl ⟨_,rfl,?_,H.base⟩
   first | rw [cho_3 (.inl (own_bad p0 (q:=k) qf qf))] | rw [cho_3 (.inr (prod_stop (G:=(jv s.qx.length (xh s t s.qw.length) (xH s t s.qw.length) k_1)) (r:=((xh s t s.qw.length)[k_1]!)) (k:=k_51+1) (i:=k_1) kn qf (X5 _) qf (by rw [← nextX_end (x:=k_52) qf qf];omega)))]
   exact ⟨none,0,0,[],[],rfl,(N.emp.pick [0]),H.pick [0] [0]⟩
  refine qW (t_n (xO (sps [Sv (aa b9 0) s.qw.length s.qw.length,yI ((s.qx[((appls s t)[k]!).toNat]!).qG),Sv (aa b9 0) s.qw.length s.qw.length,yI ((s.qx[((appls s t)[k]!).toNat]!).qG)] (oI rfl rfl ?_))))
  replace N:Fresh w.heap.size [F_own]:=N
  obtain ⟨a33,c34,F35,h36,N,H⟩:=H.openI 1 rfl 9 rfl N (iv:=(s.qx[((appls s t)[k]!).toNat]!).qG) (((s.qx[((appls s t)[k]!).toNat]!).qG).toNat) qf qf [sF false qZ qC qB s.qw,sF false xG (aa b22 o23) qJ s.qx,sF false xR qV qR t.qA,sF false zC (aa b26 o27) xk t.qE,sF false xC qL qK t.qy] (keepA A N [10,11,12,13,14] rfl rfl)
  refine oL rfl h36 (sp (yI ((appls s t)[k]!)) (sw (zA H underlying22 ti2 [yI ((appls s t)[k]!)] fun b37 w38 H=>sw (zG H 1 rfl 0 rfl underlying22 ti2 rfl qj rfl rfl rfl (by simp [Value.oneCell',Value.cells]) qp qf fun a39 c40 w41 H=>?_))))
  rw [snocI] at H
  refine oI rfl rfl (sw (o_closeI H 3 rfl 1 qj rfl 0 rfl (c:=(((s.qx[((appls s t)[k]!).toNat]!).qG).toNat)) (N:Fresh w.heap.size [F35]) (H.jU []) sizeOf22 rfl rfl qf qf fun w42 F43 N H=>xM (b_n (t_n (xO (sw (zB k 1 rfl rfl qf (sp (yI (k+1)) (xM ?_)))))))))
  refine qY (m' :=(((appls s t).length) - ((k+1):Int)).toNat) qf ⟨_,k+1,(((ownL 2 s t s.qw.length k).set (((s.qx[((appls s t)[k]!).toNat]!).qG).toNat) ⟨[]⟩).set (((s.qx[((appls s t)[k]!).toNat]!).qG).toNat) ⟨(((ownL 2 s t s.qw.length k)[((s.qx[((appls s t)[k]!).toNat]!).qG).toNat]!).l++[(appls s t)[k]!])⟩),(x_own.set (((s.qx[((appls s t)[k]!).toNat]!).qG).toNat) (Sv a39 ((((ownL 2 s t s.qw.length k)[((s.qx[((appls s t)[k]!).toNat]!).qG).toNat]!).l.length)+1) c40)),F43,uE6,?_,?_,rfl,N,H.pick [2,3,4,5,6,7] [0,2,3,4,5,6]⟩
  · exact ownL_set qf rfl qf qf (by rw [List.set_set])
  · omega
 refine zx4 (zcr (sw (vP H underlying125 ti129 fun b44 w45 H=>sp (Sv (aa b44 0) 0 0) (zjcc (sp (Sv (aa b9 0) s.qw.length s.qw.length) (oN rfl (sp (yI 0) (zjn (qX ?_)))))))))
 replace H:=H.ofOwn 0 rfl
 rw [ownL_end qf] at H
 have cl:=cellsR_len s t s.qw.length
 replace H:=H.boxRow 0 rfl 2 0 rfl qj
 replace H:=H.vT (α:=inCellD)
 replace H:St _ _ [rr (aa b44 0) 0 0 129 2 [],rr ra12 ((appls s t).length) rc12 2 1 ((appls s t).map (Value.int .i64)),rr (aa b9 0) s.qw.length s.qw.length 22 1 x_own,.box b7 (yT t qV qR xm xk qL qK) 38,.box b5 (yS s qC qB qN qJ) 36,.box b3 (yT t qV qR xm xk qL qK) 38,.box b1 (yS s qC qB qN qJ) 36] [zf true [] [] ([]:List inCellD),zf true F_own x_own (cellsR s t s.qw.length),zf true F_own x_own (ownL 2 s t s.qw.length k),sF false qZ qC qB s.qw,sF false xG qN qJ s.qx,sF false xR qV qR t.qA,sF false zC xm xk t.qE,sF false xC qL qK t.qy]:=H
 refine zD (fun m' ρ w46=>∃ (xY:Env) (zX:yOA) (xX:Nat) (zK:Nat) (out:List inCellD) (Ql:List Value) (jI:yLN) (c:Nat),ρ=upd (upd (upd (upd (upd (upd xY 2 (pp b5 0)) 3 (pp b7 0)) 10 (Sv zX xX zK)) 55 (Sv (aa b9 0) s.qw.length s.qw.length)) 56 (yI s.qw.length)) 57 (yI c)∧out=(Xf s t c)∧((c:Int)≤s.qw.length)∧(GoodP s t c)∧m' =(s.qw.length - (c:Int)).toNat∧Fresh w.heap.size [F_own]∧St w w46 [rr zX xX zK 129 2 Ql,rr ra12 ((appls s t).length) rc12 2 1 ((appls s t).map (Value.int .i64)),rr (aa b9 0) s.qw.length s.qw.length 22 1 x_own,.box b7 (yT t qV qR xm xk qL qK) 38,.box b5 (yS s qC qB qN qJ) 36,.box b3 (yT t qV qR xm xk qL qK) 38,.box b1 (yS s qC qB qN qJ) 36] [zf true jI Ql out,zf true F_own x_own (cellsR s t s.qw.length),zf true F_own x_own (ownL 2 s t s.qw.length k),sF false qZ qC qB s.qw,sF false xG qN qJ s.qx,sF false xR qV qR t.qA,sF false zC xm xk t.qE,sF false xC qL qK t.qy]) ((s.qw.length - (0:Int)).toNat) ⟨_,(aa b44 0),0,0,([]:List inCellD),[],[],0,uE6,(by rfl),qf,(by exact fun j hj=>by omega),rfl,N,H⟩ ?_
 clear H N
 rintro m' ρ w47 ⟨xY,zX,xX,zK,out,Ql,jI,c,rfl,rfl,i0,gp,rfl,N,H⟩
 have hn_out:=H.zq (α:=inCellD) 0 rfl 0 rfl qj
 have ce:=cells_len s t c
 have rl:=rules_le s t c
 refine zcr (sp (Bv (decide ((c:Int) < s.qw.length))) (zjn (xQ (cD rfl (fun h48=>?_) (fun h48=>?_)))))
 ·skip
  refine qW (t_n (xQ (qX (zcr (sp (yI c) (oI rfl rfl ?_))))))
  obtain ⟨a49,c50,G51,s52,h53,H⟩:=H.yw 2 rfl 1 rfl (iv:=c) c qf qf
  refine oL rfl (h53) (sps [yI c,Sv a49 (((cellsR s t s.qw.length)[c]!).length) c50] (zjcc (sp (Sv a49 (((cellsR s t s.qw.length)[c]!).length) c50) (oN rfl (sp (Bv ((((cellsR s t s.qw.length)[c]!).length:Int) == 0)) (zjn (cE rfl (fun h54=>?_) (fun h54=>?_))))))))
  ·skip
   rw [cellsR_get (s:=s) (t:=t) (n:=s.qw.length) (c:=c) qf] at H h54 ⊢
   refine c_exit (t_x (b_x (t_n (xO (sw (zB c 1 rfl rfl qf (sp (yI (c+1)) (xM (qY (m' :=(s.qw.length - ((c+1):Int)).toNat) qf ⟨_,zX,xX,zK,(Xf s t c),Ql,jI,c+1,uE6,?_,?_,?_,rfl,N,H.pick [0,1,2,3,4,5,6] [1,2,3,4,5,6,7,8]⟩)))))))))
   · first | exact cells_yes qf | exact cells_no qf
   · omega
   · exact gp.succ (by first | exact .inl qf | exact .inr (show (vC _ _).2=0 from ‹_›))
  rw [cellsR_get (s:=s) (t:=t) (n:=s.qw.length) (c:=c) qf] at H h54 ⊢
  refine qW (t_n (zcr (sw (vP H underlying27 ti22 fun b55 w56 H=>sp (Sv (aa b55 0) 0 0) (zjcc (sp (Sv a49 ((zN s t c).length) c50) (oN rfl (sp (yI 0) (zjn (qX ?_))))))))))
  replace H:=H.boxRow 0 rfl 1 0 rfl qj
  replace H:=H.vT (α:=yLI)
  replace H:=H.unfree 0 rfl
  refine zD (fun m' ρ w57=>∃ (xY:Env) (Qi:yOA) (jW:Nat) (Qc:Nat) (needs:yLL) (Vy:List Value) (Y5:yLN) (k_1:Nat),ρ=upd (upd (upd (upd (upd (upd (upd (upd (upd (upd (upd (upd xY 2 (pp b5 0)) 3 (pp b7 0)) 10 (Sv zX xX zK)) 11 (yI c)) 12 (Sv a49 ((zN s t c).length) c50)) 13 (Sv Qi jW Qc)) 55 (Sv (aa b9 0) s.qw.length s.qw.length)) 56 (yI s.qw.length)) 57 (yI c)) 66 (Sv a49 ((zN s t c).length) c50)) 67 (yI ((zN s t c).length))) 68 (yI k_1)∧needs=(zt s ((zN s t c).take k_1))∧((k_1:Int)≤((zN s t c).length))∧m' =(((zN s t c).length) - (k_1:Int)).toNat∧Fresh w.heap.size [F_own]∧St w w57 [rr Qi jW Qc 22 1 Vy,rr zX xX zK 129 2 Ql,rr ra12 ((appls s t).length) rc12 2 1 ((appls s t).map (Value.int .i64)),rr (aa b9 0) s.qw.length s.qw.length 22 1 x_own,.box b7 (yT t qV qR xm xk qL qK) 38,.box b5 (yS s qC qB qN qJ) 36,.box b3 (yT t qV qR xm xk qL qK) 38,.box b1 (yS s qC qB qN qJ) 36] [zf false Y5 Vy needs,sF true G51 a49 c50 (zN s t c),zf true jI Ql (Xf s t c),zf true F_own x_own (cellsR s t s.qw.length),zf true F_own x_own (ownL 2 s t s.qw.length k),sF false qZ qC qB s.qw,sF false xG qN qJ s.qx,sF false xR qV qR t.qA,sF false zC xm xk t.qE,sF false xC qL qK t.qy]) ((((zN s t c).length) - (0:Int)).toNat) ⟨_,(aa b55 0),0,0,([]:yLL),[],[],0,uE12,(by rfl),qf,rfl,N,H.pick [0,1,2,3,4,5,6,7] [0,2,3,4,5,6,7,8,9,10]⟩ ?_
  clear H N
  rintro m' ρ w58 ⟨xY,Qi,jW,Qc,needs,Vy,Y5,k_1,rfl,rfl,i0,rfl,N,H⟩
  have hn_needs:=H.zq (α:=yLI) 0 rfl 0 rfl qj
  have nl:=VO s ((zN s t c).take k_1)
  have tl:=List.length_take_le k_1 (zN s t c)
  have cl8:=cellR_len (t:=t) p0 c
  refine zcr (sp (Bv (decide ((k_1:Int) < ((zN s t c).length)))) (zjn (xQ (cD rfl (fun h59=>?_) (fun h59=>?_)))))
  ·skip
   obtain ⟨e1,e2,e3,e4⟩:=cellR_at (s:=s) (t:=t) (c:=c) (j:=k_1) qf
   refine qW (t_n (xQ (qX (zcr ?_))))
   obtain ⟨b60,o61,rfl⟩:=H.addr 1 rfl qf
   refine oI rfl rfl (oL rfl (H.jY 1 rfl k_1 qf qf) (sp (yI ((zN s t c)[k_1]!)) (zjn (xO (sp (Sv Qi jW Qc) (oF rfl (oL rfl (H.cell 5 rfl rfl) (sp (yI ((zN s t c)[k_1]!)) ?_))))))))
   obtain ⟨b63,o64,rfl⟩:=H.addr 6 rfl qf
   obtain ⟨ae66Need,ce66Need,Fe66Need,ae66Have,ce66Have,Fe66Have,ae66Lack,ce66Lack,Fe66Lack,ae66Here,ce66Here,Fe66Here,ae66Out,ce66Out,Fe66Out,ae66Into,ce66Into,Fe66Into,H⟩:=H.yF 6 rfl ((zN s t c)[k_1]!) (((zN s t c)[k_1]!).toNat) qf qf qf
   refine oI rfl rfl (oF rfl (oL rfl (H.xW 6 rfl 2 rfl) (sw (zA H underlying27 ti22 [Sv ae66Need (((s.qx[((zN s t c)[k_1]!).toNat]!).xn).length) ce66Need] fun b67 w68 H=>sw (zG H 1 rfl 0 rfl underlying27 ti22 rfl qj rfl rfl rfl (by simp [Value.oneCell',Value.cells]) qp qf fun a69 c70 w71 H=>?_)))))
   replace H:=H.jd 7 rfl 0 rfl
   refine sp (Sv a69 (jW+1) c70) (xM (b_n (t_n (xO (sw (zB k_1 1 rfl rfl qf (sp (yI (k_1+1)) (xM (qY (m' :=(((zN s t c).length) - ((k_1+1):Int)).toNat) qf ⟨_,a69,jW+1,c70,((zt s ((zN s t c).take k_1))++[(s.qx[((zN s t c)[k_1]!).toNat]!).xn]),Vy++[Sv ae66Need (((s.qx[((zN s t c)[k_1]!).toNat]!).xn).length) ce66Need],(Y5++Fe66Need),k_1+1,uE12,?_,?_,rfl,N,H.pick [1,2,3,4,5,6,7,8] [0,9,10,11,12,13,14,15,16,17]⟩)))))))))
   · exact needs_take qf
   · omega
  rw [List.take_of_length_le (l:=zN s t c) (i:=k_1) qf] at H
  refine zx4 (zcr (oF rfl (oL rfl (H.cell 4 rfl rfl) (sp (yI c) ?_))))
  obtain ⟨b72,o73,rfl⟩:=H.addr 8 rfl qf
  obtain ⟨ae75,ce75,Fe75,H⟩:=H.vV 8 rfl c c qf qf qf
  refine oI rfl rfl (oL rfl (H.xW 1 rfl 0 rfl) (sp (Sv Qi jW Qc) ?_))
  obtain ⟨G76,hn77,h78⟩:=H.rowIsR (α:=yLI) 0 rfl 2 rfl qj
  have cp:=cell_pack p0 p1 (c:=c) qf
  have nl2:=VO s (zN s t c)
  have sz82:=H.base.size
  have lt83:=H.ltN (L:=[F_own]) [5]
  refine sw (oc (args_eq (by rw [← hn77]) (maxPack_ok _ (t.qE[c]!) (zt s (zN s t c)) (H.get 0 rfl).1 (hn77▸h78) qg qg)) ?_)
  rintro _ w80 ⟨ra79a,rn79a,rc79a,rx79a,rF79a,rfl,M,K⟩ _
  replace N:=N.merge sz82 lt83 M
  replace H:=H.merge K M
  obtain rfl:=H.zq (α:=yLI) 0 rfl 0 rfl qj
  refine sps [.tuple #[Sv ra79a (((vC (t.qE[c]!) (zt s (zN s t c))).1).length) rc79a,yI ((vC (t.qE[c]!) (zt s (zN s t c))).2)],Sv ra79a (((vC (t.qE[c]!) (zt s (zN s t c))).1).length) rc79a,yI ((vC (t.qE[c]!) (zt s (zN s t c))).2),Sv ra79a (((vC (t.qE[c]!) (zt s (zN s t c))).1).length) rc79a,yI ((vC (t.qE[c]!) (zt s (zN s t c))).2)] (zjcc (sps [yI ((vC (t.qE[c]!) (zt s (zN s t c))).2),Bv (((vC (t.qE[c]!) (zt s (zN s t c))).2:Int) != 0)] (zjn ?_)))
  refine xE (((vC (t.qE[c]!) (zt s (zN s t c))).2:Int) != 0) rfl (fun h85=>?_) (fun h85=>?_)
  ·skip
   replace h85:=bne_iff_ne.1 h85
   refine zcr (sps [yI ((vC (t.qE[c]!) (zt s (zN s t c))).2),yN,yI ((vC (t.qE[c]!) (zt s (zN s t c))).2)] (zjr (t_r (zr5 (ret2 yN (yI ((vC (t.qE[c]!) (zt s (zN s t c))).2)) rfl rfl rfl ⟨_,rfl,?_⟩)))))
   replace H:=H.erases [6,5,4,3,2,1,0]
   dsimp only [vS,List.eraseIdx] at H
   refine sps [.tuple #[yN,yI ((vC (t.qE[c]!) (zt s (zN s t c))).2)],yN,yI ((vC (t.qE[c]!) (zt s (zN s t c))).2),yN,yI ((vC (t.qE[c]!) (zt s (zN s t c))).2)] (zjcc (sps [yI ((vC (t.qE[c]!) (zt s (zN s t c))).2),Bv (((vC (t.qE[c]!) (zt s (zN s t c))).2:Int) != 0)] (zjn (xE (((vC (t.qE[c]!) (zt s (zN s t c))).2:Int) != 0) rfl (fun h86=>?_) (fun h=>absurd (xw h) h85)))))
   replace h86:=bne_iff_ne.1 h86
   refine zcr (sps [yI ((vC (t.qE[c]!) (zt s (zN s t c))).2),yN,yI ((vC (t.qE[c]!) (zt s (zN s t c))).2)] (zjr (t_r ?_)))
   replace H:=H.nilRow 22 1
   replace H:=H.vT (α:=yLI)
   refine ret2 yN (yI ((vC (t.qE[c]!) (zt s (zN s t c))).2)) rfl rfl rfl ⟨_,rfl,?_,H.base⟩
   rw [cho_code (bad_code (c:=c) qf qf ‹_›) ‹_›]
   exact ⟨none,0,0,[],[],rfl,(N.emp.pick [0]),H.pick [0] [0]⟩
  replace h85:=xw h85
  refine qW (t_n (xO (sps [Sv zX xX zK,Sv a49 ((zN s t c).length) c50,Sv ra79a (((vC (t.qE[c]!) (zt s (zN s t c))).1).length) rc79a] (sw (jF [Sv a49 ((zN s t c).length) c50,Sv ra79a (((vC (t.qE[c]!) (zt s (zN s t c))).1).length) rc79a] [(0,Sv a49 ((zN s t c).length) c50),(1,Sv ra79a (((vC (t.qE[c]!) (zt s (zN s t c))).1).length) rc79a)] (sw (zA H underlying125 ti129 [Sv a49 ((zN s t c).length) c50,Sv ra79a (((vC (t.qE[c]!) (zt s (zN s t c))).1).length) rc79a] fun b87 w88 H=>?_)))))))
  have H0:=H
  obtain ⟨G92,hg94,hn93,H⟩:=H.yX (α:=yLI) 1 rfl 0 rfl qj
  replace N:Fresh w.heap.size [G92,F_own]:=Fresh.ice N H0 1 hg94.1 hg94.2 (H0.jU [6])
  clear H0
  refine sw (zG H 3 rfl 0 rfl underlying125 ti129 rfl qj rfl rfl rfl (by simp [Value.oneCell',Value.cells]) qp qf fun a89 c90 w91 H=>?_)
  replace H:=H.snoc_inCellD 6 rfl 5 rfl 0 rfl
  refine sp (Sv a89 (xX+1) c90) (xM (b_n (t_n (xO (sw (zB c 1 rfl rfl qf (sp (yI (c+1)) (xM (qY (m' :=(s.qw.length - ((c+1):Int)).toNat) qf ⟨_,a89,xX+1,c90,((Xf s t c)++[⟨zN s t c,(vC (t.qE[c]!) (zt s (zN s t c))).1⟩]),Ql++[Sv a49 ((zN s t c).length) c50,Sv ra79a (((vC (t.qE[c]!) (zt s (zN s t c))).1).length) rc79a],(jI++(G51++G92)),c+1,uE6,?_,?_,?_,rfl,(N.pick [1]),H.pick [3,4,5,6,7,8,9] [0,8,9,10,11,12,13,14]⟩)))))))))
  · first | exact cells_yes qf | exact cells_no qf
  · omega
  · exact gp.succ (by first | exact .inl qf | exact .inr (show (vC _ _).2=0 from ‹_›))
 refine zx4 (zcr (sps [Sv zX xX zK,Sv zX xX zK,yI 0] (zjr (ret2 (Sv zX xX zK) (yI 0) rfl rfl rfl ⟨_,rfl,?_⟩))))
 replace H:=H.erases [4,3,2,1]
 dsimp only [vS,List.eraseIdx] at H
 obtain rfl:c=s.qw.length:=by omega
 have kn:=packsL_ne p0 p1 (k:=s.qw.length) qf gp
 have kr:=rules_le s t s.qw.length
 have kl:=packsL_le s t s.qw.length
 have ce:=cells_len s t s.qw.length
 refine sps [.tuple #[Sv zX xX zK,yI 0],Sv zX xX zK,yI 0,Sv zX xX zK,yI 0] (zjcc (sps [yI 0,Bv false] (zjn (xE false rfl (fun h=>absurd h qj) (fun _=>qW (t_n (zcr (oF rfl (oL rfl (H.cell 2 rfl rfl) (oN rfl (sw (Vg H underlying22 ti2 s.qx.length rfl rfl qf qf qf fun b95 w96 H=>sw (zA H underlying27 ti22 [Sv (aa b95 0) s.qx.length s.qx.length] fun b97 w98 H=>sp (Sv (aa b97 0) 1 1) (zjcc ?_))))))))))))))
 refine sp (Sv zX xX zK) (oN rfl (sp (yI 0) (zjn (qX ?_))))
 obtain ⟨G99,hg101,hn100,H⟩:=H.yX (α:=inCellD) 2 rfl 0 rfl qj
 replace H:=H.boxRow 0 rfl 1 1 rfl qj
 replace H:=H.vT (α:=yLI)
 obtain ⟨G102,N,hn103,H⟩:=H.jb 1 rfl N (H.jU [3])
 replace H:=H.YR true 0 rfl 1 rfl qm
 replace N:Fresh w.heap.size [(G102++[]),F_own]:=(N.emp.pick [1,0,2]).join
 refine zD (fun m' ρ w104=>∃ (xY:Env) (jl:yOA) (zy:Nat) (zU:Nat) (out_1:yLL) (X3:List Value) (Q8:yLN) (k_1:Nat),ρ=upd (upd (upd (upd xY 8 (Sv jl zy zU)) 33 (Sv zX xX zK)) 34 (yI xX)) 35 (yI k_1)∧out_1=(jv s.qx.length (xh s t s.qw.length) (xH s t s.qw.length) k_1)∧((k_1:Int)≤xX)∧((jv s.qx.length (xh s t s.qw.length) (xH s t s.qw.length) k_1).length≤300)∧m' =(xX - (k_1:Int)).toNat∧Fresh w.heap.size [Q8]∧St w w104 [rr jl zy zU 22 1 X3,.box b3 (yT t qV qR xm xk qL qK) 38,.box b1 (yS s qC qB qN qJ) 36] [zf true Q8 X3 out_1,isF true G99 (Sv zX xX zK) (Xf s t s.qw.length),sF false qZ qC qB s.qw,sF false xG qN qJ s.qx,sF false xR qV qR t.qA,sF false zC xm xk t.qE,sF false xC qL qK t.qy]) ((xX - (0:Int)).toNat) ⟨_,(aa b97 0),1,1,[(List.replicate s.qx.length (0:Int))],[Sv (aa b95 0) s.qx.length s.qx.length],(G102++[]),0,uE4,(by rfl),qf,(by rw [X5];show 1≤300;omega),rfl,(N.pick [0]),H.pick [0,3,4] [0,3,7,8,9,10,11]⟩ ?_
 clear H N
 rintro m' ρ w105 ⟨xY,jl,zy,zU,out_1,X3,Q8,k_1,rfl,rfl,i0,g3,rfl,N,H⟩
 have hn_out:=H.zq (α:=yLI) 0 rfl 0 rfl qj
 refine zcr (sp (Bv (decide ((k_1:Int) < xX))) (zjn (xQ (cD rfl (fun h106=>?_) (fun h106=>?_)))))
 ·skip
  obtain ⟨gb,gc⟩:=cell_few (s:=s) (t:=t) (n:=s.qw.length) (i:=k_1) p0 qf
  refine qW (t_n (xQ (qX (zcr ?_))))
  have hl109:=H.isLen 1 rfl
  obtain ⟨b107,o108,rfl⟩:=H.addr 1 rfl qf
  obtain ⟨ae110rules,ce110rules,Fe110rules,ae110packings,ce110packings,Fe110packings,H⟩:=H.elem_inCellD 1 rfl k_1 k_1 qf qf qf
  refine oI rfl rfl (sw (zl [Sv ae110rules ((((Xf s t s.qw.length)[k_1]!).frules).length) ce110rules,Sv ae110packings ((((Xf s t s.qw.length)[k_1]!).fpackings).length) ce110packings] isAgg129 sizeOf129 rfl (qF (H.get 2 rfl) 0 2) (sw (zh H ti129 [yN,yN] fun b111 w112 H=>sw (zF H 0 [Sv ae110rules ((((Xf s t s.qw.length)[k_1]!).frules).length) ce110rules,Sv ae110packings ((((Xf s t s.qw.length)[k_1]!).fpackings).length) ce110packings] sizeOf129 fun w113 H=>zjc (sw (vP H underlying27 ti22 fun b114 w115 H=>?_)))))))
  refine sp (Sv (aa b114 0) 0 0) (zjcc (sp (Sv jl zy zU) (oN rfl (sp (yI 0) (zjn (qX ?_))))))
  obtain ⟨ce1,ce2⟩:=cells_at (s:=s) (t:=t) (k:=s.qw.length) (i:=k_1) qf
  rw [ce1,ce2] at H
  replace H:=H.boxRow 0 rfl 1 0 rfl qj
  replace H:=H.vT (α:=yLI)
  refine zD (fun m' ρ w116=>∃ (xY:Env) (a_next:yOA) (n_next:Nat) (c_next:Nat) (next:yLL) (x_next:List Value) (F_next:yLN) (k_51:Nat),ρ=upd (upd (upd (upd (upd (upd (upd (upd xY 10 (pp b111 0)) 11 (Sv a_next n_next c_next)) 33 (Sv (aa b107 o108) xX zK)) 34 (yI xX)) 35 (yI k_1)) 40 (Sv jl zy zU)) 41 (yI zy)) 42 (yI k_51)∧next=(nextK (jv s.qx.length (xh s t s.qw.length) (xH s t s.qw.length) k_1) ((xh s t s.qw.length)[k_1]!) ((xH s t s.qw.length)[k_1]!) k_51)∧((k_51:Int)≤zy)∧((nextK (jv s.qx.length (xh s t s.qw.length) (xH s t s.qw.length) k_1) ((xh s t s.qw.length)[k_1]!) ((xH s t s.qw.length)[k_1]!) k_51).length≤300)∧m' =(zy - (k_51:Int)).toNat∧Fresh w.heap.size [Q8,F_next]∧St w w116 [rr a_next n_next c_next 22 1 x_next,.box b111 [Sv ae110rules (((xh s t s.qw.length)[k_1]!).length) ce110rules,Sv ae110packings (((xH s t s.qw.length)[k_1]!).length) ce110packings] 129,rr jl zy zU 22 1 X3,.box b3 (yT t qV qR xm xk qL qK) 38,.box b1 (yS s qC qB qN qJ) 36] [zf true F_next x_next next,sF true Fe110rules ae110rules ce110rules ((xh s t s.qw.length)[k_1]!),sF true Fe110packings ae110packings ce110packings ((xH s t s.qw.length)[k_1]!),atF b107 (o108+(k_1:Int).toNat * 2) [Sv ae110rules (((xh s t s.qw.length)[k_1]!).length) ce110rules,Sv ae110packings (((xH s t s.qw.length)[k_1]!).length) ce110packings],zf true Q8 X3 (jv s.qx.length (xh s t s.qw.length) (xH s t s.qw.length) k_1),isF true G99 (Sv (aa b107 o108) xX zK) (Xf s t s.qw.length),sF false qZ qC qB s.qw,sF false xG qN qJ s.qx,sF false xR qV qR t.qA,sF false zC xm xk t.qE,sF false xC qL qK t.qy]) ((zy - (0:Int)).toNat) ⟨_,(aa b114 0),0,0,([]:yLL),[],[],0,uE8,(by rfl),qf,(by show 0≤300;omega),rfl,(N.emp.pick [1,0]),H⟩ ?_
  clear H N
  rintro m' ρ w117 ⟨xY,a_next,n_next,c_next,next,x_next,F_next,k_51,rfl,rfl,i0,n3,rfl,N,H⟩
  have hn_next:=H.zq (α:=yLI) 0 rfl 0 rfl qj
  refine zcr (sp (Bv (decide ((k_51:Int) < zy))) (zjn (xQ (cD rfl (fun h118=>?_) (fun h118=>?_)))))
  ·skip
   refine qW (t_n (xQ (qX (zcr ?_))))
   obtain ⟨b119,rfl⟩:=H.Qn 2 rfl qf
   refine oI rfl rfl ?_
   obtain ⟨a120,c121,G122,s123,h124,H⟩:=H.yw 2 rfl 4 rfl (iv:=k_51) k_51 qf qf
   refine oL rfl (h124) (sp (Sv a120 (((jv s.qx.length (xh s t s.qw.length) (xH s t s.qw.length) k_1)[k_51]!).length) c121) (zjcc (oF rfl (oL rfl (H.cell 1 rfl rfl) (oN rfl (sp (yI 0) (zjn (qX ?_))))))))
   refine zD (fun m' ρ w125=>∃ (xY:Env) (XZ:yOA) (QR:Nat) (XY:Nat) (next_1:yLL) (Va:List Value) (Xh:yLN) (k_52:Nat),ρ=upd (upd (upd (upd (upd (upd (upd (upd (upd (upd (upd (upd xY 10 (pp b111 0)) 11 (Sv XZ QR XY)) 13 (Sv a120 (((jv s.qx.length (xh s t s.qw.length) (xH s t s.qw.length) k_1)[k_51]!).length) c121)) 33 (Sv (aa b107 o108) xX zK)) 34 (yI xX)) 35 (yI k_1)) 40 (Sv (aa b119 0) zy zU)) 41 (yI zy)) 42 (yI k_51)) 47 (Sv ae110packings (((xH s t s.qw.length)[k_1]!).length) ce110packings)) 48 (yI (((xH s t s.qw.length)[k_1]!).length))) 49 (yI k_52)∧next_1=(nextX (jv s.qx.length (xh s t s.qw.length) (xH s t s.qw.length) k_1) ((xh s t s.qw.length)[k_1]!) ((xH s t s.qw.length)[k_1]!) k_51 k_52)∧((k_52:Int)≤(((xH s t s.qw.length)[k_1]!).length))∧m' =((((xH s t s.qw.length)[k_1]!).length) - (k_52:Int)).toNat∧Fresh w.heap.size [Q8,Xh]∧St w w125 [rr XZ QR XY 22 1 Va,.box b111 [Sv ae110rules (((xh s t s.qw.length)[k_1]!).length) ce110rules,Sv ae110packings (((xH s t s.qw.length)[k_1]!).length) ce110packings] 129,rr (aa b119 0) zy zU 22 1 X3,.box b3 (yT t qV qR xm xk qL qK) 38,.box b1 (yS s qC qB qN qJ) 36] [sF true G122 a120 c121 ((jv s.qx.length (xh s t s.qw.length) (xH s t s.qw.length) k_1)[k_51]!),zf true Xh Va next_1,sF true Fe110rules ae110rules ce110rules ((xh s t s.qw.length)[k_1]!),sF true Fe110packings ae110packings ce110packings ((xH s t s.qw.length)[k_1]!),atF b107 (o108+(k_1:Int).toNat * 2) [Sv ae110rules (((xh s t s.qw.length)[k_1]!).length) ce110rules,Sv ae110packings (((xH s t s.qw.length)[k_1]!).length) ce110packings],zf true Q8 X3 (jv s.qx.length (xh s t s.qw.length) (xH s t s.qw.length) k_1),isF true G99 (Sv (aa b107 o108) xX zK) (Xf s t s.qw.length),sF false qZ qC qB s.qw,sF false xG qN qJ s.qx,sF false xR qV qR t.qA,sF false zC xm xk t.qE,sF false xC qL qK t.qy]) (((((xH s t s.qw.length)[k_1]!).length) - (0:Int)).toNat) ⟨_,a_next,n_next,c_next,(nextK (jv s.qx.length (xh s t s.qw.length) (xH s t s.qw.length) k_1) ((xh s t s.qw.length)[k_1]!) ((xH s t s.qw.length)[k_1]!) k_51),x_next,F_next,0,uE12,(by exact nextX_zero _ _ _ _),qf,rfl,N,H⟩ ?_
   clear H N
   rintro m' ρ w126 ⟨xY,XZ,QR,XY,next_1,Va,Xh,k_52,rfl,rfl,i0,rfl,N,H⟩
   have hn_next:=H.zq (α:=yLI) 0 rfl 1 rfl qj
   refine zcr (sp (Bv (decide ((k_52:Int) < (((xH s t s.qw.length)[k_1]!).length)))) (zjn (xQ (cD rfl (fun h127=>?_) (fun h127=>?_)))))
   ·skip
    have nx:=nextX_len (r:=((xh s t s.qw.length)[k_1]!)) (show k_51 < (jv s.qx.length (xh s t s.qw.length) (xH s t s.qw.length) k_1).length by omega) (show k_52≤((xH s t s.qw.length)[k_1]!).length by omega)
    have nk:=nextK_len (r:=((xh s t s.qw.length)[k_1]!)) (P:=((xH s t s.qw.length)[k_1]!)) (show k_51≤(jv s.qx.length (xh s t s.qw.length) (xH s t s.qw.length) k_1).length by omega)
    have g1:=prodG_at (n:=s.qx.length) (rs:=(xh s t s.qw.length)) (all:=(xH s t s.qw.length)) (i:=k_1) (k:=k_51) qf
    have g2:=pack_at (s:=s) (t:=t) (n:=s.qw.length) (i:=k_1) (x:=k_52) qf qf
    refine qW (t_n (xQ (qX (zcr ?_))))
    obtain ⟨b128,o129,rfl⟩:=H.addr 3 rfl qf
    obtain ⟨ae131,ce131,Fe131,H⟩:=H.vV 3 rfl k_52 k_52 qf qf qf
    refine oI rfl rfl (oL rfl (H.xW 1 rfl 0 rfl) (sp (Sv ae131 ((((xH s t s.qw.length)[k_1]!)[k_52]!).length) ce131) (zjc (sp (Sv a120 (((jv s.qx.length (xh s t s.qw.length) (xH s t s.qw.length) k_1)[k_51]!).length) c121) ?_))))
    have sz132:=H.base.size
    have lt133:=H.ltN (L:=[Q8,Xh]) [7,3]
    refine sw (oc (cloneI_ok _ ((jv s.qx.length (xh s t s.qw.length) (xH s t s.qw.length) k_1)[k_51]!) (H.get 2 rfl).1 qg) ?_)
    rintro v137 w135 r137 x136
    replace H:=H.zJ x136 r137
    obtain ⟨a138,c139,rfl,hc140,hm141⟩:=H.jA 0 rfl
    refine sp (Sv a138 (((jv s.qx.length (xh s t s.qw.length) (xH s t s.qw.length) k_1)[k_51]!).length) c139) (zjcc (oF rfl (oL rfl (H.cell 2 rfl rfl) (oN rfl (sp (yI 0) (zjn (qX ?_)))))))
    refine zD (fun m' ρ w142=>∃ (xY:Env) (k_53:Nat) (own_1:yLI),ρ=upd (upd (upd (upd (upd (upd (upd (upd (upd (upd (upd (upd (upd (upd (upd (upd (upd xY 10 (pp b111 0)) 11 (Sv XZ QR XY)) 13 (Sv a120 (((jv s.qx.length (xh s t s.qw.length) (xH s t s.qw.length) k_1)[k_51]!).length) c121)) 15 (Sv ae131 ((((xH s t s.qw.length)[k_1]!)[k_52]!).length) ce131)) 16 (Sv a138 (((jv s.qx.length (xh s t s.qw.length) (xH s t s.qw.length) k_1)[k_51]!).length) c139)) 33 (Sv (aa b107 o108) xX zK)) 34 (yI xX)) 35 (yI k_1)) 40 (Sv (aa b119 0) zy zU)) 41 (yI zy)) 42 (yI k_51)) 47 (Sv (aa b128 o129) (((xH s t s.qw.length)[k_1]!).length) ce110packings)) 48 (yI (((xH s t s.qw.length)[k_1]!).length))) 49 (yI k_52)) 56 (Sv ae110rules (((xh s t s.qw.length)[k_1]!).length) ce110rules)) 57 (yI (((xh s t s.qw.length)[k_1]!).length))) 58 (yI k_53)∧own_1=(setTo ((jv s.qx.length (xh s t s.qw.length) (xH s t s.qw.length) k_1)[k_51]!) ((xh s t s.qw.length)[k_1]!) (((xH s t s.qw.length)[k_1]!)[k_52]!) k_53)∧((k_53:Int)≤(((xh s t s.qw.length)[k_1]!).length))∧m' =((((xh s t s.qw.length)[k_1]!).length) - (k_53:Int)).toNat∧Fresh w.heap.size [Q8,Xh]∧St w w142 [rr a138 (((jv s.qx.length (xh s t s.qw.length) (xH s t s.qw.length) k_1)[k_51]!).length) c139 2 1 (own_1.map (Value.int .i64)),rr XZ QR XY 22 1 Va,.box b111 [Sv ae110rules (((xh s t s.qw.length)[k_1]!).length) ce110rules,Sv (aa b128 o129) (((xH s t s.qw.length)[k_1]!).length) ce110packings] 129,rr (aa b119 0) zy zU 22 1 X3,.box b3 (yT t qV qR xm xk qL qK) 38,.box b1 (yS s qC qB qN qJ) 36] [sF true Fe131 ae131 ce131 (((xH s t s.qw.length)[k_1]!)[k_52]!),atF b128 (o129+(k_52:Int).toNat * 1) [Sv ae131 ((((xH s t s.qw.length)[k_1]!)[k_52]!).length) ce131],sF true G122 a120 c121 ((jv s.qx.length (xh s t s.qw.length) (xH s t s.qw.length) k_1)[k_51]!),zf true Xh Va (nextX (jv s.qx.length (xh s t s.qw.length) (xH s t s.qw.length) k_1) ((xh s t s.qw.length)[k_1]!) ((xH s t s.qw.length)[k_1]!) k_51 k_52),sF true Fe110rules ae110rules ce110rules ((xh s t s.qw.length)[k_1]!),sF true Fe110packings (aa b128 o129) ce110packings ((xH s t s.qw.length)[k_1]!),atF b107 (o108+(k_1:Int).toNat * 2) [Sv ae110rules (((xh s t s.qw.length)[k_1]!).length) ce110rules,Sv (aa b128 o129) (((xH s t s.qw.length)[k_1]!).length) ce110packings],zf true Q8 X3 (jv s.qx.length (xh s t s.qw.length) (xH s t s.qw.length) k_1),isF true G99 (Sv (aa b107 o108) xX zK) (Xf s t s.qw.length),sF false qZ qC qB s.qw,sF false xG qN qJ s.qx,sF false xR qV qR t.qA,sF false zC xm xk t.qE,sF false xC qL qK t.qy]) (((((xh s t s.qw.length)[k_1]!).length) - (0:Int)).toNat) ⟨_,0,((jv s.qx.length (xh s t s.qw.length) (xH s t s.qw.length) k_1)[k_51]!),uE17,(by rfl),qf,rfl,N,H⟩ ?_
    clear H N
    rintro m' ρ w143 ⟨xY,k_53,own_1,rfl,rfl,i0,rfl,N,H⟩
    have hn_own:=H.YX 0 rfl
    have sl:=setTo_len ((jv s.qx.length (xh s t s.qw.length) (xH s t s.qw.length) k_1)[k_51]!) ((xh s t s.qw.length)[k_1]!) (((xH s t s.qw.length)[k_1]!)[k_52]!) k_53
    refine zcr (sp (Bv (decide ((k_53:Int) < (((xh s t s.qw.length)[k_1]!).length)))) (zjn (xQ (cD rfl (fun h144=>?_) (fun h144=>?_)))))
    ·skip
     obtain ⟨g3',g4⟩:=choice_at (s:=s) (t:=t) (n:=s.qw.length) (i:=k_1) (r:=k_53) qf qf
     refine qW (t_n (xQ (qX (zcr (sp (yI k_53) ?_)))))
     obtain ⟨b145,o146,rfl⟩:=H.addr 4 rfl qf
     refine oI rfl rfl (oL rfl (H.jY 4 rfl k_53 qf qf) (sps [yI k_53,yI (((xh s t s.qw.length)[k_1]!)[k_53]!)] (zjn (xO (sps [Sv a138 (((jv s.qx.length (xh s t s.qw.length) (xH s t s.qw.length) k_1)[k_51]!).length) c139,yI (((xh s t s.qw.length)[k_1]!)[k_53]!),Sv ae131 ((((xH s t s.qw.length)[k_1]!)[k_52]!).length) ce131,yI k_53] ?_)))))
     obtain ⟨b148,o149,rfl⟩:=H.addr 0 rfl qf
     refine oI rfl rfl (oL rfl (H.jY 0 rfl k_53 qf qf) ?_)
     obtain ⟨b151,rfl⟩:=H.Qn 0 rfl qf
     refine oI rfl rfl (sw (o_storeInt H 0 rfl ((((xH s t s.qw.length)[k_1]!)[k_52]!)[k_53]!) sizeOf2 rfl rfl (i:=((((xh s t s.qw.length)[k_1]!)[k_53]!).toNat)) qf qf fun w152 H=>xM (b_n (t_n (xO (sw (zB k_53 1 rfl rfl qf (sp (yI (k_53+1)) (xM ?_)))))))))
     refine qY (m' :=((((xh s t s.qw.length)[k_1]!).length) - ((k_53+1):Int)).toNat) qf ⟨_,k_53+1,((setTo ((jv s.qx.length (xh s t s.qw.length) (xH s t s.qw.length) k_1)[k_51]!) ((xh s t s.qw.length)[k_1]!) (((xH s t s.qw.length)[k_1]!)[k_52]!) k_53).set ((((xh s t s.qw.length)[k_1]!)[k_53]!).toNat) ((((xH s t s.qw.length)[k_1]!)[k_52]!)[k_53]!)),uE17,?_,?_,rfl,N,H⟩
     · rfl
     · omega
    refine zx4 (xO (sps [Sv XZ QR XY,Sv a138 (((jv s.qx.length (xh s t s.qw.length) (xH s t s.qw.length) k_1)[k_51]!).length) c139] (sw (zA H underlying27 ti22 [Sv a138 (((jv s.qx.length (xh s t s.qw.length) (xH s t s.qw.length) k_1)[k_51]!).length) c139] fun b153 w154 H=>?_))))
    obtain ⟨G158,N,hn159,H⟩:=H.jb 1 rfl N (H.jU [7,3])
    refine sw (zG H 2 rfl 0 rfl underlying27 ti22 rfl qj rfl rfl rfl (by simp [Value.oneCell',Value.cells]) qp qf fun a155 c156 w157 H=>?_)
    replace H:=H.jd 4 rfl 0 rfl
    replace N:Fresh w.heap.size [(Xh++G158),Q8]:=(N.pick [2,0,1]).join
    refine sp (Sv a155 (QR+1) c156) (xM (b_n (t_n (xO (sw (zB k_52 1 rfl rfl qf (sp (yI (k_52+1)) (xM ?_))))))))
    refine qY (m' :=((((xH s t s.qw.length)[k_1]!).length) - ((k_52+1):Int)).toNat) qf ⟨_,a155,QR+1,c156,((nextX (jv s.qx.length (xh s t s.qw.length) (xH s t s.qw.length) k_1) ((xh s t s.qw.length)[k_1]!) ((xH s t s.qw.length)[k_1]!) k_51 k_52)++[(setTo ((jv s.qx.length (xh s t s.qw.length) (xH s t s.qw.length) k_1)[k_51]!) ((xh s t s.qw.length)[k_1]!) (((xH s t s.qw.length)[k_1]!)[k_52]!) k_53)]),Va++[Sv a138 (((jv s.qx.length (xh s t s.qw.length) (xH s t s.qw.length) k_1)[k_51]!).length) c139],(Xh++G158),k_52+1,uE12,?_,?_,rfl,(N.pick [1,0]),H.pick [2,3,4,5,6] [4,0,6,7,8,9,10,11,12,13,14,15]⟩
    · exact nextX_succ qf (by rw [show k_53=((xh s t s.qw.length)[k_1]!).length by omega];rfl)
    · omega
   refine zx4 (zcr (sp (Sv XZ QR XY) (oN rfl (sp (Bv (decide ((QR:Int) > 300))) (zjn (cD rfl (fun h160=>?_) (fun h160=>?_)))))))
   ·skip
    refine zcr (sps [yN,yI 3] (zjr (zr5 (zr5 ?_))))
    replace H:=H.nilRow 22 1
    replace H:=H.vT (α:=yLI)
    refine ret2 yN (yI 3) rfl rfl rfl ⟨_,rfl,?_,H.base⟩
    first | rw [cho_3 (.inl (own_bad p0 (q:=k) qf qf))] | rw [cho_3 (.inr (prod_stop (G:=(jv s.qx.length (xh s t s.qw.length) (xH s t s.qw.length) k_1)) (r:=((xh s t s.qw.length)[k_1]!)) (k:=k_51+1) (i:=k_1) kn qf (X5 _) qf (by rw [← nextX_end (x:=k_52) qf qf];omega)))]
    exact ⟨none,0,0,[],[],rfl,(N.emp.pick [0]),H.pick [0] [0]⟩
   refine qW (b_n (t_n (xO (sw (zB k_51 1 rfl rfl qf (sp (yI (k_51+1)) (xM (qY (m' :=(zy - ((k_51+1):Int)).toNat) qf ⟨_,XZ,QR,XY,(nextX (jv s.qx.length (xh s t s.qw.length) (xH s t s.qw.length) k_1) ((xh s t s.qw.length)[k_1]!) ((xH s t s.qw.length)[k_1]!) k_51 k_52),Va,Xh,k_51+1,uE8,?_,?_,?_,rfl,N,H.pick [0,1,2,3,4] [1,2,3,4,5,6,7,8,9,10,11]⟩))))))))
   · exact nextX_end qf qf
   · omega
   · rw [← nextX_end (x:=k_52) qf qf];omega
  refine zx4 (xO (sps [Sv a_next n_next c_next,Sv a_next n_next c_next] (xM (b_n (t_n (xO (sw (zB k_1 1 rfl rfl qf (sp (yI (k_1+1)) (xM (qY (m' :=(xX - ((k_1+1):Int)).toNat) qf ⟨_,a_next,n_next,c_next,(nextK (jv s.qx.length (xh s t s.qw.length) (xH s t s.qw.length) k_1) ((xh s t s.qw.length)[k_1]!) ((xH s t s.qw.length)[k_1]!) k_51),x_next,F_next,k_1+1,uE4,?_,?_,?_,rfl,(N.pick [1]),H.pick [0,3,4] [0,5,6,7,8,9,10]⟩)))))))))))
  · rw [show k_51=(jv s.qx.length (xh s t s.qw.length) (xH s t s.qw.length) k_1).length by omega];rfl
  · omega
  · show (nextK (jv s.qx.length (xh s t s.qw.length) (xH s t s.qw.length) k_1) ((xh s t s.qw.length)[k_1]!) ((xH s t s.qw.length)[k_1]!) (jv s.qx.length (xh s t s.qw.length) (xH s t s.qw.length) k_1).length).length≤300;rw [← show k_51=(jv s.qx.length (xh s t s.qw.length) (xH s t s.qw.length) k_1).length by omega];exact n3
 obtain rfl:k_1=(xH s t s.qw.length).length:=by omega
 have on:0 < (jv s.qx.length (xh s t s.qw.length) (xH s t s.qw.length) (xH s t s.qw.length).length).length:=by rw [X5];exact prod_mono kn (Nat.zero_le _) (Nat.le_refl _)
 have kc:¬ Xz (xH s t s.qw.length) (xH s t s.qw.length).length > 300:=by rw [X5] at g3;omega
 refine zx4 (zcr (sp (Sv jl zy zU) ?_))
 obtain ⟨b161,rfl⟩:=H.Qn 0 rfl qf
 refine sw (o_callF #[Sv (aa b161 0) zy zU,.func (.func 94) #[] #[]] rfl rfl call93 (sortRow sortL call94 cmpSort H 0 rfl 0 rfl qf qf) ?_)
 rintro _ w162 ⟨xs163,F164,l165,rfl,hF166,hp167,hs168,H⟩
 replace N:Fresh w.heap.size [F164]:=Fresh.perm N hF166
 refine zjc (sps [Sv (aa b161 0) zy zU,Sv (aa b161 0) zy zU,yI 0] (zjr (ret2 (Sv (aa b161 0) zy zU) (yI 0) rfl rfl rfl ⟨_,rfl,?_,H.base⟩)))
 rw [cho_0 gp kc hp167 (in_order (Nat.le_refl _) fun a b h1 h2 h3=>hs168 a b h1 h2 ((cmpL_ahead ((perm_rows hp167 b qf).trans (perm_rows hp167 a qf).symm)).2 h3))]
 exact ⟨(aa b161 0),zy,zU,xs163,F164,rfl,N,H.pick [0] [0]⟩
theorem l03Succ_ok (w:World) (s:qI) (t:qH) {bs os:Nat} {qC:yOA} {qZ:yLN} {qN:yOA} {xG:yLN} {bt ot:Nat} {qV:yOA} {xR:yLN} {xm:yOA} {zC:yLN} {qL:yOA} {xC:yLN} (hs:vN w bs os (yS s qC qB qN qJ)) (xf:qO.rep w qZ [Sv qC s.qw.length qB] s.qw) (xJ:qO.rep w xG [Sv qN s.qx.length qJ] s.qx) (ht:vN w bt ot (yT t qV qR xm xk qL qK)) (zi:qO.rep w xR [Sv qV t.qA.length qR] t.qA) (zM:qO.rep w zC [Sv xm t.qE.length xk] t.qE) (xN:qO.rep w xC [Sv qL t.qy.length qK] t.qy) (p0:jE s) (p1:zu s t):Calls Tryz.prog 72 #[pp bs os,pp bt ot] w (Ret (fun v w' =>∃ (ra0:yOA) (rn0:Nat) (rc0:Nat) (rx0:List Value) (rF0:yLN),v=.tuple #[Sv ra0 rn0 rc0,yI ((xe s t).2)]∧Fresh w.heap.size [rF0]∧St w w' [rr ra0 rn0 rc0 38 3 rx0] [zf true rF0 rx0 ((xe s t).1)]) w):=by
 refine en func72 ntmps72 ?_
 have H:=(((((((St.start w).arg xN).arg zM).arg zi).V7 ht).arg xJ).arg xf).V7 hs
 have vH:=qM xf
 have jw:=qM xJ
 have Qj:=qM zi
 have Q7:=qM zM
 have jV:=qM xN
 clear hs xf xJ ht zi zM xN
 have N:=Fresh.nil w.heap.size
 refine zcr (sps [yN,yI 0] (zjcc (sps [pp bs os,pp bt ot] (sw (oq (l03Halted_ok _ s t (qF (H.get 0 rfl) 0 3) (H.get 1 rfl).1 (H.get 2 rfl).1 (qF (H.get 3 rfl) 0 3) (H.get 4 rfl).1 (H.get 5 rfl).1 (H.get 6 rfl).1 qg qg) H fun w2 H=>zjn (cP rfl (fun h4=>?_) (fun h4=>?_)))))))
 ·skip
  refine zcr (sw (vP H underlying47 ti38 fun b5 w6 H=>sps [Sv (aa b5 0) 0 0,yI 0] (zjr (t_r ?_))))
  replace H:=H.boxRow 0 rfl 3 0 rfl qj
  replace H:=H.vT (α:=qH)
  replace H:St _ _ [rr (aa b5 0) 0 0 38 3 []] [zf true [] [] ([]:List qH),atF bs os (yS s qC qB qN qJ),sF false qZ qC qB s.qw,sF false xG qN qJ s.qx,atF bt ot (yT t qV qR xm xk qL qK),sF false xR qV qR t.qA,sF false zC xm xk t.qE,sF false xC qL qK t.qy]:=H
  refine ret2 (Sv (aa b5 0) 0 0) (yI 0) rfl rfl rfl ⟨_,rfl,?_,H.base⟩
  rw [succ_h (by first | assumption | exact appls_halt.1 qf)]
  exact ⟨(aa b5 0),0,0,[],[],rfl,N.emp,H.pick [0] [0]⟩
 refine qW (t_n (zcr (sps [pp bs os,pp bt ot] ?_)))
 have sz10:=H.base.size
 refine sw (oc (l03Choices_ok _ s t (qF (H.get 0 rfl) 0 3) (H.get 1 rfl).1 (H.get 2 rfl).1 (qF (H.get 3 rfl) 0 3) (H.get 4 rfl).1 (H.get 5 rfl).1 (H.get 6 rfl).1 qg qg) ?_)
 rintro _ w8 ⟨ra7a,rn7a,rc7a,rx7a,rF7a,rfl,M,K⟩ _
 replace N:=N.merge sz10 qm M
 replace H:=H.merge K M
 obtain rfl:=H.zq (α:=yLI) 0 rfl 0 rfl qj
 refine sps [.tuple #[Sv ra7a (((vF s t).1).length) rc7a,yI ((vF s t).2)],Sv ra7a (((vF s t).1).length) rc7a,yI ((vF s t).2),Sv ra7a (((vF s t).1).length) rc7a,yI ((vF s t).2)] (zjcc (sps [yI ((vF s t).2),Bv (((vF s t).2:Int) != 0)] (zjn (xE (((vF s t).2:Int) != 0) rfl (fun h13=>?_) (fun h13=>?_)))))
 ·skip
  replace h13:=bne_iff_ne.1 h13
  refine zcr (sw (vP H underlying47 ti38 fun b14 w15 H=>sps [yI ((vF s t).2),Sv (aa b14 0) 0 0,yI ((vF s t).2)] (zjr (t_r ?_))))
  replace H:=H.boxRow 0 rfl 3 0 rfl qj
  replace H:=H.vT (α:=qH)
  replace H:St _ _ [rr (aa b14 0) 0 0 38 3 [],rr ra7a (((vF s t).1).length) rc7a 22 1 rx7a] [zf true [] [] ([]:List qH),zf true rF7a rx7a ((vF s t).1),atF bs os (yS s qC qB qN qJ),sF false qZ qC qB s.qw,sF false xG qN qJ s.qx,atF bt ot (yT t qV qR xm xk qL qK),sF false xR qV qR t.qA,sF false zC xm xk t.qE,sF false xC qL qK t.qy]:=H
  refine ret2 (Sv (aa b14 0) 0 0) (yI ((vF s t).2)) rfl rfl rfl ⟨_,rfl,?_,H.base⟩
  rw [succ_c ‹_›]
  exact ⟨(aa b14 0),0,0,[],[],rfl,(N.emp.pick [0]),H.pick [0] [0]⟩
 replace h13:=xw h13
 refine qW (t_n (zcr (sps [pp bs os,pp bt ot,Sv ra7a (((vF s t).1).length) rc7a] ?_)))
 obtain ⟨G16,hn17,h18⟩:=H.rowIsR (α:=yLI) 0 rfl 0 rfl qj
 have ln:=cho_len s t
 have cc:=fun q (hq:q < (vF s t).1.length)=>(cho_ok p0 p1 hq).1
 have ci:=fun q (hq:q < (vF s t).1.length)=>(cho_ok p0 p1 hq).2
 have sz22:=H.base.size
 have lt23:=H.ltN (L:=[rF7a]) [0]
 refine sw (oc (l03Next_ok _ s t ((vF s t).1) (qF (H.get 1 rfl) 0 3) (H.get 2 rfl).1 (H.get 3 rfl).1 (qF (H.get 4 rfl) 0 3) (H.get 5 rfl).1 (H.get 6 rfl).1 (H.get 7 rfl).1 h18 qg qg qg qg) ?_)
 rintro _ w20 ⟨ra19a,rn19a,rc19a,rx19a,rF19a,rfl,M,K⟩ _
 replace N:=N.merge sz22 lt23 M
 replace H:=H.merge K M
 obtain rfl:=H.zq (α:=qH) 0 rfl 0 rfl qj
 refine sps [Sv ra19a (((QH s t ((vF s t).1)).1).length) rc19a,yI ((QH s t ((vF s t).1)).2),Sv ra19a (((QH s t ((vF s t).1)).1).length) rc19a,yI ((QH s t ((vF s t).1)).2)] (zjr (ret2 (Sv ra19a (((QH s t ((vF s t).1)).1).length) rc19a) (yI ((QH s t ((vF s t).1)).2)) rfl rfl rfl ⟨_,rfl,?_,H.base⟩))
 rw [succ_0 (by first | assumption | exact fun h=>by have:=appls_halt.2 h;omega) ql]
 exact ⟨ra19a,((QH s t ((vF s t).1)).1).length,rc19a,rx19a,rF19a,rfl,(N.pick [0]),H.pick [0] [0]⟩

theorem nextStates_ok (w:World) (s:qI) (t:qH) {qC:yOA} {qZ:yLN} {qN:yOA} {xG:yLN} {qV:yOA} {xR:yLN} {xm:yOA} {zC:yLN} {qL:yOA} {xC:yLN} (xf:qO.rep w qZ [Sv qC s.qw.length qB] s.qw) (xJ:qO.rep w xG [Sv qN s.qx.length qJ] s.qx) (zi:qO.rep w xR [Sv qV t.qA.length qR] t.qA) (zM:qO.rep w zC [Sv xm t.qE.length xk] t.qE) (xN:qO.rep w xC [Sv qL t.qy.length qK] t.qy) (p0:jE s) (p1:zu s t):Calls Tryz.prog 73 #[.agg #[yI s.xB,Sv qC s.qw.length qB,Sv qN s.qx.length qJ],.agg #[Sv qV t.qA.length qR,Sv xm t.qE.length xk,Sv qL t.qy.length qK]] w (Ret (fun v w' =>∃ (ra0:yOA) (rn0:Nat) (rc0:Nat) (rx0:List Value) (rF0:yLN),v=.tuple #[Sv ra0 rn0 rc0,yI ((xe s t).2)]∧Fresh w.heap.size [rF0]∧St w w' [rr ra0 rn0 rc0 38 3 rx0] [zf true rF0 rx0 ((xe s t).1)]) w):=by
 refine en func73 ntmps73 ?_
 have H:=(((((St.start w).arg xN).arg zM).arg zi).arg xJ).arg xf
 have vH:=qM xf
 have jw:=qM xJ
 have Qj:=qM zi
 have Q7:=qM zM
 have jV:=qM xN
 clear xf xJ zi zM xN
 have N:=Fresh.nil w.heap.size
 refine zcr (sw (vU H (yS s qC qB qN qJ) fun b1 w2 H=>sw (vU H (yT t qV qR xm xk qL qK) fun b3 w4 H=>sps [yN,yI 0] (zjc (sw (zl (yS s qC qB qN qJ) isAgg36 sizeOf36 rfl (qF (H.cells 1 rfl) 0 3) ?_))))))
 refine sw (zl (yT t qV qR xm xk qL qK) isAgg38 sizeOf38 rfl (qF (H.cells 0 rfl) 0 3) ?_)
 have sz8:=H.base.size
 refine sw (oc (choices_ok _ s t (H.get 0 rfl).1 (H.get 1 rfl).1 (H.get 2 rfl).1 (H.get 3 rfl).1 (H.get 4 rfl).1 qg qg) ?_)
 rintro _ w6 ⟨ra5a,rn5a,rc5a,rx5a,rF5a,rfl,M,K⟩ _
 replace N:=N.merge sz8 qm M
 replace H:=H.merge K M
 obtain rfl:=H.zq (α:=yLI) 0 rfl 0 rfl qj
 refine sps [.tuple #[Sv ra5a (((vF s t).1).length) rc5a,yI ((vF s t).2)],Sv ra5a (((vF s t).1).length) rc5a,yI ((vF s t).2),Sv ra5a (((vF s t).1).length) rc5a,yI ((vF s t).2)] (zjcc (sps [yI ((vF s t).2),Bv (((vF s t).2:Int) != 0)] (zjn (xE (((vF s t).2:Int) != 0) rfl (fun h11=>?_) (fun h11=>?_)))))
 ·skip
  replace h11:=bne_iff_ne.1 h11
  refine zcr (sps [yI ((vF s t).2),yN,yI ((vF s t).2)] (zjr (t_r ?_)))
  replace H:=H.nilRow 38 3
  replace H:=H.vT (α:=qH)
  refine ret2 yN (yI ((vF s t).2)) rfl rfl rfl ⟨_,rfl,?_,H.base⟩
  rw [succ_c ‹_›]
  exact ⟨none,0,0,[],[],rfl,(N.emp.pick [0]),H.pick [0] [0]⟩
 replace h11:=xw h11
 refine qW (t_n (zcc (sw (zl (yS s qC qB qN qJ) isAgg36 sizeOf36 rfl (qF (H.cells 2 rfl) 0 3) (sw (zl (yT t qV qR xm xk qL qK) isAgg38 sizeOf38 rfl (qF (H.cells 1 rfl) 0 3) ?_))))))
 have sz15:=H.base.size
 refine sw (oc (applicable_ok _ s t (H.get 1 rfl).1 (H.get 2 rfl).1 (H.get 3 rfl).1 (H.get 4 rfl).1 (H.get 5 rfl).1 qg qg) ?_)
 rintro _ w13 ⟨ra12,rn12,rc12,rfl,M,K⟩ _
 replace H:=H.merge K M
 obtain rfl:=H.YX 0 rfl
 refine oN rfl (sp (Bv (((appls s t).length:Int) == 0)) (zjn (cE rfl (fun h18=>?_) (fun h18=>?_))))
 ·skip
  refine zcr (sps [yN,yI 0] (zjr (t_r ?_)))
  replace H:=H.nilRow 38 3
  replace H:=H.vT (α:=qH)
  refine ret2 yN (yI 0) rfl rfl rfl ⟨_,rfl,?_,H.base⟩
  rw [succ_h (by first | assumption | exact appls_halt.1 qf)]
  exact ⟨none,0,0,[],[],rfl,(N.emp.pick [0]),H.pick [0] [0]⟩
 refine qW (t_n (zcr (sw (zl (yS s qC qB qN qJ) isAgg36 sizeOf36 rfl (qF (H.cells 3 rfl) 0 3) (sw (zl (yT t qV qR xm xk qL qK) isAgg38 sizeOf38 rfl (qF (H.cells 2 rfl) 0 3) (sp (Sv ra5a (((vF s t).1).length) rc5a) ?_)))))))
 obtain ⟨G19,hn20,h21⟩:=H.rowIsR (α:=yLI) 1 rfl 0 rfl qj
 have ln:=cho_len s t
 have cc:=fun q (hq:q < (vF s t).1.length)=>(cho_ok p0 p1 hq).1
 have ci:=fun q (hq:q < (vF s t).1.length)=>(cho_ok p0 p1 hq).2
 have sz25:=H.base.size
 have lt26:=H.ltN (L:=[rF5a]) [0]
 refine sw (oc (behind_ok _ s t ((vF s t).1) (H.get 1 rfl).1 (H.get 2 rfl).1 (H.get 3 rfl).1 (H.get 4 rfl).1 (H.get 5 rfl).1 h21 qg qg qg qg qg) ?_)
 rintro _ w23 ⟨ra22a,rn22a,rc22a,rx22a,rF22a,rfl,M,K⟩ _
 replace N:=N.merge sz25 lt26 M
 replace H:=H.merge K M
 obtain rfl:=H.zq (α:=qH) 0 rfl 0 rfl qj
 refine sps [Sv ra22a (((QH s t ((vF s t).1)).1).length) rc22a,yI ((QH s t ((vF s t).1)).2),Sv ra22a (((QH s t ((vF s t).1)).1).length) rc22a,yI ((QH s t ((vF s t).1)).2)] (zjr (ret2 (Sv ra22a (((QH s t ((vF s t).1)).1).length) rc22a) (yI ((QH s t ((vF s t).1)).2)) rfl rfl rfl ⟨_,rfl,?_,H.base⟩))
 rw [succ_0 (by first | assumption | exact fun h=>by have:=appls_halt.2 h;omega) ql]
 exact ⟨ra22a,((QH s t ((vF s t).1)).1).length,rc22a,rx22a,rF22a,rfl,(N.pick [0]),H.pick [0] [0]⟩
theorem find_ok (w:World) (l:List qH) (u:qH) {al:yOA} {Fl:yLN} {auAlive:yOA} {cuAlive:Nat} {FuAlive:yLN} {auBags:yOA} {cuBags:Nat} {FuBags:yLN} {auAround:yOA} {cuAround:Nat} {FuAround:yLN} (hl:qO.rep w Fl [Sv al l.length cl] l) (huAlive:qO.rep w FuAlive [Sv auAlive u.qA.length cuAlive] u.qA) (huBags:qO.rep w FuBags [Sv auBags u.qE.length cuBags] u.qE) (huAround:qO.rep w FuAround [Sv auAround u.qy.length cuAround] u.qy):Calls Tryz.prog 80 #[Sv al l.length cl,.agg #[Sv auAlive u.qA.length cuAlive,Sv auBags u.qE.length cuBags,Sv auAround u.qy.length cuAround]] w (Ret (fun v w' =>v=yI (firstIdx (fun zz=>decide (l[zz]! =u)) l.length)) w):=by
 refine en func80 ntmps80 ?_
 have H:=((((St.start w).arg huAround).arg huBags).arg huAlive).arg hl
 have nhl:=qM hl
 have nhuAlive:=qM huAlive
 have nhuBags:=qM huBags
 have nhuAround:=qM huAround
 clear hl huAlive huBags huAround
 have N:=Fresh.nil w.heap.size
 refine zcr (sw (vU H (yT u auAlive cuAlive auBags cuBags auAround cuAround) fun b1 w2 H=>sp (yI 0) (zjc (sps [Sv al l.length cl,.func (.func 117) #[] #[pp b1 0]] (sw (vJ #[Sv al l.length cl,.func (.func 117) #[] #[pp b1 0]] rfl rfl call116 (en func116 ntmps116 ?_)))))))
 refine zcr (sp (yI 0) (zjcc (sp (Sv al l.length cl) (oN rfl (sp (yI 0) (zjn (qX ?_)))))))
 refine zD (fun m' ρ w3=>∃ (xY:Env) (i:Nat),ρ=upd (upd (upd (upd xY 0 (Sv al l.length cl)) 1 (.func (.func 117) #[] #[pp b1 0])) 7 (yI l.length)) 8 (yI i)∧((i:Int)≤l.length)∧(noneTo (fun zz=>decide (l[zz]! =u)) i)∧m' =(l.length - (i:Int)).toNat∧Fresh w.heap.size []∧St w w3 [.box b1 (yT u auAlive cuAlive auBags cuBags auAround cuAround) 38] [sF false Fl al cl l,sF false FuAlive auAlive cuAlive u.qA,sF false FuBags auBags cuBags u.qE,sF false FuAround auAround cuAround u.qy]) ((l.length - (0:Int)).toNat) ⟨_,0,uE4,qf,(by exact fun j hj=>by omega),rfl,N,H⟩ ?_
 clear H N
 rintro m' ρ w4 ⟨xY,i,rfl,i0,i1,rfl,N,H⟩
 refine zcr (sp (Bv (decide ((i:Int) < l.length))) (zjn (xQ (cD rfl (fun h5=>?_) (fun h5=>?_)))))
 ·skip
  refine qW (t_n (xQ (qX (zcr (sps [yI i,yI i] (zjc (sps [.func (.func 117) #[] #[pp b1 0],Sv al l.length cl,yI i] ?_)))))))
  obtain ⟨b6,o7,rfl⟩:=H.addr 0 rfl qf
  obtain ⟨ae9Alive,ce9Alive,Fe9Alive,ae9Bags,ce9Bags,Fe9Bags,ae9Around,ce9Around,Fe9Around,H⟩:=H.elem_StateD 0 rfl i i qf qf qf
  refine oI rfl rfl (sw (zl [Sv ae9Alive (((l[i]!).qA).length) ce9Alive,Sv ae9Bags (((l[i]!).qE).length) ce9Bags,Sv ae9Around (((l[i]!).qy).length) ce9Around] isAgg38 sizeOf38 rfl (qF (H.get 3 rfl) 0 3) (sw (vJ #[.agg #[Sv ae9Alive (((l[i]!).qA).length) ce9Alive,Sv ae9Bags (((l[i]!).qE).length) ce9Bags,Sv ae9Around (((l[i]!).qy).length) ce9Around],pp b1 0] rfl rfl call117 (en func117 ntmps117 ?_)))))
  refine zcr (sw (vU H [Sv ae9Alive (((l[i]!).qA).length) ce9Alive,Sv ae9Bags (((l[i]!).qE).length) ce9Bags,Sv ae9Around (((l[i]!).qy).length) ce9Around] fun b10 w11 H=>sp (Bv false) (zjc (sw (zl [Sv ae9Alive (((l[i]!).qA).length) ce9Alive,Sv ae9Bags (((l[i]!).qE).length) ce9Bags,Sv ae9Around (((l[i]!).qy).length) ce9Around] isAgg38 sizeOf38 rfl (qF (H.cells 0 rfl) 0 3) ?_)))))
  refine sw (zl (yT u auAlive cuAlive auBags cuBags auAround cuAround) isAgg38 sizeOf38 rfl (qF (H.cells 1 rfl) 0 3) (sw (oq (sameState_ok _ (l[i]!) u (H.get 0 rfl).1 (H.get 1 rfl).1 (H.get 2 rfl).1 (H.get 5 rfl).1 (H.get 6 rfl).1 (H.get 7 rfl).1) H fun w13 H=>sp (Bv (decide ((l[i]!)=u))) (zjr (ret1 (Bv (decide ((l[i]!)=u))) rfl rfl ⟨_,rfl,?_⟩)))))
  replace H:=H.erases [0]
  dsimp only [vS,List.eraseIdx] at H
  refine zjn (cD rfl (fun h15=>?_) (fun h15=>?_))
  ·skip
   refine zcr (sps [yI i,yI i] (zjr (zr5 (ret1 (yI i) rfl rfl ⟨_,rfl,(sp (yI i) (zjr (ret1 (yI i) rfl rfl ⟨_,rfl,?_,H.base⟩)))⟩))))
   rw [firstIdx_some (k:=i) qf i1 (decide_eq_true ‹_›)]
  refine qW (b_n (t_n (xO (sw (zB i 1 rfl rfl qf (sp (yI (i+1)) (xM (qY (m' :=(l.length - ((i+1):Int)).toNat) qf ⟨_,i+1,uE4,?_,?_,rfl,N,H.pick [0] [4,5,6,7]⟩))))))))
  · omega
  · exact noneTo_succ i1 (decide_eq_false ‹_›)
 refine zx4 (zcr (sp (yI (-1)) (zjr (ret1 (yI (-1)) rfl rfl ⟨_,rfl,(sp (yI (-1)) (zjr (ret1 (yI (-1)) rfl rfl ⟨_,rfl,?_,H.base⟩)))⟩))))
 rw [firstIdx_none (fun j hj=>i1 j qf)]

theorem sizeS_ok (w:World) (l:List qH) {al:yOA} {Fl:yLN} (hl:qO.rep w Fl [Sv al l.length cl] l):Calls Tryz.prog 121 #[Sv al l.length cl] w (Ret (fun v w' =>v=yI l.length) w):=by
 refine en func121 ntmps121 ?_
 have H:=(St.start w).arg hl
 have nhl:=qM hl
 clear hl
 have N:=Fresh.nil w.heap.size
 refine zcr (sp (yI 0) (zjc (sp (Sv al l.length cl) (oN rfl (sp (yI l.length) (zjr (ret1 (yI l.length) rfl rfl ⟨_,rfl,?_,H.base⟩)))))))
 rfl
theorem specEx_ok (w:World) (s:qI) (t:qH) {qC:yOA} {qZ:yLN} {qN:yOA} {xG:yLN} {qV:yOA} {xR:yLN} {xm:yOA} {zC:yLN} {qL:yOA} {xC:yLN} (xf:qO.rep w qZ [Sv qC s.qw.length qB] s.qw) (xJ:qO.rep w xG [Sv qN s.qx.length qJ] s.qx) (zi:qO.rep w xR [Sv qV t.qA.length qR] t.qA) (zM:qO.rep w zC [Sv xm t.qE.length xk] t.qE) (xN:qO.rep w xC [Sv qL t.qy.length qK] t.qy):Calls Tryz.prog 40 #[.agg #[yI s.xB,Sv qC s.qw.length qB,Sv qN s.qx.length qJ],.agg #[Sv qV t.qA.length qR,Sv xm t.qE.length xk,Sv qL t.qy.length qK]] w (Ret (fun v w' =>∃ (ra0States:yOA) (rc0States:Nat) (rF0States:yLN) (ra0Next:yOA) (rc0Next:Nat) (rF0Next:yLN),v=.tuple #[.agg #[Sv ra0States (((exG s t).qP).length) rc0States,Sv ra0Next (((exG s t).fNext).length) rc0Next],yI ((Xp s t).2)]∧Fresh w.heap.size [rF0States,rF0Next]∧St w w' [] [sF true rF0States ra0States rc0States ((exG s t).qP),sF true rF0Next ra0Next rc0Next ((exG s t).fNext)]) w):=by
 refine en func40 ntmps40 ?_
 have H:=(((((St.start w).arg xN).arg zM).arg zi).arg xJ).arg xf
 have vH:=qM xf
 have jw:=qM xJ
 have Qj:=qM zi
 have Q7:=qM zM
 have jV:=qM xN
 clear xf xJ zi zM xN
 have N:=Fresh.nil w.heap.size
 refine zcr (sw (vU H (yS s qC qB qN qJ) fun b1 w2 H=>sw (vU H (yT t qV qR xm xk qL qK) fun b3 w4 H=>sw (zh H ti59 [yN,yN] fun b5 w6 H=>sp (yI 0) (zjcc (sw (oq (l03Both_ok _ s t (qF (H.cells 2 rfl) 0 3) (H.get 0 rfl).1 (H.get 1 rfl).1 (qF (H.cells 1 rfl) 0 3) (H.get 2 rfl).1 (H.get 3 rfl).1 (H.get 4 rfl).1) H fun w8 H=>sp (Bv (!(dec (jE s∧zu s t)))) (zjn ?_))))))))
 refine cQ rfl (fun h10=>?_) (fun h10=>?_)
 ·skip
  refine zcr (sw (jF [yN,yN] [] (sw (zF H 0 [yN,yN] sizeOf59 fun w11 H=>sp (yI 1) (zjr (t_r ?_))))))
  replace H:=H.addNil (α:=qH)
  replace H:=H.addNil (α:=yLI)
  refine retC2 H 0 rfl (yI 1) rfl isAgg59 sizeOf59 rfl rfl ⟨_,rfl,?_,H.base⟩
  obtain ⟨z1,z2⟩:=exG_of (ex_1 ‹_›)
  rw [z1,z2]
  exact ⟨none,0,[],none,0,[],rfl,N.emp.emp,H.pick [] [1,0]⟩
 have k0:=(‹jE s∧zu s t›:jE s∧zu s t)
 have k1:=k0.1
 have k2:=k0.2
 obtain ⟨q7,q8,q9,q10⟩:=k2.sizes k1.1
 have q13:=fun k hk=>Nat.le_trans (q10 k hk) (by decide:8≤1000000)
 refine qW (t_n (zcr (sw (vJ #[pp b1 0,pp b3 0] rfl rfl call85 (en func85 ntmps85 ?_)))))
 refine zcr (sw (zh H ti59 [yN,yN] fun b12 w13 H=>sps [yN,yI 0] (zjc (sp (pp b3 0) ?_))))
 have sz17:=H.base.size
 refine sw (oc (l02Own_ok _ t (qF (H.cells 2 rfl) 0 3) (H.get 2 rfl).1 (H.get 3 rfl).1 (H.get 4 rfl).1 qg qg qg qg) ?_)
 rintro _ w15 ⟨ra14Alive,rn14Alive,rc14Alive,ra14Bags,rn14Bags,rc14Bags,rx14Bags,rF14Bags,ra14Around,rn14Around,rc14Around,rfl,M,K⟩ _
 replace N:=N.merge sz17 qm M
 replace H:=H.merge K M
 obtain rfl:=H.rowNB 0 rfl
 obtain rfl:=H.zq (α:=yLI) 1 rfl 0 rfl qj
 obtain rfl:=H.YX 2 rfl
 refine sw (zA H underlying47 ti38 (yT t ra14Alive rc14Alive ra14Bags rc14Bags ra14Around rc14Around) fun b22 w23 H=>sw (jF [Sv (aa b22 0) 1 1,yN] [(0,Sv (aa b22 0) 1 1)] (sw (zh H ti59 [yN,yN] fun b24 w25 H=>sw (zF H 0 [Sv (aa b22 0) 1 1,yN] sizeOf59 fun w26 H=>zjc (sw (zA H underlying22 ti2 [yI (-1)] fun b27 w28 H=>sp (Sv (aa b27 0) 1 1) (zjcc (sp (yI 0) ?_)))))))))
 refine zjn (qX ?_)
 replace H:=H.boxRowI 0 [(-1)] 1
 replace H:=H.boxRow 2 rfl 3 1 rfl qj
 replace H:=H.vT (α:=qH)
 obtain ⟨G29,N,hn30,H⟩:=H.freezeB 3 rfl N (H.jU [1])
 have H0:=H
 obtain ⟨G31,hg33,hn32,H⟩:=H.yX (α:=yLI) 4 rfl 2 rfl qj
 replace N:Fresh w.heap.size [G31,G29]:=Fresh.ice (N.pick [1,0]) H0 4 hg33.1 hg33.2 (H0.jU [0])
 clear H0
 obtain ⟨G34,N,hn35,H⟩:=H.jb 5 rfl N (H.jU [0,1])
 replace H:=H.Vf 3 rfl 2 rfl 1 rfl 0 rfl
 replace N:Fresh w.heap.size [([]++(G29++G31++G34))]:=(N.emp.pick [3,2,1,0]).join.join.swap.join
 replace H:St _ _ [rr (aa b27 0) 1 1 2 1 ([(-1)].map (Value.int .i64)),.box b24 [Sv (aa b22 0) 1 1,yN] 59,rr (aa b22 0) 1 1 38 3 (yT t ra14Alive rc14Alive ra14Bags rc14Bags ra14Around rc14Around),rr none 0 0 0 1 [],rr none 0 0 0 1 [],rr none 0 0 0 1 [],.box b12 [yN,yN] 59,.box b5 [yN,yN] 59,.box b3 (yT t qV qR xm xk qL qK) 38,.box b1 (yS s qC qB qN qJ) 36] [zf true ([]++(G29++G31++G34)) (yT t ra14Alive rc14Alive ra14Bags rc14Bags ra14Around rc14Around) [t],sF true G34 ra14Around rc14Around t.qy,sF true G31 ra14Bags rc14Bags t.qE,sF true G29 ra14Alive rc14Alive t.qA,zf true [] [] ([]:List qH),zf true rF14Bags rx14Bags t.qE,sF false qZ qC qB s.qw,sF false xG qN qJ s.qx,sF false xR qV qR t.qA,sF false zC xm xk t.qE,sF false xC qL qK t.qy]:=H
 replace H:=H.nilRow 22 1
 replace H:=H.vT (α:=yLI)
 refine zD (fun m' ρ w36=>∃ (xY:Env) (a_from:yOA) (n_from:Nat) (c_from:Nat) (from_:yLI) (i:Nat) (yt:yOA) (jO:Nat) (jP:Nat) (g_States:List qH) (VU:List Value) (Xm:yLN) (yg:yOA) (jQ:Nat) (yf:Nat) (g_Next:yLL) (Vb:List Value) (yx:yLN),ρ=upd (upd (upd (upd (upd xY 0 (pp b1 0)) 4 (pp b12 0)) 7 (pp b24 0)) 8 (Sv a_from n_from c_from)) 9 (yI i)∧(grRes s t=grGo s (302 - i) i g_States g_Next)∧(∀ u∈g_States,zu s u)∧(0 < g_States.length∧g_States.length≤300)∧(g_Next.length=i)∧(i≤g_States.length)∧(GrOk g_States g_Next)∧(from_.length=g_States.length)∧m' =(301 - i)∧Fresh w.heap.size [Xm,yx]∧St w w36 [rr yg jQ yf 22 1 Vb,rr a_from n_from c_from 2 1 (from_.map (Value.int .i64)),.box b24 [Sv yt jO jP,Sv yg jQ yf] 59,rr yt jO jP 38 3 VU,.box b12 [yN,yN] 59,.box b5 [yN,yN] 59,.box b3 (yT t qV qR xm xk qL qK) 38,.box b1 (yS s qC qB qN qJ) 36] [zf true yx Vb g_Next,zf true Xm VU g_States,sF false qZ qC qB s.qw,sF false xG qN qJ s.qx,sF false xR qV qR t.qA,sF false zC xm xk t.qE,sF false xC qL qK t.qy]) ((301 - 0)) ⟨_,(aa b27 0),1,1,[(-1)],0,(aa b22 0),1,1,[t],(yT t ra14Alive rc14Alive ra14Bags rc14Bags ra14Around rc14Around),([]++(G29++G31++G34)),none,0,0,([]:yLL),[],[],uE5,(by rfl),(by exact fun u hu=>by obtain rfl:=List.mem_singleton.1 hu;exact k2),qm,(by rfl),qm,(by exact GrOk.start t),(by rfl),rfl,(N.emp.pick [1,0]),H.pick [0,1,2,3,7,8,9,10] [0,1,7,8,9,10,11]⟩ ?_
 clear H N
 rintro m' ρ w37 ⟨xY,a_from,n_from,c_from,from_,i,yt,jO,jP,g_States,VU,Xm,yg,jQ,yf,g_Next,Vb,yx,rfl,kr,ka,kl,kn,ki,ko,kf,rfl,N,H⟩
 have hn_from:=H.YX 1 rfl
 have hn_g_States:=H.zq (α:=qH) 3 rfl 1 rfl qj
 have hn_g_Next:=H.zq (α:=yLI) 0 rfl 0 rfl qj
 refine zcc (sp (yI i) (oF rfl (oL rfl (H.cell 2 rfl rfl) (oN rfl (sp (Bv (decide ((i:Int) < jO))) (zjn (cD rfl (fun h38=>?_) (fun h38=>?_))))))))
 ·skip
  refine qW (t_n (xQ (qX (zcr (oF rfl (oL rfl (H.cell 2 rfl rfl) (sp (yI i) ?_)))))))
  obtain ⟨b39,rfl⟩:=H.Qn 3 rfl qf
  obtain ⟨ae40Alive,ce40Alive,Fe40Alive,ae40Bags,ce40Bags,Fe40Bags,ae40Around,ce40Around,Fe40Around,hx41,H⟩:=H.rowel_StateD 3 rfl 1 rfl (iv:=i) i qf qf
  refine oI rfl rfl (sw (zl [Sv ae40Alive (((g_States[i]!).qA).length) ce40Alive,Sv ae40Bags (((g_States[i]!).qE).length) ce40Bags,Sv ae40Around (((g_States[i]!).qy).length) ce40Around] isAgg38 sizeOf38 rfl (qF (fun j v hj=>H.rowGet 3 rfl (hx41 j v hj)) 0 3) (sw (zh H ti38 [yN,yN,yN] fun b42 w43 H=>sw (zF H 0 [Sv ae40Alive (((g_States[i]!).qA).length) ce40Alive,Sv ae40Bags (((g_States[i]!).qE).length) ce40Bags,Sv ae40Around (((g_States[i]!).qy).length) ce40Around] sizeOf38 fun w44 H=>zjc ?_)))))
  refine sp (pp b1 0) ?_
  have ks:=ka (g_States[i]!) (mem_at (k:=i) qf rfl)
  have nl:=succ_len s (g_States[i]!)
  have sz48:=H.base.size
  have lt49:=H.ltN (L:=[Xm,yx]) [4,3]
  refine sw (oc (l03Succ_ok _ s (g_States[i]!) (qF (H.cells 8 rfl) 0 3) (H.get 5 rfl).1 (H.get 6 rfl).1 (qF (H.cells 0 rfl) 0 3) (H.get 0 rfl).1 (H.get 1 rfl).1 (H.get 2 rfl).1 qg qg) ?_)
  rintro _ w46 ⟨ra45a,rn45a,rc45a,rx45a,rF45a,rfl,M,K⟩ _
  replace N:=N.merge sz48 lt49 M
  replace H:=H.merge K M
  obtain rfl:=H.zq (α:=qH) 0 rfl 0 rfl qj
  refine sps [.tuple #[Sv ra45a (((xe s (g_States[i]!)).1).length) rc45a,yI ((xe s (g_States[i]!)).2)],Sv ra45a (((xe s (g_States[i]!)).1).length) rc45a,yI ((xe s (g_States[i]!)).2),Sv ra45a (((xe s (g_States[i]!)).1).length) rc45a,yI ((xe s (g_States[i]!)).2)] (zjcc (sps [yI ((xe s (g_States[i]!)).2),Bv (((xe s (g_States[i]!)).2:Int) != 0)] (zjn (xE (((xe s (g_States[i]!)).2:Int) != 0) rfl (fun h51=>?_) (fun h51=>?_)))))
  ·skip
   replace h51:=bne_iff_ne.1 h51
   refine zcr (sw (jF [yN,yN] [] (sps [Sv a_from n_from c_from,yI ((xe s (g_States[i]!)).2)] (sw (zF H 6 [yN,yN] sizeOf59 fun w52 H=>sps [Sv a_from n_from c_from,yI ((xe s (g_States[i]!)).2)] (zjr (t_r (zr5 (retC3 H 6 rfl (Sv a_from n_from c_from) (yI ((xe s (g_States[i]!)).2)) rfl isAgg59 sizeOf59 rfl rfl rfl ⟨_,rfl,?_⟩)))))))))
   replace H:=H.erases [6,5,4,2,1,0]
   dsimp only [vS,List.eraseIdx] at H
   refine sps [.tuple #[.agg #[yN,yN],Sv a_from n_from c_from,yI ((xe s (g_States[i]!)).2)],.agg #[yN,yN],Sv a_from n_from c_from,yI ((xe s (g_States[i]!)).2)] (sw (zh H ti59 [yN,yN] fun b53 w54 H=>sw (zF H 0 [yN,yN] sizeOf59 fun w55 H=>sps [Sv a_from n_from c_from,yI ((xe s (g_States[i]!)).2)] (zjc (sw (zl [yN,yN] isAgg59 sizeOf59 rfl (qF (H.cells 0 rfl) 0 2) (sp (yI ((xe s (g_States[i]!)).2)) ?_)))))))
   refine sw (zF H 2 [yN,yN] sizeOf59 fun w56 H=>sp (yI ((xe s (g_States[i]!)).2)) (zjr ?_))
   replace H:=H.addNil (α:=qH)
   replace H:=H.addNil (α:=yLI)
   refine retC2 H 2 rfl (yI ((xe s (g_States[i]!)).2)) rfl isAgg59 sizeOf59 rfl rfl ⟨_,rfl,?_,H.base⟩
   obtain ⟨z1,z2⟩:=exG_of (ex_0 k0 (kr.trans (gr_code qf qf ql)))
   rw [z1,z2]
   exact ⟨none,0,[],none,0,[],rfl,(N.emp.emp.pick [0,1]),H.pick [] [1,0]⟩
  replace h51:=xw h51
  refine qW (t_n (zcr (sw (vP H underlying22 ti2 fun b57 w58 H=>sp (Sv (aa b57 0) 0 0) (zjcc (sp (yI 0) (zjn (qX ?_))))))))
  have H0:=H
  obtain ⟨G59,hg61,hn60,H⟩:=H.yX (α:=qH) 1 rfl 0 rfl qj
  replace N:Fresh w.heap.size [G59,Xm,yx]:=Fresh.ice N H0 1 hg61.1 hg61.2 (H0.jU [5,4])
  clear H0
  obtain ⟨xs62,B63,P64,N,H⟩:=H.pool (α:=qH) 0 rfl N
  replace H:=H.boxRowI 0 [] 0
  refine zD (fun m' ρ w65=>∃ (xY:Env) (VK:yOA) (XV:Nat) (VE:Nat) (from__1:yLI) (a_row:yOA) (n_row:Nat) (c_row:Nat) (row:yLI) (k:Nat) (yE:yOA) (zY:Nat) (yC:Nat) (g_States_1:List qH) (yz:List Value) (vZ:yLN) (P_k:yLN),ρ=upd (upd (upd (upd (upd (upd (upd (upd xY 0 (pp b1 0)) 4 (pp b12 0)) 7 (pp b24 0)) 8 (Sv VK XV VE)) 9 (yI i)) 11 (Sv ra45a (((xe s (g_States[i]!)).1).length) rc45a)) 13 (Sv a_row n_row c_row)) 14 (yI k)∧row=(vz g_States (xe s (g_States[i]!)).1 k).2∧g_States_1=(vz g_States (xe s (g_States[i]!)).1 k).1∧((k:Int)≤(((xe s (g_States[i]!)).1).length))∧(from__1.length=(vz g_States (xe s (g_States[i]!)).1 k).1.length)∧m' =((((xe s (g_States[i]!)).1).length) - (k:Int)).toNat∧Fresh w.heap.size [yx,vZ,P_k]∧St w w65 [rr a_row n_row c_row 2 1 (row.map (Value.int .i64)),.box b42 [Sv ae40Alive (((g_States[i]!).qA).length) ce40Alive,Sv ae40Bags (((g_States[i]!).qE).length) ce40Bags,Sv ae40Around (((g_States[i]!).qy).length) ce40Around] 38,rr yg jQ yf 22 1 Vb,rr VK XV VE 2 1 (from__1.map (Value.int .i64)),.box b24 [Sv yE zY yC,Sv yg jQ yf] 59,rr yE zY yC 38 3 yz,.box b12 [yN,yN] 59,.box b5 [yN,yN] 59,.box b3 (yT t qV qR xm xk qL qK) 38,.box b1 (yS s qC qB qN qJ) 36] [zf true P_k (xs62.drop (k * 3)) (((xe s (g_States[i]!)).1).drop k),Yf B63 (Sv ra45a (((xe s (g_States[i]!)).1).length) rc45a) xs62,sF true G59 ra45a rc45a ((xe s (g_States[i]!)).1),sF true Fe40Alive ae40Alive ce40Alive ((g_States[i]!).qA),sF true Fe40Bags ae40Bags ce40Bags ((g_States[i]!).qE),sF true Fe40Around ae40Around ce40Around ((g_States[i]!).qy),zf true yx Vb g_Next,zf true vZ yz g_States_1,sF false qZ qC qB s.qw,sF false xG qN qJ s.qx,sF false xR qV qR t.qA,sF false zC xm xk t.qE,sF false xC qL qK t.qy]) (((((xe s (g_States[i]!)).1).length) - (0:Int)).toNat) ⟨_,a_from,n_from,c_from,from_,(aa b57 0),0,0,([]:yLI),0,(aa b39 0),jO,jP,g_States,VU,Xm,P64,uE8,(by rfl),(by rfl),qf,ql,rfl,(N.pick [2,1,0]),H.pick [0,2,3,4,5,6,7,8,9,10] [0,1,2,4,5,6,7,8,9,10,11,12,13]⟩ ?_
  clear H N
  rintro m' ρ w66 ⟨xY,VK,XV,VE,from__1,a_row,n_row,c_row,row,k,yE,zY,yC,g_States_1,yz,vZ,P_k,rfl,rfl,rfl,i0,kf2,rfl,N,H⟩
  have hn_from:=H.YX 3 rfl
  have hn_row:=H.YX 0 rfl
  have hn_g_States:=H.zq (α:=qH) 5 rfl 7 rfl qj
  obtain ⟨al1,al2,al3⟩:=addSt_len (S:=g_States) (nx:=(xe s (g_States[i]!)).1) k
  refine zcc (sps [yI k,Sv ra45a (((xe s (g_States[i]!)).1).length) rc45a] (oN rfl (sp (Bv (decide ((k:Int) < (((xe s (g_States[i]!)).1).length)))) (zjn (cD rfl (fun h67=>?_) (fun h67=>?_))))))
  ·skip
   obtain ⟨b68,o69,rfl⟩:=H.addr 2 rfl qf
   obtain ⟨ae71Alive,ce71Alive,Fe71Alive,ae71Bags,ce71Bags,Fe71Bags,V8,VZ,Fe71Around,P72,N,H⟩:=H.Y8 1 rfl 0 rfl ((N.pick [2,0,1]):Fresh w.heap.size [P_k,yx,vZ]) k k qf qf qf
   refine qW (t_n (xQ (qX (xQ ?_))))
   refine jh rfl H fun H=>tF 0 rfl rfl H ?_
   refine tL 1 rfl rfl (fun _ h=>h.cell 4 rfl rfl) H ?_
   refine rtp 2 (Sv (aa b68 o69) (((xe s (g_States[i]!)).1).length) rc45a) H ?_
   refine rtp 3 (yI k) H ?_
   refine tI 4 rfl rfl rfl H ?_
   refine ro 5 rfl ?_
   obtain ⟨G74,hn75,h76⟩:=H.rowIsR (α:=qH) 5 rfl 12 rfl qj
   refine oq (args_eq (by rw [← hn75]) (l03Find_ok _ ((vz g_States (xe s (g_States[i]!)).1 k).1) (((xe s (g_States[i]!)).1)[k]!) (hn75▸h76) (qF (H.get 3 rfl) 0 3) (H.get 0 rfl).1 (H.get 1 rfl).1 (H.get 2 rfl).1)) H fun w78 H=>⟨H,(rtp 6 (yI (firstIdx (fun zz=>decide (((vz g_States (xe s (g_States[i]!)).1 k).1)[zz]! =(((xe s (g_States[i]!)).1)[k]!))) ((vz g_States (xe s (g_States[i]!)).1 k).1).length)) H ?_)⟩
   refine xP qh (t_n (zcc (sps [yI (firstIdx (fun zz=>decide (((vz g_States (xe s (g_States[i]!)).1 k).1)[zz]! =(((xe s (g_States[i]!)).1)[k]!))) ((vz g_States (xe s (g_States[i]!)).1 k).1).length),Bv (decide ((firstIdx (fun zz=>decide (((vz g_States (xe s (g_States[i]!)).1 k).1)[zz]! =(((xe s (g_States[i]!)).1)[k]!))) ((vz g_States (xe s (g_States[i]!)).1 k).1).length:Int) < 0))] (zjn (cD rfl (fun h80=>?_) (fun h80=>?_))))))
   ·skip
    refine zcr (oF rfl (oL rfl (H.cell 4 rfl rfl) (oN rfl (sp (yI zY) (zjn (xQ ?_))))))
    refine c_cut (fun ρ w83=>∃ (xY:Env) (a81:yOA) (c82:Nat),ρ=upd (upd (upd (upd (upd (upd (upd (upd (upd xY 0 (pp b1 0)) 4 (pp b12 0)) 7 (pp b24 0)) 8 (Sv VK XV VE)) 9 (yI i)) 11 (Sv (aa b68 o69) (((xe s (g_States[i]!)).1).length) rc45a)) 13 (Sv a_row n_row c_row)) 14 (yI k)) 15 (yI zY)∧Fresh w.heap.size [(vZ++(Fe71Alive++Fe71Bags++Fe71Around)),P72,yx]∧St w w83 [rr a_row n_row c_row 2 1 (((vz g_States (xe s (g_States[i]!)).1 k).2).map (Value.int .i64)),.box b42 [Sv ae40Alive (((g_States[i]!).qA).length) ce40Alive,Sv ae40Bags (((g_States[i]!).qE).length) ce40Bags,Sv ae40Around (((g_States[i]!).qy).length) ce40Around] 38,rr yg jQ yf 22 1 Vb,rr VK XV VE 2 1 (from__1.map (Value.int .i64)),.box b24 [Sv a81 (zY+1) c82,Sv yg jQ yf] 59,rr a81 (zY+1) c82 38 3 (yz++[Sv ae71Alive (((((xe s (g_States[i]!)).1)[k]!).qA).length) ce71Alive,Sv ae71Bags (((((xe s (g_States[i]!)).1)[k]!).qE).length) ce71Bags,Sv V8 (((((xe s (g_States[i]!)).1)[k]!).qy).length) VZ]),.box b12 [yN,yN] 59,.box b5 [yN,yN] 59,.box b3 (yT t qV qR xm xk qL qK) 38,.box b1 (yS s qC qB qN qJ) 36] [zf true (vZ++(Fe71Alive++Fe71Bags++Fe71Around)) (yz++[Sv ae71Alive (((((xe s (g_States[i]!)).1)[k]!).qA).length) ce71Alive,Sv ae71Bags (((((xe s (g_States[i]!)).1)[k]!).qE).length) ce71Bags,Sv V8 (((((xe s (g_States[i]!)).1)[k]!).qy).length) VZ]) (((vz g_States (xe s (g_States[i]!)).1 k).1)++[⟨(((xe s (g_States[i]!)).1)[k]!).qA,(((xe s (g_States[i]!)).1)[k]!).qE,(((xe s (g_States[i]!)).1)[k]!).qy⟩]),sF true Fe71Alive ae71Alive ce71Alive ((((xe s (g_States[i]!)).1)[k]!).qA),sF true Fe71Bags ae71Bags ce71Bags ((((xe s (g_States[i]!)).1)[k]!).qE),sF true Fe71Around V8 VZ ((((xe s (g_States[i]!)).1)[k]!).qy),atF b68 (o69+(k:Int).toNat * 3) [Sv ae71Alive (((((xe s (g_States[i]!)).1)[k]!).qA).length) ce71Alive,Sv ae71Bags (((((xe s (g_States[i]!)).1)[k]!).qE).length) ce71Bags,Sv V8 (((((xe s (g_States[i]!)).1)[k]!).qy).length) VZ],zf true P72 (xs62.drop ((k+1) * 3)) (((xe s (g_States[i]!)).1).drop (k+1)),Yf B63 (Sv (aa b68 o69) (((xe s (g_States[i]!)).1).length) rc45a) xs62,sF true G59 (aa b68 o69) rc45a ((xe s (g_States[i]!)).1),sF true Fe40Alive ae40Alive ce40Alive ((g_States[i]!).qA),sF true Fe40Bags ae40Bags ce40Bags ((g_States[i]!).qE),sF true Fe40Around ae40Around ce40Around ((g_States[i]!).qy),zf true yx Vb g_Next,sF false qZ qC qB s.qw,sF false xG qN qJ s.qx,sF false xR qV qR t.qA,sF false zC xm xk t.qE,sF false xC qL qK t.qy]) ?_ ?_
    ·skip
     refine QI rfl H [0,1,2,3,6,7,8,9] fun H=>?_
     have S:=H.yU [0,1,2,3,6,7,8,9] [0,1,2,3,4,5,6,7,8,9,10,11,12,13,14,15,16,17]
     refine tF 0 rfl rfl S ?_
     refine rtp 2 (Sv (aa b68 o69) (((xe s (g_States[i]!)).1).length) rc45a) S ?_
     refine rtp 3 (yI k) S ?_
     refine tI 4 rfl rfl rfl S ?_
     refine rt 5 (.agg #[Sv ae71Alive (((((xe s (g_States[i]!)).1)[k]!).qA).length) ce71Alive,Sv ae71Bags (((((xe s (g_States[i]!)).1)[k]!).qE).length) ce71Bags,Sv V8 (((((xe s (g_States[i]!)).1)[k]!).qy).length) VZ]) (QL (cs:=[Sv ae71Alive (((((xe s (g_States[i]!)).1)[k]!).qA).length) ce71Alive,Sv ae71Bags (((((xe s (g_States[i]!)).1)[k]!).qE).length) ce71Bags,Sv V8 (((((xe s (g_States[i]!)).1)[k]!).qy).length) VZ]) isAgg38 sizeOf38 rfl (fun _ h=>qF (h.get 3 rfl) 0 3)) S ?_
     refine jK [1,6] qh qm (Qy rfl ?_ (Qy rfl ?_ jL))
     ·skip
      refine zT (Sv yE zY yC) isAgg47 rfl (H.cell 4 rfl rfl) (⟨H.pick [0,1,2,3,6,7,8,9] [0,1,2,3,4,5,6,7,8,9,10,11,12,13,14,15,16,17],(ro 6 rfl (zA H underlying47 ti38 [Sv ae71Alive (((((xe s (g_States[i]!)).1)[k]!).qA).length) ce71Alive,Sv ae71Bags (((((xe s (g_States[i]!)).1)[k]!).qE).length) ce71Bags,Sv V8 (((((xe s (g_States[i]!)).1)[k]!).qy).length) VZ] fun b85 w86 H=>⟨H.pick [1,2,3,4,7,8,9,10] [0,1,2,3,4,5,6,7,8,9,10,11,12,13,14,15,16,17],(ro 7 rfl ?_)⟩))⟩)
      refine zG H 6 rfl 0 rfl underlying47 ti38 rfl qj rfl rfl rfl (by simp [Value.oneCell',Value.cells]) qp qf fun a87 c88 w89 H=>?_
      replace H:=H.Vf 12 rfl 0 rfl 1 rfl 2 rfl
      replace N:Fresh w.heap.size [(vZ++(Fe71Alive++Fe71Bags++Fe71Around)),P72,yx]:=(N.pick [0,1,2,5,3,4]).join.join.swap.join
      refine ⟨H.pick [1,2,3,4,7,8,9,10] [1,2,3,4,5,6,7,8,9,10,11,12,13,14,15,16,17,18],(tF 8 rfl rfl (H.pick [1,2,3,4,7,8,9,10] [1,2,3,4,5,6,7,8,9,10,11,12,13,14,15,16,17,18]) ?_)⟩
      refine ro 9 rfl (zO H 5 [Sv a87 (zY+1) c88,Sv yg jQ yf] sizeOf47 fun w90 H=>⟨H.pick [1,2,3,4,7,8,9,10] [1,2,3,4,5,6,7,8,9,10,11,12,13,14,15,16,17,18],(xP qh ((meet ⟨_,a87,c88,uE9,N,H.pick [1,2,3,4,5,6,7,8,9,10] [0,1,2,3,4,5,7,8,9,10,11,12,14,15,16,17,18]⟩)))⟩)
     refine zA H underlying47 ti38 [Sv ae71Alive (((((xe s (g_States[i]!)).1)[k]!).qA).length) ce71Alive,Sv ae71Bags (((((xe s (g_States[i]!)).1)[k]!).qE).length) ce71Bags,Sv V8 (((((xe s (g_States[i]!)).1)[k]!).qy).length) VZ] fun b91 w92 H=>⟨H.pick [1,2,3,4,7,8,9,10] [0,1,2,3,4,5,6,7,8,9,10,11,12,13,14,15,16,17],(ro 1 rfl (zT (Sv yE zY yC) isAgg47 rfl (H.cell 5 rfl rfl) (⟨H.pick [1,2,3,4,7,8,9,10] [0,1,2,3,4,5,6,7,8,9,10,11,12,13,14,15,16,17],(ro 7 rfl ?_)⟩)))⟩
     refine zG H 6 rfl 0 rfl underlying47 ti38 rfl qj rfl rfl rfl (by simp [Value.oneCell',Value.cells]) qp qf fun a93 c94 w95 H=>?_
     replace H:=H.Vf 12 rfl 0 rfl 1 rfl 2 rfl
     replace N:Fresh w.heap.size [(vZ++(Fe71Alive++Fe71Bags++Fe71Around)),P72,yx]:=(N.pick [0,1,2,5,3,4]).join.join.swap.join
     refine ⟨H.pick [1,2,3,4,7,8,9,10] [1,2,3,4,5,6,7,8,9,10,11,12,13,14,15,16,17,18],(tF 8 rfl rfl (H.pick [1,2,3,4,7,8,9,10] [1,2,3,4,5,6,7,8,9,10,11,12,13,14,15,16,17,18]) ?_)⟩
     refine ro 9 rfl (zO H 5 [Sv a93 (zY+1) c94,Sv yg jQ yf] sizeOf47 fun w96 H=>⟨H.pick [1,2,3,4,7,8,9,10] [1,2,3,4,5,6,7,8,9,10,11,12,13,14,15,16,17,18],(xP qh ((meet ⟨_,a93,c94,uE9,N,H.pick [1,2,3,4,5,6,7,8,9,10] [0,1,2,3,4,5,7,8,9,10,11,12,14,15,16,17,18]⟩)))⟩)
    clear H N
    rintro ρ w97 ⟨xY,a81,c82,rfl,N,H⟩
    refine t_n (xO (sps [Sv VK XV VE,yI i] (sw (zA H underlying22 ti2 [yI i] fun b98 w99 H=>sw (zG H 4 rfl 0 rfl underlying22 ti2 rfl qj rfl rfl rfl (by simp [Value.oneCell',Value.cells]) qp qf fun a100 c101 w102 H=>?_)))))
    rw [snocI] at H
    refine sp (Sv a100 (XV+1) c101) (zjn (xO (sps [Sv a_row n_row c_row,yI zY] (sw (zA H underlying22 ti2 [yI zY] fun b103 w104 H=>sw (zG H 2 rfl 0 rfl underlying22 ti2 rfl qj rfl rfl rfl (by simp [Value.oneCell',Value.cells]) qp qf fun a105 c106 w107 H=>?_))))))
    rw [snocI] at H
    refine sp (Sv a105 (n_row+1) c106) (xM (b_n (t_n (xO (sp (yI k) (sw (zB k 1 rfl rfl qf (sp (yI (k+1)) (xM ?_)))))))))
    refine qY (m' :=((((xe s (g_States[i]!)).1).length) - ((k+1):Int)).toNat) qf ⟨_,a100,XV+1,c101,(from__1++[(i:Int)]),a105,n_row+1,c106,(((vz g_States (xe s (g_States[i]!)).1 k).2)++[(zY:Int)]),k+1,a81,zY+1,c82,(((vz g_States (xe s (g_States[i]!)).1 k).1)++[⟨(((xe s (g_States[i]!)).1)[k]!).qA,(((xe s (g_States[i]!)).1)[k]!).qE,(((xe s (g_States[i]!)).1)[k]!).qy⟩]),yz++[Sv ae71Alive (((((xe s (g_States[i]!)).1)[k]!).qA).length) ce71Alive,Sv ae71Bags (((((xe s (g_States[i]!)).1)[k]!).qE).length) ce71Bags,Sv V8 (((((xe s (g_States[i]!)).1)[k]!).qy).length) VZ],(vZ++(Fe71Alive++Fe71Bags++Fe71Around)),P72,uE8,?_,?_,?_,?_,rfl,(N.pick [2,0,1]),H.pick [2,3,4,5,6,7,8,9,10,11] [5,6,7,8,9,10,11,0,12,13,14,15,16]⟩
    · first | exact (YJ (k:=k) ‹_›).2 | (refine Eq.trans ?_ (YK (k:=k) ‹_›).2;congr 2 <;> omega)
    · first | exact (YK (k:=k) ‹_›).1 | exact (YJ (k:=k) ‹_›).1
    · omega
    · first | (rw [← (YK (k:=k) ‹_›).1,List.length_append,List.length_append];exact congrArg (·+1) kf2) | (rw [← (YJ (k:=k) ‹_›).1];omega)
   refine qW (t_n (xO (sps [Sv a_row n_row c_row,yI (firstIdx (fun zz=>decide (((vz g_States (xe s (g_States[i]!)).1 k).1)[zz]! =(((xe s (g_States[i]!)).1)[k]!))) ((vz g_States (xe s (g_States[i]!)).1 k).1).length)] (sw (zA H underlying22 ti2 [yI (firstIdx (fun zz=>decide (((vz g_States (xe s (g_States[i]!)).1 k).1)[zz]! =(((xe s (g_States[i]!)).1)[k]!))) ((vz g_States (xe s (g_States[i]!)).1 k).1).length)] fun b108 w109 H=>?_)))))
   refine sw (zG H 1 rfl 0 rfl underlying22 ti2 rfl qj rfl rfl rfl (by simp [Value.oneCell',Value.cells]) qp qf fun a110 c111 w112 H=>?_)
   rw [snocI] at H
   refine sp (Sv a110 (n_row+1) c111) (xM (b_n (t_n (xO (sp (yI k) (sw (zB k 1 rfl rfl qf (sp (yI (k+1)) (xM ?_)))))))))
   refine qY (m' :=((((xe s (g_States[i]!)).1).length) - ((k+1):Int)).toNat) qf ⟨_,VK,XV,VE,from__1,a110,n_row+1,c111,(((vz g_States (xe s (g_States[i]!)).1 k).2)++[firstIdx (fun zz=>decide (((vz g_States (xe s (g_States[i]!)).1 k).1)[zz]! =(((xe s (g_States[i]!)).1)[k]!))) ((vz g_States (xe s (g_States[i]!)).1 k).1).length]),k+1,yE,zY,yC,((vz g_States (xe s (g_States[i]!)).1 k).1),yz,vZ,P72,uE8,?_,?_,?_,?_,rfl,(N.pick [4,5,3]),H.pick [1,2,3,4,5,6,7,8,9,10] [4,6,7,8,9,10,11,12,13,14,15,16,17]⟩
   · first | exact (YJ (k:=k) ‹_›).2 | (refine Eq.trans ?_ (YK (k:=k) ‹_›).2;congr 2 <;> omega)
   · first | exact (YK (k:=k) ‹_›).1 | exact (YJ (k:=k) ‹_›).1
   · omega
   · first | (rw [← (YK (k:=k) ‹_›).1,List.length_append,List.length_append];exact congrArg (·+1) kf2) | (rw [← (YJ (k:=k) ‹_›).1];omega)
  refine zx4 (zcr (oF rfl (oL rfl (H.cell 4 rfl rfl) (sp (Sv a_row n_row c_row) (sw (zA H underlying27 ti22 [Sv a_row n_row c_row] fun b113 w114 H=>?_))))))
  obtain ⟨G118,N,hn119,H⟩:=H.jb 1 rfl N (H.jU [6,7,0])
  refine sw (zG H 3 rfl 0 rfl underlying27 ti22 rfl qj rfl rfl rfl (by simp [Value.oneCell',Value.cells]) qp qf fun a115 c116 w117 H=>?_)
  replace H:=H.jd 7 rfl 0 rfl
  replace N:Fresh w.heap.size [(yx++G118),vZ,P_k]:=(N.pick [1,0,2,3]).join
  refine oF rfl (sw (zO H 5 [Sv yE zY yC,Sv a115 (jQ+1) c116] sizeOf27 fun w120 H=>zjc (oF rfl (oL rfl (H.cell 5 rfl rfl) (oN rfl (sp (Bv (decide ((zY:Int) > 300))) (zjn (cD rfl (fun h121=>?_) (fun h121=>?_)))))))))
  ·skip
   refine zcr (sw (jF [yN,yN] [] (sp (Sv VK XV VE) (sw (zF H 7 [yN,yN] sizeOf59 fun w122 H=>sps [Sv VK XV VE,yI 3] (zjr (zr5 (retC3 H 7 rfl (Sv VK XV VE) (yI 3) rfl isAgg59 sizeOf59 rfl rfl rfl ⟨_,rfl,?_⟩))))))))
   replace H:=H.erases [7,6,5,3,2,1,0]
   dsimp only [vS,List.eraseIdx] at H
   refine sps [.tuple #[.agg #[yN,yN],Sv VK XV VE,yI 3],.agg #[yN,yN],Sv VK XV VE,yI 3] (sw (zh H ti59 [yN,yN] fun b123 w124 H=>sw (zF H 0 [yN,yN] sizeOf59 fun w125 H=>sps [Sv VK XV VE,yI 3] (zjc (sw (zl [yN,yN] isAgg59 sizeOf59 rfl (qF (H.cells 0 rfl) 0 2) (sp (yI 3) (sw (zF H 2 [yN,yN] sizeOf59 fun w126 H=>sp (yI 3) ?_)))))))))
   refine zjr ?_
   replace H:=H.addNil (α:=qH)
   replace H:=H.addNil (α:=yLI)
   refine retC2 H 2 rfl (yI 3) rfl isAgg59 sizeOf59 rfl rfl ⟨_,rfl,?_,H.base⟩
   obtain ⟨z1,z2⟩:=exG_of (ex_0 k0 (kr.trans (gr_many qf qf qf (k:=k) qf qf)))
   rw [z1,z2]
   exact ⟨none,0,[],none,0,[],rfl,(N.emp.emp.pick [0,1]),H.pick [] [1,0]⟩
  refine qW (b_n (t_n (xO (sp (yI i) (sw (zB i 1 rfl rfl qf (sp (yI (i+1)) (xM (qY (m' :=(301 - (i+1))) qf ⟨_,VK,XV,VE,from__1,i+1,yE,zY,yC,((vz g_States (xe s (g_States[i]!)).1 k).1),yz,vZ,a115,jQ+1,c116,(g_Next++[((vz g_States (xe s (g_States[i]!)).1 k).2)]),Vb++[Sv a_row n_row c_row],(yx++G118),uE5,?_,?_,?_,?_,?_,?_,?_,rfl,(N.pick [1,0]),H.pick [3,4,5,6,7,8,9,10] [0,9,10,11,12,13,14]⟩)))))))))
  · exact kr.trans (gr_go qf qf qf (k:=k) qf qf)
  · exact addSt_mem ka succ_ok k qf
  · omega
  · simp;omega
  · omega
  · exact ko.next qf qf
  · omega
 refine zx4 (zcr (sw (zl [Sv yt jO jP,Sv yg jQ yf] isAgg59 sizeOf59 rfl (qF (H.cells 2 rfl) 0 2) (sp (Sv a_from n_from c_from) (sw (zF H 4 [Sv yt jO jP,Sv yg jQ yf] sizeOf59 fun w127 H=>sps [Sv a_from n_from c_from,yI 0] (zjr (retC3 H 4 rfl (Sv a_from n_from c_from) (yI 0) rfl isAgg59 sizeOf59 rfl rfl rfl ⟨_,rfl,?_⟩))))))))
 replace H:=H.erases [4,2]
 dsimp only [vS,List.eraseIdx] at H
 refine sps [.tuple #[.agg #[Sv yt jO jP,Sv yg jQ yf],Sv a_from n_from c_from,yI 0],.agg #[Sv yt jO jP,Sv yg jQ yf],Sv a_from n_from c_from,yI 0] (sw (zh H ti59 [yN,yN] fun b128 w129 H=>sw (zF H 0 [Sv yt jO jP,Sv yg jQ yf] sizeOf59 fun w130 H=>sps [Sv a_from n_from c_from,yI 0] (zjc ?_))))
 refine sw (zl [Sv yt jO jP,Sv yg jQ yf] isAgg59 sizeOf59 rfl (qF (H.cells 0 rfl) 0 2) (sp (yI 0) (sw (zF H 4 [Sv yt jO jP,Sv yg jQ yf] sizeOf59 fun w131 H=>sp (yI 0) (zjr ?_)))))
 have H0:=H
 obtain ⟨G132,hg134,hn133,H⟩:=H.yX (α:=qH) 3 rfl 1 rfl qj
 replace N:Fresh w.heap.size [G132,yx]:=Fresh.ice N H0 3 hg134.1 hg134.2 (H0.jU [0])
 clear H0
 obtain rfl:=H.isLen 0 rfl
 have H0:=H
 obtain ⟨G135,hg137,hn136,H⟩:=H.yX (α:=yLI) 1 rfl 1 rfl qj
 replace N:Fresh w.heap.size [G135,G132]:=Fresh.ice (N.pick [1,0]) H0 1 hg137.1 hg137.2 (H0.jU [0])
 clear H0
 obtain rfl:=H.isLen 0 rfl
 refine retC2 H 4 rfl (yI 0) rfl isAgg59 sizeOf59 rfl rfl ⟨_,rfl,?_,H.base⟩
 obtain ⟨z1,z2⟩:=exG_of (ex_0 k0 (kr.trans (gr_end qf)))
 rw [z1,z2]
 exact ⟨yt,jP,G132,yg,yf,G135,rfl,(N.pick [1,0]),H.pick [] [1,0]⟩

theorem implEx_ok (w:World) (s:qI) (t:qH) {qC:yOA} {qZ:yLN} {qN:yOA} {xG:yLN} {qV:yOA} {xR:yLN} {xm:yOA} {zC:yLN} {qL:yOA} {xC:yLN} (xf:qO.rep w qZ [Sv qC s.qw.length qB] s.qw) (xJ:qO.rep w xG [Sv qN s.qx.length qJ] s.qx) (zi:qO.rep w xR [Sv qV t.qA.length qR] t.qA) (zM:qO.rep w zC [Sv xm t.qE.length xk] t.qE) (xN:qO.rep w xC [Sv qL t.qy.length qK] t.qy):Calls Tryz.prog 41 #[.agg #[yI s.xB,Sv qC s.qw.length qB,Sv qN s.qx.length qJ],.agg #[Sv qV t.qA.length qR,Sv xm t.qE.length xk,Sv qL t.qy.length qK]] w (Ret (fun v w' =>∃ (ra0States:yOA) (rc0States:Nat) (rF0States:yLN) (ra0Next:yOA) (rc0Next:Nat) (rF0Next:yLN),v=.tuple #[.agg #[Sv ra0States (((exG s t).qP).length) rc0States,Sv ra0Next (((exG s t).fNext).length) rc0Next],yI ((Xp s t).2)]∧Fresh w.heap.size [rF0States,rF0Next]∧St w w' [] [sF true rF0States ra0States rc0States ((exG s t).qP),sF true rF0Next ra0Next rc0Next ((exG s t).fNext)]) w):=by
 refine en func41 ntmps41 ?_
 have H:=(((((St.start w).arg xN).arg zM).arg zi).arg xJ).arg xf
 have vH:=qM xf
 have jw:=qM xJ
 have Qj:=qM zi
 have Q7:=qM zM
 have jV:=qM xN
 clear xf xJ zi zM xN
 have N:=Fresh.nil w.heap.size
 refine zcr (sw (vU H (yS s qC qB qN qJ) fun b1 w2 H=>sw (vU H (yT t qV qR xm xk qL qK) fun b3 w4 H=>sw (zh H ti59 [yN,yN] fun b5 w6 H=>sp (yI 0) (zjcc (sw (zl (yS s qC qB qN qJ) isAgg36 sizeOf36 rfl (qF (H.cells 2 rfl) 0 3) ?_)))))))
 refine sw (zl (yT t qV qR xm xk qL qK) isAgg38 sizeOf38 rfl (qF (H.cells 1 rfl) 0 3) (sw (oq (validState_ok _ s t (H.get 0 rfl).1 (H.get 1 rfl).1 (H.get 2 rfl).1 (H.get 3 rfl).1 (H.get 4 rfl).1) H fun w8 H=>sp (Bv (!(dec (jE s∧zu s t)))) (zjn (cQ rfl (fun h10=>?_) (fun h10=>?_))))))
 ·skip
  refine zcr (sw (jF [yN,yN] [] (sw (zF H 0 [yN,yN] sizeOf59 fun w11 H=>sp (yI 1) (zjr (t_r ?_))))))
  replace H:=H.addNil (α:=qH)
  replace H:=H.addNil (α:=yLI)
  refine retC2 H 0 rfl (yI 1) rfl isAgg59 sizeOf59 rfl rfl ⟨_,rfl,?_,H.base⟩
  obtain ⟨z1,z2⟩:=exG_of (ex_1 ‹_›)
  rw [z1,z2]
  exact ⟨none,0,[],none,0,[],rfl,N.emp.emp,H.pick [] [1,0]⟩
 have k0:=(‹jE s∧zu s t›:jE s∧zu s t)
 have k1:=k0.1
 have k2:=k0.2
 obtain ⟨q7,q8,q9,q10⟩:=k2.sizes k1.1
 have q13:=fun k hk=>Nat.le_trans (q10 k hk) (by decide:8≤1000000)
 refine qW (t_n (zcr (sw (zl (yS s qC qB qN qJ) isAgg36 sizeOf36 rfl (qF (H.cells 2 rfl) 0 3) (sw (zl (yT t qV qR xm xk qL qK) isAgg38 sizeOf38 rfl (qF (H.cells 1 rfl) 0 3) ?_))))))
 refine sw (vJ #[.agg #[yI s.xB,Sv qC s.qw.length qB,Sv qN s.qx.length qJ],.agg #[Sv qV t.qA.length qR,Sv xm t.qE.length xk,Sv qL t.qy.length qK]] rfl rfl call86 (en func86 ntmps86 ?_))
 refine zcr (sw (vU H (yS s qC qB qN qJ) fun b12 w13 H=>sw (vU H (yT t qV qR xm xk qL qK) fun b14 w15 H=>sw (zh H ti59 [yN,yN] fun b16 w17 H=>sp (yI 0) (zjc (sw (zl (yT t qV qR xm xk qL qK) isAgg38 sizeOf38 rfl (qF (H.cells 1 rfl) 0 3) ?_)))))))
 have sz21:=H.base.size
 refine sw (oc (Yy _ t (H.get 2 rfl).1 (H.get 3 rfl).1 (H.get 4 rfl).1 qg qg qg qg) ?_)
 rintro _ w19 ⟨ra18Alive,rn18Alive,rc18Alive,ra18Bags,rn18Bags,rc18Bags,rx18Bags,rF18Bags,ra18Around,rn18Around,rc18Around,rfl,M,K⟩ _
 replace N:=N.merge sz21 qm M
 replace H:=H.merge K M
 obtain rfl:=H.rowNB 0 rfl
 obtain rfl:=H.zq (α:=yLI) 1 rfl 0 rfl qj
 obtain rfl:=H.YX 2 rfl
 refine sw (zA H underlying47 ti38 (yT t ra18Alive rc18Alive ra18Bags rc18Bags ra18Around rc18Around) fun b26 w27 H=>sw (jF [Sv (aa b26 0) 1 1,yN] [(0,Sv (aa b26 0) 1 1)] (sw (zh H ti59 [yN,yN] fun b28 w29 H=>sw (zF H 0 [Sv (aa b26 0) 1 1,yN] sizeOf59 fun w30 H=>zjcc (sp (yI 0) (zjn (qX ?_))))))))
 replace H:=H.boxRow 1 rfl 3 1 rfl qj
 replace H:=H.vT (α:=qH)
 obtain ⟨G31,N,hn32,H⟩:=H.freezeB 2 rfl N (H.jU [1])
 have H0:=H
 obtain ⟨G33,hg35,hn34,H⟩:=H.yX (α:=yLI) 3 rfl 2 rfl qj
 replace N:Fresh w.heap.size [G33,G31]:=Fresh.ice (N.pick [1,0]) H0 3 hg35.1 hg35.2 (H0.jU [0])
 clear H0
 obtain ⟨G36,N,hn37,H⟩:=H.jb 4 rfl N (H.jU [0,1])
 replace H:=H.Vf 3 rfl 2 rfl 1 rfl 0 rfl
 replace N:Fresh w.heap.size [([]++(G31++G33++G36))]:=(N.emp.pick [3,2,1,0]).join.join.swap.join
 replace H:St _ _ [.box b28 [Sv (aa b26 0) 1 1,yN] 59,rr (aa b26 0) 1 1 38 3 (yT t ra18Alive rc18Alive ra18Bags rc18Bags ra18Around rc18Around),rr none 0 0 0 1 [],rr none 0 0 0 1 [],rr none 0 0 0 1 [],.box b16 [yN,yN] 59,.box b14 (yT t qV qR xm xk qL qK) 38,.box b12 (yS s qC qB qN qJ) 36,.box b5 [yN,yN] 59,.box b3 (yT t qV qR xm xk qL qK) 38,.box b1 (yS s qC qB qN qJ) 36] [zf true ([]++(G31++G33++G36)) (yT t ra18Alive rc18Alive ra18Bags rc18Bags ra18Around rc18Around) [t],sF true G36 ra18Around rc18Around t.qy,sF true G33 ra18Bags rc18Bags t.qE,sF true G31 ra18Alive rc18Alive t.qA,zf true [] [] ([]:List qH),zf true rF18Bags rx18Bags t.qE,sF false qZ qC qB s.qw,sF false xG qN qJ s.qx,sF false xR qV qR t.qA,sF false zC xm xk t.qE,sF false xC qL qK t.qy]:=H
 replace H:=H.nilRow 22 1
 replace H:=H.vT (α:=yLI)
 refine zD (fun m' ρ w38=>∃ (xY:Env) (i:Nat) (yt:yOA) (jO:Nat) (jP:Nat) (g_States:List qH) (VU:List Value) (Xm:yLN) (yg:yOA) (jQ:Nat) (yf:Nat) (g_Next:yLL) (Vb:List Value) (yx:yLN),ρ=upd (upd (upd (upd xY 2 (pp b12 0)) 4 (pp b16 0)) 6 (pp b28 0)) 7 (yI i)∧(grRes s t=grGo s (302 - i) i g_States g_Next)∧(∀ u∈g_States,zu s u)∧(0 < g_States.length∧g_States.length≤300)∧(g_Next.length=i)∧(i≤g_States.length)∧(GrOk g_States g_Next)∧m' =(301 - i)∧Fresh w.heap.size [Xm,yx]∧St w w38 [rr yg jQ yf 22 1 Vb,.box b28 [Sv yt jO jP,Sv yg jQ yf] 59,rr yt jO jP 38 3 VU,.box b16 [yN,yN] 59,.box b14 (yT t qV qR xm xk qL qK) 38,.box b12 (yS s qC qB qN qJ) 36,.box b5 [yN,yN] 59,.box b3 (yT t qV qR xm xk qL qK) 38,.box b1 (yS s qC qB qN qJ) 36] [zf true yx Vb g_Next,zf true Xm VU g_States,sF false qZ qC qB s.qw,sF false xG qN qJ s.qx,sF false xR qV qR t.qA,sF false zC xm xk t.qE,sF false xC qL qK t.qy]) ((301 - 0)) ⟨_,0,(aa b26 0),1,1,[t],(yT t ra18Alive rc18Alive ra18Bags rc18Bags ra18Around rc18Around),([]++(G31++G33++G36)),none,0,0,([]:yLL),[],[],uE4,(by rfl),(by exact fun u hu=>by obtain rfl:=List.mem_singleton.1 hu;exact k2),qm,(by rfl),qm,(by exact GrOk.start t),rfl,(N.emp.pick [1,0]),H.pick [0,1,2,6,7,8,9,10,11] [0,1,7,8,9,10,11]⟩ ?_
 clear H N
 rintro m' ρ w39 ⟨xY,i,yt,jO,jP,g_States,VU,Xm,yg,jQ,yf,g_Next,Vb,yx,rfl,kr,ka,kl,kn,ki,ko,rfl,N,H⟩
 have hn_g_States:=H.zq (α:=qH) 2 rfl 1 rfl qj
 have hn_g_Next:=H.zq (α:=yLI) 0 rfl 0 rfl qj
 refine zcc (sp (yI i) (oF rfl (oL rfl (H.cell 1 rfl rfl) (oN rfl (sp (Bv (decide ((i:Int) < jO))) (zjn (cD rfl (fun h40=>?_) (fun h40=>?_))))))))
 ·skip
  have ks:=ka (g_States[i]!) (mem_at (k:=i) qf rfl)
  have nl:=succ_len s (g_States[i]!)
  refine qW (t_n (xQ (qX (xQ ?_))))
  refine jh rfl H fun H=>rt 0 (.agg #[yI s.xB,Sv qC s.qw.length qB,Sv qN s.qx.length qJ]) (QL (cs:=(yS s qC qB qN qJ)) isAgg36 sizeOf36 rfl (fun _ h=>qF (h.cells 5 rfl) 0 3)) H ?_
  refine tF 1 rfl rfl H ?_
  refine tL 2 rfl rfl (fun _ h=>h.cell 1 rfl rfl) H ?_
  refine rtp 3 (yI i) H ?_
  obtain ⟨b42,rfl⟩:=H.Qn 2 rfl qf
  obtain ⟨ae43Alive,ce43Alive,Fe43Alive,ae43Bags,ce43Bags,Fe43Bags,ae43Around,ce43Around,Fe43Around,hx44,H⟩:=H.rowel_StateD 2 rfl 1 rfl (iv:=i) i qf qf
  have S:=H.yU [0,1,2,3,4,5,6,7,8] [3,4,5,6,7,8,9]
  refine tI 4 rfl rfl rfl S ?_
  refine rt 5 (.agg #[Sv ae43Alive (((g_States[i]!).qA).length) ce43Alive,Sv ae43Bags (((g_States[i]!).qE).length) ce43Bags,Sv ae43Around (((g_States[i]!).qy).length) ce43Around]) (QL (cs:=[Sv ae43Alive (((g_States[i]!).qA).length) ce43Alive,Sv ae43Bags (((g_States[i]!).qE).length) ce43Bags,Sv ae43Around (((g_States[i]!).qy).length) ce43Around]) isAgg38 sizeOf38 rfl (fun _ h=>qF (fun j v hj=>h.rowGet 2 rfl (hx44 j v hj)) 0 3)) S ?_
  refine ro 6 rfl ?_
  have sz48:=H.base.size
  have lt49:=H.ltN (L:=[Xm,yx]) [4,3]
  refine oc (nextStates_ok _ s (g_States[i]!) (H.get 5 rfl).1 (H.get 6 rfl).1 (H.get 0 rfl).1 (H.get 1 rfl).1 (H.get 2 rfl).1 qg qg) ?_
  rintro _ w46 ⟨ra45a,rn45a,rc45a,rx45a,rF45a,rfl,M,K⟩ _
  replace N:=N.merge sz48 lt49 M
  replace H:=H.merge K M
  obtain rfl:=H.zq (α:=qH) 0 rfl 0 rfl qj
  refine ⟨H.pick [1,2,3,4,5,6,7,8,9] [4,5,6,7,8,9,10],?_⟩
  have S:=H.yU [1,2,3,4,5,6,7,8,9] [4,5,6,7,8,9,10]
  refine rtp 7 (.tuple #[Sv ra45a (((xe s (g_States[i]!)).1).length) rc45a,yI ((xe s (g_States[i]!)).2)]) S ?_
  refine rtp 8 (Sv ra45a (((xe s (g_States[i]!)).1).length) rc45a) S ?_
  refine rtp 9 (yI ((xe s (g_States[i]!)).2)) S ?_
  refine rtp 10 (Sv ra45a (((xe s (g_States[i]!)).1).length) rc45a) S ?_
  refine rtp 11 (yI ((xe s (g_States[i]!)).2)) S ?_
  refine xP qh (t_n (zcc (sps [yI ((xe s (g_States[i]!)).2),Bv (((xe s (g_States[i]!)).2:Int) != 0)] (zjn (xE (((xe s (g_States[i]!)).2:Int) != 0) rfl (fun h51=>?_) (fun h51=>?_))))))
  ·skip
   replace h51:=bne_iff_ne.1 h51
   refine zcr (sw (jF [yN,yN] [] (sp (yI ((xe s (g_States[i]!)).2)) (sw (zF H 4 [yN,yN] sizeOf59 fun w52 H=>sp (yI ((xe s (g_States[i]!)).2)) (zjr (t_r (zr5 (retC2 H 4 rfl (yI ((xe s (g_States[i]!)).2)) rfl isAgg59 sizeOf59 rfl rfl ⟨_,rfl,?_⟩)))))))))
   replace H:=H.erases [6,5,4,3,2,1,0]
   dsimp only [vS,List.eraseIdx] at H
   refine sps [.agg #[yN,yN],yI ((xe s (g_States[i]!)).2)] (sw (zF H 0 [yN,yN] sizeOf59 fun w53 H=>sp (yI ((xe s (g_States[i]!)).2)) (zjr ?_)))
   replace H:=H.addNil (α:=qH)
   replace H:=H.addNil (α:=yLI)
   refine retC2 H 0 rfl (yI ((xe s (g_States[i]!)).2)) rfl isAgg59 sizeOf59 rfl rfl ⟨_,rfl,?_,H.base⟩
   obtain ⟨z1,z2⟩:=exG_of (ex_0 k0 (kr.trans (gr_code qf qf ql)))
   rw [z1,z2]
   exact ⟨none,0,[],none,0,[],rfl,(N.emp.emp.pick [0,1]),H.pick [] [1,0]⟩
  replace h51:=xw h51
  refine qW (t_n (zcr (sw (vP H underlying22 ti2 fun b54 w55 H=>sp (Sv (aa b54 0) 0 0) (zjcc (sp (Sv ra45a (((xe s (g_States[i]!)).1).length) rc45a) (oN rfl (sp (yI 0) (zjn (qX ?_))))))))))
  have H0:=H
  obtain ⟨G56,hg58,hn57,H⟩:=H.yX (α:=qH) 1 rfl 0 rfl qj
  replace N:Fresh w.heap.size [G56,Xm,yx]:=Fresh.ice N H0 1 hg58.1 hg58.2 (H0.jU [5,4])
  clear H0
  obtain ⟨xs59,B60,P61,N,H⟩:=H.pool (α:=qH) 0 rfl N
  replace H:=H.boxRowI 0 [] 0
  refine zD (fun m' ρ w62=>∃ (xY:Env) (a_own:yOA) (n_own:Nat) (c_own:Nat) (own:yLI) (k:Nat) (yE:yOA) (zY:Nat) (yC:Nat) (g_States_1:List qH) (yz:List Value) (vZ:yLN) (P_k:yLN),ρ=upd (upd (upd (upd (upd (upd (upd (upd xY 2 (pp b12 0)) 4 (pp b16 0)) 6 (pp b28 0)) 7 (yI i)) 10 (Sv a_own n_own c_own)) 40 (Sv ra45a (((xe s (g_States[i]!)).1).length) rc45a)) 41 (yI (((xe s (g_States[i]!)).1).length))) 42 (yI k)∧own=(vz g_States (xe s (g_States[i]!)).1 k).2∧g_States_1=(vz g_States (xe s (g_States[i]!)).1 k).1∧((k:Int)≤(((xe s (g_States[i]!)).1).length))∧m' =((((xe s (g_States[i]!)).1).length) - (k:Int)).toNat∧Fresh w.heap.size [yx,vZ,P_k]∧St w w62 [rr a_own n_own c_own 2 1 (own.map (Value.int .i64)),rr yg jQ yf 22 1 Vb,.box b28 [Sv yE zY yC,Sv yg jQ yf] 59,rr yE zY yC 38 3 yz,.box b16 [yN,yN] 59,.box b14 (yT t qV qR xm xk qL qK) 38,.box b12 (yS s qC qB qN qJ) 36,.box b5 [yN,yN] 59,.box b3 (yT t qV qR xm xk qL qK) 38,.box b1 (yS s qC qB qN qJ) 36] [zf true P_k (xs59.drop (k * 3)) (((xe s (g_States[i]!)).1).drop k),Yf B60 (Sv ra45a (((xe s (g_States[i]!)).1).length) rc45a) xs59,sF true G56 ra45a rc45a ((xe s (g_States[i]!)).1),zf true yx Vb g_Next,zf true vZ yz g_States_1,sF false qZ qC qB s.qw,sF false xG qN qJ s.qx,sF false xR qV qR t.qA,sF false zC xm xk t.qE,sF false xC qL qK t.qy]) (((((xe s (g_States[i]!)).1).length) - (0:Int)).toNat) ⟨_,(aa b54 0),0,0,([]:yLI),0,(aa b42 0),jO,jP,g_States,VU,Xm,P61,uE8,(by rfl),(by rfl),qf,rfl,(N.pick [2,1,0]),H.pick [0,2,3,4,5,6,7,8,9,10] [0,1,2,7,8,9,10,11,12,13]⟩ ?_
  clear H N
  rintro m' ρ w63 ⟨xY,a_own,n_own,c_own,own,k,yE,zY,yC,g_States_1,yz,vZ,P_k,rfl,rfl,rfl,i0,rfl,N,H⟩
  have hn_own:=H.YX 0 rfl
  have hn_g_States:=H.zq (α:=qH) 3 rfl 4 rfl qj
  obtain ⟨al1,al2,al3⟩:=addSt_len (S:=g_States) (nx:=(xe s (g_States[i]!)).1) k
  refine zcr (sp (Bv (decide ((k:Int) < (((xe s (g_States[i]!)).1).length)))) (zjn (xQ (cD rfl (fun h64=>?_) (fun h64=>?_)))))
  ·skip
   obtain ⟨b65,o66,rfl⟩:=H.addr 2 rfl qf
   obtain ⟨ae68Alive,ce68Alive,Fe68Alive,ae68Bags,ce68Bags,Fe68Bags,ae68Around,ce68Around,Fe68Around,P69,N,H⟩:=H.Y8 1 rfl 0 rfl ((N.pick [2,0,1]):Fresh w.heap.size [P_k,yx,vZ]) k k qf qf qf
   refine qW (t_n (xQ (qX (zcr (oI rfl rfl (sw (zl [Sv ae68Alive (((((xe s (g_States[i]!)).1)[k]!).qA).length) ce68Alive,Sv ae68Bags (((((xe s (g_States[i]!)).1)[k]!).qE).length) ce68Bags,Sv ae68Around (((((xe s (g_States[i]!)).1)[k]!).qy).length) ce68Around] isAgg38 sizeOf38 rfl (qF (H.get 3 rfl) 0 3) (sw (zh H ti38 [yN,yN,yN] fun b70 w71 H=>?_)))))))))
   refine sw (zF H 0 [Sv ae68Alive (((((xe s (g_States[i]!)).1)[k]!).qA).length) ce68Alive,Sv ae68Bags (((((xe s (g_States[i]!)).1)[k]!).qE).length) ce68Bags,Sv ae68Around (((((xe s (g_States[i]!)).1)[k]!).qy).length) ce68Around] sizeOf38 fun w72 H=>zjc (oF rfl (oL rfl (H.cell 3 rfl rfl) ?_)))
   refine sw (zl [Sv ae68Alive (((((xe s (g_States[i]!)).1)[k]!).qA).length) ce68Alive,Sv ae68Bags (((((xe s (g_States[i]!)).1)[k]!).qE).length) ce68Bags,Sv ae68Around (((((xe s (g_States[i]!)).1)[k]!).qy).length) ce68Around] isAgg38 sizeOf38 rfl (qF (H.cells 0 rfl) 0 3) ?_)
   obtain ⟨G73,hn74,h75⟩:=H.rowIsR (α:=qH) 4 rfl 9 rfl qj
   refine sw (oq (args_eq (by rw [← hn74]) (find_ok _ ((vz g_States (xe s (g_States[i]!)).1 k).1) (((xe s (g_States[i]!)).1)[k]!) (hn74▸h75) (H.get 0 rfl).1 (H.get 1 rfl).1 (H.get 2 rfl).1)) H fun w77 H=>sp (yI (firstIdx (fun zz=>decide (((vz g_States (xe s (g_States[i]!)).1 k).1)[zz]! =(((xe s (g_States[i]!)).1)[k]!))) ((vz g_States (xe s (g_States[i]!)).1 k).1).length)) (zjcc ?_))
   refine sps [yI (firstIdx (fun zz=>decide (((vz g_States (xe s (g_States[i]!)).1 k).1)[zz]! =(((xe s (g_States[i]!)).1)[k]!))) ((vz g_States (xe s (g_States[i]!)).1 k).1).length),Bv (decide ((firstIdx (fun zz=>decide (((vz g_States (xe s (g_States[i]!)).1 k).1)[zz]! =(((xe s (g_States[i]!)).1)[k]!))) ((vz g_States (xe s (g_States[i]!)).1 k).1).length:Int) < 0))] (zjn (cD rfl (fun h79=>?_) (fun h79=>?_)))
   ·skip
    refine zcr (oF rfl (oL rfl (H.cell 3 rfl rfl) ?_))
    obtain ⟨G80,hn81,h82⟩:=H.rowIsR (α:=qH) 4 rfl 9 rfl qj
    refine sw (oq (args_eq (by rw [← hn81]) (sizeS_ok _ ((vz g_States (xe s (g_States[i]!)).1 k).1) (hn81▸h82))) H fun w84 H=>sp (yI (((vz g_States (xe s (g_States[i]!)).1 k).1).length)) (zjn (xO (oF rfl (oL rfl (H.cell 3 rfl rfl) (sw (zl [Sv ae68Alive (((((xe s (g_States[i]!)).1)[k]!).qA).length) ce68Alive,Sv ae68Bags (((((xe s (g_States[i]!)).1)[k]!).qE).length) ce68Bags,Sv ae68Around (((((xe s (g_States[i]!)).1)[k]!).qy).length) ce68Around] isAgg38 sizeOf38 rfl (qF (H.cells 0 rfl) 0 3) ?_)))))))
    refine sw (zA H underlying47 ti38 [Sv ae68Alive (((((xe s (g_States[i]!)).1)[k]!).qA).length) ce68Alive,Sv ae68Bags (((((xe s (g_States[i]!)).1)[k]!).qE).length) ce68Bags,Sv ae68Around (((((xe s (g_States[i]!)).1)[k]!).qy).length) ce68Around] fun b86 w87 H=>sw (zG H 5 rfl 0 rfl underlying47 ti38 rfl qj rfl rfl rfl (by simp [Value.oneCell',Value.cells]) qp qf fun a88 c89 w90 H=>?_))
    replace H:=H.Vf 9 rfl 0 rfl 1 rfl 2 rfl
    replace N:Fresh w.heap.size [(vZ++(Fe68Alive++Fe68Bags++Fe68Around)),P69,yx]:=(N.pick [0,1,2,5,3,4]).join.join.swap.join
    refine oF rfl (sw (zO H 4 [Sv a88 (zY+1) c89,Sv yg jQ yf] sizeOf47 fun w91 H=>zjn (xO (sps [Sv a_own n_own c_own,yI (((vz g_States (xe s (g_States[i]!)).1 k).1).length)] (sw (zA H underlying22 ti2 [yI (((vz g_States (xe s (g_States[i]!)).1 k).1).length)] fun b92 w93 H=>sw (zG H 3 rfl 0 rfl underlying22 ti2 rfl qj rfl rfl rfl (by simp [Value.oneCell',Value.cells]) qp qf fun a94 c95 w96 H=>?_)))))))
    rw [snocI] at H
    refine sp (Sv a94 (n_own+1) c95) (xM (b_n (t_n (xO (sw (zB k 1 rfl rfl qf (sp (yI (k+1)) (xM ?_))))))))
    refine qY (m' :=((((xe s (g_States[i]!)).1).length) - ((k+1):Int)).toNat) qf ⟨_,a94,n_own+1,c95,(((vz g_States (xe s (g_States[i]!)).1 k).2)++[(((vz g_States (xe s (g_States[i]!)).1 k).1).length:Int)]),k+1,a88,zY+1,c89,(((vz g_States (xe s (g_States[i]!)).1 k).1)++[⟨(((xe s (g_States[i]!)).1)[k]!).qA,(((xe s (g_States[i]!)).1)[k]!).qE,(((xe s (g_States[i]!)).1)[k]!).qy⟩]),yz++[Sv ae68Alive (((((xe s (g_States[i]!)).1)[k]!).qA).length) ce68Alive,Sv ae68Bags (((((xe s (g_States[i]!)).1)[k]!).qE).length) ce68Bags,Sv ae68Around (((((xe s (g_States[i]!)).1)[k]!).qy).length) ce68Around],(vZ++(Fe68Alive++Fe68Bags++Fe68Around)),P69,uE8,?_,?_,?_,rfl,(N.pick [2,0,1]),H.pick [3,4,5,6,7,8,9,10,11,12] [5,7,8,9,0,11,12,13,14,15]⟩
    · first | exact (YJ (k:=k) ‹_›).2 | (refine Eq.trans ?_ (YK (k:=k) ‹_›).2;congr 2 <;> omega)
    · first | exact (YK (k:=k) ‹_›).1 | exact (YJ (k:=k) ‹_›).1
    · omega
   refine qW (t_n (xO (sps [Sv a_own n_own c_own,yI (firstIdx (fun zz=>decide (((vz g_States (xe s (g_States[i]!)).1 k).1)[zz]! =(((xe s (g_States[i]!)).1)[k]!))) ((vz g_States (xe s (g_States[i]!)).1 k).1).length)] (sw (zA H underlying22 ti2 [yI (firstIdx (fun zz=>decide (((vz g_States (xe s (g_States[i]!)).1 k).1)[zz]! =(((xe s (g_States[i]!)).1)[k]!))) ((vz g_States (xe s (g_States[i]!)).1 k).1).length)] fun b97 w98 H=>?_)))))
   refine sw (zG H 2 rfl 0 rfl underlying22 ti2 rfl qj rfl rfl rfl (by simp [Value.oneCell',Value.cells]) qp qf fun a99 c100 w101 H=>?_)
   rw [snocI] at H
   refine sp (Sv a99 (n_own+1) c100) (xM (b_n (t_n (xO (sw (zB k 1 rfl rfl qf (sp (yI (k+1)) (xM ?_))))))))
   refine qY (m' :=((((xe s (g_States[i]!)).1).length) - ((k+1):Int)).toNat) qf ⟨_,a99,n_own+1,c100,(((vz g_States (xe s (g_States[i]!)).1 k).2)++[firstIdx (fun zz=>decide (((vz g_States (xe s (g_States[i]!)).1 k).1)[zz]! =(((xe s (g_States[i]!)).1)[k]!))) ((vz g_States (xe s (g_States[i]!)).1 k).1).length]),k+1,yE,zY,yC,((vz g_States (xe s (g_States[i]!)).1 k).1),yz,vZ,P69,uE8,?_,?_,?_,rfl,(N.pick [4,5,3]),H.pick [2,3,4,5,6,7,8,9,10,11] [4,6,7,8,9,10,11,12,13,14]⟩
   · first | exact (YJ (k:=k) ‹_›).2 | (refine Eq.trans ?_ (YK (k:=k) ‹_›).2;congr 2 <;> omega)
   · first | exact (YK (k:=k) ‹_›).1 | exact (YJ (k:=k) ‹_›).1
   · omega
  refine zx4 (zcc (oF rfl (oL rfl (H.cell 2 rfl rfl) (oN rfl (sp (Bv (decide ((zY:Int) > 300))) (zjn (cD rfl (fun h102=>?_) (fun h102=>?_))))))))
  ·skip
   refine zcr (sw (jF [yN,yN] [] (sw (zF H 4 [yN,yN] sizeOf59 fun w103 H=>sp (yI 3) (zjr (t_r (zr5 (retC2 H 4 rfl (yI 3) rfl isAgg59 sizeOf59 rfl rfl ⟨_,rfl,?_⟩))))))))
   replace H:=H.erases [6,5,4,3,2,1,0]
   dsimp only [vS,List.eraseIdx] at H
   refine sps [.agg #[yN,yN],yI 3] (sw (zF H 0 [yN,yN] sizeOf59 fun w104 H=>sp (yI 3) (zjr ?_)))
   replace H:=H.addNil (α:=qH)
   replace H:=H.addNil (α:=yLI)
   refine retC2 H 0 rfl (yI 3) rfl isAgg59 sizeOf59 rfl rfl ⟨_,rfl,?_,H.base⟩
   obtain ⟨z1,z2⟩:=exG_of (ex_0 k0 (kr.trans (gr_many qf qf qf (k:=k) qf qf)))
   rw [z1,z2]
   exact ⟨none,0,[],none,0,[],rfl,(N.emp.emp.pick [0,1]),H.pick [] [1,0]⟩
  refine qW (t_n (xO (oF rfl (oL rfl (H.cell 2 rfl rfl) (sp (Sv a_own n_own c_own) (sw (zA H underlying27 ti22 [Sv a_own n_own c_own] fun b105 w106 H=>?_)))))))
  obtain ⟨G110,N,hn111,H⟩:=H.jb 1 rfl N (H.jU [3,4,0])
  refine sw (zG H 2 rfl 0 rfl underlying27 ti22 rfl qj rfl rfl rfl (by simp [Value.oneCell',Value.cells]) qp qf fun a107 c108 w109 H=>?_)
  replace H:=H.jd 4 rfl 0 rfl
  replace N:Fresh w.heap.size [(yx++G110),vZ,P_k]:=(N.pick [1,0,2,3]).join
  refine oF rfl (sw (zO H 3 [Sv yE zY yC,Sv a107 (jQ+1) c108] sizeOf27 fun w112 H=>xM (b_n (t_n (xO (sp (yI i) (sw (zB i 1 rfl rfl qf (sp (yI (i+1)) (xM ?_))))))))))
  refine qY (m' :=(301 - (i+1))) qf ⟨_,i+1,yE,zY,yC,((vz g_States (xe s (g_States[i]!)).1 k).1),yz,vZ,a107,jQ+1,c108,(g_Next++[((vz g_States (xe s (g_States[i]!)).1 k).2)]),Vb++[Sv a_own n_own c_own],(yx++G110),uE4,?_,?_,?_,?_,?_,?_,rfl,(N.pick [1,0]),H.pick [2,3,4,5,6,7,8,9,10] [0,6,7,8,9,10,11]⟩
  · exact kr.trans (gr_go qf qf qf (k:=k) qf qf)
  · exact addSt_mem ka succ_ok k qf
  · omega
  · simp;omega
  · omega
  · exact ko.next qf qf
 refine zx4 (zcr (sw (zl [Sv yt jO jP,Sv yg jQ yf] isAgg59 sizeOf59 rfl (qF (H.cells 1 rfl) 0 2) (sw (zF H 3 [Sv yt jO jP,Sv yg jQ yf] sizeOf59 fun w113 H=>sp (yI 0) (zjr (retC2 H 3 rfl (yI 0) rfl isAgg59 sizeOf59 rfl rfl ⟨_,rfl,?_⟩)))))))
 replace H:=H.erases [5,4,3,1]
 dsimp only [vS,List.eraseIdx] at H
 refine sps [.agg #[Sv yt jO jP,Sv yg jQ yf],yI 0] (sw (zF H 2 [Sv yt jO jP,Sv yg jQ yf] sizeOf59 fun w114 H=>sp (yI 0) (zjr ?_)))
 have H0:=H
 obtain ⟨G115,hg117,hn116,H⟩:=H.yX (α:=qH) 1 rfl 1 rfl qj
 replace N:Fresh w.heap.size [G115,yx]:=Fresh.ice N H0 1 hg117.1 hg117.2 (H0.jU [0])
 clear H0
 obtain rfl:=H.isLen 0 rfl
 have H0:=H
 obtain ⟨G118,hg120,hn119,H⟩:=H.yX (α:=yLI) 0 rfl 1 rfl qj
 replace N:Fresh w.heap.size [G118,G115]:=Fresh.ice (N.pick [1,0]) H0 0 hg120.1 hg120.2 (H0.jU [0])
 clear H0
 obtain rfl:=H.isLen 0 rfl
 refine retC2 H 2 rfl (yI 0) rfl isAgg59 sizeOf59 rfl rfl ⟨_,rfl,?_,H.base⟩
 obtain ⟨z1,z2⟩:=exG_of (ex_0 k0 (kr.trans (gr_end qf)))
 rw [z1,z2]
 exact ⟨yt,jP,G115,yg,yf,G118,rfl,(N.pick [1,0]),H.pick [] [1,0]⟩
theorem implHS_ok (w:World) (s:qI) (t:qH) {qC:yOA} {qZ:yLN} {qN:yOA} {xG:yLN} {qV:yOA} {xR:yLN} {xm:yOA} {zC:yLN} {qL:yOA} {xC:yLN} (xf:qO.rep w qZ [Sv qC s.qw.length qB] s.qw) (xJ:qO.rep w xG [Sv qN s.qx.length qJ] s.qx) (zi:qO.rep w xR [Sv qV t.qA.length qR] t.qA) (zM:qO.rep w zC [Sv xm t.qE.length xk] t.qE) (xN:qO.rep w xC [Sv qL t.qy.length qK] t.qy):Calls Tryz.prog 50 #[.agg #[yI s.xB,Sv qC s.qw.length qB,Sv qN s.qx.length qJ],.agg #[Sv qV t.qA.length qR,Sv xm t.qE.length xk,Sv qL t.qy.length qK]] w (Ret (fun v w' =>∃ (ra0:yOA) (rc0:Nat) (rF0:yLN),v=.tuple #[Sv ra0 (((Qk s t).1).length) rc0,yI ((Qk s t).2)]∧Fresh w.heap.size [rF0]∧St w w' [] [sF true rF0 ra0 rc0 ((Qk s t).1)]) w):=by
 refine en func50 ntmps50 ?_
 have H:=(((((St.start w).arg xN).arg zM).arg zi).arg xJ).arg xf
 have vH:=qM xf
 have jw:=qM xJ
 have Qj:=qM zi
 have Q7:=qM zM
 have jV:=qM xN
 clear xf xJ zi zM xN
 have N:=Fresh.nil w.heap.size
 refine zcr (sw (vU H (yS s qC qB qN qJ) fun b1 w2 H=>sw (vU H (yT t qV qR xm xk qL qK) fun b3 w4 H=>sps [yN,yI 0] (zjc (sw (zl (yS s qC qB qN qJ) isAgg36 sizeOf36 rfl (qF (H.cells 1 rfl) 0 3) ?_))))))
 refine sw (zl (yT t qV qR xm xk qL qK) isAgg38 sizeOf38 rfl (qF (H.cells 0 rfl) 0 3) ?_)
 have sz8:=H.base.size
 refine sw (oc (implEx_ok _ s t (H.get 0 rfl).1 (H.get 1 rfl).1 (H.get 2 rfl).1 (H.get 3 rfl).1 (H.get 4 rfl).1) ?_)
 rintro _ w6 ⟨ra5aStates,rc5aStates,rF5aStates,ra5aNext,rc5aNext,rF5aNext,rfl,M,K⟩ _
 replace N:=N.merge sz8 qm M
 replace H:=H.merge K M
 refine sps [.tuple #[.agg #[Sv ra5aStates (((exG s t).qP).length) rc5aStates,Sv ra5aNext (((exG s t).fNext).length) rc5aNext],yI ((Xp s t).2)],.agg #[Sv ra5aStates (((exG s t).qP).length) rc5aStates,Sv ra5aNext (((exG s t).fNext).length) rc5aNext],yI ((Xp s t).2)] (sw (zh H ti59 [yN,yN] fun b10 w11 H=>sw (zF H 0 [Sv ra5aStates (((exG s t).qP).length) rc5aStates,Sv ra5aNext (((exG s t).fNext).length) rc5aNext] sizeOf59 fun w12 H=>sp (yI ((Xp s t).2)) (zjcc (sps [yI ((Xp s t).2),Bv (((Xp s t).2:Int) != 0)] ?_)))))
 refine zjn (xE (((Xp s t).2:Int) != 0) rfl (fun h13=>?_) (fun h13=>?_))
 ·skip
  replace h13:=bne_iff_ne.1 h13
  refine zcr (sps [yI ((Xp s t).2),yN,yI ((Xp s t).2)] (zjr (t_r ?_)))
  replace H:=H.addNil (α:=qH)
  refine ret2 yN (yI ((Xp s t).2)) rfl rfl rfl ⟨_,rfl,?_,H.base⟩
  rw [hs_c ‹_›]
  exact ⟨none,0,[],rfl,(N.emp.pick [0]),H.pick [] [0]⟩
 replace h13:=xw h13
 have c0:(Xp s t).2=0:=by omega
 have ga:=ex_all c0
 have k0:=ex_valid c0
 have k1:=k0.1
 have gp:=ga.pos
 have gl:=ga.le
 have gn:=ga.len
 refine qW (t_n (zcr (sw (vP H underlying47 ti38 fun b14 w15 H=>sp (Sv (aa b14 0) 0 0) (zjcc (sw (zl [Sv ra5aStates (((exG s t).qP).length) rc5aStates,Sv ra5aNext (((exG s t).fNext).length) rc5aNext] isAgg59 sizeOf59 rfl (qF (H.cells 1 rfl) 0 2) (sw (vJ #[.agg #[Sv ra5aStates (((exG s t).qP).length) rc5aStates,Sv ra5aNext (((exG s t).fNext).length) rc5aNext]] rfl rfl call84 (en func84 ntmps84 ?_))))))))))
 refine zcr (sw (vU H [Sv ra5aStates (((exG s t).qP).length) rc5aStates,Sv ra5aNext (((exG s t).fNext).length) rc5aNext] fun b16 w17 H=>sp yN (zjc (sw (vP H underlying22 ti2 fun b18 w19 H=>sp (Sv (aa b18 0) 0 0) (zjcc (oF rfl (oL rfl (H.cell 1 rfl rfl) (oN rfl (sp (yI 0) (zjn (qX ?_))))))))))))
 replace H:=H.boxRowI 0 [] 0
 refine zD (fun m' ρ w20=>∃ (xY:Env) (zX:yOA) (xX:Nat) (zK:Nat) (out:yLI) (i:Nat),ρ=upd (upd (upd (upd xY 3 (Sv zX xX zK)) 8 (Sv ra5aNext (((exG s t).fNext).length) rc5aNext)) 9 (yI (((exG s t).fNext).length))) 10 (yI i)∧out=(idxL (exG s t).fNext i)∧((i:Int)≤(((exG s t).fNext).length))∧m' =((((exG s t).fNext).length) - (i:Int)).toNat∧Fresh w.heap.size [rF5aStates,rF5aNext]∧St w w20 [rr zX xX zK 2 1 (out.map (Value.int .i64)),.box b16 [Sv ra5aStates (((exG s t).qP).length) rc5aStates,Sv ra5aNext (((exG s t).fNext).length) rc5aNext] 59,.box b14 [] 38,.box b10 [Sv ra5aStates (((exG s t).qP).length) rc5aStates,Sv ra5aNext (((exG s t).fNext).length) rc5aNext] 59,.box b3 (yT t qV qR xm xk qL qK) 38,.box b1 (yS s qC qB qN qJ) 36] [sF true rF5aStates ra5aStates rc5aStates ((exG s t).qP),sF true rF5aNext ra5aNext rc5aNext ((exG s t).fNext),sF false qZ qC qB s.qw,sF false xG qN qJ s.qx,sF false xR qV qR t.qA,sF false zC xm xk t.qE,sF false xC qL qK t.qy]) (((((exG s t).fNext).length) - (0:Int)).toNat) ⟨_,(aa b18 0),0,0,([]:yLI),0,uE4,(by rfl),qf,rfl,N,H⟩ ?_
 clear H N
 rintro m' ρ w21 ⟨xY,zX,xX,zK,out,i,rfl,rfl,i0,rfl,N,H⟩
 have hn_out:=H.YX 0 rfl
 have il:=idx_len (exG s t).fNext i
 refine zcr (sp (Bv (decide ((i:Int) < (((exG s t).fNext).length)))) (zjn (xQ (cD rfl (fun h22=>?_) (fun h22=>?_)))))
 ·skip
  refine qW (t_n (xQ (qX (zcr (sp (yI i) ?_)))))
  obtain ⟨b23,o24,rfl⟩:=H.addr 1 rfl qf
  obtain ⟨ae26,ce26,Fe26,H⟩:=H.vV 1 rfl i i qf qf qf
  refine oI rfl rfl (oL rfl (H.xW 1 rfl 0 rfl) (sps [yI i,Sv ae26 ((((exG s t).fNext)[i]!).length) ce26] (zjc (sp (Sv ae26 ((((exG s t).fNext)[i]!).length) ce26) (oN rfl (sp (Bv (((((exG s t).fNext)[i]!).length:Int) == 0)) (zjn (cE rfl (fun h27=>?_) (fun h27=>?_)))))))))
  ·skip
   refine xO (sps [Sv zX xX zK,yI i] (sw (zA H underlying22 ti2 [yI i] fun b28 w29 H=>sw (zG H 1 rfl 0 rfl underlying22 ti2 rfl qj rfl rfl rfl (by simp [Value.oneCell',Value.cells]) qp qf fun a30 c31 w32 H=>?_))))
   rw [snocI] at H
   refine sp (Sv a30 (xX+1) c31) (xM (b_n (t_n (xO (sw (zB i 1 rfl rfl qf (sp (yI (i+1)) (xM (qY (m' :=((((exG s t).fNext).length) - ((i+1):Int)).toNat) qf ⟨_,a30,xX+1,c31,((idxL (exG s t).fNext i)++[(i:Int)]),i+1,uE4,?_,?_,rfl,N,H.pick [1,2,3,4,5,6] [2,3,4,5,6,7,8]⟩)))))))))
   · first | exact idx_yes qf | exact idx_no qf
   · omega
  refine qW (b_n (t_n (xO (sw (zB i 1 rfl rfl qf (sp (yI (i+1)) (xM (qY (m' :=((((exG s t).fNext).length) - ((i+1):Int)).toNat) qf ⟨_,zX,xX,zK,(idxL (exG s t).fNext i),i+1,uE4,?_,?_,rfl,N,H.pick [0,1,2,3,4,5] [2,3,4,5,6,7,8]⟩))))))))
  · first | exact idx_yes qf | exact idx_no qf
  · omega
 refine zx4 (zcr (sps [Sv zX xX zK,Sv zX xX zK] (zjr (ret1 (Sv zX xX zK) rfl rfl ⟨_,rfl,?_⟩))))
 replace H:=H.erases [1]
 dsimp only [vS,List.eraseIdx] at H
 refine oN rfl (sp (yI 0) (zjn (qX ?_)))
 obtain ⟨xs33,B34,P35,N,H⟩:=H.pool (α:=qH) 0 rfl N
 replace H:=H.boxRow 1 rfl 3 0 rfl qj
 replace H:=H.vT (α:=qH)
 replace H:St _ _ [rr zX xX zK 2 1 ((idxL (exG s t).fNext i).map (Value.int .i64)),rr (aa b14 0) 0 0 38 3 [],.box b10 [Sv ra5aStates (((exG s t).qP).length) rc5aStates,Sv ra5aNext (((exG s t).fNext).length) rc5aNext] 59,.box b3 (yT t qV qR xm xk qL qK) 38,.box b1 (yS s qC qB qN qJ) 36] [zf true [] [] ([]:List qH),zf true P35 (xs33.drop (0 * 3)) (((exG s t).qP).drop 0),Yf B34 (Sv ra5aStates (((exG s t).qP).length) rc5aStates) xs33,sF true rF5aStates ra5aStates rc5aStates ((exG s t).qP),sF true rF5aNext ra5aNext rc5aNext ((exG s t).fNext),sF false qZ qC qB s.qw,sF false xG qN qJ s.qx,sF false xR qV qR t.qA,sF false zC xm xk t.qE,sF false xC qL qK t.qy]:=H
 refine zD (fun m' ρ w36=>∃ (xY:Env) (jl:yOA) (zy:Nat) (zU:Nat) (out_1:List qH) (Ql:List Value) (jI:yLN) (k:Nat) (p:Nat) (P_p:yLN),ρ=upd (upd (upd (upd (upd xY 6 (pp b10 0)) 8 (Sv jl zy zU)) 22 (Sv zX xX zK)) 23 (yI xX)) 24 (yI k)∧out_1=(((idxL (exG s t).fNext i).take k).map (fun (i:Int)=>(exG s t).qP[i.toNat]!))∧((k:Int)≤xX)∧(∀ z,k≤z→z < (idxL (exG s t).fNext i).length→p≤((idxL (exG s t).fNext i)[z]!).toNat)∧m' =(xX - (k:Int)).toNat∧Fresh w.heap.size [rF5aNext,jI,P_p]∧St w w36 [rr zX xX zK 2 1 ((idxL (exG s t).fNext i).map (Value.int .i64)),rr jl zy zU 38 3 Ql,.box b10 [Sv ra5aStates (((exG s t).qP).length) rc5aStates,Sv ra5aNext (((exG s t).fNext).length) rc5aNext] 59,.box b3 (yT t qV qR xm xk qL qK) 38,.box b1 (yS s qC qB qN qJ) 36] [zf true jI Ql out_1,zf true P_p (xs33.drop (p * 3)) (((exG s t).qP).drop p),Yf B34 (Sv ra5aStates (((exG s t).qP).length) rc5aStates) xs33,sF true rF5aStates ra5aStates rc5aStates ((exG s t).qP),sF true rF5aNext ra5aNext rc5aNext ((exG s t).fNext),sF false qZ qC qB s.qw,sF false xG qN qJ s.qx,sF false xR qV qR t.qA,sF false zC xm xk t.qE,sF false xC qL qK t.qy]) ((xX - (0:Int)).toNat) ⟨_,(aa b14 0),0,0,([]:List qH),[],[],0,0,P35,uE5,(by rfl),qf,(by exact fun z _ _=>Nat.zero_le _),rfl,(N.emp.pick [2,0,1]),H⟩ ?_
 clear H N
 rintro m' ρ w37 ⟨xY,jl,zy,zU,out_1,Ql,jI,k,p,P_p,rfl,rfl,i0,kp,rfl,N,H⟩
 have hn_out:=H.zq (α:=qH) 1 rfl 0 rfl qj
 have tl:(((idxL (exG s t).fNext i).take k).map (fun (i:Int)=>(exG s t).qP[i.toNat]!)).length≤(idxL (exG s t).fNext i).length:=by rw [List.length_map,List.length_take];omega
 refine zcr (sp (Bv (decide ((k:Int) < xX))) (zjn (xQ (cD rfl (fun h38=>?_) (fun h38=>?_)))))
 ·skip
  have kq:=kp k qf qf
  obtain ⟨ia,ib⟩:=idx_at (R:=(exG s t).fNext) (k:=i) (q:=k) qf
  refine qW (t_n (xQ (qX (zcr ?_))))
  obtain ⟨b39,rfl⟩:=H.Qn 0 rfl qf
  refine oI rfl rfl (oL rfl (H.rowInt 0 rfl (iv:=k) (i:=k) qf qf) (sp (yI ((idxL (exG s t).fNext i)[k]!)) (zjn (xO (sp (Sv jl zy zU) (oF rfl (oL rfl (H.cell 2 rfl rfl) (sp (yI ((idxL (exG s t).fNext i)[k]!)) ?_))))))))
  obtain ⟨b40,o41,rfl⟩:=H.addr 3 rfl qf
  obtain ⟨ae43Alive,ce43Alive,Fe43Alive,ae43Bags,ce43Bags,Fe43Bags,ae43Around,ce43Around,Fe43Around,P44,N,H⟩:=H.Y8 2 rfl 1 rfl ((N.pick [2,0,1]):Fresh w.heap.size [P_p,rF5aNext,jI]) ((idxL (exG s t).fNext i)[k]!) (((idxL (exG s t).fNext i)[k]!).toNat) qf qf qf
  refine oI rfl rfl (sw (zl [Sv ae43Alive (((((exG s t).qP)[((idxL (exG s t).fNext i)[k]!).toNat]!).qA).length) ce43Alive,Sv ae43Bags (((((exG s t).qP)[((idxL (exG s t).fNext i)[k]!).toNat]!).qE).length) ce43Bags,Sv ae43Around (((((exG s t).qP)[((idxL (exG s t).fNext i)[k]!).toNat]!).qy).length) ce43Around] isAgg38 sizeOf38 rfl (qF (H.get 3 rfl) 0 3) ?_))
  refine sw (zA H underlying47 ti38 [Sv ae43Alive (((((exG s t).qP)[((idxL (exG s t).fNext i)[k]!).toNat]!).qA).length) ce43Alive,Sv ae43Bags (((((exG s t).qP)[((idxL (exG s t).fNext i)[k]!).toNat]!).qE).length) ce43Bags,Sv ae43Around (((((exG s t).qP)[((idxL (exG s t).fNext i)[k]!).toNat]!).qy).length) ce43Around] fun b45 w46 H=>sw (zG H 2 rfl 0 rfl underlying47 ti38 rfl qj rfl rfl rfl (by simp [Value.oneCell',Value.cells]) qp qf fun a47 c48 w49 H=>?_))
  replace H:=H.Vf 5 rfl 0 rfl 1 rfl 2 rfl
  replace N:Fresh w.heap.size [(jI++(Fe43Alive++Fe43Bags++Fe43Around)),P44,rF5aNext]:=(N.pick [0,1,2,5,3,4]).join.join.swap.join
  refine sp (Sv a47 (zy+1) c48) (xM (b_n (t_n (xO (sw (zB k 1 rfl rfl qf (sp (yI (k+1)) (xM ?_))))))))
  refine qY (m' :=(xX - ((k+1):Int)).toNat) qf ⟨_,a47,zy+1,c48,((((idxL (exG s t).fNext i).take k).map (fun (i:Int)=>(exG s t).qP[i.toNat]!))++[⟨(((exG s t).qP)[((idxL (exG s t).fNext i)[k]!).toNat]!).qA,(((exG s t).qP)[((idxL (exG s t).fNext i)[k]!).toNat]!).qE,(((exG s t).qP)[((idxL (exG s t).fNext i)[k]!).toNat]!).qy⟩]),Ql++[Sv ae43Alive (((((exG s t).qP)[((idxL (exG s t).fNext i)[k]!).toNat]!).qA).length) ce43Alive,Sv ae43Bags (((((exG s t).qP)[((idxL (exG s t).fNext i)[k]!).toNat]!).qE).length) ce43Bags,Sv ae43Around (((((exG s t).qP)[((idxL (exG s t).fNext i)[k]!).toNat]!).qy).length) ce43Around],(jI++(Fe43Alive++Fe43Bags++Fe43Around)),k+1,(((idxL (exG s t).fNext i)[k]!).toNat)+1,P44,uE5,?_,?_,?_,rfl,(N.pick [2,0,1]),H.pick [1,2,3,4,5] [0,5,8,9,10,11,12,13,14,15]⟩
  · exact map_snoc! (f:=fun (i:Int)=>(exG s t).qP[i.toNat]!) qf
  · omega
  · exact fun z h1 h2=>idx_up (p:=k) qf h2
 refine zx4 (zcr (sps [Sv jl zy zU,Sv jl zy zU,yI 0] (zjr ?_)))
 have H0:=H
 obtain ⟨G50,hg52,hn51,H⟩:=H.yX (α:=qH) 1 rfl 0 rfl qj
 replace N:Fresh w.heap.size [G50,rF5aNext,P_p]:=Fresh.ice (N.pick [1,0,2]) H0 1 hg52.1 hg52.2 (H0.jU [4,1])
 clear H0
 obtain rfl:=H.isLen 0 rfl
 refine ret2 (Sv jl ((((idxL (exG s t).fNext i).take k).map (fun (i:Int)=>(exG s t).qP[i.toNat]!)).length) zU) (yI 0) rfl rfl rfl ⟨_,rfl,?_,H.base⟩
 have hi:i=(exG s t).fNext.length:=by omega
 rw [hs_i c0 (q:=k) (by rw [← hi];omega),← hi]
 exact ⟨jl,zU,G50,rfl,(N.pick [0]),H.pick [] [0]⟩
end
end Go.Proofs.YtgjnaocffdhnbaaGreat
