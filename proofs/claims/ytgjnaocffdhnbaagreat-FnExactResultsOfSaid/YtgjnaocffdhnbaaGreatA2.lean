/- Walks and laws, printed by program and by hand: what each function comes to, for all arguments, part 2. -/
import Derived.Test.YtgjnaocffdhnbaaGreatA1
import Derived.Test.YtgjnaocffdhnbaaGreatRows
namespace Go.Proofs.YtgjnaocffdhnbaaGreat
set_option linter.unusedVariables false
set_option linter.unusedSimpArgs false
open Go.Proofs.YtgjnaocffdhnbaaGreat.Tot (tot)
open Go.Proofs.YtgjnaocffdhnbaaGreat.Mark (cnt mrk mkd mkd_mark cnt_mark)
section
open Go.RowKit
set_option linter.unusedVariables false
set_option linter.unusedSimpArgs false
set_option maxRecDepth 100000
set_option maxHeartbeats 4000000
theorem slice_form {α:Type} [qO α] {w:World} {F:yLN} {v:Value} {l:List α} (h:qO.rep w F [v] l):∃ a c,v=Sv a l.length c:=by
  obtain ⟨a,c,hc,_⟩:=h
  simp only [List.cons.injEq,and_true] at hc
  exact ⟨a,c,hc⟩

theorem one_of {α:Type} [qO α] {w:World} {F:yLN} {v:Value} {x:α} (h:qO.rep w F [v] x):v.oneCell' =true:=qO.one h v (List.mem_singleton.2 rfl)

theorem St.vV {α:Type} [qO α] {W0 w:World} {ps:List Prv} {Γ:List Fact} (H:St W0 w ps Γ) (i:Nat) {fr:Bool} {F:yLN} {b o m c:Nat} {l:List (List α)} (hf:Γ[i]? =some (isF fr F (Sv (some ⟨b,o,none⟩) m c) l)) (iv:Int) (k:Nat) (hk:iv.toNat=k) (h0:0≤iv) (h1:iv < l.length):
    ∃ (a' :yOA) (c' :Nat) (Fk:yLN),St W0 w ps (isF fr Fk (Sv a' (l[k]!).length c') (l[k]!) :: atF b (o+iv.toNat * 1) [Sv a' (l[k]!).length c'] :: Γ):=by
  obtain ⟨cs,Fk,hc,hr,hsub⟩:=H.elem i hf iv h0 h1
  have hfr:fr=true→vg w Fk:=fun e=>((H.get i hf).2 e).sub fun x hx=>hsub x (List.mem_cons_of_mem _ hx)
  rw [hk] at hr
  obtain ⟨a',c',rfl,_⟩:=id hr
  exact ⟨a',c',Fk,(H.jC i hf (atF b (o+iv.toNat * 1) _) hc (fun x hx=>hsub x (by simp only [atF,List.mem_singleton] at hx;subst hx;exact List.mem_cons_self ..))).jC (i+1) hf (isF fr Fk _ _) ⟨hr,hfr⟩ (fun x hx=>hsub x (List.mem_cons_of_mem _ hx))⟩

structure IntoD where
  qG:Int
  jJ:yLI
  deriving DecidableEq
instance:Inhabited IntoD:=⟨⟨0,[]⟩⟩
instance:Tot IntoD:=⟨fun x=>tot x.jJ⟩
theorem tot_IntoD (x:IntoD):tot x=tot x.jJ:=rfl

instance:qO IntoD where
  size:=2
  rep:=fun w F cs x=>∃ (vBag:Value) (FBag:yLN),cs=[.int .i64 x.qG,vBag]∧F=FBag∧qO.rep w FBag [vBag] x.jJ
  len:=by rintro w F cs x ⟨vBag,FBag,rfl,_,hBag⟩;rfl
  one:=by
    rintro w F cs x ⟨vBag,FBag,rfl,rfl,hBag⟩ u hu
    simp only [List.mem_cons,List.not_mem_nil,or_false] at hu
    rcases hu with rfl | rfl <;> first | rfl | exact one_of ql
  stay:=by
    rintro w w' F cs x ⟨vBag,FBag,rfl,rfl,hBag⟩ hs
    exact ⟨_,_,rfl,rfl,qO.stay hBag fun b hb=>hs b (by simp [hb])⟩
  lt:=by
    rintro w F cs x ⟨vBag,FBag,rfl,rfl,hBag⟩ b hb
    exact qO.lt hBag b hb

theorem St.yh {W0 w:World} {ps:List Prv} {Γ:List Fact} (H:St W0 w ps Γ) (i:Nat) {fr:Bool} {F:yLN} {b o m c:Nat} {l:List IntoD} (hf:Γ[i]? =some (isF fr F (Sv (some ⟨b,o,none⟩) m c) l)) (iv:Int) (k:Nat) (hk:iv.toNat=k) (h0:0≤iv) (h1:iv < l.length):
    ∃ (aBag:yOA) (cBag:Nat) (FBag:yLN),St W0 w ps (isF fr FBag (Sv aBag (l[k]!).jJ.length cBag) (l[k]!).jJ :: atF b (o+iv.toNat * 2) [.int .i64 (l[k]!).qG,Sv aBag (l[k]!).jJ.length cBag] :: Γ):=by
  obtain ⟨cs,Fk,hc,hr,hsub⟩:=H.elem i hf iv h0 h1
  have hfr:fr=true→vg w Fk:=fun e=>((H.get i hf).2 e).sub fun x hx=>hsub x (List.mem_cons_of_mem _ hx)
  rw [hk] at hr
  obtain ⟨vBag,FBag,rfl,hFF,hBag⟩:=hr
  obtain ⟨aBag,cBag,rfl⟩:=slice_form hBag
  exact ⟨_,_,_,((H.jC i hf (atF b (o+iv.toNat * 2) [.int .i64 (l[k]!).qG,Sv aBag (l[k]!).jJ.length cBag]) hc (fun x hx=>hsub x (by simp only [atF,List.mem_singleton] at hx;subst hx;exact List.mem_cons_self ..))).jC (i+1) hf (isF fr FBag _ (l[k]!).jJ) ⟨hBag,fun e=>(hfr e).sub (by rw [hFF];intro x hx;simp [hx])⟩ (fun x hx=>hsub x (List.mem_cons_of_mem _ (hFF.symm▸(by have hx:x∈FBag:=hx;simp [hx])))))⟩

def New_IntoD (w0 w:World) (v:Value) (x:IntoD):Prop:=
  ∃ (aBag:yOA) (cBag:Nat) (FBag:yLN),v=.agg #[.int .i64 x.qG,Sv aBag x.jJ.length cBag]∧qO.rep w FBag [Sv aBag x.jJ.length cBag] x.jJ∧(∀ b∈(FBag),w0.heap.size≤b)∧(FBag).Nodup∧vg w (FBag)
theorem St.add_IntoD {W0 w w' :World} {ps:List Prv} {Γ:List Fact} (H:St W0 w ps Γ) (e:Ext w w') {v:Value} {x:IntoD} (h:New_IntoD w w' v x):
    ∃ (aBag:yOA) (cBag:Nat) (FBag:yLN),v=.agg #[.int .i64 x.qG,Sv aBag x.jJ.length cBag]∧((∀ b∈(FBag),w.heap.size≤b)∧(FBag).Nodup)∧St W0 w' ps (isF true FBag (Sv aBag x.jJ.length cBag) x.jJ :: Γ):=by
  obtain ⟨aBag,cBag,FBag,rfl,hBag,hF,hd,hfr⟩:=h
  refine ⟨_,_,_,rfl,⟨hF,hd⟩,?_⟩
  exact ((H.ext e).add (isF true FBag _ x.jJ) ⟨hBag,fun _=>hfr.sub (by intro b hb;simp [hb])⟩ (fun b hb=>⟨qO.lt hBag b hb,fun i hi=>by have h1:=(yP H hi).2;have h2:=hF b (by have hb:b∈FBag:=hb;simp [hb]);omega⟩))

theorem St.snoc_IntoD {W0 w:World} {ps:List Prv} {Γ:List Fact} (H:St W0 w ps Γ) (i:Nat) {fr:Bool} {F:yLN} {xs:List Value} {l:List IntoD} (hf:Γ[i]? =some (zf fr F xs l)) (xCell:Int) (iBag:Nat) {GBag:yLN} {vBag:Value} {xBag:yLI} (hBag:Γ[iBag]? =some (isF fr GBag vBag xBag)):
    St W0 w ps (zf fr (F++(GBag)) (xs++[.int .i64 xCell,vBag]) (l++[⟨xCell,xBag⟩]) :: Γ):=by
  have hr:qO.rep w (GBag) [.int .i64 xCell,vBag] (⟨xCell,xBag⟩:IntoD):=⟨vBag,GBag,rfl,rfl,(H.get iBag hBag).1⟩
  refine H.add _ ⟨QM (H.get i hf).1 (reps_one hr),fun e=>((H.get i hf).2 e).app (((H.get iBag hBag).2 e))⟩ fun b hb=>?_
  rcases List.mem_append.1 hb with h | h
  · exact (H.facts _ (List.mem_of_getElem? hf)).2 b h
  · exact (H.facts _ (List.mem_of_getElem? hBag)).2 b h

structure Xg where
  qG:Int
  zS:Int
  xn:yLI
  xF:yLI
  xI:yLI
  xK:yLI
  ve:yLI
  qU:List IntoD
  zH:Bool
  deriving DecidableEq
instance:Inhabited Xg:=⟨⟨0,0,[],[],[],[],[],[],false⟩⟩
instance:Tot Xg:=⟨fun x=>tot x.xn+tot x.xF+tot x.xI+tot x.xK+tot x.ve+tot x.qU⟩
theorem tot_RuleD (x:Xg):tot x=tot x.xn+tot x.xF+tot x.xI+tot x.xK+tot x.ve+tot x.qU:=rfl

instance:qO Xg where
  size:=9
  rep:=fun w F cs x=>∃ (vNeed vHave vLack vHere vOut vInto:Value) (Je Ji Jf Jh FOut Jg:yLN),cs=[.int .i64 x.qG,.int .i64 x.zS,vNeed,vHave,vLack,vHere,vOut,vInto,Bv x.zH]∧F=Je++Ji++Jf++Jh++FOut++Jg∧qO.rep w Je [vNeed] x.xn∧qO.rep w Ji [vHave] x.xF∧qO.rep w Jf [vLack] x.xI∧qO.rep w Jh [vHere] x.xK∧qO.rep w FOut [vOut] x.ve∧qO.rep w Jg [vInto] x.qU
  len:=by rintro w F cs x ⟨vNeed,vHave,vLack,vHere,vOut,vInto,Je,Ji,Jf,Jh,FOut,Jg,rfl,_,hNeed,hHave,hLack,hHere,hOut,hInto⟩;rfl
  one:=by
    rintro w F cs x ⟨vNeed,vHave,vLack,vHere,vOut,vInto,Je,Ji,Jf,Jh,FOut,Jg,rfl,rfl,hNeed,hHave,hLack,hHere,hOut,hInto⟩ u hu
    simp only [List.mem_cons,List.not_mem_nil,or_false] at hu
    rcases hu with rfl | rfl | rfl | rfl | rfl | rfl | rfl | rfl | rfl <;> first | rfl | exact one_of ql
  stay:=by
    rintro w w' F cs x ⟨vNeed,vHave,vLack,vHere,vOut,vInto,Je,Ji,Jf,Jh,FOut,Jg,rfl,rfl,hNeed,hHave,hLack,hHere,hOut,hInto⟩ hs
    exact ⟨_,_,_,_,_,_,_,_,_,_,_,_,rfl,rfl,qO.stay hNeed fun b hb=>hs b (by simp [hb]),qO.stay hHave fun b hb=>hs b (by simp [hb]),qO.stay hLack fun b hb=>hs b (by simp [hb]),qO.stay hHere fun b hb=>hs b (by simp [hb]),qO.stay hOut fun b hb=>hs b (by simp [hb]),qO.stay hInto fun b hb=>hs b (by simp [hb])⟩
  lt:=by
    rintro w F cs x ⟨vNeed,vHave,vLack,vHere,vOut,vInto,Je,Ji,Jf,Jh,FOut,Jg,rfl,rfl,hNeed,hHave,hLack,hHere,hOut,hInto⟩ b hb
    simp only [List.mem_append] at hb
    rcases hb with (((((hb | hb) | hb) | hb) | hb) | hb)
    · exact qO.lt hNeed b hb
    · exact qO.lt hHave b hb
    · exact qO.lt hLack b hb
    · exact qO.lt hHere b hb
    · exact qO.lt hOut b hb
    · exact qO.lt hInto b hb

theorem St.yF {W0 w:World} {ps:List Prv} {Γ:List Fact} (H:St W0 w ps Γ) (i:Nat) {fr:Bool} {F:yLN} {b o m c:Nat} {l:List Xg} (hf:Γ[i]? =some (isF fr F (Sv (some ⟨b,o,none⟩) m c) l)) (iv:Int) (k:Nat) (hk:iv.toNat=k) (h0:0≤iv) (h1:iv < l.length):
    ∃ (aNeed:yOA) (cNeed:Nat) (Je:yLN) (aHave:yOA) (cHave:Nat) (Ji:yLN) (aLack:yOA) (cLack:Nat) (Jf:yLN) (aHere:yOA) (cHere:Nat) (Jh:yLN) (aOut:yOA) (cOut:Nat) (FOut:yLN) (aInto:yOA) (cInto:Nat) (Jg:yLN),St W0 w ps (isF fr Je (Sv aNeed (l[k]!).xn.length cNeed) (l[k]!).xn :: isF fr Ji (Sv aHave (l[k]!).xF.length cHave) (l[k]!).xF :: isF fr Jf (Sv aLack (l[k]!).xI.length cLack) (l[k]!).xI :: isF fr Jh (Sv aHere (l[k]!).xK.length cHere) (l[k]!).xK :: isF fr FOut (Sv aOut (l[k]!).ve.length cOut) (l[k]!).ve :: isF fr Jg (Sv aInto (l[k]!).qU.length cInto) (l[k]!).qU :: atF b (o+iv.toNat * 9) [.int .i64 (l[k]!).qG,.int .i64 (l[k]!).zS,Sv aNeed (l[k]!).xn.length cNeed,Sv aHave (l[k]!).xF.length cHave,Sv aLack (l[k]!).xI.length cLack,Sv aHere (l[k]!).xK.length cHere,Sv aOut (l[k]!).ve.length cOut,Sv aInto (l[k]!).qU.length cInto,Bv (l[k]!).zH] :: Γ):=by
  obtain ⟨cs,Fk,hc,hr,hsub⟩:=H.elem i hf iv h0 h1
  have hfr:fr=true→vg w Fk:=fun e=>((H.get i hf).2 e).sub fun x hx=>hsub x (List.mem_cons_of_mem _ hx)
  rw [hk] at hr
  obtain ⟨vNeed,vHave,vLack,vHere,vOut,vInto,Je,Ji,Jf,Jh,FOut,Jg,rfl,hFF,hNeed,hHave,hLack,hHere,hOut,hInto⟩:=hr
  obtain ⟨aNeed,cNeed,rfl⟩:=slice_form hNeed
  obtain ⟨aHave,cHave,rfl⟩:=slice_form hHave
  obtain ⟨aLack,cLack,rfl⟩:=slice_form hLack
  obtain ⟨aHere,cHere,rfl⟩:=slice_form hHere
  obtain ⟨aOut,cOut,rfl⟩:=slice_form hOut
  obtain ⟨aInto,cInto,rfl⟩:=slice_form hInto
  exact ⟨_,_,_,_,_,_,_,_,_,_,_,_,_,_,_,_,_,_,(((((((H.jC i hf (atF b (o+iv.toNat * 9) [.int .i64 (l[k]!).qG,.int .i64 (l[k]!).zS,Sv aNeed (l[k]!).xn.length cNeed,Sv aHave (l[k]!).xF.length cHave,Sv aLack (l[k]!).xI.length cLack,Sv aHere (l[k]!).xK.length cHere,Sv aOut (l[k]!).ve.length cOut,Sv aInto (l[k]!).qU.length cInto,Bv (l[k]!).zH]) hc (fun x hx=>hsub x (by simp only [atF,List.mem_singleton] at hx;subst hx;exact List.mem_cons_self ..))).jC (i+1) hf (isF fr Jg _ (l[k]!).qU) ⟨hInto,fun e=>(hfr e).sub (by rw [hFF];intro x hx;simp [hx])⟩ (fun x hx=>hsub x (List.mem_cons_of_mem _ (hFF.symm▸(by have hx:x∈Jg:=hx;simp [hx]))))).jC (i+2) hf (isF fr FOut _ (l[k]!).ve) ⟨hOut,fun e=>(hfr e).sub (by rw [hFF];intro x hx;simp [hx])⟩ (fun x hx=>hsub x (List.mem_cons_of_mem _ (hFF.symm▸(by have hx:x∈FOut:=hx;simp [hx]))))).jC (i+3) hf (isF fr Jh _ (l[k]!).xK) ⟨hHere,fun e=>(hfr e).sub (by rw [hFF];intro x hx;simp [hx])⟩ (fun x hx=>hsub x (List.mem_cons_of_mem _ (hFF.symm▸(by have hx:x∈Jh:=hx;simp [hx]))))).jC (i+4) hf (isF fr Jf _ (l[k]!).xI) ⟨hLack,fun e=>(hfr e).sub (by rw [hFF];intro x hx;simp [hx])⟩ (fun x hx=>hsub x (List.mem_cons_of_mem _ (hFF.symm▸(by have hx:x∈Jf:=hx;simp [hx]))))).jC (i+5) hf (isF fr Ji _ (l[k]!).xF) ⟨hHave,fun e=>(hfr e).sub (by rw [hFF];intro x hx;simp [hx])⟩ (fun x hx=>hsub x (List.mem_cons_of_mem _ (hFF.symm▸(by have hx:x∈Ji:=hx;simp [hx]))))).jC (i+6) hf (isF fr Je _ (l[k]!).xn) ⟨hNeed,fun e=>(hfr e).sub (by rw [hFF];intro x hx;simp [hx])⟩ (fun x hx=>hsub x (List.mem_cons_of_mem _ (hFF.symm▸(by have hx:x∈Je:=hx;simp [hx])))))⟩

def New_RuleD (w0 w:World) (v:Value) (x:Xg):Prop:=
  ∃ (aNeed:yOA) (cNeed:Nat) (Je:yLN) (aHave:yOA) (cHave:Nat) (Ji:yLN) (aLack:yOA) (cLack:Nat) (Jf:yLN) (aHere:yOA) (cHere:Nat) (Jh:yLN) (aOut:yOA) (cOut:Nat) (FOut:yLN) (aInto:yOA) (cInto:Nat) (Jg:yLN),v=.agg #[.int .i64 x.qG,.int .i64 x.zS,Sv aNeed x.xn.length cNeed,Sv aHave x.xF.length cHave,Sv aLack x.xI.length cLack,Sv aHere x.xK.length cHere,Sv aOut x.ve.length cOut,Sv aInto x.qU.length cInto,Bv x.zH]∧qO.rep w Je [Sv aNeed x.xn.length cNeed] x.xn∧qO.rep w Ji [Sv aHave x.xF.length cHave] x.xF∧qO.rep w Jf [Sv aLack x.xI.length cLack] x.xI∧qO.rep w Jh [Sv aHere x.xK.length cHere] x.xK∧qO.rep w FOut [Sv aOut x.ve.length cOut] x.ve∧qO.rep w Jg [Sv aInto x.qU.length cInto] x.qU∧(∀ b∈(Je++Ji++Jf++Jh++FOut++Jg),w0.heap.size≤b)∧(Je++Ji++Jf++Jh++FOut++Jg).Nodup∧vg w (Je++Ji++Jf++Jh++FOut++Jg)
theorem St.add_RuleD {W0 w w' :World} {ps:List Prv} {Γ:List Fact} (H:St W0 w ps Γ) (e:Ext w w') {v:Value} {x:Xg} (h:New_RuleD w w' v x):
    ∃ (aNeed:yOA) (cNeed:Nat) (Je:yLN) (aHave:yOA) (cHave:Nat) (Ji:yLN) (aLack:yOA) (cLack:Nat) (Jf:yLN) (aHere:yOA) (cHere:Nat) (Jh:yLN) (aOut:yOA) (cOut:Nat) (FOut:yLN) (aInto:yOA) (cInto:Nat) (Jg:yLN),v=.agg #[.int .i64 x.qG,.int .i64 x.zS,Sv aNeed x.xn.length cNeed,Sv aHave x.xF.length cHave,Sv aLack x.xI.length cLack,Sv aHere x.xK.length cHere,Sv aOut x.ve.length cOut,Sv aInto x.qU.length cInto,Bv x.zH]∧((∀ b∈(Je++Ji++Jf++Jh++FOut++Jg),w.heap.size≤b)∧(Je++Ji++Jf++Jh++FOut++Jg).Nodup)∧St W0 w' ps (isF true Je (Sv aNeed x.xn.length cNeed) x.xn :: isF true Ji (Sv aHave x.xF.length cHave) x.xF :: isF true Jf (Sv aLack x.xI.length cLack) x.xI :: isF true Jh (Sv aHere x.xK.length cHere) x.xK :: isF true FOut (Sv aOut x.ve.length cOut) x.ve :: isF true Jg (Sv aInto x.qU.length cInto) x.qU :: Γ):=by
  obtain ⟨aNeed,cNeed,Je,aHave,cHave,Ji,aLack,cLack,Jf,aHere,cHere,Jh,aOut,cOut,FOut,aInto,cInto,Jg,rfl,hNeed,hHave,hLack,hHere,hOut,hInto,hF,hd,hfr⟩:=h
  refine ⟨_,_,_,_,_,_,_,_,_,_,_,_,_,_,_,_,_,_,rfl,⟨hF,hd⟩,?_⟩
  exact (((((((H.ext e).add (isF true Jg _ x.qU) ⟨hInto,fun _=>hfr.sub (by intro b hb;simp [hb])⟩ (fun b hb=>⟨qO.lt hInto b hb,fun i hi=>by have h1:=(yP H hi).2;have h2:=hF b (by have hb:b∈Jg:=hb;simp [hb]);omega⟩)).add (isF true FOut _ x.ve) ⟨hOut,fun _=>hfr.sub (by intro b hb;simp [hb])⟩ (fun b hb=>⟨qO.lt hOut b hb,fun i hi=>by have h1:=(yP H hi).2;have h2:=hF b (by have hb:b∈FOut:=hb;simp [hb]);omega⟩)).add (isF true Jh _ x.xK) ⟨hHere,fun _=>hfr.sub (by intro b hb;simp [hb])⟩ (fun b hb=>⟨qO.lt hHere b hb,fun i hi=>by have h1:=(yP H hi).2;have h2:=hF b (by have hb:b∈Jh:=hb;simp [hb]);omega⟩)).add (isF true Jf _ x.xI) ⟨hLack,fun _=>hfr.sub (by intro b hb;simp [hb])⟩ (fun b hb=>⟨qO.lt hLack b hb,fun i hi=>by have h1:=(yP H hi).2;have h2:=hF b (by have hb:b∈Jf:=hb;simp [hb]);omega⟩)).add (isF true Ji _ x.xF) ⟨hHave,fun _=>hfr.sub (by intro b hb;simp [hb])⟩ (fun b hb=>⟨qO.lt hHave b hb,fun i hi=>by have h1:=(yP H hi).2;have h2:=hF b (by have hb:b∈Ji:=hb;simp [hb]);omega⟩)).add (isF true Je _ x.xn) ⟨hNeed,fun _=>hfr.sub (by intro b hb;simp [hb])⟩ (fun b hb=>⟨qO.lt hNeed b hb,fun i hi=>by have h1:=(yP H hi).2;have h2:=hF b (by have hb:b∈Je:=hb;simp [hb]);omega⟩))

theorem St.snoc_RuleD {W0 w:World} {ps:List Prv} {Γ:List Fact} (H:St W0 w ps Γ) (i:Nat) {fr:Bool} {F:yLN} {xs:List Value} {l:List Xg} (hf:Γ[i]? =some (zf fr F xs l)) (xCell:Int) (xRank:Int) (iNeed:Nat) {GNeed:yLN} {vNeed:Value} {xNeed:yLI} (hNeed:Γ[iNeed]? =some (isF fr GNeed vNeed xNeed)) (iHave:Nat) {GHave:yLN} {vHave:Value} {xHave:yLI} (hHave:Γ[iHave]? =some (isF fr GHave vHave xHave)) (iLack:Nat) {GLack:yLN} {vLack:Value} {xLack:yLI} (hLack:Γ[iLack]? =some (isF fr GLack vLack xLack)) (iHere:Nat) {GHere:yLN} {vHere:Value} {xHere:yLI} (hHere:Γ[iHere]? =some (isF fr GHere vHere xHere)) (iOut:Nat) {GOut:yLN} {vOut:Value} {xOut:yLI} (hOut:Γ[iOut]? =some (isF fr GOut vOut xOut)) (iInto:Nat) {GInto:yLN} {vInto:Value} {xInto:List IntoD} (hInto:Γ[iInto]? =some (isF fr GInto vInto xInto)) (xMelts:Bool):
    St W0 w ps (zf fr (F++(GNeed++GHave++GLack++GHere++GOut++GInto)) (xs++[.int .i64 xCell,.int .i64 xRank,vNeed,vHave,vLack,vHere,vOut,vInto,Bv xMelts]) (l++[⟨xCell,xRank,xNeed,xHave,xLack,xHere,xOut,xInto,xMelts⟩]) :: Γ):=by
  have hr:qO.rep w (GNeed++GHave++GLack++GHere++GOut++GInto) [.int .i64 xCell,.int .i64 xRank,vNeed,vHave,vLack,vHere,vOut,vInto,Bv xMelts] (⟨xCell,xRank,xNeed,xHave,xLack,xHere,xOut,xInto,xMelts⟩:Xg):=⟨vNeed,vHave,vLack,vHere,vOut,vInto,GNeed,GHave,GLack,GHere,GOut,GInto,rfl,rfl,(H.get iNeed hNeed).1,(H.get iHave hHave).1,(H.get iLack hLack).1,(H.get iHere hHere).1,(H.get iOut hOut).1,(H.get iInto hInto).1⟩
  refine H.add _ ⟨QM (H.get i hf).1 (reps_one hr),fun e=>((H.get i hf).2 e).app ((((((((H.get iNeed hNeed).2 e).app ((H.get iHave hHave).2 e)).app ((H.get iLack hLack).2 e)).app ((H.get iHere hHere).2 e)).app ((H.get iOut hOut).2 e)).app ((H.get iInto hInto).2 e)))⟩ fun b hb=>?_
  rcases List.mem_append.1 hb with h | h
  · exact (H.facts _ (List.mem_of_getElem? hf)).2 b h
  · simp only [List.mem_append] at h
    rcases h with (((((h | h) | h) | h) | h) | h)
    · exact (H.facts _ (List.mem_of_getElem? hNeed)).2 b h
    · exact (H.facts _ (List.mem_of_getElem? hHave)).2 b h
    · exact (H.facts _ (List.mem_of_getElem? hLack)).2 b h
    · exact (H.facts _ (List.mem_of_getElem? hHere)).2 b h
    · exact (H.facts _ (List.mem_of_getElem? hOut)).2 b h
    · exact (H.facts _ (List.mem_of_getElem? hInto)).2 b h

structure qI where
  xB:Int
  qw:yLI
  qx:List Xg
  deriving DecidableEq
instance:Inhabited qI:=⟨⟨0,[],[]⟩⟩
instance:Tot qI:=⟨fun x=>tot x.qw+tot x.qx⟩
theorem tot_SystemD (x:qI):tot x=tot x.qw+tot x.qx:=rfl

instance:qO qI where
  size:=3
  rep:=fun w F cs x=>∃ (vParents vRules:Value) (Xw FRules:yLN),cs=[.int .i64 x.xB,vParents,vRules]∧F=Xw++FRules∧qO.rep w Xw [vParents] x.qw∧qO.rep w FRules [vRules] x.qx
  len:=by rintro w F cs x ⟨vParents,vRules,Xw,FRules,rfl,_,hParents,hRules⟩;rfl
  one:=by
    rintro w F cs x ⟨vParents,vRules,Xw,FRules,rfl,rfl,hParents,hRules⟩ u hu
    simp only [List.mem_cons,List.not_mem_nil,or_false] at hu
    rcases hu with rfl | rfl | rfl <;> first | rfl | exact one_of ql
  stay:=by
    rintro w w' F cs x ⟨vParents,vRules,Xw,FRules,rfl,rfl,hParents,hRules⟩ hs
    exact ⟨_,_,_,_,rfl,rfl,qO.stay hParents fun b hb=>hs b (by simp [hb]),qO.stay hRules fun b hb=>hs b (by simp [hb])⟩
  lt:=by
    rintro w F cs x ⟨vParents,vRules,Xw,FRules,rfl,rfl,hParents,hRules⟩ b hb
    simp only [List.mem_append] at hb
    rcases hb with (hb | hb)
    · exact qO.lt hParents b hb
    · exact qO.lt hRules b hb

def New_SystemD (w0 w:World) (v:Value) (x:qI):Prop:=
  ∃ (aParents:yOA) (cParents:Nat) (Xw:yLN) (aRules:yOA) (cRules:Nat) (FRules:yLN),v=.agg #[.int .i64 x.xB,Sv aParents x.qw.length cParents,Sv aRules x.qx.length cRules]∧qO.rep w Xw [Sv aParents x.qw.length cParents] x.qw∧qO.rep w FRules [Sv aRules x.qx.length cRules] x.qx∧(∀ b∈(Xw++FRules),w0.heap.size≤b)∧(Xw++FRules).Nodup∧vg w (Xw++FRules)
theorem St.add_SystemD {W0 w w' :World} {ps:List Prv} {Γ:List Fact} (H:St W0 w ps Γ) (e:Ext w w') {v:Value} {x:qI} (h:New_SystemD w w' v x):
    ∃ (aParents:yOA) (cParents:Nat) (Xw:yLN) (aRules:yOA) (cRules:Nat) (FRules:yLN),v=.agg #[.int .i64 x.xB,Sv aParents x.qw.length cParents,Sv aRules x.qx.length cRules]∧((∀ b∈(Xw++FRules),w.heap.size≤b)∧(Xw++FRules).Nodup)∧St W0 w' ps (isF true Xw (Sv aParents x.qw.length cParents) x.qw :: isF true FRules (Sv aRules x.qx.length cRules) x.qx :: Γ):=by
  obtain ⟨aParents,cParents,Xw,aRules,cRules,FRules,rfl,hParents,hRules,hF,hd,hfr⟩:=h
  refine ⟨_,_,_,_,_,_,rfl,⟨hF,hd⟩,?_⟩
  exact (((H.ext e).add (isF true FRules _ x.qx) ⟨hRules,fun _=>hfr.sub (by intro b hb;simp [hb])⟩ (fun b hb=>⟨qO.lt hRules b hb,fun i hi=>by have h1:=(yP H hi).2;have h2:=hF b (by have hb:b∈FRules:=hb;simp [hb]);omega⟩)).add (isF true Xw _ x.qw) ⟨hParents,fun _=>hfr.sub (by intro b hb;simp [hb])⟩ (fun b hb=>⟨qO.lt hParents b hb,fun i hi=>by have h1:=(yP H hi).2;have h2:=hF b (by have hb:b∈Xw:=hb;simp [hb]);omega⟩))

structure qH where
  qA:List Bool
  qE:yLL
  qy:yLI
  deriving DecidableEq
instance:Inhabited qH:=⟨⟨[],[],[]⟩⟩
instance:Tot qH:=⟨fun x=>tot x.qA+tot x.qE+tot x.qy⟩
theorem tot_StateD (x:qH):tot x=tot x.qA+tot x.qE+tot x.qy:=rfl

instance:qO qH where
  size:=3
  rep:=fun w F cs x=>∃ (vAlive vBags vAround:Value) (VT FBags Xv:yLN),cs=[vAlive,vBags,vAround]∧F=VT++FBags++Xv∧qO.rep w VT [vAlive] x.qA∧qO.rep w FBags [vBags] x.qE∧qO.rep w Xv [vAround] x.qy
  len:=by rintro w F cs x ⟨vAlive,vBags,vAround,VT,FBags,Xv,rfl,_,hAlive,hBags,Y1⟩;rfl
  one:=by
    rintro w F cs x ⟨vAlive,vBags,vAround,VT,FBags,Xv,rfl,rfl,hAlive,hBags,Y1⟩ u hu
    simp only [List.mem_cons,List.not_mem_nil,or_false] at hu
    rcases hu with rfl | rfl | rfl <;> first | rfl | exact one_of ql
  stay:=by
    rintro w w' F cs x ⟨vAlive,vBags,vAround,VT,FBags,Xv,rfl,rfl,hAlive,hBags,Y1⟩ hs
    exact ⟨_,_,_,_,_,_,rfl,rfl,qO.stay hAlive fun b hb=>hs b (by simp [hb]),qO.stay hBags fun b hb=>hs b (by simp [hb]),qO.stay Y1 fun b hb=>hs b (by simp [hb])⟩
  lt:=by
    rintro w F cs x ⟨vAlive,vBags,vAround,VT,FBags,Xv,rfl,rfl,hAlive,hBags,Y1⟩ b hb
    simp only [List.mem_append] at hb
    rcases hb with ((hb | hb) | hb)
    · exact qO.lt hAlive b hb
    · exact qO.lt hBags b hb
    · exact qO.lt Y1 b hb

theorem St.elem_StateD {W0 w:World} {ps:List Prv} {Γ:List Fact} (H:St W0 w ps Γ) (i:Nat) {fr:Bool} {F:yLN} {b o m c:Nat} {l:List qH} (hf:Γ[i]? =some (isF fr F (Sv (some ⟨b,o,none⟩) m c) l)) (iv:Int) (k:Nat) (hk:iv.toNat=k) (h0:0≤iv) (h1:iv < l.length):
    ∃ (aAlive:yOA) (cAlive:Nat) (VT:yLN) (aBags:yOA) (cBags:Nat) (FBags:yLN) (aAround:yOA) (cAround:Nat) (Xv:yLN),St W0 w ps (isF fr VT (Sv aAlive (l[k]!).qA.length cAlive) (l[k]!).qA :: isF fr FBags (Sv aBags (l[k]!).qE.length cBags) (l[k]!).qE :: isF fr Xv (Sv aAround (l[k]!).qy.length cAround) (l[k]!).qy :: atF b (o+iv.toNat * 3) [Sv aAlive (l[k]!).qA.length cAlive,Sv aBags (l[k]!).qE.length cBags,Sv aAround (l[k]!).qy.length cAround] :: Γ):=by
  obtain ⟨cs,Fk,hc,hr,hsub⟩:=H.elem i hf iv h0 h1
  have hfr:fr=true→vg w Fk:=fun e=>((H.get i hf).2 e).sub fun x hx=>hsub x (List.mem_cons_of_mem _ hx)
  rw [hk] at hr
  obtain ⟨vAlive,vBags,vAround,VT,FBags,Xv,rfl,hFF,hAlive,hBags,Y1⟩:=hr
  obtain ⟨aAlive,cAlive,rfl⟩:=slice_form hAlive
  obtain ⟨aBags,cBags,rfl⟩:=slice_form hBags
  obtain ⟨aAround,cAround,rfl⟩:=slice_form Y1
  exact ⟨_,_,_,_,_,_,_,_,_,((((H.jC i hf (atF b (o+iv.toNat * 3) [Sv aAlive (l[k]!).qA.length cAlive,Sv aBags (l[k]!).qE.length cBags,Sv aAround (l[k]!).qy.length cAround]) hc (fun x hx=>hsub x (by simp only [atF,List.mem_singleton] at hx;subst hx;exact List.mem_cons_self ..))).jC (i+1) hf (isF fr Xv _ (l[k]!).qy) ⟨Y1,fun e=>(hfr e).sub (by rw [hFF];intro x hx;simp [hx])⟩ (fun x hx=>hsub x (List.mem_cons_of_mem _ (hFF.symm▸(by have hx:x∈Xv:=hx;simp [hx]))))).jC (i+2) hf (isF fr FBags _ (l[k]!).qE) ⟨hBags,fun e=>(hfr e).sub (by rw [hFF];intro x hx;simp [hx])⟩ (fun x hx=>hsub x (List.mem_cons_of_mem _ (hFF.symm▸(by have hx:x∈FBags:=hx;simp [hx]))))).jC (i+3) hf (isF fr VT _ (l[k]!).qA) ⟨hAlive,fun e=>(hfr e).sub (by rw [hFF];intro x hx;simp [hx])⟩ (fun x hx=>hsub x (List.mem_cons_of_mem _ (hFF.symm▸(by have hx:x∈VT:=hx;simp [hx])))))⟩

def New_StateD (w0 w:World) (v:Value) (x:qH):Prop:=
  ∃ (aAlive:yOA) (cAlive:Nat) (VT:yLN) (aBags:yOA) (cBags:Nat) (FBags:yLN) (aAround:yOA) (cAround:Nat) (Xv:yLN),v=.agg #[Sv aAlive x.qA.length cAlive,Sv aBags x.qE.length cBags,Sv aAround x.qy.length cAround]∧qO.rep w VT [Sv aAlive x.qA.length cAlive] x.qA∧qO.rep w FBags [Sv aBags x.qE.length cBags] x.qE∧qO.rep w Xv [Sv aAround x.qy.length cAround] x.qy∧(∀ b∈(VT++FBags++Xv),w0.heap.size≤b)∧(VT++FBags++Xv).Nodup∧vg w (VT++FBags++Xv)
theorem St.add_StateD {W0 w w' :World} {ps:List Prv} {Γ:List Fact} (H:St W0 w ps Γ) (e:Ext w w') {v:Value} {x:qH} (h:New_StateD w w' v x):
    ∃ (aAlive:yOA) (cAlive:Nat) (VT:yLN) (aBags:yOA) (cBags:Nat) (FBags:yLN) (aAround:yOA) (cAround:Nat) (Xv:yLN),v=.agg #[Sv aAlive x.qA.length cAlive,Sv aBags x.qE.length cBags,Sv aAround x.qy.length cAround]∧((∀ b∈(VT++FBags++Xv),w.heap.size≤b)∧(VT++FBags++Xv).Nodup)∧St W0 w' ps (isF true VT (Sv aAlive x.qA.length cAlive) x.qA :: isF true FBags (Sv aBags x.qE.length cBags) x.qE :: isF true Xv (Sv aAround x.qy.length cAround) x.qy :: Γ):=by
  obtain ⟨aAlive,cAlive,VT,aBags,cBags,FBags,aAround,cAround,Xv,rfl,hAlive,hBags,Y1,hF,hd,hfr⟩:=h
  refine ⟨_,_,_,_,_,_,_,_,_,rfl,⟨hF,hd⟩,?_⟩
  exact ((((H.ext e).add (isF true Xv _ x.qy) ⟨Y1,fun _=>hfr.sub (by intro b hb;simp [hb])⟩ (fun b hb=>⟨qO.lt Y1 b hb,fun i hi=>by have h1:=(yP H hi).2;have h2:=hF b (by have hb:b∈Xv:=hb;simp [hb]);omega⟩)).add (isF true FBags _ x.qE) ⟨hBags,fun _=>hfr.sub (by intro b hb;simp [hb])⟩ (fun b hb=>⟨qO.lt hBags b hb,fun i hi=>by have h1:=(yP H hi).2;have h2:=hF b (by have hb:b∈FBags:=hb;simp [hb]);omega⟩)).add (isF true VT _ x.qA) ⟨hAlive,fun _=>hfr.sub (by intro b hb;simp [hb])⟩ (fun b hb=>⟨qO.lt hAlive b hb,fun i hi=>by have h1:=(yP H hi).2;have h2:=hF b (by have hb:b∈VT:=hb;simp [hb]);omega⟩))

theorem St.Vf {W0 w:World} {ps:List Prv} {Γ:List Fact} (H:St W0 w ps Γ) (i:Nat) {fr:Bool} {F:yLN} {xs:List Value} {l:List qH} (hf:Γ[i]? =some (zf fr F xs l)) (iAlive:Nat) {GAlive:yLN} {vAlive:Value} {xAlive:List Bool} (hAlive:Γ[iAlive]? =some (isF fr GAlive vAlive xAlive)) (iBags:Nat) {GBags:yLN} {vBags:Value} {xBags:yLL} (hBags:Γ[iBags]? =some (isF fr GBags vBags xBags)) (iAround:Nat) {GAround:yLN} {vAround:Value} {xAround:yLI} (Y1:Γ[iAround]? =some (isF fr GAround vAround xAround)):
    St W0 w ps (zf fr (F++(GAlive++GBags++GAround)) (xs++[vAlive,vBags,vAround]) (l++[⟨xAlive,xBags,xAround⟩]) :: Γ):=by
  have hr:qO.rep w (GAlive++GBags++GAround) [vAlive,vBags,vAround] (⟨xAlive,xBags,xAround⟩:qH):=⟨vAlive,vBags,vAround,GAlive,GBags,GAround,rfl,rfl,(H.get iAlive hAlive).1,(H.get iBags hBags).1,(H.get iAround Y1).1⟩
  refine H.add _ ⟨QM (H.get i hf).1 (reps_one hr),fun e=>((H.get i hf).2 e).app (((((H.get iAlive hAlive).2 e).app ((H.get iBags hBags).2 e)).app ((H.get iAround Y1).2 e)))⟩ fun b hb=>?_
  rcases List.mem_append.1 hb with h | h
  · exact (H.facts _ (List.mem_of_getElem? hf)).2 b h
  · simp only [List.mem_append] at h
    rcases h with ((h | h) | h)
    · exact (H.facts _ (List.mem_of_getElem? hAlive)).2 b h
    · exact (H.facts _ (List.mem_of_getElem? hBags)).2 b h
    · exact (H.facts _ (List.mem_of_getElem? Y1)).2 b h

structure inCellD where
  frules:yLI
  fpackings:yLL
  deriving DecidableEq
instance:Inhabited inCellD:=⟨⟨[],[]⟩⟩
instance:Tot inCellD:=⟨fun x=>tot x.frules+tot x.fpackings⟩
instance:qO inCellD where
  size:=2
  rep:=fun w F cs x=>∃ (vrules vpackings:Value) (Frules Fpackings:yLN),cs=[vrules,vpackings]∧F=Frules++Fpackings∧qO.rep w Frules [vrules] x.frules∧qO.rep w Fpackings [vpackings] x.fpackings
  len:=by rintro w F cs x ⟨vrules,vpackings,Frules,Fpackings,rfl,_,hrules,hpackings⟩;rfl
  one:=by
    rintro w F cs x ⟨vrules,vpackings,Frules,Fpackings,rfl,rfl,hrules,hpackings⟩ u hu
    simp only [List.mem_cons,List.not_mem_nil,or_false] at hu
    rcases hu with rfl | rfl <;> first | rfl | exact one_of ql
  stay:=by
    rintro w w' F cs x ⟨vrules,vpackings,Frules,Fpackings,rfl,rfl,hrules,hpackings⟩ hs
    exact ⟨_,_,_,_,rfl,rfl,qO.stay hrules fun b hb=>hs b (by simp [hb]),qO.stay hpackings fun b hb=>hs b (by simp [hb])⟩
  lt:=by
    rintro w F cs x ⟨vrules,vpackings,Frules,Fpackings,rfl,rfl,hrules,hpackings⟩ b hb
    simp only [List.mem_append] at hb
    rcases hb with (hb | hb)
    · exact qO.lt hrules b hb
    · exact qO.lt hpackings b hb

theorem St.elem_inCellD {W0 w:World} {ps:List Prv} {Γ:List Fact} (H:St W0 w ps Γ) (i:Nat) {fr:Bool} {F:yLN} {b o m c:Nat} {l:List inCellD} (hf:Γ[i]? =some (isF fr F (Sv (some ⟨b,o,none⟩) m c) l)) (iv:Int) (k:Nat) (hk:iv.toNat=k) (h0:0≤iv) (h1:iv < l.length):
    ∃ (arules:yOA) (crules:Nat) (Frules:yLN) (apackings:yOA) (cpackings:Nat) (Fpackings:yLN),St W0 w ps (isF fr Frules (Sv arules (l[k]!).frules.length crules) (l[k]!).frules :: isF fr Fpackings (Sv apackings (l[k]!).fpackings.length cpackings) (l[k]!).fpackings :: atF b (o+iv.toNat * 2) [Sv arules (l[k]!).frules.length crules,Sv apackings (l[k]!).fpackings.length cpackings] :: Γ):=by
  obtain ⟨cs,Fk,hc,hr,hsub⟩:=H.elem i hf iv h0 h1
  have hfr:fr=true→vg w Fk:=fun e=>((H.get i hf).2 e).sub fun x hx=>hsub x (List.mem_cons_of_mem _ hx)
  rw [hk] at hr
  obtain ⟨vrules,vpackings,Frules,Fpackings,rfl,hFF,hrules,hpackings⟩:=hr
  obtain ⟨arules,crules,rfl⟩:=slice_form hrules
  obtain ⟨apackings,cpackings,rfl⟩:=slice_form hpackings
  exact ⟨_,_,_,_,_,_,(((H.jC i hf (atF b (o+iv.toNat * 2) [Sv arules (l[k]!).frules.length crules,Sv apackings (l[k]!).fpackings.length cpackings]) hc (fun x hx=>hsub x (by simp only [atF,List.mem_singleton] at hx;subst hx;exact List.mem_cons_self ..))).jC (i+1) hf (isF fr Fpackings _ (l[k]!).fpackings) ⟨hpackings,fun e=>(hfr e).sub (by rw [hFF];intro x hx;simp [hx])⟩ (fun x hx=>hsub x (List.mem_cons_of_mem _ (hFF.symm▸(by have hx:x∈Fpackings:=hx;simp [hx]))))).jC (i+2) hf (isF fr Frules _ (l[k]!).frules) ⟨hrules,fun e=>(hfr e).sub (by rw [hFF];intro x hx;simp [hx])⟩ (fun x hx=>hsub x (List.mem_cons_of_mem _ (hFF.symm▸(by have hx:x∈Frules:=hx;simp [hx])))))⟩

theorem St.snoc_inCellD {W0 w:World} {ps:List Prv} {Γ:List Fact} (H:St W0 w ps Γ) (i:Nat) {fr:Bool} {F:yLN} {xs:List Value} {l:List inCellD} (hf:Γ[i]? =some (zf fr F xs l)) (irules:Nat) {Grules:yLN} {vrules:Value} {xrules:yLI} (hrules:Γ[irules]? =some (isF fr Grules vrules xrules)) (ipackings:Nat) {Gpackings:yLN} {vpackings:Value} {xpackings:yLL} (hpackings:Γ[ipackings]? =some (isF fr Gpackings vpackings xpackings)):
    St W0 w ps (zf fr (F++(Grules++Gpackings)) (xs++[vrules,vpackings]) (l++[⟨xrules,xpackings⟩]) :: Γ):=by
  have hr:qO.rep w (Grules++Gpackings) [vrules,vpackings] (⟨xrules,xpackings⟩:inCellD):=⟨vrules,vpackings,Grules,Gpackings,rfl,rfl,(H.get irules hrules).1,(H.get ipackings hpackings).1⟩
  refine H.add _ ⟨QM (H.get i hf).1 (reps_one hr),fun e=>((H.get i hf).2 e).app ((((H.get irules hrules).2 e).app ((H.get ipackings hpackings).2 e)))⟩ fun b hb=>?_
  rcases List.mem_append.1 hb with h | h
  · exact (H.facts _ (List.mem_of_getElem? hf)).2 b h
  · simp only [List.mem_append] at h
    rcases h with (h | h)
    · exact (H.facts _ (List.mem_of_getElem? hrules)).2 b h
    · exact (H.facts _ (List.mem_of_getElem? hpackings)).2 b h


abbrev yS (s:qI) (a:Option Addr) (c:Nat) (a' :Option Addr) (c' :Nat):List Value:=[.int .i64 s.xB,Sv a s.qw.length c,Sv a' s.qx.length c']
abbrev yT (t:qH) (a:Option Addr) (c:Nat) (a' :Option Addr) (c' :Nat) (b:Option Addr) (d:Nat):List Value:=[Sv a t.qA.length c,Sv a' t.qE.length c',Sv b t.qy.length d]
end
section

def FrameTo (s:qI) (k:Nat):Prop:=∀ c,1≤c→c < k→0≤s.qw[c]! ∧s.qw[c]! ≤(c:Int) - 1
theorem FrameTo.one (s:qI):FrameTo s 1:=fun c h1 h2=>by omega
theorem FrameTo.succ {s:qI} {k:Nat} (h:FrameTo s k) (h1:0≤s.qw[k]! ∧s.qw[k]! ≤(k:Int) - 1):FrameTo s (k+1):=fun c hc hk=>by
  by_cases e:c=k
  · subst e;exact h1
  · exact h c hc qf
def Qx (s:qI):Prop:=(1≤s.xB∧s.xB≤8)∧(1≤s.qw.length∧s.qw.length≤6)∧s.qw[0]! = -1∧FrameTo s s.qw.length
theorem Qx.up {s:qI} (h:Qx s) {c:Int} (h0:0 < c) (h1:c≤(s.qw.length:Int) - 1):0≤s.qw[c.toNat]! ∧s.qw[c.toNat]! < c:=by
  have:=h.2.2.2 c.toNat qf qf
  omega
inductive Lies (p:yLI) (o:Int):Int→Prop where
  | here {c:Int}:0 < c→p[c.toNat]! =o→Lies p o c
  | up {c:Int}:0 < c→Lies p o (p[c.toNat]!)→Lies p o c
theorem lies_iff {p:yLI} {o c:Int}:Lies p o c↔0 < c∧(p[c.toNat]! =o∨Lies p o (p[c.toNat]!)):=by
  constructor
  · rintro (⟨h,e⟩ | ⟨h,e⟩)
    · exact ⟨h,.inl e⟩
    · exact ⟨h,.inr e⟩
  · rintro ⟨h,e | e⟩
    · exact .here h e
    · exact .up h e

abbrev CellIn (s:qI) (c:Int):Prop:=0≤c∧c≤(s.qw.length:Int) - 1
def IntoOk (s:qI) (r:Xg) (j:Nat):Prop:=
  CellIn s (r.qU[j]!).qG∧Lies s.qw r.qG (r.qU[j]!).qG∧vI s.xB (r.qU[j]!).jJ∧Yd (r.qU[j]!).jJ≠0∧(0 < j→(r.qU[j - 1]!).qG < (r.qU[j]!).qG)
def IntosTo (s:qI) (r:Xg) (k:Nat):Prop:=∀ j,j < k→IntoOk s r j
theorem IntosTo.succ {s:qI} {r:Xg} {k:Nat} (h:IntosTo s r k) (h1:IntoOk s r k):IntosTo s r (k+1):=fun j hj=>by
  by_cases e:j=k
  · subst e;exact h1
  · exact h j qf
def RuleOk (s:qI) (r:Xg):Prop:=
  CellIn s r.qG∧(0≤r.zS∧r.zS≤9)∧¬ (r.zH=true∧r.qG=0)∧r.qU.length≤3∧
    vI s.xB r.xn∧vI s.xB r.xF∧vI s.xB r.xI∧vI s.xB r.xK∧vI s.xB r.ve∧Yd r.xn≠0∧IntosTo s r r.qU.length
def Yl (rs:List Xg) (c:Int):Nat→Int
  | 0=>0
  | k+1=>Yl rs c k+if (rs[k]!).qG=c then 1 else 0
def RulesTo (s:qI) (k:Nat):Prop:=∀ j,j < k→RuleOk s (s.qx[j]!)∧Yl s.qx (s.qx[j]!).qG (j+1)≤8
theorem RulesTo.succ {s:qI} {k:Nat} (h:RulesTo s k) (h1:RuleOk s (s.qx[k]!)) (h2:Yl s.qx (s.qx[k]!).qG (k+1)≤8):RulesTo s (k+1):=fun j hj=>by
  by_cases e:j=k
  · subst e;exact ⟨h1,h2⟩
  · exact h j qf
def jE (s:qI):Prop:=Qx s∧s.qx.length≤16∧RulesTo s s.qx.length
def BagsTo (s:qI) (t:qH) (k:Nat):Prop:=∀ c,c < k→vI s.xB (t.qE[c]!)∧(t.qA[c]! =false→Yd (t.qE[c]!)≤0)
theorem BagsTo.succ {s:qI} {t:qH} {k:Nat} (h:BagsTo s t k) (h1:vI s.xB (t.qE[k]!)) (h2:t.qA[k]! =false→Yd (t.qE[k]!)≤0):BagsTo s t (k+1):=fun j hj=>by
  by_cases e:j=k
  · subst e;exact ⟨h1,h2⟩
  · exact h j qf
def zu (s:qI) (t:qH):Prop:=
  t.qA.length=s.qw.length∧t.qE.length=s.qw.length∧t.qA[0]! =true∧vI s.xB t.qy∧BagsTo s t t.qE.length
theorem Qx.step {s:qI} (h:Qx s) {c:Int} (h0:0≤c) (h1:c≤(s.qw.length:Int) - 1): -1≤s.qw[c.toNat]! ∧s.qw[c.toNat]! < c:=by
  rcases Int.lt_or_eq_of_le h0 with h2 | h2
  · have:=h.up h2 h1;omega
  · subst h2
    have:=h.2.2.1
    simp only [Int.toNat_zero]
    omega
def climb (p:yLI) (alive:List Bool):Nat→Int→Int
  | 0,c=>c
  | n+1,c=>if 0≤c∧alive[c.toNat]! =false then climb p alive n (p[c.toNat]!) else c
theorem climb_go {p:yLI} {alive:List Bool} {n:Nat} {c:Int} (hn:c < n) (h0:0≤c) (h:alive[c.toNat]! =false):climb p alive n c=climb p alive (n - 1) (p[c.toNat]!):=by
  obtain ⟨m,rfl⟩:∃ m,n=m+1:=⟨n - 1,by omega⟩
  rw [climb,if_pos ⟨h0,h⟩];rfl
theorem climb_end {p:yLI} {alive:List Bool} {n:Nat} {c:Int} (h:¬ (0≤c∧alive[c.toNat]! =false)):climb p alive n c=c:=by
  cases n with
  | zero=>rfl
  | succ m=>rw [climb,if_neg h]
def xA (s:qI) (t:qH) (c:Int):Int:=climb s.qw t.qA s.qw.length (s.qw[c.toNat]!)
theorem ofCell_bd (rs:List Xg) (c:Int):∀ k,0≤Yl rs c k∧Yl rs c k≤k
  | 0=>by simp [Yl]
  | k+1=>by
    have:=ofCell_bd rs c k
    simp only [Yl]
    split <;> omega
def counts (s:qI) (k:Nat):yLI:=(List.range s.qw.length).map fun c:Nat=>Yl s.qx (c:Int) k
theorem counts_len (s:qI) (k:Nat):(counts s k).length=s.qw.length:=by simp [counts]
theorem counts_zero (s:qI):List.replicate s.qw.length (0:Int)=counts s 0:=by
  apply List.ext_getElem
  · simp [counts]
  · intro i h1 h2;simp [counts,Yl]
theorem Y9 {s:qI} {k:Nat} {c:Int} (h:CellIn s c):(counts s k)[c.toNat]! =Yl s.qx c k:=by
  rw [getElem!_pos _ _ (by rw [counts_len];omega)]
  simp only [counts,List.getElem_map,List.getElem_range]
  rw [show ((c.toNat:Nat):Int)=c by omega]
theorem counts_succ {s:qI} {k:Nat} (h:CellIn s (s.qx[k]!).qG):
    (counts s k).set (s.qx[k]!).qG.toNat ((counts s k)[(s.qx[k]!).qG.toNat]! +1)=counts s (k+1):=by
  rw [Y9 h]
  apply List.ext_getElem
  · simp [counts]
  · intro i h1 h2
    rw [List.getElem_set]
    simp only [counts,List.getElem_map,List.getElem_range,Yl]
    by_cases e:(s.qx[k]!).qG.toNat=i
    · subst e
      rw [if_pos rfl,if_pos qf,show (((s.qx[k]!).qG.toNat:Nat):Int)=(s.qx[k]!).qG by omega]
    · rw [if_neg e,if_neg qf];omega
theorem climb_in {s:qI} {t:qH} (hs:Qx s) (h0:t.qA[0]! =true):∀ (n:Nat) (c:Int),0≤c→c < n→c≤(s.qw.length:Int) - 1→
    0≤climb s.qw t.qA n c∧climb s.qw t.qA n c≤c∧t.qA[(climb s.qw t.qA n c).toNat]! =true
  | 0,c,h1,h2,h3=>by omega
  | n+1,c,h1,h2,h3=>by
    rw [climb]
    by_cases ha:0≤c∧t.qA[c.toNat]! =false
    · rw [if_pos ha]
      have hc:0 < c:=by
        rcases Int.lt_or_eq_of_le h1 with h | h
        · exact h
        · rw [← h] at ha;simp [h0] at ha
      have hu:=hs.up hc h3
      have:=climb_in hs h0 n (s.qw[c.toNat]!) hu.1 qf qf
      exact ⟨this.1,by omega,this.2.2⟩
    · rw [if_neg ha]
      refine ⟨h1,Int.le_refl _,?_⟩
      cases hx:t.qA[c.toNat]! with
      | true=>rfl
      | false=>exact absurd ⟨h1,hx⟩ ha
theorem Y6 {s:qI} {t:qH} (hs:Qx s) (h0:t.qA[0]! =true) {c:Int} (h1:0 < c) (h2:c≤(s.qw.length:Int) - 1):0≤xA s t c∧xA s t c < c∧t.qA[(xA s t c).toNat]! =true:=by
  have hu:=hs.up h1 h2
  have:=climb_in hs h0 s.qw.length (s.qw[c.toNat]!) hu.1 qf qf
  exact ⟨this.1,by have:=this.2.1;unfold xA;omega,this.2.2⟩

def melted (s:qI) (t:qH) (c:Int):qH:=
  ⟨t.qA.set c.toNat false,(t.qE.set (xA s t c).toNat (ji (t.qE[(xA s t c).toNat]!) (t.qE[c.toNat]!) 1)).set c.toNat (List.replicate s.xB.toNat 0),t.qy⟩
open Classical in
noncomputable def told (s:qI) (t:qH):qH×Int:=if zu s t then (t,0) else (default,3)
theorem told_yes {s:qI} {t:qH} (h:zu s t):told s t=(t,0):=by rw [told,if_pos h]
theorem told_no {s:qI} {t:qH} (h:¬ zu s t):told s t=(default,3):=by rw [told,if_neg h]
theorem zu.bagLen {s:qI} {t:qH} (h:zu s t) {k:Nat} (hk:k < t.qE.length):vI s.xB (t.qE[k]!):=(h.2.2.2.2 k hk).1
theorem bagOk_smallT {n:Int} {l:yLI} (h:vI n l) {t:Int} (ht: -1000000≤t∧t≤1000000):SmallT l t:=fun k hk=>by
  have:=h.1.1 k hk
  constructor
  · have h1: -(1000000 * 1000)≤t * l[k]! :=by
      rcases Int.le_total 0 t with h0 | h0
      · have:=Int.mul_nonneg h0 this.1;omega
      · have h2:=Int.mul_le_mul_of_nonneg_left this.2 (show 0≤ -t by omega)
        have h3: -t * l[k]! = -(t * l[k]!):=Int.neg_mul ..
        have h4: -t * 1000≤1000000 * 1000:=by omega
        omega
    omega
  · have h1:t * l[k]! ≤1000000 * 1000:=by
      rcases Int.le_total 0 t with h0 | h0
      · have h2:=Int.mul_le_mul_of_nonneg_left this.2 h0
        omega
      · have h2:=Int.mul_nonneg (show 0≤ -t by omega) this.1
        have h3: -t * l[k]! = -(t * l[k]!):=Int.neg_mul ..
        omega
    omega
theorem zu.sizes {s:qI} {t:qH} (hs:Qx s) (h:zu s t):t.qA.length≤6∧t.qy.length≤8∧t.qE.length≤6∧∀ k,k < t.qE.length→(t.qE[k]!).length≤8:=
  ⟨by have:=h.1;have:=hs.2.1;omega,h.2.2.2.1.1.2.2,by have:=h.2.1;have:=hs.2.1;omega,fun k hk=>(h.bagLen hk).1.2.2⟩
theorem zu.add {s:qI} {t:qH} (h:zu s t) {j k:Nat} (hj:j < t.qE.length) (hk:k < t.qE.length):(t.qE[j]!).length≤(t.qE[k]!).length∧Mid (t.qE[j]!)∧SmallT (t.qE[k]!) 1:=by
  have h1:=h.bagLen hj
  have h2:=h.bagLen hk
  exact ⟨by have:=h1.2;have:=h2.2;omega,(vX h1).mid,bagOk_smallT h2 qf⟩
theorem drop_get {l:yLI} {k:Nat} (h:k+1 < l.length):(l.drop 1)[k]! =l[k+1]! :=by
  rw [getElem!_pos (l.drop 1) k (by rw [List.length_drop];omega),getElem!_pos l (k+1) h]
  simp [Nat.add_comm]
theorem lies_up {s:qI} (hs:Qx s) {c o:Int} (hc:CellIn s c):Lies s.qw o c↔0≤s.qw[c.toNat]! ∧(s.qw[c.toNat]! =o∨Lies s.qw o (s.qw[c.toNat]!)):=by
  rw [lies_iff]
  rcases Int.lt_or_eq_of_le hc.1 with h | h
  · have:=hs.up h hc.2
    constructor
    · rintro ⟨_,h1⟩;exact ⟨this.1,h1⟩
    · rintro ⟨_,h1⟩;exact ⟨h,h1⟩
  · subst h
    have:=hs.2.2.1
    simp only [Int.toNat_zero] at *
    constructor
    · rintro ⟨h1,_⟩;omega
    · rintro ⟨h1,_⟩;omega
def counts6 (s:qI) (k:Nat):yLI:=(List.range 6).map fun c:Nat=>Yl s.qx (c:Int) k
theorem counts6_len (s:qI) (k:Nat):(counts6 s k).length=6:=by simp [counts6]
theorem counts6_zero (s:qI):([0,0,0,0,0,0]:yLI)=counts6 s 0:=by simp [counts6,List.range_succ,Yl]
theorem Y2 {s:qI} {k:Nat} {c:Int} (h:0≤c) (h1:c≤5):(counts6 s k)[c.toNat]! =Yl s.qx c k:=by
  rw [getElem!_pos _ _ (by rw [counts6_len];omega)]
  simp only [counts6,List.getElem_map,List.getElem_range]
  rw [show ((c.toNat:Nat):Int)=c by omega]
theorem counts6_succ {s:qI} {k:Nat} (h:0≤(s.qx[k]!).qG) (h1:(s.qx[k]!).qG≤5):
    (counts6 s k).set (s.qx[k]!).qG.toNat ((counts6 s k)[(s.qx[k]!).qG.toNat]! +1)=counts6 s (k+1):=by
  rw [Y2 h h1]
  apply List.ext_getElem
  · simp [counts6]
  · intro i h1 h2
    rw [List.getElem_set]
    simp only [counts6,List.getElem_map,List.getElem_range,Yl]
    by_cases e:(s.qx[k]!).qG.toNat=i
    · subst e
      rw [if_pos rfl,if_pos qf,show (((s.qx[k]!).qG.toNat:Nat):Int)=(s.qx[k]!).qG by omega]
    · rw [if_neg e,if_neg qf];omega
theorem sum_nonneg {l:yLI} (h:Yg l):0≤Yd l:=by
  have:∀ k,k≤l.length→0≤sumTo l k:=fun k=>by
    induction k with
    | zero=>intro _;exact Int.le_refl _
    | succ k ih=>intro hk;have:=ih qf;have:=h.1 k qf;simp only [sumTo];omega
  exact this _ (Nat.le_refl _)
end
section
open Go.Proofs.Tryz
open Go.RowKit
set_option linter.unusedVariables false
set_option linter.unusedSimpArgs false
set_option maxRecDepth 100000
set_option maxHeartbeats 4000000
variable {cl cm cx cxBag Yn Yr Yo Yq cxOut Yp jo QC Qo Xq jR cy : Nat}
theorem VX (w:World) (n:Int) (lo:Int) (hi:Int):Calls Tryz.prog 78 #[yI n,yI lo,yI hi] w (Ret (fun v w' =>v=Bv (inR n lo hi)) w):=by
 refine en func78 ntmps78 ?_
 have H:=St.start w
 refine zcr (sp (Bv false) (zjc (sps [yI n,yI lo,Bv (decide ((n:Int)≥lo)),Bv (decide ((n:Int)≥lo))] ?_)))
 cases h1:(decide ((n:Int)≥lo))
 ·skip
  replace h1:=of_decide_eq_false h1
  refine zk [11,12,13] (sps [Bv false,Bv false] (zjr (ret1 (Bv false) rfl rfl ⟨_,rfl,?_,H.base⟩)))
  rw [inR_no ‹_›]
 replace h1:=of_decide_eq_true h1
 refine qQ 10 rfl rfl (sp (yI n) (qQ 10 rfl rfl (sp (yI hi) (qQ 10 rfl rfl (sps [Bv (decide ((n:Int)≤hi)),Bv (decide ((n:Int)≤hi)),Bv (decide ((n:Int)≤hi))] (zjr (ret1 (Bv (decide ((n:Int)≤hi))) rfl rfl ⟨_,rfl,?_,H.base⟩)))))))
 rw [inR_yes ‹_›]

theorem l00In_ok (w:World) (n:Int) (lo:Int) (hi:Int):Calls Tryz.prog 75 #[yI n,yI lo,yI hi] w (Ret (fun v w' =>v=Bv (inR n lo hi)) w):=by
 refine en func75 ntmps75 ?_
 have H:=St.start w
 refine zcr (sp (Bv false) (zjc (sps [yI n,yI lo,Bv (decide ((n:Int)≥lo)),Bv (decide ((n:Int)≥lo))] ?_)))
 cases h1:(decide ((n:Int)≥lo))
 ·skip
  replace h1:=of_decide_eq_false h1
  refine zk [11,12,13] (sps [Bv false,Bv false] (zjr (ret1 (Bv false) rfl rfl ⟨_,rfl,?_,H.base⟩)))
  rw [inR_no ‹_›]
 replace h1:=of_decide_eq_true h1
 refine qQ 10 rfl rfl (sp (yI n) (qQ 10 rfl rfl (sp (yI hi) (qQ 10 rfl rfl (sps [Bv (decide ((n:Int)≤hi)),Bv (decide ((n:Int)≤hi)),Bv (decide ((n:Int)≤hi))] (zjr (ret1 (Bv (decide ((n:Int)≤hi))) rfl rfl ⟨_,rfl,?_,H.base⟩)))))))
 rw [inR_yes ‹_›]

theorem isWithin_ok (w:World) (l:yLI) (m:yLI) {al:yOA} {Fl:yLN} {am:yOA} {Fm:yLN} (hl:qO.rep w Fl [Sv al l.length cl] l) (hm:qO.rep w Fm [Sv am m.length cm] m) (p0:l.length≤m.length) (p1:l.length≤1000000):Calls Tryz.prog 185 #[Sv al l.length cl,Sv am m.length cm] w (Ret (fun v w' =>v=Bv (within l m)) w):=by
 refine en func185 ntmps185 ?_
 have H:=((St.start w).arg hm).arg hl
 have nhl:=qM hl
 have nhm:=qM hm
 clear hl hm
 refine zcr (sp (Bv false) (zjcc (sp (Sv al l.length cl) (oN rfl (sp (yI 0) (zjn (qX ?_)))))))
 refine zD (fun m' ρ w1=>∃ (xY:Env) (k:Nat),ρ=upd (upd (upd (upd xY 1 (Sv am m.length cm)) 7 (Sv al l.length cl)) 8 (yI l.length)) 9 (yI k)∧(k≤l.length)∧(withinTo l m k)∧m' =l.length - k∧St w w1 [] [sF false Fl al cl l,sF false Fm am cm m]) (l.length - 0) ⟨_,0,uE4,qf,(by exact withinTo_zero l m),rfl,H⟩ ?_
 clear H
 rintro m' ρ w2 ⟨xY,k,rfl,i0,i1,rfl,H⟩
 refine zcr (sp (Bv (decide ((k:Int) < l.length))) (zjn (xQ (cD rfl (fun h3=>?_) (fun h3=>?_)))))
 ·skip
  refine qW (t_n (xQ (qX (zcr (sp (yI k) ?_)))))
  obtain ⟨b4,o5,rfl⟩:=H.addr 0 rfl qf
  refine oI rfl rfl (oL rfl (H.jY 0 rfl k qf qf) (sps [yI k,yI (l[k]!)] (zjc (sps [yI (l[k]!),Sv am m.length cm,yI k] ?_))))
  obtain ⟨b6,o7,rfl⟩:=H.addr 1 rfl qf
  refine oI rfl rfl (oL rfl (H.jY 1 rfl k qf qf) (sp (Bv (decide ((l[k]! :Int) > (m[k]!)))) (zjn (cD rfl (fun h8=>?_) (fun h8=>?_)))))
  ·skip
   refine zcr (sp (Bv false) (zjr (zr5 (ret1 (Bv false) rfl rfl ⟨_,rfl,?_,H.base⟩))))
   rw [within_no (k:=k) ‹_› qf]
  refine qW (b_n (t_n (xO (sw (zB k 1 rfl rfl qf (sp (yI (k+1)) (xM (qY (m' :=l.length - (k+1)) qf ⟨_,k+1,uE4,?_,?_,rfl,H⟩))))))))
  · omega
  · exact withinTo_succ ‹_› qf
 refine zx4 (zcr (sp (Bv true) (zjr (ret1 (Bv true) rfl rfl ⟨_,rfl,?_,H.base⟩))))
 rw [within_yes ‹_› qf]

theorem V6 (w:World) (l:yLI) {al:yOA} {Fl:yLN} (hl:qO.rep w Fl [Sv al l.length cl] l) (p0:Small l):Calls Tryz.prog 106 #[Sv al l.length cl] w (Ret (fun v w' =>v=yI (Yd l)) w):=by
 refine en func106 ntmps106 ?_
 have H:=(St.start w).arg hl
 have nhl:=qM hl
 clear hl
 have p1:=p0.1
 refine zcr (sp (yI 0) (zjc (sp (yI 0) (zjcc (sp (Sv al l.length cl) (oN rfl (sp (yI 0) (zjn (qX ?_)))))))))
 refine zD (fun m' ρ w1=>∃ (xY:Env) (k:Nat),ρ=upd (upd (upd (upd (upd xY 2 (yI 0)) 3 (yI (sumTo l k))) 6 (Sv al l.length cl)) 7 (yI l.length)) 8 (yI k)∧(k≤l.length)∧m' =l.length - k∧St w w1 [] [sF false Fl al cl l]) (l.length - 0) ⟨_,0,uE5,qf,rfl,H⟩ ?_
 clear H
 rintro m' ρ w2 ⟨xY,k,rfl,i0,rfl,H⟩
 have hs:=sumTo_small p0 i0
 have hv:=p0.2 k
 refine zcr (sp (Bv (decide ((k:Int) < l.length))) (zjn (xQ (cD rfl (fun h3=>?_) (fun h3=>?_)))))
 ·skip
  refine qW (t_n (xQ (qX (zcr ?_))))
  obtain ⟨b4,o5,rfl⟩:=H.addr 0 rfl qf
  refine oI rfl rfl (oL rfl (H.jY 0 rfl k qf qf) (sp (yI (l[k]!)) (zjn (xO (sps [yI (sumTo l k),yI (l[k]!)] (sw (zB (sumTo l k) (l[k]!) rfl rfl (by (have:=hv qf;omega)) (sp (yI ((sumTo l k)+(l[k]!))) (xM (b_n (t_n (xO (sw (zB k 1 rfl rfl (by (have:=hv qf;omega)) (sp (yI (k+1)) (xM (qY (m' :=l.length - (k+1)) qf ⟨_,k+1,uE5,?_,rfl,H⟩)))))))))))))))))
  · omega
 refine zx4 (zcr (sps [yI (sumTo l k),yI (sumTo l k)] (zjr (ret1 (yI (sumTo l k)) rfl rfl ⟨_,rfl,?_,H.base⟩))))
 obtain rfl:k=l.length:=by omega
 rfl

theorem Y7 (w:World) (l:yLI) {al:yOA} {Fl:yLN} (hl:qO.rep w Fl [Sv al l.length cl] l) (p0:Small l):Calls Tryz.prog 123 #[Sv al l.length cl] w (Ret (fun v w' =>v=yI (Yd l)) w):=by
 refine en func123 ntmps123 ?_
 have H:=(St.start w).arg hl
 have nhl:=qM hl
 clear hl
 have p1:=p0.1
 refine zcr (sp (yI 0) (zjc (sp (yI 0) (zjcc (sp (yI 0) (zjn (qX ?_)))))))
 refine zD (fun m' ρ w1=>∃ (xY:Env) (k:Nat),ρ=upd (upd (upd (upd xY 0 (Sv al l.length cl)) 2 (yI 0)) 3 (yI (sumTo l k))) 4 (yI k)∧(k≤l.length)∧m' =l.length - k∧St w w1 [] [sF false Fl al cl l]) (l.length - 0) ⟨_,0,uE4,qf,rfl,H⟩ ?_
 clear H
 rintro m' ρ w2 ⟨xY,k,rfl,i0,rfl,H⟩
 have hs:=sumTo_small p0 i0
 have hv:=p0.2 k
 refine zcc (sps [yI k,Sv al l.length cl] (oN rfl (sp (Bv (decide ((k:Int) < l.length))) (zjn (cD rfl (fun h3=>?_) (fun h3=>?_))))))
 ·skip
  refine qW (t_n (xQ (qX (xO (sps [yI (sumTo l k),Sv al l.length cl,yI k] ?_)))))
  obtain ⟨b4,o5,rfl⟩:=H.addr 0 rfl qf
  refine oI rfl rfl (oL rfl (H.jY 0 rfl k qf qf) (sw (zB (sumTo l k) (l[k]!) rfl rfl (by (have:=hv qf;omega)) (sp (yI ((sumTo l k)+(l[k]!))) (xM (b_n (t_n (xO (sp (yI k) (sw (zB k 1 rfl rfl (by (have:=hv qf;omega)) (sp (yI (k+1)) (xM (qY (m' :=l.length - (k+1)) qf ⟨_,k+1,uE4,?_,rfl,H⟩))))))))))))))
  · omega
 refine zx4 (zcr (sps [yI (sumTo l k),yI (sumTo l k)] (zjr (ret1 (yI (sumTo l k)) rfl rfl ⟨_,rfl,?_,H.base⟩))))
 obtain rfl:k=l.length:=by omega
 rfl

theorem indexFuncI_ok (w:World) (l:yLI) (f:FuncId) (capsf:Array Value) (gf:Nat→Bool) {al:yOA} {Fl:yLN} (hl:qO.rep w Fl [Sv al l.length cl] l) (hff:∀ args w,(callFunc f args).run Tryz.prog w=.ok (.enter f args) w) (hoff:∀ k w',k < l.length→Ext w w' →Calls Tryz.prog f (([yI (l[k]!)]:List Value)++capsf.toList).toArray w' (Ret (fun v _=>v=Bv (gf k)) w')):Calls Tryz.prog 175 #[Sv al l.length cl,.func (.func f) #[] capsf] w (Ret (fun v w' =>v=yI (firstIdx gf l.length)) w):=by
 refine en func175 ntmps175 ?_
 have H:=(St.start w).arg hl
 have nhl:=qM hl
 clear hl
 refine zcr (sp (yI 0) (zjcc (sp (Sv al l.length cl) (oN rfl (sp (yI 0) (zjn (qX ?_)))))))
 refine zD (fun m' ρ w1=>∃ (xY:Env) (k:Nat),ρ=upd (upd (upd (upd xY 0 (Sv al l.length cl)) 1 (.func (.func f) #[] capsf)) 7 (yI l.length)) 8 (yI k)∧(k≤l.length)∧(noneTo gf k)∧m' =l.length - k∧St w w1 [] [sF false Fl al cl l]) (l.length - 0) ⟨_,0,uE4,qf,(by exact fun j hj=>by omega),rfl,H⟩ ?_
 clear H
 rintro m' ρ w2 ⟨xY,k,rfl,i0,i1,rfl,H⟩
 refine zcr (sp (Bv (decide ((k:Int) < l.length))) (zjn (xQ (cD rfl (fun h3=>?_) (fun h3=>?_)))))
 ·skip
  refine qW (t_n (xQ (qX (zcr (sps [yI k,yI k] (zjc (sps [.func (.func f) #[] capsf,Sv al l.length cl,yI k] ?_)))))))
  obtain ⟨b4,o5,rfl⟩:=H.addr 0 rfl qf
  refine oI rfl rfl (oL rfl (H.jY 0 rfl k qf qf) (sw (o_callV [yI (l[k]!)] rfl rfl hff (hoff k _ qf H.base) ?_)))
  rintro _ w6 rfl x7
  replace H:=H.ext x7
  refine zjn (xE (gf k) rfl (fun h8=>?_) (fun h8=>?_))
  ·skip
   refine zcr (sps [yI k,yI k] (zjr (zr5 (ret1 (yI k) rfl rfl ⟨_,rfl,?_,H.base⟩))))
   rw [firstIdx_some (k:=k) qf i1 ‹_›]
  refine qW (b_n (t_n (xO (sw (zB k 1 rfl rfl qf (sp (yI (k+1)) (xM (qY (m' :=l.length - (k+1)) qf ⟨_,k+1,uE4,?_,?_,rfl,H⟩))))))))
  · omega
  · exact noneTo_succ ‹_› ‹_›
 refine zx4 (zcr (sp (yI (-1)) (zjr (ret1 (yI (-1)) rfl rfl ⟨_,rfl,?_,H.base⟩))))
 rw [firstIdx_none (fun j hj=>i1 j qf)]

theorem containsFuncI_ok (w:World) (l:yLI) (f:FuncId) (capsf:Array Value) (gf:Nat→Bool) {al:yOA} {Fl:yLN} (hl:qO.rep w Fl [Sv al l.length cl] l) (hff:∀ args w,(callFunc f args).run Tryz.prog w=.ok (.enter f args) w) (hoff:∀ k w',k < l.length→Ext w w' →Calls Tryz.prog f (([yI (l[k]!)]:List Value)++capsf.toList).toArray w' (Ret (fun v _=>v=Bv (gf k)) w')):Calls Tryz.prog 140 #[Sv al l.length cl,.func (.func f) #[] capsf] w (Ret (fun v w' =>v=Bv (anyTo gf l.length)) w):=by
 refine en func140 ntmps140 ?_
 have H:=(St.start w).arg hl
 have nhl:=qM hl
 clear hl
 refine zcr (sp (Bv false) (zjc (sps [Sv al l.length cl,.func (.func f) #[] capsf] (sw (oq (indexFuncI_ok _ l f capsf gf (H.get 0 rfl).1 hff hoff) H fun w1 H=>sps [Bv (decide ((firstIdx gf l.length:Int)≥0)),Bv (decide ((firstIdx gf l.length:Int)≥0))] (zjr (ret1 (Bv (decide ((firstIdx gf l.length:Int)≥0))) rfl rfl ⟨_,rfl,?_,H.base⟩)))))))
 rw [anyTo_first]

theorem validBag1_ok (w:World) (n:Int):Calls Tryz.prog 141 #[yI n] w (Ret (fun v w' =>v=Bv (!isCnt n)) w):=by
 refine en func141 ntmps141 ?_
 have H:=St.start w
 refine zcr (sp (Bv false) (zjc (sp (yI n) (sw (oq (VX w n 0 1000) H fun w1 H=>sps [Bv (!(inR n 0 1000)),Bv (!(inR n 0 1000))] (zjr (ret1 (Bv (!(inR n 0 1000))) rfl rfl ⟨_,rfl,?_,H.base⟩)))))))
 rfl

theorem sizeI_ok (w:World) (l:yLI) {al:yOA} {Fl:yLN} (hl:qO.rep w Fl [Sv al l.length cl] l):Calls Tryz.prog 92 #[Sv al l.length cl] w (Ret (fun v w' =>v=yI (l.length:Int)) w):=by
 refine en func92 ntmps92 ?_
 have H:=(St.start w).arg hl
 have nhl:=qM hl
 clear hl
 refine zcr (sp (yI 0) (zjc (sp (Sv al l.length cl) (oN rfl (sp (yI l.length) (zjr (ret1 (yI l.length) rfl rfl ⟨_,rfl,?_,H.base⟩)))))))
 rfl

theorem YV (w:World) (kinds:Int) (l:yLI) {al:yOA} {Fl:yLN} (hl:qO.rep w Fl [Sv al l.length cl] l):Calls Tryz.prog 105 #[yI kinds,Sv al l.length cl] w (Ret (fun v w' =>v=Bv (dec (vI kinds l))) w):=by
 refine en func105 ntmps105 ?_
 have H:=(St.start w).arg hl
 have nhl:=qM hl
 clear hl
 refine zcr (sp (Bv false) (zjc (sp (yI kinds) (sw (oq (VX w kinds 1 8) H fun w1 H=>sp (Bv (inR kinds 1 8)) ?_)))))
 cases h3:(inR kinds 1 8)
 ·skip
  replace h3:=Vh h3
  refine zk [8,9,10,11] (sps [Bv false,Bv false] (zk [14,15,16] (sps [Bv false,Bv false] (zjr (ret1 (Bv false) rfl rfl ⟨_,rfl,?_,H.base⟩)))))
  rw [xx (fun h=>by have:=h.1.2;have:=h.2;omega)]
 replace h3:=XA.1 h3
 refine qQ 7 rfl rfl (sp (Sv al l.length cl) (qQ 7 rfl rfl (sw (oq (sizeI_ok _ l (H.get 0 rfl).1) H fun w4 H=>qQ 7 rfl rfl (sp (yI kinds) (qQ 7 rfl rfl (sps [Bv (((l.length:Int):Int) == kinds),Bv (((l.length:Int):Int) == kinds),Bv (((l.length:Int):Int) == kinds)] ?_)))))))
 cases h6:(((l.length:Int):Int) == kinds)
 ·skip
  replace h6:=ne_of_beq_false h6
  refine zk [14,15,16] (sps [Bv false,Bv false] (zjr (ret1 (Bv false) rfl rfl ⟨_,rfl,?_,H.base⟩)))
  rw [xx (fun h=>by have:=h.1.2;have:=h.2;omega)]
 replace h6:=eq_of_beq h6
 refine qQ 13 rfl rfl (sp (Sv al l.length cl) (qQ 13 rfl rfl (sw (oq (containsFuncI_ok _ l 141 #[] (fun k=> !isCnt (l[k]!)) (H.get 0 rfl).1 call141 (fun k w' hk e=>validBag1_ok w' _)) H fun w7 H=>qQ 13 rfl rfl (sps [Bv (!(anyTo (fun k=> !isCnt (l[k]!)) l.length)),Bv (!(anyTo (fun k=> !isCnt (l[k]!)) l.length)),Bv (!(anyTo (fun k=> !isCnt (l[k]!)) l.length))] (zjr (ret1 (Bv (!(anyTo (fun k=> !isCnt (l[k]!)) l.length))) rfl rfl ⟨_,rfl,(congrArg Value.bool (dec_eq ?_)),H.base⟩)))))))
 rw [anyCnt_iff]
 exact ⟨fun h=>⟨⟨h,by omega,by omega⟩,by omega⟩,fun h=>h.1.1⟩
theorem both_ok (w:World) (l:yLI) (m:yLI) (of:FuncId) (capsof:Array Value) (gof:Nat→Int) {al:yOA} {Fl:yLN} {am:yOA} {Fm:yLN} (hl:qO.rep w Fl [Sv al l.length cl] l) (hm:qO.rep w Fm [Sv am m.length cm] m) (p0:l.length≤m.length) (p1:l.length≤1000000) (hfof:∀ args w,(callFunc of args).run Tryz.prog w=.ok (.enter of args) w) (hofof:∀ k w',k < l.length→Ext w w' →Calls Tryz.prog of (([yI (l[k]!),yI (m[k]!)]:List Value)++capsof.toList).toArray w' (Ret (fun v _=>v=yI (gof k)) w')):Calls Tryz.prog 189 #[Sv al l.length cl,Sv am m.length cm,.func (.func of) #[] capsof] w (Ret (fun v w' =>OwnNew w w' 2 v (tabTo gof l.length)) w):=by
 refine en func189 ntmps189 ?_
 have H:=((St.start w).arg hm).arg hl
 have nhl:=qM hl
 have nhm:=qM hm
 clear hl hm
 refine zcr (sp yN (zjc (sw (vP H underlying22 ti2 fun b1 w2 H=>sp (Sv (aa b1 0) 0 0) (zjcc (sp (Sv al l.length cl) (oN rfl (sp (yI 0) (zjn (qX ?_))))))))))
 replace H:=H.boxRow 0 rfl 1 0 rfl qj
 replace H:St _ _ [rr (aa b1 0) 0 0 2 1 []] _:=H
 refine zD (fun m' ρ w3=>∃ (xY:Env) (k:Nat) (vr7:Value),ρ=upd (upd (upd (upd (upd (upd (upd xY 1 (Sv am m.length cm)) 2 (.func (.func of) #[] capsof)) 6 yN) 7 (vr7)) 11 (Sv al l.length cl)) 12 (yI l.length)) 13 (yI k)∧(k≤l.length)∧m' =l.length - k∧St w w3 [.row vr7 2 1 k ((tabTo gof k).map (Value.int .i64))] [sF false Fl al cl l,sF false Fm am cm m]) (l.length - 0) ⟨_,0,(Sv (aa b1 0) 0 0),uE7,qf,rfl,H⟩ ?_
 clear H
 rintro m' ρ w4 ⟨xY,k,vr7,rfl,i0,rfl,H⟩
 refine zcr (sp (Bv (decide ((k:Int) < l.length))) (zjn (xQ (cD rfl (fun h5=>?_) (fun h5=>?_)))))
 ·skip
  refine qW (t_n (xQ (qX (zcr (sp (yI k) ?_)))))
  obtain ⟨b6,o7,rfl⟩:=H.addr 0 rfl qf
  refine oI rfl rfl (oL rfl (H.jY 0 rfl k qf qf) (sps [yI k,yI (l[k]!)] (zjn (xO (sps [vr7,.func (.func of) #[] capsof,yI (l[k]!),Sv am m.length cm,yI k] ?_)))))
  obtain ⟨b8,o9,rfl⟩:=H.addr 1 rfl qf
  refine oI rfl rfl (oL rfl (H.jY 1 rfl k qf qf) (sw (o_callV [yI (l[k]!),yI (m[k]!)] rfl rfl hfof (hofof k _ qf H.base) ?_)))
  rintro _ w10 rfl x11
  replace H:=H.ext x11
  refine sw (o_build1 H underlying22 ti2 qj qj (yI (gof k)) rfl rfl fun b12 w13 H=>sw (o_append H 1 rfl 0 rfl underlying22 ti2 rfl qj rfl rfl rfl (by simp [Value.oneCell',Value.cells]) qp qf fun v14 w15 H=>?_))
  replace H:St _ _ [.box b12 [yI (gof k)] 2,.row v14 2 1 (k+1) (((tabTo gof k).map (Value.int .i64))++[yI (gof k)])] _:=H
  refine sp (v14) (xM (b_n (t_n (xO (sw (zB k 1 rfl rfl qf (sp (yI (k+1)) (xM ?_))))))))
  rw [show ((tabTo gof k).map (Value.int .i64))++[yI (gof k)]=(tabTo gof (k+1)).map (Value.int .i64) from by (rw [tabTo_succ];simp)] at H
  refine qY (m' :=l.length - (k+1)) qf ⟨_,k+1,v14,uE7,?_,rfl,H.sel _ (.cons _ (.refl _)) _ qm⟩
  · omega
 refine zx4 (zcr (sps [vr7,vr7] (zjr (ret1 (vr7) rfl rfl ⟨_,rfl,?_,H.base⟩))))
 obtain rfl:k=l.length:=by omega
 exact H.newInts 0 rfl qm

theorem plus1_ok (w:World) (x:Int) (y:Int) (t:Int) (bt ot:Nat) (hpt:vN w bt ot [yI t]) (p0: -1000000000000000≤x∧x≤1000000000000000) (p1: -1000000000000000≤t * y∧t * y≤1000000000000000):Calls Tryz.prog 190 #[yI x,yI y,pp bt ot] w (Ret (fun v w' =>v=yI (x+t * y)) w):=by
 refine en func190 ntmps190 ?_
 have H:=(St.start w).V7 hpt
 clear hpt
 refine zcr (sp (yI 0) (zjc (sp (yI x) (oL rfl (H.xW 0 rfl 0 rfl) (sp (yI y) (sw (o_mul t y rfl rfl qf (sw (zB x (t * y) rfl rfl qf (sp (yI (x+(t * y))) (zjr (ret1 (yI (x+(t * y))) rfl rfl ⟨_,rfl,?_,H.base⟩))))))))))))
 rfl

theorem plus_ok (w:World) (l:yLI) (m:yLI) (t:Int) {al:yOA} {Fl:yLN} {am:yOA} {Fm:yLN} (hl:qO.rep w Fl [Sv al l.length cl] l) (hm:qO.rep w Fm [Sv am m.length cm] m) (p0:l.length≤m.length) (p1:Mid l) (p2:SmallT m t):Calls Tryz.prog 152 #[Sv al l.length cl,Sv am m.length cm,yI t] w (Ret (fun v w' =>OwnNew w w' 2 v (ji l m t)) w):=by
 refine en func152 ntmps152 ?_
 have H:=((St.start w).arg hm).arg hl
 have nhl:=qM hl
 have nhm:=qM hm
 clear hl hm
 have p3:=p1.1
 refine zcr (sw (o_box H (yI t) rfl fun b1 w2 H=>?_))
 replace H:St _ _ [.box b1 [yI t] 2] _:=H
 refine sp yN (zjc (sps [Sv al l.length cl,Sv am m.length cm,.func (.func 190) #[] #[pp b1 0]] ?_))
 have szx4:=H.base.size
 refine sw (oc (both_ok _ l m 190 #[pp b1 0] (fun k=>l[k]! +t * m[k]!) (H.get 0 rfl).1 (H.get 1 rfl).1 qf qf call190 (fun k w' hk e=>plus1_ok w' _ _ t _ _ ((H.ext e).cells 0 rfl) (by have:=p1.2 k hk;omega) (p2 k qf))) ?_)
 rintro v5 w3 r5 x4
 replace H:=H.zJ x4 r5
 refine sp (v5) (zjr (ret1 (v5) rfl rfl ⟨_,rfl,(H.newInts 0 rfl (by simp [plusL_len])),H.base⟩))

theorem Vx (w:World) (l:yLI) (m:yLI) (t:Int) {al:yOA} {Fl:yLN} {am:yOA} {Fm:yLN} (hl:qO.rep w Fl [Sv al l.length cl] l) (hm:qO.rep w Fm [Sv am m.length cm] m) (p0:l.length≤m.length) (p1:Mid l) (p2:SmallT m t):Calls Tryz.prog 181 #[Sv al l.length cl,Sv am m.length cm,yI t] w (Ret (fun v w' =>OwnNew w w' 2 v (ji l m t)) w):=by
 refine en func181 ntmps181 ?_
 have H:=((St.start w).arg hm).arg hl
 have nhl:=qM hl
 have nhm:=qM hm
 clear hl hm
 have p3:=p1.1
 refine zcr (sp yN (zjc (sw (vP H underlying22 ti2 fun b1 w2 H=>sp (Sv (aa b1 0) 0 0) (zjcc (sp (yI 0) (zjn (qX ?_))))))))
 replace H:=H.boxRow 0 rfl 1 0 rfl qj
 replace H:St _ _ [rr (aa b1 0) 0 0 2 1 []] _:=H
 refine zD (fun m' ρ w3=>∃ (xY:Env) (k:Nat) (vr7:Value),ρ=upd (upd (upd (upd (upd (upd xY 0 (Sv al l.length cl)) 1 (Sv am m.length cm)) 2 (yI t)) 6 yN) 7 (vr7)) 8 (yI k)∧(k≤l.length)∧m' =l.length - k∧St w w3 [.row vr7 2 1 k ((plusTo l m t k).map (Value.int .i64))] [sF false Fl al cl l,sF false Fm am cm m]) (l.length - 0) ⟨_,0,(Sv (aa b1 0) 0 0),uE6,qf,rfl,H⟩ ?_
 clear H
 rintro m' ρ w4 ⟨xY,k,vr7,rfl,i0,rfl,H⟩
 refine zcc (sps [yI k,Sv al l.length cl] (oN rfl (sp (Bv (decide ((k:Int) < l.length))) (zjn (cD rfl (fun h5=>?_) (fun h5=>?_))))))
 ·skip
  refine qW (t_n (xQ (qX ?_)))
  refine c_draw (fun w6=>St w w6 [] [sF false Fl al cl l,sF false Fm am cm m]) rfl ((H.ext (ext_drew _)).sel _ (.cons _ (.refl _)) _ (fun _ h=>h)) ?_
  replace H:=H.ext (ext_drew _)
  refine rtp 0 (vr7) (H.sel _ (.cons _ (.refl _)) _ (fun _ h=>h)) ?_
  refine rtp 1 (Sv al l.length cl) (H.sel _ (.cons _ (.refl _)) _ (fun _ h=>h)) ?_
  refine rtp 2 (yI k) (H.sel _ (.cons _ (.refl _)) _ (fun _ h=>h)) ?_
  obtain ⟨b7,o8,rfl⟩:=H.addr 0 rfl qf
  refine tI 3 rfl rfl rfl (H.sel _ (.cons _ (.refl _)) _ (fun _ h=>h)) ?_
  refine tL 4 rfl rfl (fun _ h=>h.yG 0 rfl k qf) (H.sel _ (.cons _ (.refl _)) _ (fun _ h=>h)) ?_
  refine rtp 5 (Sv am m.length cm) (H.sel _ (.cons _ (.refl _)) _ (fun _ h=>h)) ?_
  refine rtp 6 (yI k) (H.sel _ (.cons _ (.refl _)) _ (fun _ h=>h)) ?_
  obtain ⟨b9,o10,rfl⟩:=H.addr 1 rfl qf
  refine tI 7 rfl rfl rfl (H.sel _ (.cons _ (.refl _)) _ (fun _ h=>h)) ?_
  refine tL 8 rfl rfl (fun _ h=>h.yG 1 rfl k qf) (H.sel _ (.cons _ (.refl _)) _ (fun _ h=>h)) ?_
  refine rtp 9 (yI t) (H.sel _ (.cons _ (.refl _)) _ (fun _ h=>h)) ?_
  refine rt 10 (yI ((m[k]!) * t)) (y_mul (m[k]!) t rfl rfl (by (have:=p1.2 k qf;have:=p2 k qf;rw [Int.mul_comm] at this;omega))) (H.sel _ (.cons _ (.refl _)) _ (fun _ h=>h)) ?_
  refine rt 11 (yI ((l[k]!)+((m[k]!) * t))) (y_add (l[k]!) ((m[k]!) * t) rfl rfl (by (have:=p1.2 k qf;have:=p2 k qf;rw [Int.mul_comm] at this;omega))) (H.sel _ (.cons _ (.refl _)) _ (fun _ h=>h)) ?_
  refine ro 12 rfl (o_build1 H underlying22 ti2 qj qj (yI ((l[k]!)+((m[k]!) * t))) rfl rfl fun b11 w12 H=>?_)
  replace H:St _ _ [.box b11 [yI ((l[k]!)+((m[k]!) * t))] 2,.row vr7 2 1 k ((plusTo l m t k).map (Value.int .i64))] _:=H
  refine ⟨H.sel _ (.cons _ (.cons _ (.refl _))) _ (fun _ h=>h),(ro 13 rfl (o_append H 1 rfl 0 rfl underlying22 ti2 rfl qj rfl rfl rfl (by simp [Value.oneCell',Value.cells]) qp qf fun v13 w14 H=>?_))⟩
  replace H:St _ _ [.box b11 [yI ((l[k]!)+((m[k]!) * t))] 2,.row v13 2 1 (k+1) (((plusTo l m t k).map (Value.int .i64))++[yI ((l[k]!)+((m[k]!) * t))])] _:=H
  refine ⟨H.sel _ (.cons _ (.cons _ (.refl _))) _ (fun _ h=>h),(rtp 14 (v13) (H.sel _ (.cons _ (.cons _ (.refl _))) _ (fun _ h=>h)) ?_)⟩
  refine xP qh (b_n (t_n (xO (sp (yI k) (sw (zB k 1 rfl rfl (by (have:=p1.2 k qf;have:=p2 k qf;rw [Int.mul_comm] at this;omega)) (sp (yI (k+1)) (xM ?_))))))))
  rw [show ((plusTo l m t k).map (Value.int .i64))++[yI ((l[k]!)+((m[k]!) * t))]=(plusTo l m t (k+1)).map (Value.int .i64) from by (rw [plusTo_succ,Int.mul_comm t];simp)] at H
  refine qY (m' :=l.length - (k+1)) qf ⟨_,k+1,v13,uE6,?_,rfl,H.sel _ (.cons _ (.refl _)) _ qm⟩
  · omega
 refine zx4 (zcr (sps [vr7,vr7] (zjr (ret1 (vr7) rfl rfl ⟨_,rfl,?_,H.base⟩))))
 obtain rfl:k=l.length:=by omega
 exact H.newInts 0 rfl (by simp [ji,plusTo])

theorem Vt (w:World) (l:yLI) {al:yOA} {Fl:yLN} (hl:qO.rep w Fl [Sv al l.length cl] l) (p0:l.length≤1000000):Calls Tryz.prog 101 #[Sv al l.length cl] w (Ret (fun v w' =>OwnNew w w' 2 v l) w):=by
 refine en func101 ntmps101 ?_
 have H:=(St.start w).arg hl
 have nhl:=qM hl
 clear hl
 refine zcr (sp yN (zjc (sw (vP H underlying22 ti2 fun b1 w2 H=>sp (Sv al l.length cl) ?_))))
 replace H:=H.boxRow 0 rfl 1 0 rfl qj
 refine sw (o_appendInts H 0 rfl 0 rfl underlying22 ti2 rfl rfl rfl qp qf fun v3 w4 H=>?_)
 replace H:St _ _ [.row v3 2 1 (0+l.length) ([]++l.map (Value.int .i64))] _:=H
 refine sp (v3) (zjr (ret1 (v3) rfl rfl ⟨_,rfl,(H.newInts 0 rfl qf),H.base⟩))

theorem cloneI_ok (w:World) (l:yLI) {al:yOA} {Fl:yLN} (hl:qO.rep w Fl [Sv al l.length cl] l) (p0:l.length≤1000000):Calls Tryz.prog 108 #[Sv al l.length cl] w (Ret (fun v w' =>OwnNew w w' 2 v l) w):=by
 refine en func108 ntmps108 ?_
 have H:=(St.start w).arg hl
 have nhl:=qM hl
 clear hl
 refine zcr (sp yN (zjcc (sp (Sv al l.length cl) (sw (o_eqnil underlying22 al l.length cl rfl (zjn (xE (al.isNone) rfl (fun h1=>?_) (fun h1=>?_))))))))
 ·skip
  refine zcr (sp yN (zjr (t_r (ret1 yN rfl rfl ⟨_,rfl,?_,H.base⟩))))
  obtain rfl:=H.nilOf 0 rfl ‹_›
  exact ownNew_nil _ _ _
 refine qW (t_n (zcr (sw (vP H underlying22 ti2 fun b2 w3 H=>sp (Sv al l.length cl) ?_))))
 replace H:=H.boxRow 0 rfl 1 0 rfl qj
 refine sw (o_appendInts H 0 rfl 0 rfl underlying22 ti2 rfl rfl rfl qp qf fun v4 w5 H=>?_)
 replace H:St _ _ [.row v4 2 1 (0+l.length) ([]++l.map (Value.int .i64))] _:=H
 refine sp (v4) (zjr (ret1 (v4) rfl rfl ⟨_,rfl,(H.newInts 0 rfl qf),H.base⟩))
theorem Ve (w:World) (x:yLI) (left:Int) {ax:yOA} {Fx:yLN} (hx:qO.rep w Fx [Sv ax x.length cx] x) (p0:0≤left∧left≤2000000):Calls Tryz.prog 53 #[Sv ax x.length cx,yI left] w (Ret (fun v w' =>v=yI (szR (tot x) left)) w):=by
 refine en func53 ntmps53 ?_
 have H:=(St.start w).arg hx
 have nhx:=qM hx
 clear hx
 refine zcr (sp (yI 0) (zjc (sps [yI left,Sv ax x.length cx] (oN rfl (sw (o_sub left x.length rfl rfl qf (sp (yI (left - x.length)) (zjcc (sps [yI (left - x.length),Bv (decide ((left - x.length:Int) < 0))] (zjn (cD rfl (fun h1=>?_) (fun h1=>?_))))))))))))
 ·skip
  refine zcr (sp (yI (-1)) (zjr (t_r (ret1 (yI (-1)) rfl rfl ⟨_,rfl,(congrArg (Value.int .i64) ?_),H.base⟩))))
  have:=zV (tot x) left
  rw [tot_ints] at *
  try omega
 refine qW (t_n (zcr (sps [yI (left - x.length),yI (left - x.length)] (zjr (ret1 (yI (left - x.length)) rfl rfl ⟨_,rfl,(congrArg (Value.int .i64) ?_),H.base⟩)))))
 have:=zV (tot x) left
 rw [tot_ints] at *
 try omega

theorem szBoolS_ok (w:World) (x:List Bool) (left:Int) {ax:yOA} {Fx:yLN} (hx:qO.rep w Fx [Sv ax x.length cx] x) (p0:0≤left∧left≤2000000):Calls Tryz.prog 55 #[Sv ax x.length cx,yI left] w (Ret (fun v w' =>v=yI (szR (tot x) left)) w):=by
 refine en func55 ntmps55 ?_
 have H:=(St.start w).arg hx
 have nhx:=qM hx
 clear hx
 refine zcr (sp (yI 0) (zjc (sps [yI left,Sv ax x.length cx] (oN rfl (sw (o_sub left x.length rfl rfl qf (sp (yI (left - x.length)) (zjcc (sps [yI (left - x.length),Bv (decide ((left - x.length:Int) < 0))] (zjn (cD rfl (fun h1=>?_) (fun h1=>?_))))))))))))
 ·skip
  refine zcr (sp (yI (-1)) (zjr (t_r (ret1 (yI (-1)) rfl rfl ⟨_,rfl,(congrArg (Value.int .i64) ?_),H.base⟩))))
  have:=zV (tot x) left
  rw [tot_bools] at *
  try omega
 refine qW (t_n (zcr (sps [yI (left - x.length),yI (left - x.length)] (zjr (ret1 (yI (left - x.length)) rfl rfl ⟨_,rfl,(congrArg (Value.int .i64) ?_),H.base⟩)))))
 have:=zV (tot x) left
 rw [tot_bools] at *
 try omega

theorem szInt64SS_ok (w:World) (x:yLL) (left:Int) {ax:yOA} {Fx:yLN} (hx:qO.rep w Fx [Sv ax x.length cx] x) (p0:0≤left∧left≤2000000):Calls Tryz.prog 56 #[Sv ax x.length cx,yI left] w (Ret (fun v w' =>v=yI (szR (tot x) left)) w):=by
 refine en func56 ntmps56 ?_
 have H:=(St.start w).arg hx
 have nhx:=qM hx
 clear hx
 refine zcr (sp (yI 0) (zjc (sps [yI left,Sv ax x.length cx] (oN rfl (sw (o_sub left x.length rfl rfl qf (sp (yI (left - x.length)) (zjcc (sps [yI (left - x.length),Bv (decide ((left - x.length:Int) < 0))] (zjn (cD rfl (fun h1=>?_) (fun h1=>?_))))))))))))
 ·skip
  refine zcr (sp (yI (-1)) (zjr (t_r (ret1 (yI (-1)) rfl rfl ⟨_,rfl,(congrArg (Value.int .i64) ?_),H.base⟩))))
  have:=zV (tot x) left
  have:=len_tot x
  omega
 refine qW (t_n (zcc (sp (yI 0) (zjn (qX ?_)))))
 refine zD (fun m' ρ w2=>∃ (xY:Env) (k:Nat) (r:Int),ρ=upd (upd (upd xY 0 (Sv ax x.length cx)) 1 (yI r)) 5 (yI k)∧(k≤x.length)∧(r=left - (x.length:Int) - (totTo x k:Nat))∧(0≤r)∧m' =x.length - k∧St w w2 [] [sF false Fx ax cx x]) (x.length - 0) ⟨_,0,left - (x.length:Int),uE3,qf,(by rw [totTo_zero];omega),qf,rfl,H⟩ ?_
 clear H
 rintro m' ρ w3 ⟨xY,k,r,rfl,i0,i1,i2,rfl,H⟩
 refine zcc (sps [yI k,Sv ax x.length cx] (oN rfl (sp (Bv (decide ((k:Int) < x.length))) (zjn (cD rfl (fun h4=>?_) (fun h4=>?_))))))
 ·skip
  refine qW (t_n (xQ (qX (zcr (sps [Sv ax x.length cx,yI k] ?_)))))
  obtain ⟨b5,o6,rfl⟩:=H.addr 0 rfl qf
  obtain ⟨ae7,ce7,Fe7,H⟩:=H.vV 0 rfl k k qf qf qf
  refine oI rfl rfl (oL rfl (H.xW 1 rfl 0 rfl) (sp (yI r) (sw (oq (Ve _ (x[k]!) r (H.get 0 rfl).1 qf) H fun w8 H=>?_))))
  have:=zV (tot (x[k]!)) r
  refine sp (yI (szR (tot (x[k]!)) r)) (zjc (sps [yI (szR (tot (x[k]!)) r),Bv (decide ((szR (tot (x[k]!)) r:Int) < 0))] (zjn (cD rfl (fun h10=>?_) (fun h10=>?_)))))
  ·skip
   refine zcr (sp (yI (-1)) (zjr (zr5 (ret1 (yI (-1)) rfl rfl ⟨_,rfl,(congrArg (Value.int .i64) ?_),H.base⟩))))
   have:=zV (tot x) left
   have:=tot_get (l:=x) (k:=k) qf
   omega
  refine qW (b_n (t_n (xO (sp (yI k) (sw (zB k 1 rfl rfl qf (sp (yI (k+1)) (xM (qY (m' :=x.length - (k+1)) qf ⟨_,k+1,szR (tot (x[k]!)) r,uE3,?_,?_,?_,rfl,H.sel _ (.refl _) _ qm⟩)))))))))
  · omega
  · rw [totTo_succ];omega
  · omega
 refine zx4 (zcr (sps [yI r,yI r] (zjr (ret1 (yI r) rfl rfl ⟨_,rfl,(congrArg (Value.int .i64) ?_),H.base⟩))))
 obtain rfl:k=x.length:=by omega
 have:=zV (tot x) left
 rw [tot_list] at *
 omega

theorem szInto_ok (w:World) (x:IntoD) (left:Int) {axBag:yOA} {FxBag:yLN} (hxBag:qO.rep w FxBag [Sv axBag x.jJ.length cxBag] x.jJ) (p0:0≤left∧left≤2000000):Calls Tryz.prog 169 #[.agg #[yI x.qG,Sv axBag x.jJ.length cxBag],yI left] w (Ret (fun v w' =>v=yI (szR (tot x) left)) w):=by
 refine en func169 ntmps169 ?_
 have H:=(St.start w).arg hxBag
 have nhxBag:=qM hxBag
 clear hxBag
 refine zcr (sw (o_box H (.agg #[yI x.qG,Sv axBag x.jJ.length cxBag]) rfl fun b1 w2 H=>?_))
 replace H:St _ _ [.box b1 [yI x.qG,Sv axBag x.jJ.length cxBag] 190] _:=H
 refine sp (yI 0) (zjc (oF rfl (oL rfl (H.cell 0 rfl rfl) (sp (yI left) (sw (oq (Ve _ x.jJ left (H.get 0 rfl).1 qf) H fun w3 H=>?_))))))
 have:=zV (tot x.jJ) left
 refine sp (yI (szR (tot x.jJ) left)) (zjcc (sps [yI (szR (tot x.jJ) left),Bv (decide ((szR (tot x.jJ) left:Int) < 0))] (zjn (cD rfl (fun h5=>?_) (fun h5=>?_)))))
 ·skip
  refine zcr (sp (yI (-1)) (zjr (t_r (ret1 (yI (-1)) rfl rfl ⟨_,rfl,(congrArg (Value.int .i64) ?_),H.base⟩))))
  have:=zV (tot x) left
  rw [tot_IntoD] at *
  try omega
 refine qW (t_n (zcr (sps [yI (szR (tot x.jJ) left),yI (szR (tot x.jJ) left)] (zjr (ret1 (yI (szR (tot x.jJ) left)) rfl rfl ⟨_,rfl,(congrArg (Value.int .i64) ?_),H.base⟩)))))
 have:=zV (tot x) left
 rw [tot_IntoD] at *
 try omega

theorem szIntoS_ok (w:World) (x:List IntoD) (left:Int) {ax:yOA} {Fx:yLN} (hx:qO.rep w Fx [Sv ax x.length cx] x) (p0:0≤left∧left≤2000000):Calls Tryz.prog 132 #[Sv ax x.length cx,yI left] w (Ret (fun v w' =>v=yI (szR (tot x) left)) w):=by
 refine en func132 ntmps132 ?_
 have H:=(St.start w).arg hx
 have nhx:=qM hx
 clear hx
 refine zcr (sp (yI 0) (zjc (sps [yI left,Sv ax x.length cx] (oN rfl (sw (o_sub left x.length rfl rfl qf (sp (yI (left - x.length)) (zjcc (sps [yI (left - x.length),Bv (decide ((left - x.length:Int) < 0))] (zjn (cD rfl (fun h1=>?_) (fun h1=>?_))))))))))))
 ·skip
  refine zcr (sp (yI (-1)) (zjr (t_r (ret1 (yI (-1)) rfl rfl ⟨_,rfl,(congrArg (Value.int .i64) ?_),H.base⟩))))
  have:=zV (tot x) left
  have:=len_tot x
  omega
 refine qW (t_n (zcc (sp (yI 0) (zjn (qX ?_)))))
 refine zD (fun m' ρ w2=>∃ (xY:Env) (k:Nat) (r:Int),ρ=upd (upd (upd xY 0 (Sv ax x.length cx)) 1 (yI r)) 5 (yI k)∧(k≤x.length)∧(r=left - (x.length:Int) - (totTo x k:Nat))∧(0≤r)∧m' =x.length - k∧St w w2 [] [sF false Fx ax cx x]) (x.length - 0) ⟨_,0,left - (x.length:Int),uE3,qf,(by rw [totTo_zero];omega),qf,rfl,H⟩ ?_
 clear H
 rintro m' ρ w3 ⟨xY,k,r,rfl,i0,i1,i2,rfl,H⟩
 refine zcc (sps [yI k,Sv ax x.length cx] (oN rfl (sp (Bv (decide ((k:Int) < x.length))) (zjn (cD rfl (fun h4=>?_) (fun h4=>?_))))))
 ·skip
  refine qW (t_n (xQ (qX (zcr (sps [Sv ax x.length cx,yI k] ?_)))))
  obtain ⟨b5,o6,rfl⟩:=H.addr 0 rfl qf
  obtain ⟨ae7Bag,ce7Bag,Fe7Bag,H⟩:=H.yh 0 rfl k k qf qf qf
  refine oI rfl rfl (sw (zl [yI ((x[k]!).qG),Sv ae7Bag (((x[k]!).jJ).length) ce7Bag] isAgg190 sizeOf190 rfl (qF (H.get 1 rfl) 0 2) (sp (yI r) (sw (oq (szInto_ok _ (x[k]!) r (H.get 0 rfl).1 qf) H fun w8 H=>?_)))))
  have:=zV (tot (x[k]!)) r
  refine sp (yI (szR (tot (x[k]!)) r)) (zjc (sps [yI (szR (tot (x[k]!)) r),Bv (decide ((szR (tot (x[k]!)) r:Int) < 0))] (zjn (cD rfl (fun h10=>?_) (fun h10=>?_)))))
  ·skip
   refine zcr (sp (yI (-1)) (zjr (zr5 (ret1 (yI (-1)) rfl rfl ⟨_,rfl,(congrArg (Value.int .i64) ?_),H.base⟩))))
   have:=zV (tot x) left
   have:=tot_get (l:=x) (k:=k) qf
   omega
  refine qW (b_n (t_n (xO (sp (yI k) (sw (zB k 1 rfl rfl qf (sp (yI (k+1)) (xM (qY (m' :=x.length - (k+1)) qf ⟨_,k+1,szR (tot (x[k]!)) r,uE3,?_,?_,?_,rfl,H.sel _ (.refl _) _ qm⟩)))))))))
  · omega
  · rw [totTo_succ];omega
  · omega
 refine zx4 (zcr (sps [yI r,yI r] (zjr (ret1 (yI r) rfl rfl ⟨_,rfl,(congrArg (Value.int .i64) ?_),H.base⟩))))
 obtain rfl:k=x.length:=by omega
 have:=zV (tot x) left
 rw [tot_list] at *
 omega

theorem szRule_ok (w:World) (x:Xg) (left:Int) {Yz:yOA} {FxNeed:yLN} {YD:yOA} {FxHave:yLN} {YA:yOA} {FxLack:yLN} {YC:yOA} {FxHere:yLN} {axOut:yOA} {FxOut:yLN} {YB:yOA} {FxInto:yLN} (hxNeed:qO.rep w FxNeed [Sv Yz x.xn.length Yn] x.xn) (hxHave:qO.rep w FxHave [Sv YD x.xF.length Yr] x.xF) (hxLack:qO.rep w FxLack [Sv YA x.xI.length Yo] x.xI) (hxHere:qO.rep w FxHere [Sv YC x.xK.length Yq] x.xK) (hxOut:qO.rep w FxOut [Sv axOut x.ve.length cxOut] x.ve) (hxInto:qO.rep w FxInto [Sv YB x.qU.length Yp] x.qU) (p0:0≤left∧left≤2000000):Calls Tryz.prog 97 #[.agg #[yI x.qG,yI x.zS,Sv Yz x.xn.length Yn,Sv YD x.xF.length Yr,Sv YA x.xI.length Yo,Sv YC x.xK.length Yq,Sv axOut x.ve.length cxOut,Sv YB x.qU.length Yp,Bv x.zH],yI left] w (Ret (fun v w' =>v=yI (szR (tot x) left)) w):=by
 refine en func97 ntmps97 ?_
 have H:=((((((St.start w).arg hxInto).arg hxOut).arg hxHere).arg hxLack).arg hxHave).arg hxNeed
 have nhxNeed:=qM hxNeed
 have nhxHave:=qM hxHave
 have nhxLack:=qM hxLack
 have nhxHere:=qM hxHere
 have nhxOut:=qM hxOut
 have nhxInto:=qM hxInto
 clear hxNeed hxHave hxLack hxHere hxOut hxInto
 refine zcr (sw (o_box H (.agg #[yI x.qG,yI x.zS,Sv Yz x.xn.length Yn,Sv YD x.xF.length Yr,Sv YA x.xI.length Yo,Sv YC x.xK.length Yq,Sv axOut x.ve.length cxOut,Sv YB x.qU.length Yp,Bv x.zH]) rfl fun b1 w2 H=>?_))
 replace H:St _ _ [.box b1 [yI x.qG,yI x.zS,Sv Yz x.xn.length Yn,Sv YD x.xF.length Yr,Sv YA x.xI.length Yo,Sv YC x.xK.length Yq,Sv axOut x.ve.length cxOut,Sv YB x.qU.length Yp,Bv x.zH] 111] _:=H
 refine sp (yI 0) (zjc (oF rfl (oL rfl (H.cell 0 rfl rfl) (sp (yI left) (sw (oq (Ve _ x.xn left (H.get 0 rfl).1 qf) H fun w3 H=>?_))))))
 have:=zV (tot x.xn) left
 refine sp (yI (szR (tot x.xn) left)) (zjcc (sps [yI (szR (tot x.xn) left),Bv (decide ((szR (tot x.xn) left:Int) < 0))] (zjn (cD rfl (fun h5=>?_) (fun h5=>?_)))))
 ·skip
  refine zcr (sp (yI (-1)) (zjr (t_r (ret1 (yI (-1)) rfl rfl ⟨_,rfl,(congrArg (Value.int .i64) ?_),H.base⟩))))
  have:=zV (tot x) left
  rw [tot_RuleD] at *
  try omega
 refine qW (t_n (zcr (oF rfl (oL rfl (H.cell 0 rfl rfl) (sp (yI (szR (tot x.xn) left)) (sw (oq (Ve _ x.xF (szR (tot x.xn) left) (H.get 1 rfl).1 qf) H fun w6 H=>?_)))))))
 have:=zV (tot x.xF) (szR (tot x.xn) left)
 refine sp (yI (szR (tot x.xF) (szR (tot x.xn) left))) (zjcc (sps [yI (szR (tot x.xF) (szR (tot x.xn) left)),Bv (decide ((szR (tot x.xF) (szR (tot x.xn) left):Int) < 0))] (zjn (cD rfl (fun h8=>?_) (fun h8=>?_)))))
 ·skip
  refine zcr (sp (yI (-1)) (zjr (t_r (ret1 (yI (-1)) rfl rfl ⟨_,rfl,(congrArg (Value.int .i64) ?_),H.base⟩))))
  have:=zV (tot x) left
  rw [tot_RuleD] at *
  try omega
 refine qW (t_n (zcr (oF rfl (oL rfl (H.cell 0 rfl rfl) (sp (yI (szR (tot x.xF) (szR (tot x.xn) left))) (sw (oq (Ve _ x.xI (szR (tot x.xF) (szR (tot x.xn) left)) (H.get 2 rfl).1 qf) H fun w9 H=>?_)))))))
 have:=zV (tot x.xI) (szR (tot x.xF) (szR (tot x.xn) left))
 refine sp (yI (szR (tot x.xI) (szR (tot x.xF) (szR (tot x.xn) left)))) (zjcc (sps [yI (szR (tot x.xI) (szR (tot x.xF) (szR (tot x.xn) left))),Bv (decide ((szR (tot x.xI) (szR (tot x.xF) (szR (tot x.xn) left)):Int) < 0))] (zjn (cD rfl (fun h11=>?_) (fun h11=>?_)))))
 ·skip
  refine zcr (sp (yI (-1)) (zjr (t_r (ret1 (yI (-1)) rfl rfl ⟨_,rfl,(congrArg (Value.int .i64) ?_),H.base⟩))))
  have:=zV (tot x) left
  rw [tot_RuleD] at *
  try omega
 refine qW (t_n (zcr (oF rfl (oL rfl (H.cell 0 rfl rfl) (sp (yI (szR (tot x.xI) (szR (tot x.xF) (szR (tot x.xn) left)))) (sw (oq (Ve _ x.xK (szR (tot x.xI) (szR (tot x.xF) (szR (tot x.xn) left))) (H.get 3 rfl).1 qf) H fun w12 H=>?_)))))))
 have:=zV (tot x.xK) (szR (tot x.xI) (szR (tot x.xF) (szR (tot x.xn) left)))
 refine sp (yI (szR (tot x.xK) (szR (tot x.xI) (szR (tot x.xF) (szR (tot x.xn) left))))) (zjcc (sps [yI (szR (tot x.xK) (szR (tot x.xI) (szR (tot x.xF) (szR (tot x.xn) left)))),Bv (decide ((szR (tot x.xK) (szR (tot x.xI) (szR (tot x.xF) (szR (tot x.xn) left))):Int) < 0))] (zjn (cD rfl (fun h14=>?_) (fun h14=>?_)))))
 ·skip
  refine zcr (sp (yI (-1)) (zjr (t_r (ret1 (yI (-1)) rfl rfl ⟨_,rfl,(congrArg (Value.int .i64) ?_),H.base⟩))))
  have:=zV (tot x) left
  rw [tot_RuleD] at *
  try omega
 refine qW (t_n (zcr (oF rfl (oL rfl (H.cell 0 rfl rfl) (sp (yI (szR (tot x.xK) (szR (tot x.xI) (szR (tot x.xF) (szR (tot x.xn) left))))) (sw (oq (Ve _ x.ve (szR (tot x.xK) (szR (tot x.xI) (szR (tot x.xF) (szR (tot x.xn) left)))) (H.get 4 rfl).1 qf) H fun w15 H=>?_)))))))
 have:=zV (tot x.ve) (szR (tot x.xK) (szR (tot x.xI) (szR (tot x.xF) (szR (tot x.xn) left))))
 refine sp (yI (szR (tot x.ve) (szR (tot x.xK) (szR (tot x.xI) (szR (tot x.xF) (szR (tot x.xn) left)))))) (zjcc (sps [yI (szR (tot x.ve) (szR (tot x.xK) (szR (tot x.xI) (szR (tot x.xF) (szR (tot x.xn) left))))),Bv (decide ((szR (tot x.ve) (szR (tot x.xK) (szR (tot x.xI) (szR (tot x.xF) (szR (tot x.xn) left)))):Int) < 0))] (zjn (cD rfl (fun h17=>?_) (fun h17=>?_)))))
 ·skip
  refine zcr (sp (yI (-1)) (zjr (t_r (ret1 (yI (-1)) rfl rfl ⟨_,rfl,(congrArg (Value.int .i64) ?_),H.base⟩))))
  have:=zV (tot x) left
  rw [tot_RuleD] at *
  try omega
 refine qW (t_n (zcr (oF rfl (oL rfl (H.cell 0 rfl rfl) (sp (yI (szR (tot x.ve) (szR (tot x.xK) (szR (tot x.xI) (szR (tot x.xF) (szR (tot x.xn) left)))))) (sw (oq (szIntoS_ok _ x.qU (szR (tot x.ve) (szR (tot x.xK) (szR (tot x.xI) (szR (tot x.xF) (szR (tot x.xn) left))))) (H.get 5 rfl).1 qf) H fun w18 H=>?_)))))))
 have:=zV (tot x.qU) (szR (tot x.ve) (szR (tot x.xK) (szR (tot x.xI) (szR (tot x.xF) (szR (tot x.xn) left)))))
 refine sp (yI (szR (tot x.qU) (szR (tot x.ve) (szR (tot x.xK) (szR (tot x.xI) (szR (tot x.xF) (szR (tot x.xn) left))))))) (zjcc (sps [yI (szR (tot x.qU) (szR (tot x.ve) (szR (tot x.xK) (szR (tot x.xI) (szR (tot x.xF) (szR (tot x.xn) left)))))),Bv (decide ((szR (tot x.qU) (szR (tot x.ve) (szR (tot x.xK) (szR (tot x.xI) (szR (tot x.xF) (szR (tot x.xn) left))))):Int) < 0))] (zjn (cD rfl (fun h20=>?_) (fun h20=>?_)))))
 ·skip
  refine zcr (sp (yI (-1)) (zjr (t_r (ret1 (yI (-1)) rfl rfl ⟨_,rfl,(congrArg (Value.int .i64) ?_),H.base⟩))))
  have:=zV (tot x) left
  rw [tot_RuleD] at *
  try omega
 refine qW (t_n (zcr (sps [yI (szR (tot x.qU) (szR (tot x.ve) (szR (tot x.xK) (szR (tot x.xI) (szR (tot x.xF) (szR (tot x.xn) left)))))),yI (szR (tot x.qU) (szR (tot x.ve) (szR (tot x.xK) (szR (tot x.xI) (szR (tot x.xF) (szR (tot x.xn) left))))))] (zjr (ret1 (yI (szR (tot x.qU) (szR (tot x.ve) (szR (tot x.xK) (szR (tot x.xI) (szR (tot x.xF) (szR (tot x.xn) left))))))) rfl rfl ⟨_,rfl,(congrArg (Value.int .i64) ?_),H.base⟩)))))
 have:=zV (tot x) left
 rw [tot_RuleD] at *
 try omega

theorem szRuleS_ok (w:World) (x:List Xg) (left:Int) {ax:yOA} {Fx:yLN} (hx:qO.rep w Fx [Sv ax x.length cx] x) (p0:0≤left∧left≤2000000):Calls Tryz.prog 54 #[Sv ax x.length cx,yI left] w (Ret (fun v w' =>v=yI (szR (tot x) left)) w):=by
 refine en func54 ntmps54 ?_
 have H:=(St.start w).arg hx
 have nhx:=qM hx
 clear hx
 refine zcr (sp (yI 0) (zjc (sps [yI left,Sv ax x.length cx] (oN rfl (sw (o_sub left x.length rfl rfl qf (sp (yI (left - x.length)) (zjcc (sps [yI (left - x.length),Bv (decide ((left - x.length:Int) < 0))] (zjn (cD rfl (fun h1=>?_) (fun h1=>?_))))))))))))
 ·skip
  refine zcr (sp (yI (-1)) (zjr (t_r (ret1 (yI (-1)) rfl rfl ⟨_,rfl,(congrArg (Value.int .i64) ?_),H.base⟩))))
  have:=zV (tot x) left
  have:=len_tot x
  omega
 refine qW (t_n (zcc (sp (yI 0) (zjn (qX ?_)))))
 refine zD (fun m' ρ w2=>∃ (xY:Env) (k:Nat) (r:Int),ρ=upd (upd (upd xY 0 (Sv ax x.length cx)) 1 (yI r)) 5 (yI k)∧(k≤x.length)∧(r=left - (x.length:Int) - (totTo x k:Nat))∧(0≤r)∧m' =x.length - k∧St w w2 [] [sF false Fx ax cx x]) (x.length - 0) ⟨_,0,left - (x.length:Int),uE3,qf,(by rw [totTo_zero];omega),qf,rfl,H⟩ ?_
 clear H
 rintro m' ρ w3 ⟨xY,k,r,rfl,i0,i1,i2,rfl,H⟩
 refine zcc (sps [yI k,Sv ax x.length cx] (oN rfl (sp (Bv (decide ((k:Int) < x.length))) (zjn (cD rfl (fun h4=>?_) (fun h4=>?_))))))
 ·skip
  refine qW (t_n (xQ (qX (zcr (sps [Sv ax x.length cx,yI k] ?_)))))
  obtain ⟨b5,o6,rfl⟩:=H.addr 0 rfl qf
  obtain ⟨ae7Need,ce7Need,Fe7Need,ae7Have,ce7Have,Fe7Have,ae7Lack,ce7Lack,Fe7Lack,ae7Here,ce7Here,Fe7Here,ae7Out,ce7Out,Fe7Out,ae7Into,ce7Into,Fe7Into,H⟩:=H.yF 0 rfl k k qf qf qf
  refine oI rfl rfl (sw (zl [yI ((x[k]!).qG),yI ((x[k]!).zS),Sv ae7Need (((x[k]!).xn).length) ce7Need,Sv ae7Have (((x[k]!).xF).length) ce7Have,Sv ae7Lack (((x[k]!).xI).length) ce7Lack,Sv ae7Here (((x[k]!).xK).length) ce7Here,Sv ae7Out (((x[k]!).ve).length) ce7Out,Sv ae7Into (((x[k]!).qU).length) ce7Into,Bv ((x[k]!).zH)] isAgg111 sizeOf111 rfl (qF (H.get 6 rfl) 0 9) (sp (yI r) (sw (oq (szRule_ok _ (x[k]!) r (H.get 0 rfl).1 (H.get 1 rfl).1 (H.get 2 rfl).1 (H.get 3 rfl).1 (H.get 4 rfl).1 (H.get 5 rfl).1 qf) H fun w8 H=>?_)))))
  have:=zV (tot (x[k]!)) r
  refine sp (yI (szR (tot (x[k]!)) r)) (zjc (sps [yI (szR (tot (x[k]!)) r),Bv (decide ((szR (tot (x[k]!)) r:Int) < 0))] (zjn (cD rfl (fun h10=>?_) (fun h10=>?_)))))
  ·skip
   refine zcr (sp (yI (-1)) (zjr (zr5 (ret1 (yI (-1)) rfl rfl ⟨_,rfl,(congrArg (Value.int .i64) ?_),H.base⟩))))
   have:=zV (tot x) left
   have:=tot_get (l:=x) (k:=k) qf
   omega
  refine qW (b_n (t_n (xO (sp (yI k) (sw (zB k 1 rfl rfl qf (sp (yI (k+1)) (xM (qY (m' :=x.length - (k+1)) qf ⟨_,k+1,szR (tot (x[k]!)) r,uE3,?_,?_,?_,rfl,H.sel _ (.refl _) _ qm⟩)))))))))
  · omega
  · rw [totTo_succ];omega
  · omega
 refine zx4 (zcr (sps [yI r,yI r] (zjr (ret1 (yI r) rfl rfl ⟨_,rfl,(congrArg (Value.int .i64) ?_),H.base⟩))))
 obtain rfl:k=x.length:=by omega
 have:=zV (tot x) left
 rw [tot_list] at *
 omega

theorem szSystem_ok (w:World) (x:qI) (left:Int) {jq:yOA} {QF:yLN} {QE:yOA} {Vp:yLN} (Xa:qO.rep w QF [Sv jq x.qw.length jo] x.qw) (Yi:qO.rep w Vp [Sv QE x.qx.length QC] x.qx) (p0:0≤left∧left≤2000000):Calls Tryz.prog 14 #[.agg #[yI x.xB,Sv jq x.qw.length jo,Sv QE x.qx.length QC],yI left] w (Ret (fun v w' =>v=yI (szR (tot x) left)) w):=by
 refine en func14 ntmps14 ?_
 have H:=((St.start w).arg Yi).arg Xa
 have nhxParents:=qM Xa
 have nhxRules:=qM Yi
 clear Xa Yi
 refine zcr (sw (o_box H (.agg #[yI x.xB,Sv jq x.qw.length jo,Sv QE x.qx.length QC]) rfl fun b1 w2 H=>?_))
 replace H:St _ _ [.box b1 (yS x jq jo QE QC) 25] _:=H
 refine sp (yI 0) (zjc (oF rfl (oL rfl (H.cell 0 rfl rfl) (sp (yI left) (sw (oq (Ve _ x.qw left (H.get 0 rfl).1 qf) H fun w3 H=>?_))))))
 have:=zV (tot x.qw) left
 refine sp (yI (szR (tot x.qw) left)) (zjcc (sps [yI (szR (tot x.qw) left),Bv (decide ((szR (tot x.qw) left:Int) < 0))] (zjn (cD rfl (fun h5=>?_) (fun h5=>?_)))))
 ·skip
  refine zcr (sp (yI (-1)) (zjr (t_r (ret1 (yI (-1)) rfl rfl ⟨_,rfl,(congrArg (Value.int .i64) ?_),H.base⟩))))
  have:=zV (tot x) left
  rw [tot_SystemD] at *
  try omega
 refine qW (t_n (zcr (oF rfl (oL rfl (H.cell 0 rfl rfl) (sp (yI (szR (tot x.qw) left)) (sw (oq (szRuleS_ok _ x.qx (szR (tot x.qw) left) (H.get 1 rfl).1 qf) H fun w6 H=>?_)))))))
 have:=zV (tot x.qx) (szR (tot x.qw) left)
 refine sp (yI (szR (tot x.qx) (szR (tot x.qw) left))) (zjcc (sps [yI (szR (tot x.qx) (szR (tot x.qw) left)),Bv (decide ((szR (tot x.qx) (szR (tot x.qw) left):Int) < 0))] (zjn (cD rfl (fun h8=>?_) (fun h8=>?_)))))
 ·skip
  refine zcr (sp (yI (-1)) (zjr (t_r (ret1 (yI (-1)) rfl rfl ⟨_,rfl,(congrArg (Value.int .i64) ?_),H.base⟩))))
  have:=zV (tot x) left
  rw [tot_SystemD] at *
  try omega
 refine qW (t_n (zcr (sps [yI (szR (tot x.qx) (szR (tot x.qw) left)),yI (szR (tot x.qx) (szR (tot x.qw) left))] (zjr (ret1 (yI (szR (tot x.qx) (szR (tot x.qw) left))) rfl rfl ⟨_,rfl,(congrArg (Value.int .i64) ?_),H.base⟩)))))
 have:=zV (tot x) left
 rw [tot_SystemD] at *
 try omega

theorem szState_ok (w:World) (x:qH) (left:Int) {Qp:yOA} {X8:yLN} {Xr:yOA} {Ja:yLN} {jT:yOA} {Q5:yLN} (Yj:qO.rep w X8 [Sv Qp x.qA.length Qo] x.qA) (hxBags:qO.rep w Ja [Sv Xr x.qE.length Xq] x.qE) (XW:qO.rep w Q5 [Sv jT x.qy.length jR] x.qy) (p0:0≤left∧left≤2000000):Calls Tryz.prog 15 #[.agg #[Sv Qp x.qA.length Qo,Sv Xr x.qE.length Xq,Sv jT x.qy.length jR],yI left] w (Ret (fun v w' =>v=yI (szR (tot x) left)) w):=by
 refine en func15 ntmps15 ?_
 have H:=(((St.start w).arg XW).arg hxBags).arg Yj
 have nhxAlive:=qM Yj
 have nhxBags:=qM hxBags
 have nhxAround:=qM XW
 clear Yj hxBags XW
 refine zcr (sw (o_box H (.agg #[Sv Qp x.qA.length Qo,Sv Xr x.qE.length Xq,Sv jT x.qy.length jR]) rfl fun b1 w2 H=>?_))
 replace H:St _ _ [.box b1 (yT x Qp Qo Xr Xq jT jR) 29] _:=H
 refine sp (yI 0) (zjc (oF rfl (oL rfl (H.cell 0 rfl rfl) (sp (yI left) (sw (oq (szBoolS_ok _ x.qA left (H.get 0 rfl).1 qf) H fun w3 H=>?_))))))
 have:=zV (tot x.qA) left
 refine sp (yI (szR (tot x.qA) left)) (zjcc (sps [yI (szR (tot x.qA) left),Bv (decide ((szR (tot x.qA) left:Int) < 0))] (zjn (cD rfl (fun h5=>?_) (fun h5=>?_)))))
 ·skip
  refine zcr (sp (yI (-1)) (zjr (t_r (ret1 (yI (-1)) rfl rfl ⟨_,rfl,(congrArg (Value.int .i64) ?_),H.base⟩))))
  have:=zV (tot x) left
  rw [tot_StateD] at *
  try omega
 refine qW (t_n (zcr (oF rfl (oL rfl (H.cell 0 rfl rfl) (sp (yI (szR (tot x.qA) left)) (sw (oq (szInt64SS_ok _ x.qE (szR (tot x.qA) left) (H.get 1 rfl).1 qf) H fun w6 H=>?_)))))))
 have:=zV (tot x.qE) (szR (tot x.qA) left)
 refine sp (yI (szR (tot x.qE) (szR (tot x.qA) left))) (zjcc (sps [yI (szR (tot x.qE) (szR (tot x.qA) left)),Bv (decide ((szR (tot x.qE) (szR (tot x.qA) left):Int) < 0))] (zjn (cD rfl (fun h8=>?_) (fun h8=>?_)))))
 ·skip
  refine zcr (sp (yI (-1)) (zjr (t_r (ret1 (yI (-1)) rfl rfl ⟨_,rfl,(congrArg (Value.int .i64) ?_),H.base⟩))))
  have:=zV (tot x) left
  rw [tot_StateD] at *
  try omega
 refine qW (t_n (zcr (oF rfl (oL rfl (H.cell 0 rfl rfl) (sp (yI (szR (tot x.qE) (szR (tot x.qA) left))) (sw (oq (Ve _ x.qy (szR (tot x.qE) (szR (tot x.qA) left)) (H.get 2 rfl).1 qf) H fun w9 H=>?_)))))))
 have:=zV (tot x.qy) (szR (tot x.qE) (szR (tot x.qA) left))
 refine sp (yI (szR (tot x.qy) (szR (tot x.qE) (szR (tot x.qA) left)))) (zjcc (sps [yI (szR (tot x.qy) (szR (tot x.qE) (szR (tot x.qA) left))),Bv (decide ((szR (tot x.qy) (szR (tot x.qE) (szR (tot x.qA) left)):Int) < 0))] (zjn (cD rfl (fun h11=>?_) (fun h11=>?_)))))
 ·skip
  refine zcr (sp (yI (-1)) (zjr (t_r (ret1 (yI (-1)) rfl rfl ⟨_,rfl,(congrArg (Value.int .i64) ?_),H.base⟩))))
  have:=zV (tot x) left
  rw [tot_StateD] at *
  try omega
 refine qW (t_n (zcr (sps [yI (szR (tot x.qy) (szR (tot x.qE) (szR (tot x.qA) left))),yI (szR (tot x.qy) (szR (tot x.qE) (szR (tot x.qA) left)))] (zjr (ret1 (yI (szR (tot x.qy) (szR (tot x.qE) (szR (tot x.qA) left)))) rfl rfl ⟨_,rfl,(congrArg (Value.int .i64) ?_),H.base⟩)))))
 have:=zV (tot x) left
 rw [tot_StateD] at *
 try omega

theorem Vd (w:World) (x:yLI) {ax:yOA} {Fx:yLN} (hx:qO.rep w Fx [Sv ax x.length cx] x) (p0:tot x≤2000000):Calls Tryz.prog 59 #[Sv ax x.length cx] w (Ret (fun v w' =>OwnNew w w' 2 v x) w):=by
 refine en func59 ntmps59 ?_
 have H:=(St.start w).arg hx
 have nhx:=qM hx
 clear hx
 have p1:=len_tot x
 refine zcr (sp yN (zjc (sp (Sv ax x.length cx) (oN rfl (sw (o_make1 H underlying22 ti2 rfl x.length rfl rfl qf qf fun b1 w2 H=>?_))))))
 replace H:St _ _ [.box b1 (List.replicate x.length (yI 0)) 2] _:=H
 refine sp (Sv (aa b1 0) x.length x.length) (zjcc (sp (yI 0) (zjn (qX ?_))))
 refine zD (fun m' ρ w3=>∃ (xY:Env) (k:Nat),ρ=upd (upd (upd (upd xY 0 (Sv ax x.length cx)) 2 yN) 3 (Sv (aa b1 0) x.length x.length)) 4 (yI k)∧(k≤x.length)∧m' =x.length - k∧St w w3 [.box b1 ((x.take k).map (Value.int .i64)++List.replicate (x.length - (k)) (yI 0)) 2] [sF false Fx ax cx x]) (x.length - 0) ⟨_,0,uE4,qf,rfl,H⟩ ?_
 clear H
 rintro m' ρ w4 ⟨xY,k,rfl,i0,rfl,H⟩
 refine zcc (sps [yI k,Sv ax x.length cx] (oN rfl (sp (Bv (decide ((k:Int) < x.length))) (zjn (cD rfl (fun h5=>?_) (fun h5=>?_))))))
 ·skip
  refine qW (t_n (xQ (qX (xO (sps [Sv (aa b1 0) x.length x.length,yI k,Sv ax x.length cx,yI k] ?_)))))
  obtain ⟨b6,o7,rfl⟩:=H.addr 0 rfl qf
  refine oI rfl rfl (oL rfl (H.jY 0 rfl k qf qf) (oI rfl rfl (sw (QA H 0 rfl (yI (x[k]!)) sizeOf2 rfl rfl rfl (by simp only [List.length_append,List.length_replicate];have:((x.take k).map (Value.int .i64)).length=k:=(by (simp;omega));omega) fun w9 H=>?_))))
  rw [fill_set (k:=k) (by (simp;omega)) qm qf] at H
  replace H:St _ _ [.box b1 ((x.take k).map (Value.int .i64)++[yI (x[k]!)]++List.replicate (x.length - (k+1)) (yI 0)) 2] _:=H
  refine xM (b_n (t_n (xO (sp (yI k) (sw (zB k 1 rfl rfl qf (sp (yI (k+1)) (xM ?_))))))))
  rw [show (x.take k).map (Value.int .i64)++[yI (x[k]!)]=(x.take (k+1)).map (Value.int .i64) from by exact map_take_snoc _ qf] at H
  refine qY (m' :=x.length - (k+1)) qf ⟨_,k+1,uE4,?_,rfl,H⟩
  · omega
 refine zx4 (zcr (sps [Sv (aa b1 0) x.length x.length,Sv (aa b1 0) x.length x.length] (zjr (ret1 (Sv (aa b1 0) x.length x.length) rfl rfl ⟨_,rfl,?_,H.base⟩))))
 rw [List.take_of_length_le (by omega:x.length≤k)] at H
 rw [fill_end1 qf] at H
 replace H:=H.boxRow 0 rfl 1 x.length (by (first | omega | (simp;done) | (simp;omega))) qp
 exact H.newInts 0 rfl qf

theorem toBoolS_ok (w:World) (x:List Bool) {ax:yOA} {Fx:yLN} (hx:qO.rep w Fx [Sv ax x.length cx] x) (p0:tot x≤2000000):Calls Tryz.prog 61 #[Sv ax x.length cx] w (Ret (fun v w' =>OwnNew w w' 4 v x) w):=by
 refine en func61 ntmps61 ?_
 have H:=(St.start w).arg hx
 have nhx:=qM hx
 clear hx
 have p1:=len_tot x
 refine zcr (sp yN (zjc (sp (Sv ax x.length cx) (oN rfl (sw (o_make1 H underlying26 ti4 rfl x.length rfl rfl qf qf fun b1 w2 H=>?_))))))
 replace H:St _ _ [.box b1 (List.replicate x.length (Bv false)) 4] _:=H
 refine sp (Sv (aa b1 0) x.length x.length) (zjcc (sp (yI 0) (zjn (qX ?_))))
 refine zD (fun m' ρ w3=>∃ (xY:Env) (k:Nat),ρ=upd (upd (upd (upd xY 0 (Sv ax x.length cx)) 2 yN) 3 (Sv (aa b1 0) x.length x.length)) 4 (yI k)∧(k≤x.length)∧m' =x.length - k∧St w w3 [.box b1 ((x.take k).map (Value.bool)++List.replicate (x.length - (k)) (Bv false)) 4] [sF false Fx ax cx x]) (x.length - 0) ⟨_,0,uE4,qf,rfl,H⟩ ?_
 clear H
 rintro m' ρ w4 ⟨xY,k,rfl,i0,rfl,H⟩
 refine zcc (sps [yI k,Sv ax x.length cx] (oN rfl (sp (Bv (decide ((k:Int) < x.length))) (zjn (cD rfl (fun h5=>?_) (fun h5=>?_))))))
 ·skip
  refine qW (t_n (xQ (qX (xO (sps [Sv (aa b1 0) x.length x.length,yI k,Sv ax x.length cx,yI k] ?_)))))
  obtain ⟨b6,o7,rfl⟩:=H.addr 0 rfl qf
  refine oI rfl rfl (oL rfl (H.XX 0 rfl k qf qf) (oI rfl rfl (sw (QA H 0 rfl (Bv (x[k]!)) sizeOf4 rfl rfl rfl (by simp only [List.length_append,List.length_replicate];have:((x.take k).map (Value.bool)).length=k:=(by (simp;omega));omega) fun w9 H=>?_))))
  rw [fill_set (k:=k) (by (simp;omega)) qm qf] at H
  replace H:St _ _ [.box b1 ((x.take k).map (Value.bool)++[Bv (x[k]!)]++List.replicate (x.length - (k+1)) (Bv false)) 4] _:=H
  refine xM (b_n (t_n (xO (sp (yI k) (sw (zB k 1 rfl rfl qf (sp (yI (k+1)) (xM ?_))))))))
  rw [show (x.take k).map (Value.bool)++[Bv (x[k]!)]=(x.take (k+1)).map (Value.bool) from by exact map_take_snoc _ qf] at H
  refine qY (m' :=x.length - (k+1)) qf ⟨_,k+1,uE4,?_,rfl,H⟩
  · omega
 refine zx4 (zcr (sps [Sv (aa b1 0) x.length x.length,Sv (aa b1 0) x.length x.length] (zjr (ret1 (Sv (aa b1 0) x.length x.length) rfl rfl ⟨_,rfl,?_,H.base⟩))))
 rw [List.take_of_length_le (by omega:x.length≤k)] at H
 rw [fill_end1 qf] at H
 replace H:=H.boxRow 0 rfl 1 x.length (by (first | omega | (simp;done) | (simp;omega))) qp
 exact H.newBools 0 rfl qf

theorem toInt64SS_ok (w:World) (x:yLL) {ax:yOA} {Fx:yLN} (hx:qO.rep w Fx [Sv ax x.length cx] x) (p0:tot x≤2000000):Calls Tryz.prog 62 #[Sv ax x.length cx] w (Ret (fun v w' =>OwnNew w w' 22 v x) w):=by
 refine en func62 ntmps62 ?_
 have H:=(St.start w).arg hx
 have nhx:=qM hx
 clear hx
 have p1:=len_tot x
 refine zcr (sp yN (zjc (sp (Sv ax x.length cx) (oN rfl (sw (o_make1 H underlying27 ti22 rfl x.length rfl rfl qf qf fun b1 w2 H=>?_))))))
 replace H:St _ _ [.box b1 (List.replicate x.length yN) 22] _:=H
 refine sp (Sv (aa b1 0) x.length x.length) (zjcc (sp (yI 0) (zjn (qX ?_))))
 replace H:=H.vT (α:=yLI)
 refine zD (fun m' ρ w3=>∃ (xY:Env) (k:Nat) (xs3:List Value) (Fr3:yLN),ρ=upd (upd (upd (upd xY 0 (Sv ax x.length cx)) 2 yN) 3 (Sv (aa b1 0) x.length x.length)) 4 (yI k)∧(k≤x.length)∧(xs3.length=k * 1)∧(∀ b∈Fr3,w.heap.size≤b)∧(Fr3.Nodup)∧m' =x.length - k∧St w w3 [.box b1 (xs3++List.replicate (x.length - (k)) yN) 22] [zf true Fr3 xs3 (x.take k),sF false Fx ax cx x]) (x.length - 0) ⟨_,0,[],[],uE4,qf,(by rfl),qm,qm,rfl,H⟩ ?_
 clear H
 rintro m' ρ w4 ⟨xY,k,xs3,Fr3,rfl,i0,hl3,nf3,nd3,rfl,H⟩
 have p2:=fun h=>tot_get (l:=x) (k:=k) h
 refine zcc (sps [yI k,Sv ax x.length cx] (oN rfl (sp (Bv (decide ((k:Int) < x.length))) (zjn (cD rfl (fun h5=>?_) (fun h5=>?_))))))
 ·skip
  refine qW (t_n (xQ (qX (xO (sps [Sv (aa b1 0) x.length x.length,yI k,Sv ax x.length cx,yI k] ?_)))))
  obtain ⟨b6,o7,rfl⟩:=H.addr 1 rfl qf
  obtain ⟨ae8,ce8,Fe8,H⟩:=H.vV 1 rfl k k qf qf qf
  refine oI rfl rfl (oL rfl (H.xW 1 rfl 0 rfl) ?_)
  have szx10:=H.base.size
  have lt11:=H.repsLt 2 rfl
  refine sw (oc (Vd _ (x[k]!) (H.get 0 rfl).1 (by first | omega | (have:=p2 qf;omega))) ?_)
  rintro v12 w9 r12 x10
  obtain ⟨a12,c12,F12,rfl,f12,H⟩:=H.add_is x10 r12.isNew
  have d12:=f12.2
  have q12:=f12.1
  replace f12:∀ b∈F12,w.heap.size≤b:=fun b hb=>Nat.le_trans szx10 (f12.1 b hb)
  refine oI rfl rfl (sw (QA H 0 rfl (Sv a12 ((x[k]!).length) c12) sizeOf22 rfl rfl rfl (by simp only [List.length_append,List.length_replicate];have:(xs3).length=k:=(by (omega));omega) fun w14 H=>?_))
  rw [fill_set (k:=k) (by (omega)) qm qf] at H
  replace H:St _ _ [.box b1 (xs3++[Sv a12 ((x[k]!).length) c12]++List.replicate (x.length - (k+1)) yN) 22] _:=H
  refine xM (b_n (t_n (xO (sp (yI k) (sw (zB k 1 rfl rfl qf (sp (yI (k+1)) (xM ?_))))))))
  replace H:=H.jd 3 rfl 0 rfl
  rw [show (x.take k)++[(x[k]!)]=x.take (k+1) from by exact take_snoc qf] at H
  refine qY (m' :=x.length - (k+1)) qf ⟨_,k+1,(xs3++[Sv a12 ((x[k]!).length) c12]),(Fr3++F12),uE4,?_,?_,?_,?_,rfl,H.sel _ (.refl _) _ qm⟩
  · omega
  · first | (simp only [List.length_append,List.length_cons,List.length_nil];omega) | (simp [hl3];done) | (simp;omega)
  · exact X7 nf3 f12
  · exact X6 nd3 d12 lt11 q12
 refine zx4 (zcr (sps [Sv (aa b1 0) x.length x.length,Sv (aa b1 0) x.length x.length] (zjr (ret1 (Sv (aa b1 0) x.length x.length) rfl rfl ⟨_,rfl,?_,H.base⟩))))
 rw [List.take_of_length_le (by omega:x.length≤k)] at H
 rw [fill_end1 qf] at H
 replace H:=H.boxRow 0 rfl 1 x.length qf qp
 exact H.newRow 0 rfl 0 rfl qf ql ql

theorem toInto_ok (w:World) (x:IntoD) {axBag:yOA} {FxBag:yLN} (hxBag:qO.rep w FxBag [Sv axBag x.jJ.length cxBag] x.jJ) (p0:tot x≤2000000):Calls Tryz.prog 172 #[.agg #[yI x.qG,Sv axBag x.jJ.length cxBag]] w (Ret (fun v w' =>New_IntoD w w' v x) w):=by
 refine en func172 ntmps172 ?_
 have H:=(St.start w).arg hxBag
 have nhxBag:=qM hxBag
 clear hxBag
 have p1:=tot_IntoD x
 refine zcr (sw (o_box H (.agg #[yI x.qG,Sv axBag x.jJ.length cxBag]) rfl fun b1 w2 H=>sw (o_alloc H ti164 fun b3 w4 H=>zjc (sw (o_alloc H ti164 fun b5 w6 H=>zjc (oF rfl (oL rfl (H.cell 2 rfl rfl) (oF rfl (sw (QA H 0 rfl (yI x.qG) sizeOf2 rfl rfl rfl (Nat.le_of_ble_eq_true rfl) fun w7 H=>?_))))))))))
 replace H:St _ _ [.box b5 [yI x.qG,yN] 164,.box b3 [yI 0,yN] 164,.box b1 [yI x.qG,Sv axBag x.jJ.length cxBag] 190] _:=H
 refine zjc (oF rfl (oL rfl (H.cell 2 rfl rfl) ?_))
 have szx9:=H.base.size
 refine sw (oc (Vd _ x.jJ (H.get 0 rfl).1 (by first | omega | (have:=p2 qf;omega))) ?_)
 rintro v10 w8 r10 x9
 obtain ⟨a10,c10,F10,rfl,f10,H⟩:=H.add_is x9 r10.isNew
 have d10:=f10.2
 have q10:=f10.1
 replace f10:∀ b∈F10,w.heap.size≤b:=fun b hb=>Nat.le_trans szx9 (f10.1 b hb)
 refine oF rfl (sw (QA H 0 rfl (Sv a10 x.jJ.length c10) sizeOf22 rfl rfl rfl (Nat.le_of_ble_eq_true rfl) fun w11 H=>?_))
 replace H:St _ _ [.box b5 [yI x.qG,Sv a10 x.jJ.length c10] 164,.box b3 [yI 0,yN] 164,.box b1 [yI x.qG,Sv axBag x.jJ.length cxBag] 190] _:=H
 refine zjc (sw (zl [yI x.qG,Sv a10 x.jJ.length c10] isAgg164 sizeOf164 rfl (qF (H.cells 0 rfl) 0 2) (sw (o_store H 1 rfl (.agg #[yI x.qG,Sv a10 x.jJ.length c10]) sizeOf164 rfl rfl (by simp [Value.oneCell',Value.cells]) (Nat.le_of_ble_eq_true rfl) fun w12 H=>?_))))
 replace H:St _ _ [.box b5 [yI x.qG,Sv a10 x.jJ.length c10] 164,.box b3 [yI x.qG,Sv a10 x.jJ.length c10] 164,.box b1 [yI x.qG,Sv axBag x.jJ.length cxBag] 190] _:=H
 refine zjr (retC H 1 rfl rfl isAgg164 sizeOf164 rfl ⟨_,rfl,(⟨_,_,_,rfl,(H.get 0 rfl).1,f10,d10,((H.get 0 rfl).2 rfl)⟩),H.base⟩)

theorem toIntoS_ok (w:World) (x:List IntoD) {ax:yOA} {Fx:yLN} (hx:qO.rep w Fx [Sv ax x.length cx] x) (p0:tot x≤2000000):Calls Tryz.prog 137 #[Sv ax x.length cx] w (Ret (fun v w' =>OwnNew w w' 164 v x) w):=by
 refine en func137 ntmps137 ?_
 have H:=(St.start w).arg hx
 have nhx:=qM hx
 clear hx
 have p1:=len_tot x
 refine zcr (sp yN (zjc (sp (Sv ax x.length cx) (oN rfl (sw (o_makeN H underlying119 ti164 rfl qj x.length rfl rfl qf qf fun b1 w2 H=>?_))))))
 replace H:St _ _ [.box b1 ((List.replicate x.length [yI 0,yN]).flatten) 164] _:=H
 refine sp (Sv (aa b1 0) x.length x.length) (zjcc (sp (yI 0) (zjn (qX ?_))))
 replace H:=H.vT (α:=IntoD)
 refine zD (fun m' ρ w3=>∃ (xY:Env) (k:Nat) (xs3:List Value) (Fr3:yLN),ρ=upd (upd (upd (upd xY 0 (Sv ax x.length cx)) 2 yN) 3 (Sv (aa b1 0) x.length x.length)) 4 (yI k)∧(k≤x.length)∧(xs3.length=k * 2)∧(∀ b∈Fr3,w.heap.size≤b)∧(Fr3.Nodup)∧m' =x.length - k∧St w w3 [.box b1 (xs3++(List.replicate (x.length - (k)) [yI 0,yN]).flatten) 164] [zf true Fr3 xs3 (x.take k),sF false Fx ax cx x]) (x.length - 0) ⟨_,0,[],[],uE4,qf,(by rfl),qm,qm,rfl,H⟩ ?_
 clear H
 rintro m' ρ w4 ⟨xY,k,xs3,Fr3,rfl,i0,hl3,nf3,nd3,rfl,H⟩
 have p2:=fun h=>tot_get (l:=x) (k:=k) h
 refine zcc (sps [yI k,Sv ax x.length cx] (oN rfl (sp (Bv (decide ((k:Int) < x.length))) (zjn (cD rfl (fun h5=>?_) (fun h5=>?_))))))
 ·skip
  refine qW (t_n (xQ (qX (xO (sps [Sv (aa b1 0) x.length x.length,yI k,Sv ax x.length cx,yI k] ?_)))))
  obtain ⟨b6,o7,rfl⟩:=H.addr 1 rfl qf
  obtain ⟨ae8Bag,ce8Bag,Fe8Bag,H⟩:=H.yh 1 rfl k k qf qf qf
  refine oI rfl rfl (sw (zl [yI ((x[k]!).qG),Sv ae8Bag (((x[k]!).jJ).length) ce8Bag] isAgg190 sizeOf190 rfl (qF (H.get 1 rfl) 0 2) ?_))
  have szx10:=H.base.size
  have lt11:=H.repsLt 2 rfl
  refine sw (oc (toInto_ok _ (x[k]!) (H.get 0 rfl).1 qf) ?_)
  rintro v12 w9 r12 x10
  obtain ⟨a12Bag,c12Bag,F12Bag,rfl,f12,H⟩:=H.add_IntoD x10 r12
  have d12:=f12.2
  have q12:=f12.1
  replace f12:∀ b∈F12Bag,w.heap.size≤b:=fun b hb=>Nat.le_trans szx10 (f12.1 b hb)
  refine oI rfl rfl (sw (o_store H 0 rfl (.agg #[yI ((x[k]!).qG),Sv a12Bag (((x[k]!).jJ).length) c12Bag]) sizeOf164 rfl rfl (by simp [Value.oneCell',Value.cells]) (by have:(xs3).length=k * 2:=(by (exact hl3));simp [Value.cells];have:=fill_room (n:=x.length) (k:=k) (s:=2) qf;simp at this;omega) fun w14 H=>?_))
  replace H:St _ _ [.box b1 (xs3++[yI ((x[k]!).qG),Sv a12Bag (((x[k]!).jJ).length) c12Bag]++(List.replicate (x.length - (k+1)) [yI 0,yN]).flatten) 164] _:=(fill_put (vs:=[yI ((x[k]!).qG),Sv a12Bag (((x[k]!).jJ).length) c12Bag]) (zs:=[yI 0,yN]) (off:=0+(k:Int).toNat * 2) (xs:=xs3) (k:=k) (s:=2) (n:=x.length) (by (exact hl3)) qm rfl rfl qf)▸H
  replace H:St _ _ [.box b1 (xs3++[yI ((x[k]!).qG),Sv a12Bag (((x[k]!).jJ).length) c12Bag]++(List.replicate (x.length - (k+1)) [yI 0,yN]).flatten) 164] _:=H
  refine xM (b_n (t_n (xO (sp (yI k) (sw (zB k 1 rfl rfl qf (sp (yI (k+1)) (xM ?_))))))))
  replace H:=H.snoc_IntoD 3 rfl ((x[k]!).qG) 0 rfl
  rw [show (x.take k)++[⟨(x[k]!).qG,(x[k]!).jJ⟩]=x.take (k+1) from by exact take_snoc qf] at H
  refine qY (m' :=x.length - (k+1)) qf ⟨_,k+1,(xs3++[yI ((x[k]!).qG),Sv a12Bag (((x[k]!).jJ).length) c12Bag]),(Fr3++F12Bag),uE4,?_,?_,?_,?_,rfl,H.sel _ (.refl _) _ qm⟩
  · omega
  · first | (simp only [List.length_append,List.length_cons,List.length_nil];omega) | (simp [hl3];done) | (simp;omega)
  · exact X7 nf3 f12
  · exact X6 nd3 d12 lt11 q12
 refine zx4 (zcr (sps [Sv (aa b1 0) x.length x.length,Sv (aa b1 0) x.length x.length] (zjr (ret1 (Sv (aa b1 0) x.length x.length) rfl rfl ⟨_,rfl,?_,H.base⟩))))
 rw [List.take_of_length_le (by omega:x.length≤k)] at H
 rw [fill_endN qf] at H
 replace H:=H.boxRow 0 rfl 2 x.length qf qp
 exact H.newRow 0 rfl 0 rfl qf ql ql

theorem toRule_ok (w:World) (x:Xg) {Yz:yOA} {FxNeed:yLN} {YD:yOA} {FxHave:yLN} {YA:yOA} {FxLack:yLN} {YC:yOA} {FxHere:yLN} {axOut:yOA} {FxOut:yLN} {YB:yOA} {FxInto:yLN} (hxNeed:qO.rep w FxNeed [Sv Yz x.xn.length Yn] x.xn) (hxHave:qO.rep w FxHave [Sv YD x.xF.length Yr] x.xF) (hxLack:qO.rep w FxLack [Sv YA x.xI.length Yo] x.xI) (hxHere:qO.rep w FxHere [Sv YC x.xK.length Yq] x.xK) (hxOut:qO.rep w FxOut [Sv axOut x.ve.length cxOut] x.ve) (hxInto:qO.rep w FxInto [Sv YB x.qU.length Yp] x.qU) (p0:tot x≤2000000):Calls Tryz.prog 103 #[.agg #[yI x.qG,yI x.zS,Sv Yz x.xn.length Yn,Sv YD x.xF.length Yr,Sv YA x.xI.length Yo,Sv YC x.xK.length Yq,Sv axOut x.ve.length cxOut,Sv YB x.qU.length Yp,Bv x.zH]] w (Ret (fun v w' =>New_RuleD w w' v x) w):=by
 refine en func103 ntmps103 ?_
 have H:=((((((St.start w).arg hxInto).arg hxOut).arg hxHere).arg hxLack).arg hxHave).arg hxNeed
 have nhxNeed:=qM hxNeed
 have nhxHave:=qM hxHave
 have nhxLack:=qM hxLack
 have nhxHere:=qM hxHere
 have nhxOut:=qM hxOut
 have nhxInto:=qM hxInto
 clear hxNeed hxHave hxLack hxHere hxOut hxInto
 have p1:=tot_RuleD x
 refine zcr (sw (o_box H (.agg #[yI x.qG,yI x.zS,Sv Yz x.xn.length Yn,Sv YD x.xF.length Yr,Sv YA x.xI.length Yo,Sv YC x.xK.length Yq,Sv axOut x.ve.length cxOut,Sv YB x.qU.length Yp,Bv x.zH]) rfl fun b1 w2 H=>sw (o_alloc H ti121 fun b3 w4 H=>zjc (sw (o_alloc H ti121 fun b5 w6 H=>zjc (oF rfl (oL rfl (H.cell 2 rfl rfl) (oF rfl (sw (QA H 0 rfl (yI x.qG) sizeOf2 rfl rfl rfl (Nat.le_of_ble_eq_true rfl) fun w7 H=>zjc (oF rfl (oL rfl (H.cell 2 rfl rfl) (oF rfl ?_)))))))))))))
 refine sw (QA H 0 rfl (yI x.zS) sizeOf2 rfl rfl rfl (Nat.le_of_ble_eq_true rfl) fun w8 H=>?_)
 replace H:St _ _ [.box b5 [yI x.qG,yI x.zS,yN,yN,yN,yN,yN,yN,Bv false] 121,.box b3 [yI 0,yI 0,yN,yN,yN,yN,yN,yN,Bv false] 121,.box b1 [yI x.qG,yI x.zS,Sv Yz x.xn.length Yn,Sv YD x.xF.length Yr,Sv YA x.xI.length Yo,Sv YC x.xK.length Yq,Sv axOut x.ve.length cxOut,Sv YB x.qU.length Yp,Bv x.zH] 111] _:=H
 refine zjc (oF rfl (oL rfl (H.cell 2 rfl rfl) ?_))
 have szx10:=H.base.size
 refine sw (oc (Vd _ x.xn (H.get 0 rfl).1 (by first | omega | (have:=p2 qf;omega))) ?_)
 rintro v11 w9 r11 x10
 obtain ⟨a11,c11,F11,rfl,f11,H⟩:=H.add_is x10 r11.isNew
 have d11:=f11.2
 have q11:=f11.1
 replace f11:∀ b∈F11,w.heap.size≤b:=fun b hb=>Nat.le_trans szx10 (f11.1 b hb)
 refine oF rfl (sw (QA H 0 rfl (Sv a11 x.xn.length c11) sizeOf22 rfl rfl rfl (Nat.le_of_ble_eq_true rfl) fun w12 H=>?_))
 replace H:St _ _ [.box b5 [yI x.qG,yI x.zS,Sv a11 x.xn.length c11,yN,yN,yN,yN,yN,Bv false] 121,.box b3 [yI 0,yI 0,yN,yN,yN,yN,yN,yN,Bv false] 121,.box b1 [yI x.qG,yI x.zS,Sv Yz x.xn.length Yn,Sv YD x.xF.length Yr,Sv YA x.xI.length Yo,Sv YC x.xK.length Yq,Sv axOut x.ve.length cxOut,Sv YB x.qU.length Yp,Bv x.zH] 111] _:=H
 refine zjc (oF rfl (oL rfl (H.cell 2 rfl rfl) ?_))
 have szx14:=H.base.size
 have lt15:=H.isLt 0 rfl
 refine sw (oc (Vd _ x.xF (H.get 2 rfl).1 (by first | omega | (have:=p2 qf;omega))) ?_)
 rintro v16 w13 r16 x14
 obtain ⟨a16,c16,F16,rfl,f16,H⟩:=H.add_is x14 r16.isNew
 have d16:=f16.2
 have q16:=f16.1
 replace f16:∀ b∈F16,w.heap.size≤b:=fun b hb=>Nat.le_trans szx14 (f16.1 b hb)
 refine oF rfl (sw (QA H 0 rfl (Sv a16 x.xF.length c16) sizeOf22 rfl rfl rfl (Nat.le_of_ble_eq_true rfl) fun w17 H=>?_))
 replace H:St _ _ [.box b5 [yI x.qG,yI x.zS,Sv a11 x.xn.length c11,Sv a16 x.xF.length c16,yN,yN,yN,yN,Bv false] 121,.box b3 [yI 0,yI 0,yN,yN,yN,yN,yN,yN,Bv false] 121,.box b1 [yI x.qG,yI x.zS,Sv Yz x.xn.length Yn,Sv YD x.xF.length Yr,Sv YA x.xI.length Yo,Sv YC x.xK.length Yq,Sv axOut x.ve.length cxOut,Sv YB x.qU.length Yp,Bv x.zH] 111] _:=H
 refine zjc (oF rfl (oL rfl (H.cell 2 rfl rfl) ?_))
 have szx19:=H.base.size
 have lt20:=H.isLt 0 rfl
 have lt21:=H.isLt 1 rfl
 refine sw (oc (Vd _ x.xI (H.get 4 rfl).1 (by first | omega | (have:=p2 qf;omega))) ?_)
 rintro v22 w18 r22 x19
 obtain ⟨a22,c22,F22,rfl,f22,H⟩:=H.add_is x19 r22.isNew
 have d22:=f22.2
 have q22:=f22.1
 replace f22:∀ b∈F22,w.heap.size≤b:=fun b hb=>Nat.le_trans szx19 (f22.1 b hb)
 refine oF rfl (sw (QA H 0 rfl (Sv a22 x.xI.length c22) sizeOf22 rfl rfl rfl (Nat.le_of_ble_eq_true rfl) fun w23 H=>?_))
 replace H:St _ _ [.box b5 [yI x.qG,yI x.zS,Sv a11 x.xn.length c11,Sv a16 x.xF.length c16,Sv a22 x.xI.length c22,yN,yN,yN,Bv false] 121,.box b3 [yI 0,yI 0,yN,yN,yN,yN,yN,yN,Bv false] 121,.box b1 [yI x.qG,yI x.zS,Sv Yz x.xn.length Yn,Sv YD x.xF.length Yr,Sv YA x.xI.length Yo,Sv YC x.xK.length Yq,Sv axOut x.ve.length cxOut,Sv YB x.qU.length Yp,Bv x.zH] 111] _:=H
 refine zjc (oF rfl (oL rfl (H.cell 2 rfl rfl) ?_))
 have szx25:=H.base.size
 have lt26:=H.isLt 0 rfl
 have lt27:=H.isLt 1 rfl
 have lt28:=H.isLt 2 rfl
 refine sw (oc (Vd _ x.xK (H.get 6 rfl).1 (by first | omega | (have:=p2 qf;omega))) ?_)
 rintro v29 w24 r29 x25
 obtain ⟨a29,c29,F29,rfl,f29,H⟩:=H.add_is x25 r29.isNew
 have d29:=f29.2
 have q29:=f29.1
 replace f29:∀ b∈F29,w.heap.size≤b:=fun b hb=>Nat.le_trans szx25 (f29.1 b hb)
 refine oF rfl (sw (QA H 0 rfl (Sv a29 x.xK.length c29) sizeOf22 rfl rfl rfl (Nat.le_of_ble_eq_true rfl) fun w30 H=>?_))
 replace H:St _ _ [.box b5 [yI x.qG,yI x.zS,Sv a11 x.xn.length c11,Sv a16 x.xF.length c16,Sv a22 x.xI.length c22,Sv a29 x.xK.length c29,yN,yN,Bv false] 121,.box b3 [yI 0,yI 0,yN,yN,yN,yN,yN,yN,Bv false] 121,.box b1 [yI x.qG,yI x.zS,Sv Yz x.xn.length Yn,Sv YD x.xF.length Yr,Sv YA x.xI.length Yo,Sv YC x.xK.length Yq,Sv axOut x.ve.length cxOut,Sv YB x.qU.length Yp,Bv x.zH] 111] _:=H
 refine zjc (oF rfl (oL rfl (H.cell 2 rfl rfl) ?_))
 have szx32:=H.base.size
 have lt33:=H.isLt 0 rfl
 have lt34:=H.isLt 1 rfl
 have lt35:=H.isLt 2 rfl
 have lt36:=H.isLt 3 rfl
 refine sw (oc (Vd _ x.ve (H.get 8 rfl).1 (by first | omega | (have:=p2 qf;omega))) ?_)
 rintro v37 w31 r37 x32
 obtain ⟨a37,c37,F37,rfl,f37,H⟩:=H.add_is x32 r37.isNew
 have d37:=f37.2
 have q37:=f37.1
 replace f37:∀ b∈F37,w.heap.size≤b:=fun b hb=>Nat.le_trans szx32 (f37.1 b hb)
 refine oF rfl (sw (QA H 0 rfl (Sv a37 x.ve.length c37) sizeOf22 rfl rfl rfl (Nat.le_of_ble_eq_true rfl) fun w38 H=>?_))
 replace H:St _ _ [.box b5 [yI x.qG,yI x.zS,Sv a11 x.xn.length c11,Sv a16 x.xF.length c16,Sv a22 x.xI.length c22,Sv a29 x.xK.length c29,Sv a37 x.ve.length c37,yN,Bv false] 121,.box b3 [yI 0,yI 0,yN,yN,yN,yN,yN,yN,Bv false] 121,.box b1 [yI x.qG,yI x.zS,Sv Yz x.xn.length Yn,Sv YD x.xF.length Yr,Sv YA x.xI.length Yo,Sv YC x.xK.length Yq,Sv axOut x.ve.length cxOut,Sv YB x.qU.length Yp,Bv x.zH] 111] _:=H
 refine zjc (oF rfl (oL rfl (H.cell 2 rfl rfl) ?_))
 have szx40:=H.base.size
 have lt41:=H.isLt 0 rfl
 have lt42:=H.isLt 1 rfl
 have lt43:=H.isLt 2 rfl
 have lt44:=H.isLt 3 rfl
 have lt45:=H.isLt 4 rfl
 refine sw (oc (toIntoS_ok _ x.qU (H.get 10 rfl).1 (by first | omega | (have:=p2 qf;omega))) ?_)
 rintro v46 w39 r46 x40
 obtain ⟨a46,c46,F46,rfl,f46,H⟩:=H.add_is x40 r46.isNew
 have d46:=f46.2
 have q46:=f46.1
 replace f46:∀ b∈F46,w.heap.size≤b:=fun b hb=>Nat.le_trans szx40 (f46.1 b hb)
 refine oF rfl (sw (QA H 0 rfl (Sv a46 x.qU.length c46) sizeOf119 rfl rfl rfl (Nat.le_of_ble_eq_true rfl) fun w47 H=>zjc (oF rfl (oL rfl (H.cell 2 rfl rfl) (oF rfl (sw (QA H 0 rfl (Bv x.zH) sizeOf4 rfl rfl rfl (Nat.le_of_ble_eq_true rfl) fun w48 H=>?_)))))))
 replace H:St _ _ [.box b5 [yI x.qG,yI x.zS,Sv a11 x.xn.length c11,Sv a16 x.xF.length c16,Sv a22 x.xI.length c22,Sv a29 x.xK.length c29,Sv a37 x.ve.length c37,Sv a46 x.qU.length c46,Bv x.zH] 121,.box b3 [yI 0,yI 0,yN,yN,yN,yN,yN,yN,Bv false] 121,.box b1 [yI x.qG,yI x.zS,Sv Yz x.xn.length Yn,Sv YD x.xF.length Yr,Sv YA x.xI.length Yo,Sv YC x.xK.length Yq,Sv axOut x.ve.length cxOut,Sv YB x.qU.length Yp,Bv x.zH] 111] _:=H
 refine zjc (sw (zl [yI x.qG,yI x.zS,Sv a11 x.xn.length c11,Sv a16 x.xF.length c16,Sv a22 x.xI.length c22,Sv a29 x.xK.length c29,Sv a37 x.ve.length c37,Sv a46 x.qU.length c46,Bv x.zH] isAgg121 sizeOf121 rfl (qF (H.cells 0 rfl) 0 9) ?_))
 refine sw (o_store H 1 rfl (.agg #[yI x.qG,yI x.zS,Sv a11 x.xn.length c11,Sv a16 x.xF.length c16,Sv a22 x.xI.length c22,Sv a29 x.xK.length c29,Sv a37 x.ve.length c37,Sv a46 x.qU.length c46,Bv x.zH]) sizeOf121 rfl rfl (by simp [Value.oneCell',Value.cells]) (Nat.le_of_ble_eq_true rfl) fun w49 H=>?_)
 replace H:St _ _ [.box b5 [yI x.qG,yI x.zS,Sv a11 x.xn.length c11,Sv a16 x.xF.length c16,Sv a22 x.xI.length c22,Sv a29 x.xK.length c29,Sv a37 x.ve.length c37,Sv a46 x.qU.length c46,Bv x.zH] 121,.box b3 [yI x.qG,yI x.zS,Sv a11 x.xn.length c11,Sv a16 x.xF.length c16,Sv a22 x.xI.length c22,Sv a29 x.xK.length c29,Sv a37 x.ve.length c37,Sv a46 x.qU.length c46,Bv x.zH] 121,.box b1 [yI x.qG,yI x.zS,Sv Yz x.xn.length Yn,Sv YD x.xF.length Yr,Sv YA x.xI.length Yo,Sv YC x.xK.length Yq,Sv axOut x.ve.length cxOut,Sv YB x.qU.length Yp,Bv x.zH] 111] _:=H
 refine zjr (retC H 1 rfl rfl isAgg121 sizeOf121 rfl ⟨_,rfl,?_,H.base⟩)
 exact ⟨_,_,_,_,_,_,_,_,_,_,_,_,_,_,_,_,_,_,rfl,(H.get 5 rfl).1,(H.get 4 rfl).1,(H.get 3 rfl).1,(H.get 2 rfl).1,(H.get 1 rfl).1,(H.get 0 rfl).1,(X7 (X7 (X7 (X7 (X7 f11 f16) f22) f29) f37) f46),(X6 (X6 (X6 (X6 (X6 d11 d16 lt15 q16) d22 (Yk lt21 lt20) q22) d29 (Yk (Yk lt28 lt27) lt26) q29) d37 (Yk (Yk (Yk lt36 lt35) lt34) lt33) q37) d46 (Yk (Yk (Yk (Yk lt45 lt44) lt43) lt42) lt41) q46),(((((((H.get 5 rfl).2 rfl).app ((H.get 4 rfl).2 rfl)).app ((H.get 3 rfl).2 rfl)).app ((H.get 2 rfl).2 rfl)).app ((H.get 1 rfl).2 rfl)).app ((H.get 0 rfl).2 rfl))⟩

theorem toRuleS_ok (w:World) (x:List Xg) {ax:yOA} {Fx:yLN} (hx:qO.rep w Fx [Sv ax x.length cx] x) (p0:tot x≤2000000):Calls Tryz.prog 60 #[Sv ax x.length cx] w (Ret (fun v w' =>OwnNew w w' 121 v x) w):=by
 refine en func60 ntmps60 ?_
 have H:=(St.start w).arg hx
 have nhx:=qM hx
 clear hx
 have p1:=len_tot x
 refine zcr (sp yN (zjc (sp (Sv ax x.length cx) (oN rfl (sw (o_makeN H underlying34 ti121 rfl qj x.length rfl rfl qf qf fun b1 w2 H=>?_))))))
 replace H:St _ _ [.box b1 ((List.replicate x.length [yI 0,yI 0,yN,yN,yN,yN,yN,yN,Bv false]).flatten) 121] _:=H
 refine sp (Sv (aa b1 0) x.length x.length) (zjcc (sp (yI 0) (zjn (qX ?_))))
 replace H:=H.vT (α:=Xg)
 refine zD (fun m' ρ w3=>∃ (xY:Env) (k:Nat) (xs3:List Value) (Fr3:yLN),ρ=upd (upd (upd (upd xY 0 (Sv ax x.length cx)) 2 yN) 3 (Sv (aa b1 0) x.length x.length)) 4 (yI k)∧(k≤x.length)∧(xs3.length=k * 9)∧(∀ b∈Fr3,w.heap.size≤b)∧(Fr3.Nodup)∧m' =x.length - k∧St w w3 [.box b1 (xs3++(List.replicate (x.length - (k)) [yI 0,yI 0,yN,yN,yN,yN,yN,yN,Bv false]).flatten) 121] [zf true Fr3 xs3 (x.take k),sF false Fx ax cx x]) (x.length - 0) ⟨_,0,[],[],uE4,qf,(by rfl),qm,qm,rfl,H⟩ ?_
 clear H
 rintro m' ρ w4 ⟨xY,k,xs3,Fr3,rfl,i0,hl3,nf3,nd3,rfl,H⟩
 have p2:=fun h=>tot_get (l:=x) (k:=k) h
 refine zcc (sps [yI k,Sv ax x.length cx] (oN rfl (sp (Bv (decide ((k:Int) < x.length))) (zjn (cD rfl (fun h5=>?_) (fun h5=>?_))))))
 ·skip
  refine qW (t_n (xQ (qX (xO (sps [Sv (aa b1 0) x.length x.length,yI k,Sv ax x.length cx,yI k] ?_)))))
  obtain ⟨b6,o7,rfl⟩:=H.addr 1 rfl qf
  obtain ⟨ae8Need,ce8Need,Fe8Need,ae8Have,ce8Have,Fe8Have,ae8Lack,ce8Lack,Fe8Lack,ae8Here,ce8Here,Fe8Here,ae8Out,ce8Out,Fe8Out,ae8Into,ce8Into,Fe8Into,H⟩:=H.yF 1 rfl k k qf qf qf
  refine oI rfl rfl (sw (zl [yI ((x[k]!).qG),yI ((x[k]!).zS),Sv ae8Need (((x[k]!).xn).length) ce8Need,Sv ae8Have (((x[k]!).xF).length) ce8Have,Sv ae8Lack (((x[k]!).xI).length) ce8Lack,Sv ae8Here (((x[k]!).xK).length) ce8Here,Sv ae8Out (((x[k]!).ve).length) ce8Out,Sv ae8Into (((x[k]!).qU).length) ce8Into,Bv ((x[k]!).zH)] isAgg111 sizeOf111 rfl (qF (H.get 6 rfl) 0 9) ?_))
  have szx10:=H.base.size
  have lt11:=H.repsLt 7 rfl
  refine sw (oc (toRule_ok _ (x[k]!) (H.get 0 rfl).1 (H.get 1 rfl).1 (H.get 2 rfl).1 (H.get 3 rfl).1 (H.get 4 rfl).1 (H.get 5 rfl).1 qf) ?_)
  rintro v12 w9 r12 x10
  obtain ⟨a12Need,c12Need,F12Need,a12Have,c12Have,F12Have,a12Lack,c12Lack,F12Lack,a12Here,c12Here,F12Here,a12Out,c12Out,F12Out,a12Into,c12Into,F12Into,rfl,f12,H⟩:=H.add_RuleD x10 r12
  have d12:=f12.2
  have q12:=f12.1
  replace f12:∀ b∈(F12Need++F12Have++F12Lack++F12Here++F12Out++F12Into),w.heap.size≤b:=fun b hb=>Nat.le_trans szx10 (f12.1 b hb)
  refine oI rfl rfl (sw (o_store H 0 rfl (.agg #[yI ((x[k]!).qG),yI ((x[k]!).zS),Sv a12Need (((x[k]!).xn).length) c12Need,Sv a12Have (((x[k]!).xF).length) c12Have,Sv a12Lack (((x[k]!).xI).length) c12Lack,Sv a12Here (((x[k]!).xK).length) c12Here,Sv a12Out (((x[k]!).ve).length) c12Out,Sv a12Into (((x[k]!).qU).length) c12Into,Bv ((x[k]!).zH)]) sizeOf121 rfl rfl (by simp [Value.oneCell',Value.cells]) (by have:(xs3).length=k * 9:=(by (exact hl3));simp [Value.cells];have:=fill_room (n:=x.length) (k:=k) (s:=9) qf;simp at this;omega) fun w14 H=>?_))
  replace H:St _ _ [.box b1 (xs3++[yI ((x[k]!).qG),yI ((x[k]!).zS),Sv a12Need (((x[k]!).xn).length) c12Need,Sv a12Have (((x[k]!).xF).length) c12Have,Sv a12Lack (((x[k]!).xI).length) c12Lack,Sv a12Here (((x[k]!).xK).length) c12Here,Sv a12Out (((x[k]!).ve).length) c12Out,Sv a12Into (((x[k]!).qU).length) c12Into,Bv ((x[k]!).zH)]++(List.replicate (x.length - (k+1)) [yI 0,yI 0,yN,yN,yN,yN,yN,yN,Bv false]).flatten) 121] _:=(fill_put (vs:=[yI ((x[k]!).qG),yI ((x[k]!).zS),Sv a12Need (((x[k]!).xn).length) c12Need,Sv a12Have (((x[k]!).xF).length) c12Have,Sv a12Lack (((x[k]!).xI).length) c12Lack,Sv a12Here (((x[k]!).xK).length) c12Here,Sv a12Out (((x[k]!).ve).length) c12Out,Sv a12Into (((x[k]!).qU).length) c12Into,Bv ((x[k]!).zH)]) (zs:=[yI 0,yI 0,yN,yN,yN,yN,yN,yN,Bv false]) (off:=0+(k:Int).toNat * 9) (xs:=xs3) (k:=k) (s:=9) (n:=x.length) (by (exact hl3)) qm rfl rfl qf)▸H
  replace H:St _ _ [.box b1 (xs3++[yI ((x[k]!).qG),yI ((x[k]!).zS),Sv a12Need (((x[k]!).xn).length) c12Need,Sv a12Have (((x[k]!).xF).length) c12Have,Sv a12Lack (((x[k]!).xI).length) c12Lack,Sv a12Here (((x[k]!).xK).length) c12Here,Sv a12Out (((x[k]!).ve).length) c12Out,Sv a12Into (((x[k]!).qU).length) c12Into,Bv ((x[k]!).zH)]++(List.replicate (x.length - (k+1)) [yI 0,yI 0,yN,yN,yN,yN,yN,yN,Bv false]).flatten) 121] _:=H
  refine xM (b_n (t_n (xO (sp (yI k) (sw (zB k 1 rfl rfl qf (sp (yI (k+1)) (xM ?_))))))))
  replace H:=H.snoc_RuleD 13 rfl ((x[k]!).qG) ((x[k]!).zS) 0 rfl 1 rfl 2 rfl 3 rfl 4 rfl 5 rfl ((x[k]!).zH)
  rw [show (x.take k)++[⟨(x[k]!).qG,(x[k]!).zS,(x[k]!).xn,(x[k]!).xF,(x[k]!).xI,(x[k]!).xK,(x[k]!).ve,(x[k]!).qU,(x[k]!).zH⟩]=x.take (k+1) from by exact take_snoc qf] at H
  refine qY (m' :=x.length - (k+1)) qf ⟨_,k+1,(xs3++[yI ((x[k]!).qG),yI ((x[k]!).zS),Sv a12Need (((x[k]!).xn).length) c12Need,Sv a12Have (((x[k]!).xF).length) c12Have,Sv a12Lack (((x[k]!).xI).length) c12Lack,Sv a12Here (((x[k]!).xK).length) c12Here,Sv a12Out (((x[k]!).ve).length) c12Out,Sv a12Into (((x[k]!).qU).length) c12Into,Bv ((x[k]!).zH)]),(Fr3++(F12Need++F12Have++F12Lack++F12Here++F12Out++F12Into)),uE4,?_,?_,?_,?_,rfl,H.sel _ (.refl _) _ qm⟩
  · omega
  · first | (simp only [List.length_append,List.length_cons,List.length_nil];omega) | (simp [hl3];done) | (simp;omega)
  · exact X7 nf3 f12
  · exact X6 nd3 d12 lt11 q12
 refine zx4 (zcr (sps [Sv (aa b1 0) x.length x.length,Sv (aa b1 0) x.length x.length] (zjr (ret1 (Sv (aa b1 0) x.length x.length) rfl rfl ⟨_,rfl,?_,H.base⟩))))
 rw [List.take_of_length_le (by omega:x.length≤k)] at H
 rw [fill_endN qf] at H
 replace H:=H.boxRow 0 rfl 9 x.length qf qp
 exact H.newRow 0 rfl 0 rfl qf ql ql

theorem toSystem_ok (w:World) (x:qI) {jq:yOA} {QF:yLN} {QE:yOA} {Vp:yLN} (Xa:qO.rep w QF [Sv jq x.qw.length jo] x.qw) (Yi:qO.rep w Vp [Sv QE x.qx.length QC] x.qx) (p0:tot x≤2000000):Calls Tryz.prog 17 #[.agg #[yI x.xB,Sv jq x.qw.length jo,Sv QE x.qx.length QC]] w (Ret (fun v w' =>New_SystemD w w' v x) w):=by
 refine en func17 ntmps17 ?_
 have H:=((St.start w).arg Yi).arg Xa
 have nhxParents:=qM Xa
 have nhxRules:=qM Yi
 clear Xa Yi
 have p1:=tot_SystemD x
 refine zcr (sw (o_box H (.agg #[yI x.xB,Sv jq x.qw.length jo,Sv QE x.qx.length QC]) rfl fun b1 w2 H=>sw (o_alloc H ti36 fun b3 w4 H=>zjc (sw (o_alloc H ti36 fun b5 w6 H=>zjc (oF rfl (oL rfl (H.cell 2 rfl rfl) (oF rfl (sw (QA H 0 rfl (yI x.xB) sizeOf2 rfl rfl rfl (Nat.le_of_ble_eq_true rfl) fun w7 H=>?_))))))))))
 replace H:St _ _ [.box b5 [yI x.xB,yN,yN] 36,.box b3 [yI 0,yN,yN] 36,.box b1 (yS x jq jo QE QC) 25] _:=H
 refine zjc (oF rfl (oL rfl (H.cell 2 rfl rfl) ?_))
 have szx9:=H.base.size
 refine sw (oc (Vd _ x.qw (H.get 0 rfl).1 (by first | omega | (have:=p2 qf;omega))) ?_)
 rintro v10 w8 r10 x9
 obtain ⟨a10,c10,F10,rfl,f10,H⟩:=H.add_is x9 r10.isNew
 have d10:=f10.2
 have q10:=f10.1
 replace f10:∀ b∈F10,w.heap.size≤b:=fun b hb=>Nat.le_trans szx9 (f10.1 b hb)
 refine oF rfl (sw (QA H 0 rfl (Sv a10 x.qw.length c10) sizeOf22 rfl rfl rfl (Nat.le_of_ble_eq_true rfl) fun w11 H=>?_))
 replace H:St _ _ [.box b5 [yI x.xB,Sv a10 x.qw.length c10,yN] 36,.box b3 [yI 0,yN,yN] 36,.box b1 (yS x jq jo QE QC) 25] _:=H
 refine zjc (oF rfl (oL rfl (H.cell 2 rfl rfl) ?_))
 have szx13:=H.base.size
 have lt14:=H.isLt 0 rfl
 refine sw (oc (toRuleS_ok _ x.qx (H.get 2 rfl).1 (by first | omega | (have:=p2 qf;omega))) ?_)
 rintro v15 w12 r15 x13
 obtain ⟨a15,c15,F15,rfl,f15,H⟩:=H.add_is x13 r15.isNew
 have d15:=f15.2
 have q15:=f15.1
 replace f15:∀ b∈F15,w.heap.size≤b:=fun b hb=>Nat.le_trans szx13 (f15.1 b hb)
 refine oF rfl (sw (QA H 0 rfl (Sv a15 x.qx.length c15) sizeOf34 rfl rfl rfl (Nat.le_of_ble_eq_true rfl) fun w16 H=>?_))
 replace H:St _ _ [.box b5 (yS x a10 c10 a15 c15) 36,.box b3 [yI 0,yN,yN] 36,.box b1 (yS x jq jo QE QC) 25] _:=H
 refine zjc (sw (zl (yS x a10 c10 a15 c15) isAgg36 sizeOf36 rfl (qF (H.cells 0 rfl) 0 3) (sw (o_store H 1 rfl (.agg #[yI x.xB,Sv a10 x.qw.length c10,Sv a15 x.qx.length c15]) sizeOf36 rfl rfl (by simp [Value.oneCell',Value.cells]) (Nat.le_of_ble_eq_true rfl) fun w17 H=>?_))))
 replace H:St _ _ [.box b5 (yS x a10 c10 a15 c15) 36,.box b3 (yS x a10 c10 a15 c15) 36,.box b1 (yS x jq jo QE QC) 25] _:=H
 refine zjr (retC H 1 rfl rfl isAgg36 sizeOf36 rfl ⟨_,rfl,(⟨_,_,_,_,_,_,rfl,(H.get 1 rfl).1,(H.get 0 rfl).1,(X7 f10 f15),(X6 d10 d15 lt14 q15),(((H.get 1 rfl).2 rfl).app ((H.get 0 rfl).2 rfl))⟩),H.base⟩)

theorem toState_ok (w:World) (x:qH) {Qp:yOA} {X8:yLN} {Xr:yOA} {Ja:yLN} {jT:yOA} {Q5:yLN} (Yj:qO.rep w X8 [Sv Qp x.qA.length Qo] x.qA) (hxBags:qO.rep w Ja [Sv Xr x.qE.length Xq] x.qE) (XW:qO.rep w Q5 [Sv jT x.qy.length jR] x.qy) (p0:tot x≤2000000):Calls Tryz.prog 18 #[.agg #[Sv Qp x.qA.length Qo,Sv Xr x.qE.length Xq,Sv jT x.qy.length jR]] w (Ret (fun v w' =>New_StateD w w' v x) w):=by
 refine en func18 ntmps18 ?_
 have H:=(((St.start w).arg XW).arg hxBags).arg Yj
 have nhxAlive:=qM Yj
 have nhxBags:=qM hxBags
 have nhxAround:=qM XW
 clear Yj hxBags XW
 have p1:=tot_StateD x
 refine zcr (sw (o_box H (.agg #[Sv Qp x.qA.length Qo,Sv Xr x.qE.length Xq,Sv jT x.qy.length jR]) rfl fun b1 w2 H=>sw (o_alloc H ti38 fun b3 w4 H=>zjc (sw (o_alloc H ti38 fun b5 w6 H=>?_)))))
 replace H:St _ _ [.box b5 [yN,yN,yN] 38,.box b3 [yN,yN,yN] 38,.box b1 (yT x Qp Qo Xr Xq jT jR) 29] _:=H
 refine zjc (oF rfl (oL rfl (H.cell 2 rfl rfl) ?_))
 have szx8:=H.base.size
 refine sw (oc (toBoolS_ok _ x.qA (H.get 0 rfl).1 (by first | omega | (have:=p2 qf;omega))) ?_)
 rintro v9 w7 r9 x8
 obtain ⟨a9,c9,F9,rfl,f9,H⟩:=H.add_is x8 r9.isNew
 have d9:=f9.2
 have q9:=f9.1
 replace f9:∀ b∈F9,w.heap.size≤b:=fun b hb=>Nat.le_trans szx8 (f9.1 b hb)
 refine oF rfl (sw (QA H 0 rfl (Sv a9 x.qA.length c9) sizeOf26 rfl rfl rfl (Nat.le_of_ble_eq_true rfl) fun w10 H=>?_))
 replace H:St _ _ [.box b5 [Sv a9 x.qA.length c9,yN,yN] 38,.box b3 [yN,yN,yN] 38,.box b1 (yT x Qp Qo Xr Xq jT jR) 29] _:=H
 refine zjc (oF rfl (oL rfl (H.cell 2 rfl rfl) ?_))
 have szx12:=H.base.size
 have lt13:=H.isLt 0 rfl
 refine sw (oc (toInt64SS_ok _ x.qE (H.get 2 rfl).1 (by first | omega | (have:=p2 qf;omega))) ?_)
 rintro v14 w11 r14 x12
 obtain ⟨a14,c14,F14,rfl,f14,H⟩:=H.add_is x12 r14.isNew
 have d14:=f14.2
 have q14:=f14.1
 replace f14:∀ b∈F14,w.heap.size≤b:=fun b hb=>Nat.le_trans szx12 (f14.1 b hb)
 refine oF rfl (sw (QA H 0 rfl (Sv a14 x.qE.length c14) sizeOf27 rfl rfl rfl (Nat.le_of_ble_eq_true rfl) fun w15 H=>?_))
 replace H:St _ _ [.box b5 [Sv a9 x.qA.length c9,Sv a14 x.qE.length c14,yN] 38,.box b3 [yN,yN,yN] 38,.box b1 (yT x Qp Qo Xr Xq jT jR) 29] _:=H
 refine zjc (oF rfl (oL rfl (H.cell 2 rfl rfl) ?_))
 have szx17:=H.base.size
 have lt18:=H.isLt 0 rfl
 have lt19:=H.isLt 1 rfl
 refine sw (oc (Vd _ x.qy (H.get 4 rfl).1 (by first | omega | (have:=p2 qf;omega))) ?_)
 rintro v20 w16 r20 x17
 obtain ⟨a20,c20,F20,rfl,f20,H⟩:=H.add_is x17 r20.isNew
 have d20:=f20.2
 have q20:=f20.1
 replace f20:∀ b∈F20,w.heap.size≤b:=fun b hb=>Nat.le_trans szx17 (f20.1 b hb)
 refine oF rfl (sw (QA H 0 rfl (Sv a20 x.qy.length c20) sizeOf22 rfl rfl rfl (Nat.le_of_ble_eq_true rfl) fun w21 H=>?_))
 replace H:St _ _ [.box b5 (yT x a9 c9 a14 c14 a20 c20) 38,.box b3 [yN,yN,yN] 38,.box b1 (yT x Qp Qo Xr Xq jT jR) 29] _:=H
 refine zjc (sw (zl (yT x a9 c9 a14 c14 a20 c20) isAgg38 sizeOf38 rfl (qF (H.cells 0 rfl) 0 3) (sw (o_store H 1 rfl (.agg #[Sv a9 x.qA.length c9,Sv a14 x.qE.length c14,Sv a20 x.qy.length c20]) sizeOf38 rfl rfl (by simp [Value.oneCell',Value.cells]) (Nat.le_of_ble_eq_true rfl) fun w22 H=>?_))))
 replace H:St _ _ [.box b5 (yT x a9 c9 a14 c14 a20 c20) 38,.box b3 (yT x a9 c9 a14 c14 a20 c20) 38,.box b1 (yT x Qp Qo Xr Xq jT jR) 29] _:=H
 refine zjr (retC H 1 rfl rfl isAgg38 sizeOf38 rfl ⟨_,rfl,(⟨_,_,_,_,_,_,_,_,_,rfl,(H.get 2 rfl).1,(H.get 1 rfl).1,(H.get 0 rfl).1,(X7 (X7 f9 f14) f20),(X6 (X6 d9 d14 lt13 q14) d20 (Yk lt19 lt18) q20),((((H.get 2 rfl).2 rfl).app ((H.get 1 rfl).2 rfl)).app ((H.get 0 rfl).2 rfl))⟩),H.base⟩)

theorem XN (w:World) (x:yLI) (y:yLI) {ax:yOA} {Fx:yLN} {ay:yOA} {Fy:yLN} (hx:qO.rep w Fx [Sv ax x.length cx] x) (hy:qO.rep w Fy [Sv ay y.length cy] y):Calls Tryz.prog 65 #[Sv ax x.length cx,Sv ay y.length cy] w (Ret (fun v w' =>v=Bv (decide (x=y))) w):=by
 refine en func65 ntmps65 ?_
 have H:=((St.start w).arg hy).arg hx
 have nhx:=qM hx
 have nhy:=qM hy
 clear hx hy
 refine zcr (sp (Bv false) (zjcc (sp (Sv ax x.length cx) (oN rfl (sp (Sv ay y.length cy) (oN rfl (sp (Bv ((x.length:Int) != y.length)) (zjn (xE ((x.length:Int) != y.length) rfl (fun h1=>?_) (fun h1=>?_))))))))))
 ·skip
  replace h1:=bne_iff_ne.1 h1
  refine zcr (sp (Bv false) (zjr (t_r (ret1 (Bv false) rfl rfl ⟨_,rfl,?_,H.base⟩))))
  first | rw [decide_eq_false (fun e=>by subst e;omega)] | rw [decide_eq_false (jk (k:=k) ‹_›)] | rw [decide_eq_true (jy (k:=k) qf qf ‹_›)]
 replace h1:=xw h1
 refine qW (t_n (zcc (sp (yI 0) (zjn (qX ?_)))))
 refine zD (fun m' ρ w2=>∃ (xY:Env) (k:Nat),ρ=upd (upd (upd xY 0 (Sv ax x.length cx)) 1 (Sv ay y.length cy)) 5 (yI k)∧(k≤x.length)∧(x.take k=y.take k)∧m' =x.length - k∧St w w2 [] [sF false Fx ax cx x,sF false Fy ay cy y]) (x.length - 0) ⟨_,0,uE3,qf,(by rfl),rfl,H⟩ ?_
 clear H
 rintro m' ρ w3 ⟨xY,k,rfl,i0,i1,rfl,H⟩
 refine zcc (sps [yI k,Sv ax x.length cx] (oN rfl (sp (Bv (decide ((k:Int) < x.length))) (zjn (cD rfl (fun h4=>?_) (fun h4=>?_))))))
 ·skip
  refine qW (t_n (xQ (qX (xQ ?_))))
  refine jh rfl H fun H=>rtp 0 (Sv ax x.length cx) H ?_
  refine rtp 1 (yI k) H ?_
  obtain ⟨b6,o7,rfl⟩:=H.addr 0 rfl qf
  refine tI 2 rfl rfl rfl H ?_
  refine tL 3 rfl rfl (fun _ h=>h.yG 0 rfl k qf) H ?_
  refine rtp 4 (Sv ay y.length cy) H ?_
  refine rtp 5 (yI k) H ?_
  obtain ⟨b8,o9,rfl⟩:=H.addr 1 rfl qf
  refine tI 6 rfl rfl rfl H ?_
  refine tL 7 rfl rfl (fun _ h=>h.yG 1 rfl k qf) H ?_
  refine rtp 8 (Bv ((x[k]! :Int) != (y[k]!))) H ?_
  refine xP qh (t_n (xE ((x[k]! :Int) != (y[k]!)) rfl (fun h10=>?_) (fun h10=>?_)))
  ·skip
   replace h10:=bne_iff_ne.1 h10
   refine zcr (sp (Bv false) (zjr (zr5 (ret1 (Bv false) rfl rfl ⟨_,rfl,?_,H.base⟩))))
   first | rw [decide_eq_false (fun e=>by subst e;omega)] | rw [decide_eq_false (jk (k:=k) ‹_›)] | rw [decide_eq_true (jy (k:=k) qf qf ‹_›)]
  replace h10:=xw h10
  refine qW (b_n (t_n (xO (sp (yI k) (sw (zB k 1 rfl rfl qf (sp (yI (k+1)) (xM (qY (m' :=x.length - (k+1)) qf ⟨_,k+1,uE3,?_,?_,rfl,H⟩)))))))))
  · omega
  · exact XD qf qf ‹_› qg
 refine zx4 (zcr (sp (Bv true) (zjr (ret1 (Bv true) rfl rfl ⟨_,rfl,?_,H.base⟩))))
 first | rw [decide_eq_false (fun e=>by subst e;omega)] | rw [decide_eq_false (jk (k:=k) ‹_›)] | rw [decide_eq_true (jy (k:=k) qf qf ‹_›)]

theorem eqBoolS_ok (w:World) (x:List Bool) (y:List Bool) {ax:yOA} {Fx:yLN} {ay:yOA} {Fy:yLN} (hx:qO.rep w Fx [Sv ax x.length cx] x) (hy:qO.rep w Fy [Sv ay y.length cy] y):Calls Tryz.prog 67 #[Sv ax x.length cx,Sv ay y.length cy] w (Ret (fun v w' =>v=Bv (decide (x=y))) w):=by
 refine en func67 ntmps67 ?_
 have H:=((St.start w).arg hy).arg hx
 have nhx:=qM hx
 have nhy:=qM hy
 clear hx hy
 refine zcr (sp (Bv false) (zjcc (sp (Sv ax x.length cx) (oN rfl (sp (Sv ay y.length cy) (oN rfl (sp (Bv ((x.length:Int) != y.length)) (zjn (xE ((x.length:Int) != y.length) rfl (fun h1=>?_) (fun h1=>?_))))))))))
 ·skip
  replace h1:=bne_iff_ne.1 h1
  refine zcr (sp (Bv false) (zjr (t_r (ret1 (Bv false) rfl rfl ⟨_,rfl,?_,H.base⟩))))
  first | rw [decide_eq_false (fun e=>by subst e;omega)] | rw [decide_eq_false (jk (k:=k) ‹_›)] | rw [decide_eq_true (jy (k:=k) qf qf ‹_›)]
 replace h1:=xw h1
 refine qW (t_n (zcc (sp (yI 0) (zjn (qX ?_)))))
 refine zD (fun m' ρ w2=>∃ (xY:Env) (k:Nat),ρ=upd (upd (upd xY 0 (Sv ax x.length cx)) 1 (Sv ay y.length cy)) 5 (yI k)∧(k≤x.length)∧(x.take k=y.take k)∧m' =x.length - k∧St w w2 [] [sF false Fx ax cx x,sF false Fy ay cy y]) (x.length - 0) ⟨_,0,uE3,qf,(by rfl),rfl,H⟩ ?_
 clear H
 rintro m' ρ w3 ⟨xY,k,rfl,i0,i1,rfl,H⟩
 refine zcc (sps [yI k,Sv ax x.length cx] (oN rfl (sp (Bv (decide ((k:Int) < x.length))) (zjn (cD rfl (fun h4=>?_) (fun h4=>?_))))))
 ·skip
  refine qW (t_n (xQ (qX (xQ ?_))))
  refine jh rfl H fun H=>rtp 0 (Sv ax x.length cx) H ?_
  refine rtp 1 (yI k) H ?_
  obtain ⟨b6,o7,rfl⟩:=H.addr 0 rfl qf
  refine tI 2 rfl rfl rfl H ?_
  refine tL 3 rfl rfl (fun _ h=>h.elemBoolN 0 rfl k qf) H ?_
  refine rtp 4 (Sv ay y.length cy) H ?_
  refine rtp 5 (yI k) H ?_
  obtain ⟨b8,o9,rfl⟩:=H.addr 1 rfl qf
  refine tI 6 rfl rfl rfl H ?_
  refine tL 7 rfl rfl (fun _ h=>h.elemBoolN 1 rfl k qf) H ?_
  refine rt 8 (Bv ((x[k]!) != (y[k]!))) (y_neB underlying4 (x[k]!) (y[k]!) rfl rfl) H ?_
  refine xP qh (t_n (xE ((x[k]!) != (y[k]!)) rfl (fun h10=>?_) (fun h10=>?_)))
  ·skip
   replace h10:=bne_iff_ne.1 h10
   refine zcr (sp (Bv false) (zjr (zr5 (ret1 (Bv false) rfl rfl ⟨_,rfl,?_,H.base⟩))))
   first | rw [decide_eq_false (fun e=>by subst e;omega)] | rw [decide_eq_false (jk (k:=k) ‹_›)] | rw [decide_eq_true (jy (k:=k) qf qf ‹_›)]
  replace h10:=xw h10
  refine qW (b_n (t_n (xO (sp (yI k) (sw (zB k 1 rfl rfl qf (sp (yI (k+1)) (xM (qY (m' :=x.length - (k+1)) qf ⟨_,k+1,uE3,?_,?_,rfl,H⟩)))))))))
  · omega
  · exact XD qf qf ‹_› qg
 refine zx4 (zcr (sp (Bv true) (zjr (ret1 (Bv true) rfl rfl ⟨_,rfl,?_,H.base⟩))))
 first | rw [decide_eq_false (fun e=>by subst e;omega)] | rw [decide_eq_false (jk (k:=k) ‹_›)] | rw [decide_eq_true (jy (k:=k) qf qf ‹_›)]

theorem eqInt64SS_ok (w:World) (x:yLL) (y:yLL) {ax:yOA} {Fx:yLN} {ay:yOA} {Fy:yLN} (hx:qO.rep w Fx [Sv ax x.length cx] x) (hy:qO.rep w Fy [Sv ay y.length cy] y):Calls Tryz.prog 20 #[Sv ax x.length cx,Sv ay y.length cy] w (Ret (fun v w' =>v=Bv (decide (x=y))) w):=by
 refine en func20 ntmps20 ?_
 have H:=((St.start w).arg hy).arg hx
 have nhx:=qM hx
 have nhy:=qM hy
 clear hx hy
 refine zcr (sp (Bv false) (zjcc (sp (Sv ax x.length cx) (oN rfl (sp (Sv ay y.length cy) (oN rfl (sp (Bv ((x.length:Int) != y.length)) (zjn (xE ((x.length:Int) != y.length) rfl (fun h1=>?_) (fun h1=>?_))))))))))
 ·skip
  replace h1:=bne_iff_ne.1 h1
  refine zcr (sp (Bv false) (zjr (t_r (ret1 (Bv false) rfl rfl ⟨_,rfl,?_,H.base⟩))))
  first | rw [decide_eq_false (fun e=>by subst e;omega)] | rw [decide_eq_false (jk (k:=k) ‹_›)] | rw [decide_eq_true (jy (k:=k) qf qf ‹_›)]
 replace h1:=xw h1
 refine qW (t_n (zcc (sp (yI 0) (zjn (qX ?_)))))
 refine zD (fun m' ρ w2=>∃ (xY:Env) (k:Nat),ρ=upd (upd (upd xY 0 (Sv ax x.length cx)) 1 (Sv ay y.length cy)) 5 (yI k)∧(k≤x.length)∧(x.take k=y.take k)∧m' =x.length - k∧St w w2 [] [sF false Fx ax cx x,sF false Fy ay cy y]) (x.length - 0) ⟨_,0,uE3,qf,(by rfl),rfl,H⟩ ?_
 clear H
 rintro m' ρ w3 ⟨xY,k,rfl,i0,i1,rfl,H⟩
 refine zcc (sps [yI k,Sv ax x.length cx] (oN rfl (sp (Bv (decide ((k:Int) < x.length))) (zjn (cD rfl (fun h4=>?_) (fun h4=>?_))))))
 ·skip
  refine qW (t_n (xQ (qX (xQ ?_))))
  refine jh rfl H fun H=>rtp 0 (Sv ax x.length cx) H ?_
  refine rtp 1 (yI k) H ?_
  obtain ⟨b6,o7,rfl⟩:=H.addr 0 rfl qf
  obtain ⟨ae8,ce8,Fe8,H⟩:=H.vV 0 rfl k k qf qf qf
  refine tI 2 rfl rfl rfl (H.sel _ (.refl _) _ (fun _ h=>List.mem_cons_of_mem _ (List.mem_cons_of_mem _ (h)))) ?_
  refine rtp 4 (Sv ay y.length cy) (H.sel _ (.refl _) _ (fun _ h=>List.mem_cons_of_mem _ (List.mem_cons_of_mem _ (h)))) ?_
  refine rtp 5 (yI k) (H.sel _ (.refl _) _ (fun _ h=>List.mem_cons_of_mem _ (List.mem_cons_of_mem _ (h)))) ?_
  obtain ⟨b9,o10,rfl⟩:=H.addr 3 rfl qf
  obtain ⟨ae11,ce11,Fe11,H⟩:=H.vV 3 rfl k k qf qf qf
  refine tI 6 rfl rfl rfl (H.sel _ (.refl _) _ (fun _ h=>List.mem_cons_of_mem _ (List.mem_cons_of_mem _ (List.mem_cons_of_mem _ (List.mem_cons_of_mem _ (h)))))) ?_
  refine jK [3,7] qh qm (Qy rfl ?_ (Qy rfl ?_ jL))
  ·skip
   refine zT (Sv ae8 ((x[k]!).length) ce8) isAgg22 rfl (H.xW 3 rfl 0 rfl) (⟨H.dF 4,(ro 7 rfl (zT (Sv ae11 ((y[k]!).length) ce11) isAgg22 rfl (H.xW 1 rfl 0 rfl) (⟨H.dF 4,(ro 8 rfl (oq (XN _ (x[k]!) (y[k]!) (H.get 2 rfl).1 (H.get 0 rfl).1) H fun w12 H=>⟨H.dF 4,(rtp 9 (Bv (!(decide ((x[k]!)=(y[k]!))))) (H.sel _ (.refl _) _ (fun _ h=>List.mem_cons_of_mem _ (List.mem_cons_of_mem _ (List.mem_cons_of_mem _ (List.mem_cons_of_mem _ (h)))))) ?_)⟩))⟩)))⟩)
   refine xP qh (t_n (xE (!(decide ((x[k]!)=(y[k]!)))) rfl (fun h14=>?_) (fun h14=>?_)))
   ·skip
    replace h14:=xq h14
    replace h14:=of_decide_eq_false h14
    refine zcr (sp (Bv false) (zjr (zr5 (ret1 (Bv false) rfl rfl ⟨_,rfl,?_,H.base⟩))))
    first | rw [decide_eq_false (fun e=>by subst e;omega)] | rw [decide_eq_false (jk (k:=k) ‹_›)] | rw [decide_eq_true (jy (k:=k) qf qf ‹_›)]
   replace h14:=xg h14
   replace h14:=of_decide_eq_true h14
   refine qW (b_n (t_n (xO (sp (yI k) (sw (zB k 1 rfl rfl qf (sp (yI (k+1)) (xM (qY (m' :=x.length - (k+1)) qf ⟨_,k+1,uE3,?_,?_,rfl,H.sel _ (.refl _) _ qm⟩)))))))))
   · omega
   · exact XD qf qf ‹_› qg
  refine zT (Sv ae11 ((y[k]!).length) ce11) isAgg22 rfl (H.xW 1 rfl 0 rfl) (⟨H.dF 4,(ro 3 rfl (zT (Sv ae8 ((x[k]!).length) ce8) isAgg22 rfl (H.xW 3 rfl 0 rfl) (⟨H.dF 4,(ro 8 rfl (oq (XN _ (x[k]!) (y[k]!) (H.get 2 rfl).1 (H.get 0 rfl).1) H fun w15 H=>⟨H.dF 4,(rtp 9 (Bv (!(decide ((x[k]!)=(y[k]!))))) (H.sel _ (.refl _) _ (fun _ h=>List.mem_cons_of_mem _ (List.mem_cons_of_mem _ (List.mem_cons_of_mem _ (List.mem_cons_of_mem _ (h)))))) ?_)⟩))⟩)))⟩)
  refine xP qh (t_n (xE (!(decide ((x[k]!)=(y[k]!)))) rfl (fun h17=>?_) (fun h17=>?_)))
  ·skip
   replace h17:=xq h17
   replace h17:=of_decide_eq_false h17
   refine zcr (sp (Bv false) (zjr (zr5 (ret1 (Bv false) rfl rfl ⟨_,rfl,?_,H.base⟩))))
   first | rw [decide_eq_false (fun e=>by subst e;omega)] | rw [decide_eq_false (jk (k:=k) ‹_›)] | rw [decide_eq_true (jy (k:=k) qf qf ‹_›)]
  replace h17:=xg h17
  replace h17:=of_decide_eq_true h17
  refine qW (b_n (t_n (xO (sp (yI k) (sw (zB k 1 rfl rfl qf (sp (yI (k+1)) (xM (qY (m' :=x.length - (k+1)) qf ⟨_,k+1,uE3,?_,?_,rfl,H.sel _ (.refl _) _ qm⟩)))))))))
  · omega
  · exact XD qf qf ‹_› qg
 refine zx4 (zcr (sp (Bv true) (zjr (ret1 (Bv true) rfl rfl ⟨_,rfl,?_,H.base⟩))))
 first | rw [decide_eq_false (fun e=>by subst e;omega)] | rw [decide_eq_false (jk (k:=k) ‹_›)] | rw [decide_eq_true (jy (k:=k) qf qf ‹_›)]

theorem eqInto_ok (w:World) (x:IntoD) (y:IntoD) {axBag:yOA} {FxBag:yLN} {ayBag:yOA} {cyBag:Nat} {FyBag:yLN} (hxBag:qO.rep w FxBag [Sv axBag x.jJ.length cxBag] x.jJ) (hyBag:qO.rep w FyBag [Sv ayBag y.jJ.length cyBag] y.jJ):Calls Tryz.prog 179 #[.agg #[yI x.qG,Sv axBag x.jJ.length cxBag],.agg #[yI y.qG,Sv ayBag y.jJ.length cyBag]] w (Ret (fun v w' =>v=Bv (decide (x=y))) w):=by
 refine en func179 ntmps179 ?_
 have H:=((St.start w).arg hyBag).arg hxBag
 have nhxBag:=qM hxBag
 have nhyBag:=qM hyBag
 clear hxBag hyBag
 refine zcr (sw (o_box H (.agg #[yI x.qG,Sv axBag x.jJ.length cxBag]) rfl fun b1 w2 H=>sw (o_box H (.agg #[yI y.qG,Sv ayBag y.jJ.length cyBag]) rfl fun b3 w4 H=>?_)))
 replace H:St _ _ [.box b3 [yI y.qG,Sv ayBag y.jJ.length cyBag] 164,.box b1 [yI x.qG,Sv axBag x.jJ.length cxBag] 164] _:=H
 refine sp (Bv false) (zjcc (oF rfl (oL rfl (H.cell 1 rfl rfl) (oF rfl (oL rfl (H.cell 0 rfl rfl) (sp (Bv ((x.qG:Int) != y.qG)) (zjn (xE ((x.qG:Int) != y.qG) rfl (fun h5=>?_) (fun h5=>?_)))))))))
 ·skip
  replace h5:=bne_iff_ne.1 h5
  refine zcr (sp (Bv false) (zjr (t_r (ret1 (Bv false) rfl rfl ⟨_,rfl,?_,H.base⟩))))
  rw [decide_eq_false (fun e=>by subst e;simp_all)]
 replace h5:=xw h5
 refine qW (t_n (zcc (oF rfl (oL rfl (H.cell 1 rfl rfl) (oF rfl (oL rfl (H.cell 0 rfl rfl) (sw (oq (XN _ x.jJ y.jJ (H.get 0 rfl).1 (H.get 1 rfl).1) H fun w6 H=>sp (Bv (!(decide (x.jJ=y.jJ)))) (zjn (xE (!(decide (x.jJ=y.jJ))) rfl (fun h8=>?_) (fun h8=>?_)))))))))))
 ·skip
  replace h8:=xq h8
  replace h8:=of_decide_eq_false h8
  refine zcr (sp (Bv false) (zjr (t_r (ret1 (Bv false) rfl rfl ⟨_,rfl,?_,H.base⟩))))
  rw [decide_eq_false (fun e=>by subst e;simp_all)]
 replace h8:=xg h8
 replace h8:=of_decide_eq_true h8
 refine qW (t_n (zcr (sp (Bv true) (zjr (ret1 (Bv true) rfl rfl ⟨_,rfl,?_,H.base⟩)))))
 rw [decide_eq_true (by cases x;cases y;simp_all)]

theorem eqIntoS_ok (w:World) (x:List IntoD) (y:List IntoD) {ax:yOA} {Fx:yLN} {ay:yOA} {Fy:yLN} (hx:qO.rep w Fx [Sv ax x.length cx] x) (hy:qO.rep w Fy [Sv ay y.length cy] y):Calls Tryz.prog 143 #[Sv ax x.length cx,Sv ay y.length cy] w (Ret (fun v w' =>v=Bv (decide (x=y))) w):=by
 refine en func143 ntmps143 ?_
 have H:=((St.start w).arg hy).arg hx
 have nhx:=qM hx
 have nhy:=qM hy
 clear hx hy
 refine zcr (sp (Bv false) (zjcc (sp (Sv ax x.length cx) (oN rfl (sp (Sv ay y.length cy) (oN rfl (sp (Bv ((x.length:Int) != y.length)) (zjn (xE ((x.length:Int) != y.length) rfl (fun h1=>?_) (fun h1=>?_))))))))))
 ·skip
  replace h1:=bne_iff_ne.1 h1
  refine zcr (sp (Bv false) (zjr (t_r (ret1 (Bv false) rfl rfl ⟨_,rfl,?_,H.base⟩))))
  first | rw [decide_eq_false (fun e=>by subst e;omega)] | rw [decide_eq_false (jk (k:=k) ‹_›)] | rw [decide_eq_true (jy (k:=k) qf qf ‹_›)]
 replace h1:=xw h1
 refine qW (t_n (zcc (sp (yI 0) (zjn (qX ?_)))))
 refine zD (fun m' ρ w2=>∃ (xY:Env) (k:Nat),ρ=upd (upd (upd xY 0 (Sv ax x.length cx)) 1 (Sv ay y.length cy)) 5 (yI k)∧(k≤x.length)∧(x.take k=y.take k)∧m' =x.length - k∧St w w2 [] [sF false Fx ax cx x,sF false Fy ay cy y]) (x.length - 0) ⟨_,0,uE3,qf,(by rfl),rfl,H⟩ ?_
 clear H
 rintro m' ρ w3 ⟨xY,k,rfl,i0,i1,rfl,H⟩
 refine zcc (sps [yI k,Sv ax x.length cx] (oN rfl (sp (Bv (decide ((k:Int) < x.length))) (zjn (cD rfl (fun h4=>?_) (fun h4=>?_))))))
 ·skip
  refine qW (t_n (xQ (qX (xQ ?_))))
  refine jh rfl H fun H=>rtp 0 (Sv ax x.length cx) H ?_
  refine rtp 1 (yI k) H ?_
  obtain ⟨b6,o7,rfl⟩:=H.addr 0 rfl qf
  obtain ⟨ae8Bag,ce8Bag,Fe8Bag,H⟩:=H.yh 0 rfl k k qf qf qf
  refine tI 2 rfl rfl rfl (H.sel _ (.refl _) _ (fun _ h=>List.mem_cons_of_mem _ (List.mem_cons_of_mem _ (h)))) ?_
  refine rtp 4 (Sv ay y.length cy) (H.sel _ (.refl _) _ (fun _ h=>List.mem_cons_of_mem _ (List.mem_cons_of_mem _ (h)))) ?_
  refine rtp 5 (yI k) (H.sel _ (.refl _) _ (fun _ h=>List.mem_cons_of_mem _ (List.mem_cons_of_mem _ (h)))) ?_
  obtain ⟨b9,o10,rfl⟩:=H.addr 3 rfl qf
  obtain ⟨ae11Bag,ce11Bag,Fe11Bag,H⟩:=H.yh 3 rfl k k qf qf qf
  refine tI 6 rfl rfl rfl (H.sel _ (.refl _) _ (fun _ h=>List.mem_cons_of_mem _ (List.mem_cons_of_mem _ (List.mem_cons_of_mem _ (List.mem_cons_of_mem _ (h)))))) ?_
  refine jK [3,7] qh qm (Qy rfl ?_ (Qy rfl ?_ jL))
  ·skip
   refine zl [yI ((x[k]!).qG),Sv ae8Bag (((x[k]!).jJ).length) ce8Bag] isAgg164 sizeOf164 rfl (qF (H.get 3 rfl) 0 2) (⟨H.dF 4,(ro 7 rfl (zl [yI ((y[k]!).qG),Sv ae11Bag (((y[k]!).jJ).length) ce11Bag] isAgg164 sizeOf164 rfl (qF (H.get 1 rfl) 0 2) (⟨H.dF 4,(ro 8 rfl (oq (eqInto_ok _ (x[k]!) (y[k]!) (H.get 2 rfl).1 (H.get 0 rfl).1) H fun w12 H=>⟨H.dF 4,(rtp 9 (Bv (!(decide ((x[k]!)=(y[k]!))))) (H.sel _ (.refl _) _ (fun _ h=>List.mem_cons_of_mem _ (List.mem_cons_of_mem _ (List.mem_cons_of_mem _ (List.mem_cons_of_mem _ (h)))))) ?_)⟩))⟩)))⟩)
   refine xP qh (t_n (xE (!(decide ((x[k]!)=(y[k]!)))) rfl (fun h14=>?_) (fun h14=>?_)))
   ·skip
    replace h14:=xq h14
    replace h14:=of_decide_eq_false h14
    refine zcr (sp (Bv false) (zjr (zr5 (ret1 (Bv false) rfl rfl ⟨_,rfl,?_,H.base⟩))))
    first | rw [decide_eq_false (fun e=>by subst e;omega)] | rw [decide_eq_false (jk (k:=k) ‹_›)] | rw [decide_eq_true (jy (k:=k) qf qf ‹_›)]
   replace h14:=xg h14
   replace h14:=of_decide_eq_true h14
   refine qW (b_n (t_n (xO (sp (yI k) (sw (zB k 1 rfl rfl qf (sp (yI (k+1)) (xM (qY (m' :=x.length - (k+1)) qf ⟨_,k+1,uE3,?_,?_,rfl,H.sel _ (.refl _) _ qm⟩)))))))))
   · omega
   · exact XD qf qf ‹_› qg
  refine zl [yI ((y[k]!).qG),Sv ae11Bag (((y[k]!).jJ).length) ce11Bag] isAgg164 sizeOf164 rfl (qF (H.get 1 rfl) 0 2) (⟨H.dF 4,(ro 3 rfl (zl [yI ((x[k]!).qG),Sv ae8Bag (((x[k]!).jJ).length) ce8Bag] isAgg164 sizeOf164 rfl (qF (H.get 3 rfl) 0 2) (⟨H.dF 4,(ro 8 rfl (oq (eqInto_ok _ (x[k]!) (y[k]!) (H.get 2 rfl).1 (H.get 0 rfl).1) H fun w15 H=>⟨H.dF 4,(rtp 9 (Bv (!(decide ((x[k]!)=(y[k]!))))) (H.sel _ (.refl _) _ (fun _ h=>List.mem_cons_of_mem _ (List.mem_cons_of_mem _ (List.mem_cons_of_mem _ (List.mem_cons_of_mem _ (h)))))) ?_)⟩))⟩)))⟩)
  refine xP qh (t_n (xE (!(decide ((x[k]!)=(y[k]!)))) rfl (fun h17=>?_) (fun h17=>?_)))
  ·skip
   replace h17:=xq h17
   replace h17:=of_decide_eq_false h17
   refine zcr (sp (Bv false) (zjr (zr5 (ret1 (Bv false) rfl rfl ⟨_,rfl,?_,H.base⟩))))
   first | rw [decide_eq_false (fun e=>by subst e;omega)] | rw [decide_eq_false (jk (k:=k) ‹_›)] | rw [decide_eq_true (jy (k:=k) qf qf ‹_›)]
  replace h17:=xg h17
  replace h17:=of_decide_eq_true h17
  refine qW (b_n (t_n (xO (sp (yI k) (sw (zB k 1 rfl rfl qf (sp (yI (k+1)) (xM (qY (m' :=x.length - (k+1)) qf ⟨_,k+1,uE3,?_,?_,rfl,H.sel _ (.refl _) _ qm⟩)))))))))
  · omega
  · exact XD qf qf ‹_› qg
 refine zx4 (zcr (sp (Bv true) (zjr (ret1 (Bv true) rfl rfl ⟨_,rfl,?_,H.base⟩))))
 first | rw [decide_eq_false (fun e=>by subst e;omega)] | rw [decide_eq_false (jk (k:=k) ‹_›)] | rw [decide_eq_true (jy (k:=k) qf qf ‹_›)]

theorem eqRule_ok (w:World) (x:Xg) (y:Xg) {Yz:yOA} {FxNeed:yLN} {YD:yOA} {FxHave:yLN} {YA:yOA} {FxLack:yLN} {YC:yOA} {FxHere:yLN} {axOut:yOA} {FxOut:yLN} {YB:yOA} {FxInto:yLN} {ayNeed:yOA} {cyNeed:Nat} {FyNeed:yLN} {ayHave:yOA} {cyHave:Nat} {FyHave:yLN} {ayLack:yOA} {cyLack:Nat} {FyLack:yLN} {ayHere:yOA} {cyHere:Nat} {FyHere:yLN} {ayOut:yOA} {cyOut:Nat} {FyOut:yLN} {ayInto:yOA} {cyInto:Nat} {FyInto:yLN} (hxNeed:qO.rep w FxNeed [Sv Yz x.xn.length Yn] x.xn) (hxHave:qO.rep w FxHave [Sv YD x.xF.length Yr] x.xF) (hxLack:qO.rep w FxLack [Sv YA x.xI.length Yo] x.xI) (hxHere:qO.rep w FxHere [Sv YC x.xK.length Yq] x.xK) (hxOut:qO.rep w FxOut [Sv axOut x.ve.length cxOut] x.ve) (hxInto:qO.rep w FxInto [Sv YB x.qU.length Yp] x.qU) (hyNeed:qO.rep w FyNeed [Sv ayNeed y.xn.length cyNeed] y.xn) (hyHave:qO.rep w FyHave [Sv ayHave y.xF.length cyHave] y.xF) (hyLack:qO.rep w FyLack [Sv ayLack y.xI.length cyLack] y.xI) (hyHere:qO.rep w FyHere [Sv ayHere y.xK.length cyHere] y.xK) (hyOut:qO.rep w FyOut [Sv ayOut y.ve.length cyOut] y.ve) (hyInto:qO.rep w FyInto [Sv ayInto y.qU.length cyInto] y.qU):Calls Tryz.prog 109 #[.agg #[yI x.qG,yI x.zS,Sv Yz x.xn.length Yn,Sv YD x.xF.length Yr,Sv YA x.xI.length Yo,Sv YC x.xK.length Yq,Sv axOut x.ve.length cxOut,Sv YB x.qU.length Yp,Bv x.zH],.agg #[yI y.qG,yI y.zS,Sv ayNeed y.xn.length cyNeed,Sv ayHave y.xF.length cyHave,Sv ayLack y.xI.length cyLack,Sv ayHere y.xK.length cyHere,Sv ayOut y.ve.length cyOut,Sv ayInto y.qU.length cyInto,Bv y.zH]] w (Ret (fun v w' =>v=Bv (decide (x=y))) w):=by
 refine en func109 ntmps109 ?_
 have H:=((((((((((((St.start w).arg hyInto).arg hyOut).arg hyHere).arg hyLack).arg hyHave).arg hyNeed).arg hxInto).arg hxOut).arg hxHere).arg hxLack).arg hxHave).arg hxNeed
 have nhxNeed:=qM hxNeed
 have nhxHave:=qM hxHave
 have nhxLack:=qM hxLack
 have nhxHere:=qM hxHere
 have nhxOut:=qM hxOut
 have nhxInto:=qM hxInto
 have nhyNeed:=qM hyNeed
 have nhyHave:=qM hyHave
 have nhyLack:=qM hyLack
 have nhyHere:=qM hyHere
 have nhyOut:=qM hyOut
 have nhyInto:=qM hyInto
 clear hxNeed hxHave hxLack hxHere hxOut hxInto hyNeed hyHave hyLack hyHere hyOut hyInto
 refine zcr (sw (o_box H (.agg #[yI x.qG,yI x.zS,Sv Yz x.xn.length Yn,Sv YD x.xF.length Yr,Sv YA x.xI.length Yo,Sv YC x.xK.length Yq,Sv axOut x.ve.length cxOut,Sv YB x.qU.length Yp,Bv x.zH]) rfl fun b1 w2 H=>sw (o_box H (.agg #[yI y.qG,yI y.zS,Sv ayNeed y.xn.length cyNeed,Sv ayHave y.xF.length cyHave,Sv ayLack y.xI.length cyLack,Sv ayHere y.xK.length cyHere,Sv ayOut y.ve.length cyOut,Sv ayInto y.qU.length cyInto,Bv y.zH]) rfl fun b3 w4 H=>?_)))
 replace H:St _ _ [.box b3 [yI y.qG,yI y.zS,Sv ayNeed y.xn.length cyNeed,Sv ayHave y.xF.length cyHave,Sv ayLack y.xI.length cyLack,Sv ayHere y.xK.length cyHere,Sv ayOut y.ve.length cyOut,Sv ayInto y.qU.length cyInto,Bv y.zH] 121,.box b1 [yI x.qG,yI x.zS,Sv Yz x.xn.length Yn,Sv YD x.xF.length Yr,Sv YA x.xI.length Yo,Sv YC x.xK.length Yq,Sv axOut x.ve.length cxOut,Sv YB x.qU.length Yp,Bv x.zH] 121] _:=H
 refine sp (Bv false) (zjcc (oF rfl (oL rfl (H.cell 1 rfl rfl) (oF rfl (oL rfl (H.cell 0 rfl rfl) (sp (Bv ((x.qG:Int) != y.qG)) (zjn (xE ((x.qG:Int) != y.qG) rfl (fun h5=>?_) (fun h5=>?_)))))))))
 ·skip
  replace h5:=bne_iff_ne.1 h5
  refine zcr (sp (Bv false) (zjr (t_r (ret1 (Bv false) rfl rfl ⟨_,rfl,?_,H.base⟩))))
  rw [decide_eq_false (fun e=>by subst e;simp_all)]
 replace h5:=xw h5
 refine qW (t_n (zcc (oF rfl (oL rfl (H.cell 1 rfl rfl) (oF rfl (oL rfl (H.cell 0 rfl rfl) (sp (Bv ((x.zS:Int) != y.zS)) (zjn (xE ((x.zS:Int) != y.zS) rfl (fun h6=>?_) (fun h6=>?_))))))))))
 ·skip
  replace h6:=bne_iff_ne.1 h6
  refine zcr (sp (Bv false) (zjr (t_r (ret1 (Bv false) rfl rfl ⟨_,rfl,?_,H.base⟩))))
  rw [decide_eq_false (fun e=>by subst e;simp_all)]
 replace h6:=xw h6
 refine qW (t_n (zcc (oF rfl (oL rfl (H.cell 1 rfl rfl) (oF rfl (oL rfl (H.cell 0 rfl rfl) (sw (oq (XN _ x.xn y.xn (H.get 0 rfl).1 (H.get 6 rfl).1) H fun w7 H=>sp (Bv (!(decide (x.xn=y.xn)))) (zjn (xE (!(decide (x.xn=y.xn))) rfl (fun h9=>?_) (fun h9=>?_)))))))))))
 ·skip
  replace h9:=xq h9
  replace h9:=of_decide_eq_false h9
  refine zcr (sp (Bv false) (zjr (t_r (ret1 (Bv false) rfl rfl ⟨_,rfl,?_,H.base⟩))))
  rw [decide_eq_false (fun e=>by subst e;simp_all)]
 replace h9:=xg h9
 replace h9:=of_decide_eq_true h9
 refine qW (t_n (zcc (oF rfl (oL rfl (H.cell 1 rfl rfl) (oF rfl (oL rfl (H.cell 0 rfl rfl) (sw (oq (XN _ x.xF y.xF (H.get 1 rfl).1 (H.get 7 rfl).1) H fun w10 H=>sp (Bv (!(decide (x.xF=y.xF)))) (zjn (xE (!(decide (x.xF=y.xF))) rfl (fun h12=>?_) (fun h12=>?_)))))))))))
 ·skip
  replace h12:=xq h12
  replace h12:=of_decide_eq_false h12
  refine zcr (sp (Bv false) (zjr (t_r (ret1 (Bv false) rfl rfl ⟨_,rfl,?_,H.base⟩))))
  rw [decide_eq_false (fun e=>by subst e;simp_all)]
 replace h12:=xg h12
 replace h12:=of_decide_eq_true h12
 refine qW (t_n (zcc (oF rfl (oL rfl (H.cell 1 rfl rfl) (oF rfl (oL rfl (H.cell 0 rfl rfl) (sw (oq (XN _ x.xI y.xI (H.get 2 rfl).1 (H.get 8 rfl).1) H fun w13 H=>sp (Bv (!(decide (x.xI=y.xI)))) (zjn (xE (!(decide (x.xI=y.xI))) rfl (fun h15=>?_) (fun h15=>?_)))))))))))
 ·skip
  replace h15:=xq h15
  replace h15:=of_decide_eq_false h15
  refine zcr (sp (Bv false) (zjr (t_r (ret1 (Bv false) rfl rfl ⟨_,rfl,?_,H.base⟩))))
  rw [decide_eq_false (fun e=>by subst e;simp_all)]
 replace h15:=xg h15
 replace h15:=of_decide_eq_true h15
 refine qW (t_n (zcc (oF rfl (oL rfl (H.cell 1 rfl rfl) (oF rfl (oL rfl (H.cell 0 rfl rfl) (sw (oq (XN _ x.xK y.xK (H.get 3 rfl).1 (H.get 9 rfl).1) H fun w16 H=>sp (Bv (!(decide (x.xK=y.xK)))) (zjn (xE (!(decide (x.xK=y.xK))) rfl (fun h18=>?_) (fun h18=>?_)))))))))))
 ·skip
  replace h18:=xq h18
  replace h18:=of_decide_eq_false h18
  refine zcr (sp (Bv false) (zjr (t_r (ret1 (Bv false) rfl rfl ⟨_,rfl,?_,H.base⟩))))
  rw [decide_eq_false (fun e=>by subst e;simp_all)]
 replace h18:=xg h18
 replace h18:=of_decide_eq_true h18
 refine qW (t_n (zcc (oF rfl (oL rfl (H.cell 1 rfl rfl) (oF rfl (oL rfl (H.cell 0 rfl rfl) (sw (oq (XN _ x.ve y.ve (H.get 4 rfl).1 (H.get 10 rfl).1) H fun w19 H=>sp (Bv (!(decide (x.ve=y.ve)))) (zjn (xE (!(decide (x.ve=y.ve))) rfl (fun h21=>?_) (fun h21=>?_)))))))))))
 ·skip
  replace h21:=xq h21
  replace h21:=of_decide_eq_false h21
  refine zcr (sp (Bv false) (zjr (t_r (ret1 (Bv false) rfl rfl ⟨_,rfl,?_,H.base⟩))))
  rw [decide_eq_false (fun e=>by subst e;simp_all)]
 replace h21:=xg h21
 replace h21:=of_decide_eq_true h21
 refine qW (t_n (zcc (oF rfl (oL rfl (H.cell 1 rfl rfl) (oF rfl (oL rfl (H.cell 0 rfl rfl) (sw (oq (eqIntoS_ok _ x.qU y.qU (H.get 5 rfl).1 (H.get 11 rfl).1) H fun w22 H=>sp (Bv (!(decide (x.qU=y.qU)))) (zjn (xE (!(decide (x.qU=y.qU))) rfl (fun h24=>?_) (fun h24=>?_)))))))))))
 ·skip
  replace h24:=xq h24
  replace h24:=of_decide_eq_false h24
  refine zcr (sp (Bv false) (zjr (t_r (ret1 (Bv false) rfl rfl ⟨_,rfl,?_,H.base⟩))))
  rw [decide_eq_false (fun e=>by subst e;simp_all)]
 replace h24:=xg h24
 replace h24:=of_decide_eq_true h24
 refine qW (t_n (zcc (oF rfl (oL rfl (H.cell 1 rfl rfl) (oF rfl (oL rfl (H.cell 0 rfl rfl) (sw (o_neB underlying4 x.zH y.zH rfl rfl (zjn (xE (x.zH != y.zH) rfl (fun h25=>?_) (fun h25=>?_)))))))))))
 ·skip
  replace h25:=bne_iff_ne.1 h25
  refine zcr (sp (Bv false) (zjr (t_r (ret1 (Bv false) rfl rfl ⟨_,rfl,?_,H.base⟩))))
  rw [decide_eq_false (fun e=>by subst e;simp_all)]
 replace h25:=xw h25
 refine qW (t_n (zcr (sp (Bv true) (zjr (ret1 (Bv true) rfl rfl ⟨_,rfl,?_,H.base⟩)))))
 rw [decide_eq_true (by cases x;cases y;simp_all)]

theorem eqRuleS_ok (w:World) (x:List Xg) (y:List Xg) {ax:yOA} {Fx:yLN} {ay:yOA} {Fy:yLN} (hx:qO.rep w Fx [Sv ax x.length cx] x) (hy:qO.rep w Fy [Sv ay y.length cy] y):Calls Tryz.prog 66 #[Sv ax x.length cx,Sv ay y.length cy] w (Ret (fun v w' =>v=Bv (decide (x=y))) w):=by
 refine en func66 ntmps66 ?_
 have H:=((St.start w).arg hy).arg hx
 have nhx:=qM hx
 have nhy:=qM hy
 clear hx hy
 refine zcr (sp (Bv false) (zjcc (sp (Sv ax x.length cx) (oN rfl (sp (Sv ay y.length cy) (oN rfl (sp (Bv ((x.length:Int) != y.length)) (zjn (xE ((x.length:Int) != y.length) rfl (fun h1=>?_) (fun h1=>?_))))))))))
 ·skip
  replace h1:=bne_iff_ne.1 h1
  refine zcr (sp (Bv false) (zjr (t_r (ret1 (Bv false) rfl rfl ⟨_,rfl,?_,H.base⟩))))
  first | rw [decide_eq_false (fun e=>by subst e;omega)] | rw [decide_eq_false (jk (k:=k) ‹_›)] | rw [decide_eq_true (jy (k:=k) qf qf ‹_›)]
 replace h1:=xw h1
 refine qW (t_n (zcc (sp (yI 0) (zjn (qX ?_)))))
 refine zD (fun m' ρ w2=>∃ (xY:Env) (k:Nat),ρ=upd (upd (upd xY 0 (Sv ax x.length cx)) 1 (Sv ay y.length cy)) 5 (yI k)∧(k≤x.length)∧(x.take k=y.take k)∧m' =x.length - k∧St w w2 [] [sF false Fx ax cx x,sF false Fy ay cy y]) (x.length - 0) ⟨_,0,uE3,qf,(by rfl),rfl,H⟩ ?_
 clear H
 rintro m' ρ w3 ⟨xY,k,rfl,i0,i1,rfl,H⟩
 refine zcc (sps [yI k,Sv ax x.length cx] (oN rfl (sp (Bv (decide ((k:Int) < x.length))) (zjn (cD rfl (fun h4=>?_) (fun h4=>?_))))))
 ·skip
  refine qW (t_n (xQ (qX (xQ ?_))))
  refine jh rfl H fun H=>rtp 0 (Sv ax x.length cx) H ?_
  refine rtp 1 (yI k) H ?_
  obtain ⟨b6,o7,rfl⟩:=H.addr 0 rfl qf
  obtain ⟨ae8Need,ce8Need,Fe8Need,ae8Have,ce8Have,Fe8Have,ae8Lack,ce8Lack,Fe8Lack,ae8Here,ce8Here,Fe8Here,ae8Out,ce8Out,Fe8Out,ae8Into,ce8Into,Fe8Into,H⟩:=H.yF 0 rfl k k qf qf qf
  refine tI 2 rfl rfl rfl (H.sel _ (.refl _) _ (fun _ h=>List.mem_cons_of_mem _ (List.mem_cons_of_mem _ (List.mem_cons_of_mem _ (List.mem_cons_of_mem _ (List.mem_cons_of_mem _ (List.mem_cons_of_mem _ (List.mem_cons_of_mem _ (h))))))))) ?_
  refine rtp 4 (Sv ay y.length cy) (H.sel _ (.refl _) _ (fun _ h=>List.mem_cons_of_mem _ (List.mem_cons_of_mem _ (List.mem_cons_of_mem _ (List.mem_cons_of_mem _ (List.mem_cons_of_mem _ (List.mem_cons_of_mem _ (List.mem_cons_of_mem _ (h))))))))) ?_
  refine rtp 5 (yI k) (H.sel _ (.refl _) _ (fun _ h=>List.mem_cons_of_mem _ (List.mem_cons_of_mem _ (List.mem_cons_of_mem _ (List.mem_cons_of_mem _ (List.mem_cons_of_mem _ (List.mem_cons_of_mem _ (List.mem_cons_of_mem _ (h))))))))) ?_
  obtain ⟨b9,o10,rfl⟩:=H.addr 8 rfl qf
  obtain ⟨ae11Need,ce11Need,Fe11Need,ae11Have,ce11Have,Fe11Have,ae11Lack,ce11Lack,Fe11Lack,ae11Here,ce11Here,Fe11Here,ae11Out,ce11Out,Fe11Out,ae11Into,ce11Into,Fe11Into,H⟩:=H.yF 8 rfl k k qf qf qf
  refine tI 6 rfl rfl rfl (H.sel _ (.refl _) _ (fun _ h=>List.mem_cons_of_mem _ (List.mem_cons_of_mem _ (List.mem_cons_of_mem _ (List.mem_cons_of_mem _ (List.mem_cons_of_mem _ (List.mem_cons_of_mem _ (List.mem_cons_of_mem _ (List.mem_cons_of_mem _ (List.mem_cons_of_mem _ (List.mem_cons_of_mem _ (List.mem_cons_of_mem _ (List.mem_cons_of_mem _ (List.mem_cons_of_mem _ (List.mem_cons_of_mem _ (h)))))))))))))))) ?_
  refine jK [3,7] qh qm (Qy rfl ?_ (Qy rfl ?_ jL))
  ·skip
   refine zl [yI ((x[k]!).qG),yI ((x[k]!).zS),Sv ae8Need (((x[k]!).xn).length) ce8Need,Sv ae8Have (((x[k]!).xF).length) ce8Have,Sv ae8Lack (((x[k]!).xI).length) ce8Lack,Sv ae8Here (((x[k]!).xK).length) ce8Here,Sv ae8Out (((x[k]!).ve).length) ce8Out,Sv ae8Into (((x[k]!).qU).length) ce8Into,Bv ((x[k]!).zH)] isAgg121 sizeOf121 rfl (qF (H.get 13 rfl) 0 9) (⟨H.dF 14,(ro 7 rfl ?_)⟩)
   refine zl [yI ((y[k]!).qG),yI ((y[k]!).zS),Sv ae11Need (((y[k]!).xn).length) ce11Need,Sv ae11Have (((y[k]!).xF).length) ce11Have,Sv ae11Lack (((y[k]!).xI).length) ce11Lack,Sv ae11Here (((y[k]!).xK).length) ce11Here,Sv ae11Out (((y[k]!).ve).length) ce11Out,Sv ae11Into (((y[k]!).qU).length) ce11Into,Bv ((y[k]!).zH)] isAgg121 sizeOf121 rfl (qF (H.get 6 rfl) 0 9) (⟨H.dF 14,(ro 8 rfl ?_)⟩)
   refine oq (eqRule_ok _ (x[k]!) (y[k]!) (H.get 7 rfl).1 (H.get 8 rfl).1 (H.get 9 rfl).1 (H.get 10 rfl).1 (H.get 11 rfl).1 (H.get 12 rfl).1 (H.get 0 rfl).1 (H.get 1 rfl).1 (H.get 2 rfl).1 (H.get 3 rfl).1 (H.get 4 rfl).1 (H.get 5 rfl).1) H fun w12 H=>⟨H.dF 14,?_⟩
   refine rtp 9 (Bv (!(decide ((x[k]!)=(y[k]!))))) (H.sel _ (.refl _) _ (fun _ h=>List.mem_cons_of_mem _ (List.mem_cons_of_mem _ (List.mem_cons_of_mem _ (List.mem_cons_of_mem _ (List.mem_cons_of_mem _ (List.mem_cons_of_mem _ (List.mem_cons_of_mem _ (List.mem_cons_of_mem _ (List.mem_cons_of_mem _ (List.mem_cons_of_mem _ (List.mem_cons_of_mem _ (List.mem_cons_of_mem _ (List.mem_cons_of_mem _ (List.mem_cons_of_mem _ (h)))))))))))))))) ?_
   refine xP qh (t_n (xE (!(decide ((x[k]!)=(y[k]!)))) rfl (fun h14=>?_) (fun h14=>?_)))
   ·skip
    replace h14:=xq h14
    replace h14:=of_decide_eq_false h14
    refine zcr (sp (Bv false) (zjr (zr5 (ret1 (Bv false) rfl rfl ⟨_,rfl,?_,H.base⟩))))
    first | rw [decide_eq_false (fun e=>by subst e;omega)] | rw [decide_eq_false (jk (k:=k) ‹_›)] | rw [decide_eq_true (jy (k:=k) qf qf ‹_›)]
   replace h14:=xg h14
   replace h14:=of_decide_eq_true h14
   refine qW (b_n (t_n (xO (sp (yI k) (sw (zB k 1 rfl rfl qf (sp (yI (k+1)) (xM (qY (m' :=x.length - (k+1)) qf ⟨_,k+1,uE3,?_,?_,rfl,H.sel _ (.refl _) _ qm⟩)))))))))
   · omega
   · exact XD qf qf ‹_› qg
  refine zl [yI ((y[k]!).qG),yI ((y[k]!).zS),Sv ae11Need (((y[k]!).xn).length) ce11Need,Sv ae11Have (((y[k]!).xF).length) ce11Have,Sv ae11Lack (((y[k]!).xI).length) ce11Lack,Sv ae11Here (((y[k]!).xK).length) ce11Here,Sv ae11Out (((y[k]!).ve).length) ce11Out,Sv ae11Into (((y[k]!).qU).length) ce11Into,Bv ((y[k]!).zH)] isAgg121 sizeOf121 rfl (qF (H.get 6 rfl) 0 9) (⟨H.dF 14,(ro 3 rfl ?_)⟩)
  refine zl [yI ((x[k]!).qG),yI ((x[k]!).zS),Sv ae8Need (((x[k]!).xn).length) ce8Need,Sv ae8Have (((x[k]!).xF).length) ce8Have,Sv ae8Lack (((x[k]!).xI).length) ce8Lack,Sv ae8Here (((x[k]!).xK).length) ce8Here,Sv ae8Out (((x[k]!).ve).length) ce8Out,Sv ae8Into (((x[k]!).qU).length) ce8Into,Bv ((x[k]!).zH)] isAgg121 sizeOf121 rfl (qF (H.get 13 rfl) 0 9) (⟨H.dF 14,(ro 8 rfl ?_)⟩)
  refine oq (eqRule_ok _ (x[k]!) (y[k]!) (H.get 7 rfl).1 (H.get 8 rfl).1 (H.get 9 rfl).1 (H.get 10 rfl).1 (H.get 11 rfl).1 (H.get 12 rfl).1 (H.get 0 rfl).1 (H.get 1 rfl).1 (H.get 2 rfl).1 (H.get 3 rfl).1 (H.get 4 rfl).1 (H.get 5 rfl).1) H fun w15 H=>⟨H.dF 14,?_⟩
  refine rtp 9 (Bv (!(decide ((x[k]!)=(y[k]!))))) (H.sel _ (.refl _) _ (fun _ h=>List.mem_cons_of_mem _ (List.mem_cons_of_mem _ (List.mem_cons_of_mem _ (List.mem_cons_of_mem _ (List.mem_cons_of_mem _ (List.mem_cons_of_mem _ (List.mem_cons_of_mem _ (List.mem_cons_of_mem _ (List.mem_cons_of_mem _ (List.mem_cons_of_mem _ (List.mem_cons_of_mem _ (List.mem_cons_of_mem _ (List.mem_cons_of_mem _ (List.mem_cons_of_mem _ (h)))))))))))))))) ?_
  refine xP qh (t_n (xE (!(decide ((x[k]!)=(y[k]!)))) rfl (fun h17=>?_) (fun h17=>?_)))
  ·skip
   replace h17:=xq h17
   replace h17:=of_decide_eq_false h17
   refine zcr (sp (Bv false) (zjr (zr5 (ret1 (Bv false) rfl rfl ⟨_,rfl,?_,H.base⟩))))
   first | rw [decide_eq_false (fun e=>by subst e;omega)] | rw [decide_eq_false (jk (k:=k) ‹_›)] | rw [decide_eq_true (jy (k:=k) qf qf ‹_›)]
  replace h17:=xg h17
  replace h17:=of_decide_eq_true h17
  refine qW (b_n (t_n (xO (sp (yI k) (sw (zB k 1 rfl rfl qf (sp (yI (k+1)) (xM (qY (m' :=x.length - (k+1)) qf ⟨_,k+1,uE3,?_,?_,rfl,H.sel _ (.refl _) _ qm⟩)))))))))
  · omega
  · exact XD qf qf ‹_› qg
 refine zx4 (zcr (sp (Bv true) (zjr (ret1 (Bv true) rfl rfl ⟨_,rfl,?_,H.base⟩))))
 first | rw [decide_eq_false (fun e=>by subst e;omega)] | rw [decide_eq_false (jk (k:=k) ‹_›)] | rw [decide_eq_true (jy (k:=k) qf qf ‹_›)]

theorem eqSystem_ok (w:World) (x:qI) (y:qI) {jq:yOA} {QF:yLN} {QE:yOA} {Vp:yLN} {ayParents:yOA} {cyParents:Nat} {FyParents:yLN} {ayRules:yOA} {cyRules:Nat} {FyRules:yLN} (Xa:qO.rep w QF [Sv jq x.qw.length jo] x.qw) (Yi:qO.rep w Vp [Sv QE x.qx.length QC] x.qx) (hyParents:qO.rep w FyParents [Sv ayParents y.qw.length cyParents] y.qw) (hyRules:qO.rep w FyRules [Sv ayRules y.qx.length cyRules] y.qx):Calls Tryz.prog 21 #[.agg #[yI x.xB,Sv jq x.qw.length jo,Sv QE x.qx.length QC],.agg #[yI y.xB,Sv ayParents y.qw.length cyParents,Sv ayRules y.qx.length cyRules]] w (Ret (fun v w' =>v=Bv (decide (x=y))) w):=by
 refine en func21 ntmps21 ?_
 have H:=((((St.start w).arg hyRules).arg hyParents).arg Yi).arg Xa
 have nhxParents:=qM Xa
 have nhxRules:=qM Yi
 have nhyParents:=qM hyParents
 have nhyRules:=qM hyRules
 clear Xa Yi hyParents hyRules
 refine zcr (sw (o_box H (.agg #[yI x.xB,Sv jq x.qw.length jo,Sv QE x.qx.length QC]) rfl fun b1 w2 H=>sw (o_box H (.agg #[yI y.xB,Sv ayParents y.qw.length cyParents,Sv ayRules y.qx.length cyRules]) rfl fun b3 w4 H=>?_)))
 replace H:St _ _ [.box b3 (yS y ayParents cyParents ayRules cyRules) 36,.box b1 (yS x jq jo QE QC) 36] _:=H
 refine sp (Bv false) (zjcc (oF rfl (oL rfl (H.cell 1 rfl rfl) (oF rfl (oL rfl (H.cell 0 rfl rfl) (sp (Bv ((x.xB:Int) != y.xB)) (zjn (xE ((x.xB:Int) != y.xB) rfl (fun h5=>?_) (fun h5=>?_)))))))))
 ·skip
  replace h5:=bne_iff_ne.1 h5
  refine zcr (sp (Bv false) (zjr (t_r (ret1 (Bv false) rfl rfl ⟨_,rfl,?_,H.base⟩))))
  rw [decide_eq_false (fun e=>by subst e;simp_all)]
 replace h5:=xw h5
 refine qW (t_n (zcc (oF rfl (oL rfl (H.cell 1 rfl rfl) (oF rfl (oL rfl (H.cell 0 rfl rfl) (sw (oq (XN _ x.qw y.qw (H.get 0 rfl).1 (H.get 2 rfl).1) H fun w6 H=>sp (Bv (!(decide (x.qw=y.qw)))) (zjn (xE (!(decide (x.qw=y.qw))) rfl (fun h8=>?_) (fun h8=>?_)))))))))))
 ·skip
  replace h8:=xq h8
  replace h8:=of_decide_eq_false h8
  refine zcr (sp (Bv false) (zjr (t_r (ret1 (Bv false) rfl rfl ⟨_,rfl,?_,H.base⟩))))
  rw [decide_eq_false (fun e=>by subst e;simp_all)]
 replace h8:=xg h8
 replace h8:=of_decide_eq_true h8
 refine qW (t_n (zcc (oF rfl (oL rfl (H.cell 1 rfl rfl) (oF rfl (oL rfl (H.cell 0 rfl rfl) (sw (oq (eqRuleS_ok _ x.qx y.qx (H.get 1 rfl).1 (H.get 3 rfl).1) H fun w9 H=>sp (Bv (!(decide (x.qx=y.qx)))) (zjn (xE (!(decide (x.qx=y.qx))) rfl (fun h11=>?_) (fun h11=>?_)))))))))))
 ·skip
  replace h11:=xq h11
  replace h11:=of_decide_eq_false h11
  refine zcr (sp (Bv false) (zjr (t_r (ret1 (Bv false) rfl rfl ⟨_,rfl,?_,H.base⟩))))
  rw [decide_eq_false (fun e=>by subst e;simp_all)]
 replace h11:=xg h11
 replace h11:=of_decide_eq_true h11
 refine qW (t_n (zcr (sp (Bv true) (zjr (ret1 (Bv true) rfl rfl ⟨_,rfl,?_,H.base⟩)))))
 rw [decide_eq_true (by cases x;cases y;simp_all)]

theorem eqState_ok (w:World) (x:qH) (y:qH) {Qp:yOA} {X8:yLN} {Xr:yOA} {Ja:yLN} {jT:yOA} {Q5:yLN} {ayAlive:yOA} {cyAlive:Nat} {FyAlive:yLN} {ayBags:yOA} {cyBags:Nat} {FyBags:yLN} {ayAround:yOA} {cyAround:Nat} {FyAround:yLN} (Yj:qO.rep w X8 [Sv Qp x.qA.length Qo] x.qA) (hxBags:qO.rep w Ja [Sv Xr x.qE.length Xq] x.qE) (XW:qO.rep w Q5 [Sv jT x.qy.length jR] x.qy) (hyAlive:qO.rep w FyAlive [Sv ayAlive y.qA.length cyAlive] y.qA) (hyBags:qO.rep w FyBags [Sv ayBags y.qE.length cyBags] y.qE) (hyAround:qO.rep w FyAround [Sv ayAround y.qy.length cyAround] y.qy):Calls Tryz.prog 22 #[.agg #[Sv Qp x.qA.length Qo,Sv Xr x.qE.length Xq,Sv jT x.qy.length jR],.agg #[Sv ayAlive y.qA.length cyAlive,Sv ayBags y.qE.length cyBags,Sv ayAround y.qy.length cyAround]] w (Ret (fun v w' =>v=Bv (decide (x=y))) w):=by
 refine en func22 ntmps22 ?_
 have H:=((((((St.start w).arg hyAround).arg hyBags).arg hyAlive).arg XW).arg hxBags).arg Yj
 have nhxAlive:=qM Yj
 have nhxBags:=qM hxBags
 have nhxAround:=qM XW
 have nhyAlive:=qM hyAlive
 have nhyBags:=qM hyBags
 have nhyAround:=qM hyAround
 clear Yj hxBags XW hyAlive hyBags hyAround
 refine zcr (sw (o_box H (.agg #[Sv Qp x.qA.length Qo,Sv Xr x.qE.length Xq,Sv jT x.qy.length jR]) rfl fun b1 w2 H=>sw (o_box H (.agg #[Sv ayAlive y.qA.length cyAlive,Sv ayBags y.qE.length cyBags,Sv ayAround y.qy.length cyAround]) rfl fun b3 w4 H=>?_)))
 replace H:St _ _ [.box b3 (yT y ayAlive cyAlive ayBags cyBags ayAround cyAround) 38,.box b1 (yT x Qp Qo Xr Xq jT jR) 38] _:=H
 refine sp (Bv false) (zjcc (oF rfl (oL rfl (H.cell 1 rfl rfl) (oF rfl (oL rfl (H.cell 0 rfl rfl) (sw (oq (eqBoolS_ok _ x.qA y.qA (H.get 0 rfl).1 (H.get 3 rfl).1) H fun w5 H=>sp (Bv (!(decide (x.qA=y.qA)))) (zjn (xE (!(decide (x.qA=y.qA))) rfl (fun h7=>?_) (fun h7=>?_))))))))))
 ·skip
  replace h7:=xq h7
  replace h7:=of_decide_eq_false h7
  refine zcr (sp (Bv false) (zjr (t_r (ret1 (Bv false) rfl rfl ⟨_,rfl,?_,H.base⟩))))
  rw [decide_eq_false (fun e=>by subst e;simp_all)]
 replace h7:=xg h7
 replace h7:=of_decide_eq_true h7
 refine qW (t_n (zcc (oF rfl (oL rfl (H.cell 1 rfl rfl) (oF rfl (oL rfl (H.cell 0 rfl rfl) (sw (oq (eqInt64SS_ok _ x.qE y.qE (H.get 1 rfl).1 (H.get 4 rfl).1) H fun w8 H=>sp (Bv (!(decide (x.qE=y.qE)))) (zjn (xE (!(decide (x.qE=y.qE))) rfl (fun h10=>?_) (fun h10=>?_)))))))))))
 ·skip
  replace h10:=xq h10
  replace h10:=of_decide_eq_false h10
  refine zcr (sp (Bv false) (zjr (t_r (ret1 (Bv false) rfl rfl ⟨_,rfl,?_,H.base⟩))))
  rw [decide_eq_false (fun e=>by subst e;simp_all)]
 replace h10:=xg h10
 replace h10:=of_decide_eq_true h10
 refine qW (t_n (zcc (oF rfl (oL rfl (H.cell 1 rfl rfl) (oF rfl (oL rfl (H.cell 0 rfl rfl) (sw (oq (XN _ x.qy y.qy (H.get 2 rfl).1 (H.get 5 rfl).1) H fun w11 H=>sp (Bv (!(decide (x.qy=y.qy)))) (zjn (xE (!(decide (x.qy=y.qy))) rfl (fun h13=>?_) (fun h13=>?_)))))))))))
 ·skip
  replace h13:=xq h13
  replace h13:=of_decide_eq_false h13
  refine zcr (sp (Bv false) (zjr (t_r (ret1 (Bv false) rfl rfl ⟨_,rfl,?_,H.base⟩))))
  rw [decide_eq_false (fun e=>by subst e;simp_all)]
 replace h13:=xg h13
 replace h13:=of_decide_eq_true h13
 refine qW (t_n (zcr (sp (Bv true) (zjr (ret1 (Bv true) rfl rfl ⟨_,rfl,?_,H.base⟩)))))
 rw [decide_eq_true (by cases x;cases y;simp_all)]
end
section
open Go.RowKit
set_option linter.unusedVariables false
set_option linter.unusedSimpArgs false
set_option maxRecDepth 100000
set_option maxHeartbeats 4000000
theorem St.open_Int {W w:World} {ps:List Prv} {F:yLN} {b o m c:Nat} {l:yLI} (H:St W w ps [isF true F (Sv (some ⟨b,o,none⟩) m c) l]) (N:F.Nodup) (k:Nat) (hk:k < l.length) {y:Int} (hy:l[k]! =y):
    ∃ (xs1 xs2:List Value) (F1 F2:yLN),F=b :: (F1++[]++F2)∧xs1.length=k * 1∧St W w ps [Ym b o xs1 [.int .i64 y] xs2 F1 F2 (l.take k) (l.drop (k+1))]∧
      ([b :: (F1++F2)]:List yLN).flatten.Nodup:=by
  obtain ⟨cs,xs1,xs2,F1,Fk,F2,rfl,hx,hr,hfr,hlt,H⟩:=H.openAt k hk
  rw [hy] at hr
  obtain ⟨hFF,rfl⟩:=hr
  exact ⟨xs1,xs2,F1,F2,by rw [hFF],hx,H,by have N' :=nodup_hole N;rw [hFF] at N';simpa using N'⟩

theorem St.open_Bool {W w:World} {ps:List Prv} {F:yLN} {b o m c:Nat} {l:List Bool} (H:St W w ps [isF true F (Sv (some ⟨b,o,none⟩) m c) l]) (N:F.Nodup) (k:Nat) (hk:k < l.length) {y:Bool} (hy:l[k]! =y):
    ∃ (xs1 xs2:List Value) (F1 F2:yLN),F=b :: (F1++[]++F2)∧xs1.length=k * 1∧St W w ps [Ym b o xs1 [Bv y] xs2 F1 F2 (l.take k) (l.drop (k+1))]∧
      ([b :: (F1++F2)]:List yLN).flatten.Nodup:=by
  obtain ⟨cs,xs1,xs2,F1,Fk,F2,rfl,hx,hr,hfr,hlt,H⟩:=H.openAt k hk
  rw [hy] at hr
  obtain ⟨hFF,rfl⟩:=hr
  exact ⟨xs1,xs2,F1,F2,by rw [hFF],hx,H,by have N' :=nodup_hole N;rw [hFF] at N';simpa using N'⟩

theorem St.open_List {α:Type} [qO α] {W w:World} {ps:List Prv} {F:yLN} {b o m c:Nat} {l:List (List α)} (H:St W w ps [isF true F (Sv (some ⟨b,o,none⟩) m c) l]) (N:F.Nodup) (k:Nat) (hk:k < l.length) {y:List α} (hy:l[k]! =y):
    ∃ (xs1 xs2:List Value) (F1 F2:yLN) (a:yOA) (c' :Nat) (Fk:yLN),F=b :: (F1++Fk++F2)∧xs1.length=k * 1∧St W w ps [Ym b o xs1 [Sv a y.length c'] xs2 F1 F2 (l.take k) (l.drop (k+1)),isF true Fk (Sv a y.length c') y]∧
      ([b :: (F1++F2),Fk]:List yLN).flatten.Nodup:=by
  obtain ⟨cs,xs1,xs2,F1,Fk,F2,rfl,hx,hr,hfr,hlt,H⟩:=H.openAt k hk
  rw [hy] at hr
  obtain ⟨a,c',rfl,_⟩:=id hr
  exact ⟨xs1,xs2,F1,F2,a,c',Fk,rfl,hx,(H.add (isF true Fk (Sv a y.length c') y) ⟨hr,fun _=>hfr⟩ hlt).sel _ (.refl _) _ (all_of ⟨.tail _ (.head _),⟨.head _,trivial⟩⟩),by simpa using nodup_hole N⟩

instance:Mark IntoD where
  cnt x:=1+cnt x.jJ
  mrk x k:=⟨mrk x.qG (k),mrk x.jJ (k+1)⟩
  mkd x k:=mkd x.qG (k)∧mkd x.jJ (k+1)
  mkd_mark x k:=by
    simp only [cnt_mark]
    exact ⟨mkd_mark _ _,mkd_mark _ _⟩
  cnt_mark x k:=by simp only [cnt_mark]
theorem cnt_IntoD (x:IntoD):cnt x=1+cnt x.jJ:=rfl

theorem St.open_IntoD {W w:World} {ps:List Prv} {F:yLN} {b o m c:Nat} {l:List IntoD} (H:St W w ps [isF true F (Sv (some ⟨b,o,none⟩) m c) l]) (N:F.Nodup) (k:Nat) (hk:k < l.length) {y:IntoD} (hy:l[k]! =y):
    ∃ (xs1 xs2:List Value) (F1 F2:yLN) (aBag:yOA) (cBag:Nat) (FBag:yLN),F=b :: (F1++(FBag)++F2)∧xs1.length=k * 2∧St W w ps [Ym b o xs1 [.int .i64 y.qG,Sv aBag y.jJ.length cBag] xs2 F1 F2 (l.take k) (l.drop (k+1)),isF true FBag (Sv aBag y.jJ.length cBag) y.jJ]∧
      ([b :: (F1++F2),FBag]:List yLN).flatten.Nodup:=by
  obtain ⟨cs,xs1,xs2,F1,Fk,F2,rfl,hx,hr,hfr,hlt,H⟩:=H.openAt k hk
  rw [hy] at hr
  obtain ⟨vBag,FBag,rfl,hFF,hBag⟩:=hr
  obtain ⟨aBag,cBag,rfl⟩:=slice_form hBag
  exact ⟨xs1,xs2,F1,F2,_,_,_,by rw [hFF],hx,(H.add (isF true FBag (Sv aBag y.jJ.length cBag) y.jJ) ⟨hBag,fun _=>hfr.sub (by rw [hFF];intro z hz;simp [hz])⟩ (fun z hz=>hlt z (by rw [hFF];have hz:z∈FBag:=hz;simp [hz]))).sel _ (.refl _) _ (all_of ⟨.tail _ (.head _),⟨.head _,trivial⟩⟩),by have N' :=nodup_hole N;rw [hFF] at N';simpa using N'⟩

instance:Mark Xg where
  cnt x:=1+1+cnt x.xn+cnt x.xF+cnt x.xI+cnt x.xK+cnt x.ve+cnt x.qU+1
  mrk x k:=⟨mrk x.qG (k),mrk x.zS (k+1),mrk x.xn (k+1+1),mrk x.xF (k+1+1+(cnt x.xn:Nat)),mrk x.xI (k+1+1+(cnt x.xn:Nat)+(cnt x.xF:Nat)),mrk x.xK (k+1+1+(cnt x.xn:Nat)+(cnt x.xF:Nat)+(cnt x.xI:Nat)),mrk x.ve (k+1+1+(cnt x.xn:Nat)+(cnt x.xF:Nat)+(cnt x.xI:Nat)+(cnt x.xK:Nat)),mrk x.qU (k+1+1+(cnt x.xn:Nat)+(cnt x.xF:Nat)+(cnt x.xI:Nat)+(cnt x.xK:Nat)+(cnt x.ve:Nat)),mrk x.zH (k+1+1+(cnt x.xn:Nat)+(cnt x.xF:Nat)+(cnt x.xI:Nat)+(cnt x.xK:Nat)+(cnt x.ve:Nat)+(cnt x.qU:Nat))⟩
  mkd x k:=mkd x.qG (k)∧mkd x.zS (k+1)∧mkd x.xn (k+1+1)∧mkd x.xF (k+1+1+(cnt x.xn:Nat))∧mkd x.xI (k+1+1+(cnt x.xn:Nat)+(cnt x.xF:Nat))∧mkd x.xK (k+1+1+(cnt x.xn:Nat)+(cnt x.xF:Nat)+(cnt x.xI:Nat))∧mkd x.ve (k+1+1+(cnt x.xn:Nat)+(cnt x.xF:Nat)+(cnt x.xI:Nat)+(cnt x.xK:Nat))∧mkd x.qU (k+1+1+(cnt x.xn:Nat)+(cnt x.xF:Nat)+(cnt x.xI:Nat)+(cnt x.xK:Nat)+(cnt x.ve:Nat))∧mkd x.zH (k+1+1+(cnt x.xn:Nat)+(cnt x.xF:Nat)+(cnt x.xI:Nat)+(cnt x.xK:Nat)+(cnt x.ve:Nat)+(cnt x.qU:Nat))
  mkd_mark x k:=by
    simp only [cnt_mark]
    exact ⟨mkd_mark _ _,mkd_mark _ _,mkd_mark _ _,mkd_mark _ _,mkd_mark _ _,mkd_mark _ _,mkd_mark _ _,mkd_mark _ _,mkd_mark _ _⟩
  cnt_mark x k:=by simp only [cnt_mark]
theorem Qu (x:Xg):cnt x=1+1+cnt x.xn+cnt x.xF+cnt x.xI+cnt x.xK+cnt x.ve+cnt x.qU+1:=rfl

theorem St.open_RuleD {W w:World} {ps:List Prv} {F:yLN} {b o m c:Nat} {l:List Xg} (H:St W w ps [isF true F (Sv (some ⟨b,o,none⟩) m c) l]) (N:F.Nodup) (k:Nat) (hk:k < l.length) {y:Xg} (hy:l[k]! =y):
    ∃ (xs1 xs2:List Value) (F1 F2:yLN) (aNeed:yOA) (cNeed:Nat) (Je:yLN) (aHave:yOA) (cHave:Nat) (Ji:yLN) (aLack:yOA) (cLack:Nat) (Jf:yLN) (aHere:yOA) (cHere:Nat) (Jh:yLN) (aOut:yOA) (cOut:Nat) (FOut:yLN) (aInto:yOA) (cInto:Nat) (Jg:yLN),F=b :: (F1++(Je++Ji++Jf++Jh++FOut++Jg)++F2)∧xs1.length=k * 9∧St W w ps [Ym b o xs1 [.int .i64 y.qG,.int .i64 y.zS,Sv aNeed y.xn.length cNeed,Sv aHave y.xF.length cHave,Sv aLack y.xI.length cLack,Sv aHere y.xK.length cHere,Sv aOut y.ve.length cOut,Sv aInto y.qU.length cInto,Bv y.zH] xs2 F1 F2 (l.take k) (l.drop (k+1)),isF true Je (Sv aNeed y.xn.length cNeed) y.xn,isF true Ji (Sv aHave y.xF.length cHave) y.xF,isF true Jf (Sv aLack y.xI.length cLack) y.xI,isF true Jh (Sv aHere y.xK.length cHere) y.xK,isF true FOut (Sv aOut y.ve.length cOut) y.ve,isF true Jg (Sv aInto y.qU.length cInto) y.qU]∧
      ([b :: (F1++F2),Je,Ji,Jf,Jh,FOut,Jg]:List yLN).flatten.Nodup:=by
  obtain ⟨cs,xs1,xs2,F1,Fk,F2,rfl,hx,hr,hfr,hlt,H⟩:=H.openAt k hk
  rw [hy] at hr
  obtain ⟨vNeed,vHave,vLack,vHere,vOut,vInto,Je,Ji,Jf,Jh,FOut,Jg,rfl,hFF,hNeed,hHave,hLack,hHere,hOut,hInto⟩:=hr
  obtain ⟨aNeed,cNeed,rfl⟩:=slice_form hNeed
  obtain ⟨aHave,cHave,rfl⟩:=slice_form hHave
  obtain ⟨aLack,cLack,rfl⟩:=slice_form hLack
  obtain ⟨aHere,cHere,rfl⟩:=slice_form hHere
  obtain ⟨aOut,cOut,rfl⟩:=slice_form hOut
  obtain ⟨aInto,cInto,rfl⟩:=slice_form hInto
  exact ⟨xs1,xs2,F1,F2,_,_,_,_,_,_,_,_,_,_,_,_,_,_,_,_,_,_,by rw [hFF],hx,((((((H.add (isF true Jg (Sv aInto y.qU.length cInto) y.qU) ⟨hInto,fun _=>hfr.sub (by rw [hFF];intro z hz;simp [hz])⟩ (fun z hz=>hlt z (by rw [hFF];have hz:z∈Jg:=hz;simp [hz]))).add (isF true FOut (Sv aOut y.ve.length cOut) y.ve) ⟨hOut,fun _=>hfr.sub (by rw [hFF];intro z hz;simp [hz])⟩ (fun z hz=>hlt z (by rw [hFF];have hz:z∈FOut:=hz;simp [hz]))).add (isF true Jh (Sv aHere y.xK.length cHere) y.xK) ⟨hHere,fun _=>hfr.sub (by rw [hFF];intro z hz;simp [hz])⟩ (fun z hz=>hlt z (by rw [hFF];have hz:z∈Jh:=hz;simp [hz]))).add (isF true Jf (Sv aLack y.xI.length cLack) y.xI) ⟨hLack,fun _=>hfr.sub (by rw [hFF];intro z hz;simp [hz])⟩ (fun z hz=>hlt z (by rw [hFF];have hz:z∈Jf:=hz;simp [hz]))).add (isF true Ji (Sv aHave y.xF.length cHave) y.xF) ⟨hHave,fun _=>hfr.sub (by rw [hFF];intro z hz;simp [hz])⟩ (fun z hz=>hlt z (by rw [hFF];have hz:z∈Ji:=hz;simp [hz]))).add (isF true Je (Sv aNeed y.xn.length cNeed) y.xn) ⟨hNeed,fun _=>hfr.sub (by rw [hFF];intro z hz;simp [hz])⟩ (fun z hz=>hlt z (by rw [hFF];have hz:z∈Je:=hz;simp [hz]))).sel _ (.refl _) _ (all_of ⟨.tail _ (.tail _ (.tail _ (.tail _ (.tail _ (.tail _ (.head _)))))),⟨.head _,⟨.tail _ (.head _),⟨.tail _ (.tail _ (.head _)),⟨.tail _ (.tail _ (.tail _ (.head _))),⟨.tail _ (.tail _ (.tail _ (.tail _ (.head _)))),⟨.tail _ (.tail _ (.tail _ (.tail _ (.tail _ (.head _))))),trivial⟩⟩⟩⟩⟩⟩⟩),by have N' :=nodup_hole N;rw [hFF] at N';simpa using N'⟩

instance:Mark qH where
  cnt x:=cnt x.qA+cnt x.qE+cnt x.qy
  mrk x k:=⟨mrk x.qA (k),mrk x.qE (k+(cnt x.qA:Nat)),mrk x.qy (k+(cnt x.qA:Nat)+(cnt x.qE:Nat))⟩
  mkd x k:=mkd x.qA (k)∧mkd x.qE (k+(cnt x.qA:Nat))∧mkd x.qy (k+(cnt x.qA:Nat)+(cnt x.qE:Nat))
  mkd_mark x k:=by
    simp only [cnt_mark]
    exact ⟨mkd_mark _ _,mkd_mark _ _,mkd_mark _ _⟩
  cnt_mark x k:=by simp only [cnt_mark]
end
section

class CntTot (α:Type) [Mark α] [Tot α]:Prop where
  le:∀ x:α,cnt x≤10+10 * tot x
instance:CntTot Int:=⟨fun _=>by show 1≤_;omega⟩
instance:CntTot Bool:=⟨fun _=>by show 1≤_;omega⟩
section
variable {α : Type} [Mark α] [Tot α] [Inhabited α] [CntTot α]
theorem cntTo_tot (l:List α):∀ k,cntTo l k≤10 * k+10 * totTo l k
  | 0=>Nat.zero_le _
  | k+1=>by
    have h1:=cntTo_tot l k
    have h2:=CntTot.le (l[k]!)
    rw [Xl,totTo_succ]
    omega
theorem VY (l:List α):cnt l≤10 * tot l:=by
  have:=cntTo_tot l l.length
  rw [cnt_list,tot_list]
  omega
instance:CntTot (List α):=⟨fun l=>by have:=VY l;omega⟩
end
instance:CntTot IntoD:=⟨fun x=>by
  have h1:=VY x.jJ
  have h2:=tot_IntoD x
  have h3:=cnt_IntoD x
  omega⟩
instance:CntTot Xg:=⟨fun x=>by
  have h1:=VY x.xn
  have h2:=VY x.xF
  have h3:=VY x.xI
  have h4:=VY x.xK
  have h5:=VY x.ve
  have h6:=VY x.qU
  have h7:=tot_RuleD x
  have h8:=Qu x
  omega⟩
theorem cntTo_one {α:Type} [Mark α] [Inhabited α] (l:List α) (n:Nat) (h:∀ k,k < l.length→cnt (l[k]!)≤n):∀ k,k≤l.length→cntTo l k≤n * k
  | 0,_=>Nat.zero_le _
  | k+1,hk=>by
    have h1:=cntTo_one l n h k qf
    have h2:=h k qf
    rw [Xl,Nat.mul_add]
    omega
theorem cnt_ints (l:yLI):cnt l=l.length:=by
  have:∀ k,cntTo l k=k:=fun k=>by
    induction k with
    | zero=>rfl
    | succ k ih=>rw [Xl,ih];rfl
  rw [cnt_list,this]
theorem ft {b:Bool} (h:b=true) (h' :b=false):False:=by rw [h] at h';cases h'

theorem getset {α:Type} [Inhabited α] {l:List α} {c p:Nat} {v:α} (hc:c < l.length):(l.set c v)[p]! =if p=c then v else l[p]! :=by
  by_cases hp:p < l.length
  · rw [getElem!_pos _ _ (by simpa using hp),getElem!_pos l p hp,List.getElem_set]
    by_cases e:c=p
    · rw [if_pos e,if_pos e.symm]
    · rw [if_neg e,if_neg (fun h=>e h.symm)]
  · rw [if_neg qf,getElem!_neg (l.set c v) p (by simpa using hp),getElem!_neg l p hp]
theorem plus_get {l m:yLI} {t:Int} {k:Nat} (hk:k < l.length):(ji l m t)[k]! =l[k]! +t * m[k]! :=by
  rw [getElem!_pos (ji l m t) k (by rw [plusL_len];exact hk)]
  simp [ji,plusTo]
theorem ext_get {α:Type} [Inhabited α] {l m:List α} (hl:l.length=m.length) (h:∀ k,k < l.length→l[k]! =m[k]!):l=m:=by
  apply List.ext_getElem hl
  intro i h1 h2
  have:=h i h1
  rwa [getElem!_pos l i h1,getElem!_pos m i h2] at this
def Shape (n K:Nat) (B:Int) (b:yLL):Prop:=b.length=n∧∀ p,p < n→(b[p]!).length=K∧∀ k,k < K→ -B≤(b[p]!)[k]! ∧(b[p]!)[k]! ≤B
structure Ent (n K:Nat) (f:Nat→Nat→Int) (B:Int) (b:yLL):Prop where
  sh:Shape n K B b
  eq:∀ p k,p < n→k < K→(b[p]!)[k]! =f p k
def at' (p c:Nat) (x:Int):Int:=if p=c then x else 0
theorem Shape.set {n K:Nat} {B D:Int} {b:yLL} (h:Shape n K B b) {c:Nat} {v:yLI} (hc:c < n) (hv:v.length=K) (hb:∀ k,k < K→ -D≤v[k]! ∧v[k]! ≤D) (hD:B≤D):Shape n K D (b.set c v):=by
  refine ⟨by simp [h.1],fun p hp=>?_⟩
  rw [getset (by rw [h.1];exact hc)]
  by_cases e:p=c
  · rw [if_pos e];exact ⟨hv,hb⟩
  · rw [if_neg e]
    refine ⟨(h.2 p hp).1,fun k hk=>?_⟩
    have:=(h.2 p hp).2 k hk
    omega
theorem Shape.plus {n K:Nat} {B D:Int} {b:yLL} (h:Shape n K B b) {c:Nat} {m:yLI} {t:Int} (hc:c < n) (ht:∀ k,k < K→ -D≤t * m[k]! ∧t * m[k]! ≤D) (hD:0≤D):
    Shape n K (B+D) (b.set c (ji (b[c]!) m t)):=by
  have h1:=h.2 c hc
  refine h.set hc (by rw [plusL_len];exact h1.1) (fun k hk=>?_) qf
  rw [plus_get (by rw [h1.1];exact hk)]
  have:=h1.2 k hk
  have:=ht k hk
  omega
theorem Shape.row {n K:Nat} {B:Int} {b:yLL} (h:Shape n K B b) (hB:B≤1000000000000000) (hK:K≤8) {c:Nat} (hc:c < n):(b[c]!).length=K∧Mid (b[c]!):=by
  have h1:=h.2 c hc
  refine ⟨h1.1,by have:=h1.1;omega,fun k hk=>?_⟩
  have:=h1.2 k (by have:=h1.1;omega)
  omega
theorem Ent.add {n K:Nat} {f:Nat→Nat→Int} {B:Int} {b:yLL} (h:Ent n K f B b) {c:Nat} {m:yLI} {t:Int} {D:Int} {b' :yLL} (e:b' =b.set c (ji (b[c]!) m t)) (hc:c < n) (ht:∀ k,k < K→ -D≤t * m[k]! ∧t * m[k]! ≤D) (hD:0≤D):
    Ent n K (fun p k=>f p k+at' p c (t * m[k]!)) (B+D) b' :=by
  subst e
  refine ⟨h.sh.plus hc ht hD,fun p k hp hk=>?_⟩
  rw [getset (by rw [h.sh.1];exact hc)]
  unfold at'
  by_cases e:p=c
  · subst e
    rw [if_pos rfl,if_pos rfl,plus_get (by rw [(h.sh.2 p hp).1];exact hk),h.eq p k hp hk]
  · rw [if_neg e,if_neg e,h.eq p k hp hk];omega
theorem Shape.mono {n K:Nat} {B D:Int} {b:yLL} (h:Shape n K B b) (hD:B≤D):Shape n K D b:=⟨h.1,fun p hp=>⟨(h.2 p hp).1,fun k hk=>by have:=(h.2 p hp).2 k hk;omega⟩⟩
theorem Ent.to {n K:Nat} {f g:Nat→Nat→Int} {B D:Int} {b:yLL} (h:Ent n K f B b) (e:∀ p k,f p k=g p k) (hD:B≤D):Ent n K g D b:=⟨h.sh.mono hD,fun p k hp hk=>(h.eq p k hp hk).trans (e p k)⟩
theorem Ent.same {n K:Nat} {f g:Nat→Nat→Int} {B D:Int} {b c:yLL} (h:Ent n K f B b) (h' :Ent n K g D c) (e:∀ p k,p < n→k < K→f p k=g p k):b=c:=by
  refine ext_get (by rw [h.sh.1,h'.sh.1]) fun p hp=>?_
  rw [h.sh.1] at hp
  refine ext_get (by rw [(h.sh.2 p hp).1,(h'.sh.2 p hp).1]) fun k hk=>?_
  rw [(h.sh.2 p hp).1] at hk
  rw [h.eq p k hp hk,h'.eq p k hp hk,e p k hp hk]
def tab2 (n K:Nat) (f:Nat→Nat→Int):yLL:=(List.range n).map fun p=>(List.range K).map (f p)
theorem tab2_len (n K:Nat) (f:Nat→Nat→Int):(tab2 n K f).length=n:=by simp [tab2]
theorem tab2_row {n K:Nat} {f:Nat→Nat→Int} {p:Nat} (hp:p < n):(tab2 n K f)[p]! =(List.range K).map (f p):=by
  rw [getElem!_pos (tab2 n K f) p (by rw [tab2_len];exact hp)];simp [tab2]
theorem Ent.tab {n K:Nat} {f:Nat→Nat→Int} {B:Int} {b:yLL} (h:Ent n K f B b):b=tab2 n K f:=by
  refine ext_get (by rw [h.sh.1,tab2_len]) fun p hp=>?_
  rw [h.sh.1] at hp
  rw [tab2_row hp]
  refine ext_get (by rw [(h.sh.2 p hp).1];simp) fun k hk=>?_
  rw [(h.sh.2 p hp).1] at hk
  rw [h.eq p k hp hk,getElem!_pos ((List.range K).map (f p)) k (by simpa using hk)];simp
theorem Ent.snoc {n K:Nat} {f:Nat→Nat→Int} {B:Int} {b:yLL} {a:yLI} (h:Ent n K f B b) (ha:a.length=K) (hb:∀ k,k < K→ -B≤a[k]! ∧a[k]! ≤B) (he:∀ k,k < K→a[k]! =f n k):Ent (n+1) K f B (b++[a]):=by
  have hl:(b++[a]).length=n+1:=by simp [h.sh.1]
  have h1:∀ p,p < n→(b++[a])[p]! =b[p]! :=fun p hp=>by
    rw [getElem!_pos (b++[a]) p qf,getElem!_pos b p (by rw [h.sh.1];exact hp),List.getElem_append_left]
  have h2:(b++[a])[n]! =a:=by
    rw [getElem!_pos (b++[a]) n qf,List.getElem_append_right (by rw [h.sh.1];exact Nat.le_refl _)];simp
  refine ⟨⟨hl,fun p hp=>?_⟩,fun p k hp hk=>?_⟩
  · by_cases e:p=n
    · subst e;rw [h2];exact ⟨ha,hb⟩
    · rw [h1 p qf];exact h.sh.2 p qf
  · by_cases e:p=n
    · subst e;rw [h2];exact he k hk
    · rw [h1 p qf];exact h.eq p k qf hk

def QY (s:qI):Nat:=s.xB.toNat
abbrev jr (s:qI):Nat:=s.qw.length
def IntoUp (s:qI) (t:qH) (r:Xg) (k:Nat):Prop:=∀ j,j < k→t.qA[(r.qU[j]!).qG.toNat]! =true∧xA s t (r.qU[j]!).qG=r.qG
theorem IntoUp.succ {s:qI} {t:qH} {r:Xg} {k:Nat} (h:IntoUp s t r k) (h1:t.qA[(r.qU[k]!).qG.toNat]! =true) (h2:xA s t (r.qU[k]!).qG=r.qG):IntoUp s t r (k+1):=fun j hj=>by
  by_cases e:j=k
  · subst e;exact ⟨h1,h2⟩
  · exact h j qf
def EnOk (s:qI) (t:qH) (r:Xg):Prop:=
  t.qA[r.qG.toNat]! =true∧within r.xn (t.qE[r.qG.toNat]!)=true∧within r.xF (t.qE[r.qG.toNat]!)=true∧¬ (0 < Yd r.xI∧within r.xI (t.qE[r.qG.toNat]!)=true)∧IntoUp s t r r.qU.length
open Classical in
noncomputable def bestOf (s:qI) (t:qH) (z:Int) (c:Nat):Nat→Int
  | 0=>z
  | k+1=>if EnOk s t (s.qx[k]!)∧(s.qx[k]!).qG.toNat=c then max (bestOf s t z c k) (s.qx[k]!).zS else bestOf s t z c k
noncomputable def bests (s:qI) (t:qH) (z:Int) (n k:Nat):yLI:=tabTo (fun c=>bestOf s t z c k) n
theorem Vu (s:qI) (t:qH) (z:Int) (n k:Nat):(bests s t z n k).length=n:=tabTo_len _ _
theorem tab_get {g:Nat→Int} {n c:Nat} (h:c < n):(tabTo g n)[c]! =g c:=by
  rw [getElem!_pos (tabTo g n) c (by rw [tabTo_len];exact h)];simp [tabTo]
theorem bests_zero (s:qI) (t:qH) (z:Int) (n:Nat):List.replicate n z=bests s t z n 0:=by
  refine ext_get (by simp [Vu]) fun k hk=>?_
  rw [List.length_replicate] at hk
  rw [bests,tab_get hk,getElem!_pos (List.replicate n z) k (by simpa using hk)];simp [bestOf]
theorem bests_get {s:qI} {t:qH} {z:Int} {n k c:Nat} (h:c < n):(bests s t z n k)[c]! =bestOf s t z c k:=tab_get h
theorem bests_set {s:qI} {t:qH} {z:Int} {n k:Nat} (h:EnOk s t (s.qx[k]!)) (hc:(s.qx[k]!).qG.toNat < n):
    (bests s t z n k).set (s.qx[k]!).qG.toNat (max ((bests s t z n k)[(s.qx[k]!).qG.toNat]!) (s.qx[k]!).zS)=bests s t z n (k+1):=by
  refine ext_get (by simp [Vu]) fun p hp=>?_
  rw [List.length_set,Vu] at hp
  rw [getset (by rw [Vu];exact hc),bests_get hc,bests_get hp,bests_get hp,bestOf]
  by_cases e:p=(s.qx[k]!).qG.toNat
  · rw [if_pos e,if_pos ⟨h,e.symm⟩,e]
  · rw [if_neg e,if_neg fun x=>e x.2.symm]
theorem bests_skip {s:qI} {t:qH} {z:Int} {n k:Nat} (h:¬ EnOk s t (s.qx[k]!)):bests s t z n k=bests s t z n (k+1):=by
  refine ext_get (by simp [Vu]) fun p hp=>?_
  rw [Vu] at hp
  rw [bests_get hp,bests_get hp,bestOf,if_neg fun x=>h x.1]
def Appl (s:qI) (t:qH) (i:Nat):Prop:=
  EnOk s t (s.qx[i]!)∧∀ j,j < s.qx.length→EnOk s t (s.qx[j]!)→(s.qx[j]!).qG.toNat=(s.qx[i]!).qG.toNat→(s.qx[j]!).zS≤(s.qx[i]!).zS
theorem best_ge {s:qI} {t:qH} {z:Int} {c:Nat}:∀ {k j:Nat},j < k→EnOk s t (s.qx[j]!)→(s.qx[j]!).qG.toNat=c→(s.qx[j]!).zS≤bestOf s t z c k
  | k+1,j,h,h1,h2=>by
    rw [bestOf]
    by_cases e:j=k
    · subst e;rw [if_pos ⟨h1,h2⟩];omega
    · have:=best_ge (z:=z) (show j < k by omega) h1 h2
      split <;> omega
theorem best_le {s:qI} {t:qH} {z:Int} {c:Nat} {x:Int} (hz:z≤x):∀ {k:Nat},(∀ j,j < k→EnOk s t (s.qx[j]!)→(s.qx[j]!).qG.toNat=c→(s.qx[j]!).zS≤x)→bestOf s t z c k≤x
  | 0,_=>hz
  | k+1,h=>by
    rw [bestOf]
    have h1:=best_le hz (k:=k) fun j hj=>h j qf
    split
    · next h2=>have:=h k qf h2.1 h2.2;omega
    · exact h1
theorem appl_iff {s:qI} {t:qH} {z:Int} {i:Nat} (hi:i < s.qx.length) (hz:z≤(s.qx[i]!).zS):
    Appl s t i↔EnOk s t (s.qx[i]!)∧(s.qx[i]!).zS=bestOf s t z (s.qx[i]!).qG.toNat s.qx.length:=by
  constructor
  · rintro ⟨h1,h2⟩
    refine ⟨h1,?_⟩
    have h3:=best_ge (z:=z) hi h1 rfl
    have h4:=best_le (c:=(s.qx[i]!).qG.toNat) hz (k:=s.qx.length) h2
    omega
  · rintro ⟨h1,h2⟩
    exact ⟨h1,fun j hj h3 h4=>by rw [h2];exact best_ge hj h3 h4⟩
noncomputable def applB (s:qI) (t:qH) (k m:Nat):List Bool:=(List.range m).map fun j=>if j < k then dec (Appl s t j) else dec (EnOk s t (s.qx[j]!))
theorem applB_len (s:qI) (t:qH) (k m:Nat):(applB s t k m).length=m:=by simp [applB]
theorem applB_get {s:qI} {t:qH} {k m j:Nat} (h:j < m):(applB s t k m)[j]! =if j < k then dec (Appl s t j) else dec (EnOk s t (s.qx[j]!)):=by
  rw [getElem!_pos (applB s t k m) j (by rw [applB_len];exact h)];simp [applB]
theorem applB_snoc (s:qI) (t:qH) (m:Nat):applB s t 0 m++[dec (EnOk s t (s.qx[m]!))]=applB s t 0 (m+1):=by simp [applB,List.range_succ]
theorem applB_set {s:qI} {t:qH} {k m:Nat} {x:Bool} (hk:k < m) (hx:x=dec (Appl s t k)):(applB s t k m).set k x=applB s t (k+1) m:=by
  refine ext_get (by simp [applB_len]) fun p hp=>?_
  rw [List.length_set,applB_len] at hp
  rw [getset (by rw [applB_len];exact hk),applB_get hp,applB_get hp]
  by_cases e:p=k
  · subst e;rw [if_pos rfl,if_pos qf,hx]
  · rw [if_neg e]
    by_cases e1:p < k
    · rw [if_pos e1,if_pos qf]
    · rw [if_neg e1,if_neg qf]
theorem applB_step0 {s:qI} {t:qH} {k m:Nat} (hk:k < m) (h:(applB s t k m)[k]! =false):false=dec (Appl s t k):=by
  rw [applB_get hk,if_neg qf] at h
  exact (xx fun x=>vG h x.1).symm
theorem applB_step1 {s:qI} {t:qH} {k m n i:Nat} {z:Int} (hk:k < m) (h:(applB s t k m)[k]! =true) (hm:m=s.qx.length) (hc:(s.qx[k]!).qG.toNat < n) (hz:z≤(s.qx[k]!).zS) (hi:i=s.qx.length):
    ((s.qx[k]!).zS == (bests s t z n i)[(s.qx[k]!).qG.toNat]!)=dec (Appl s t k):=by
  rw [applB_get hk,if_neg qf] at h
  refine dec_eq ?_
  rw [beq_iff_eq,bests_get hc,hi,appl_iff qf hz]
  exact ⟨fun e=>⟨QU h,e⟩,fun e=>e.2⟩
noncomputable def appl (s:qI) (t:qH):List Bool:=applB s t s.qx.length s.qx.length
theorem appl_len (s:qI) (t:qH):(appl s t).length=s.qx.length:=applB_len _ _ _ _
theorem appl_get {s:qI} {t:qH} {j:Nat} (h:j < s.qx.length):(appl s t)[j]! =dec (Appl s t j):=by rw [appl,applB_get h,if_pos h]
theorem Xt {s:qI} {t:qH} {j:Nat} (h:j < s.qx.length) (h1:(appl s t)[j]! =true):Appl s t j:=QU (appl_get (s:=s) (t:=t) h▸h1)
theorem QP {s:qI} {t:qH} {j:Nat} (h:j < s.qx.length) (h1:(appl s t)[j]! =false):¬ Appl s t j:=vG (appl_get (s:=s) (t:=t) h▸h1)
def HaltTo (s:qI) (t:qH) (k:Nat):Prop:=∀ j,j < k→¬ Appl s t j
theorem HaltTo.succ {s:qI} {t:qH} {k:Nat} (h:HaltTo s t k) (h1:¬ Appl s t k):HaltTo s t (k+1):=fun j hj=>by
  by_cases e:j=k
  · subst e;exact h1
  · exact h j qf
abbrev Halted (s:qI) (t:qH):Prop:=HaltTo s t s.qx.length
noncomputable def applL (s:qI) (t:qH) (k:Nat):yLI:=((List.range k).filter fun j=>dec (Appl s t j)).map Int.ofNat
theorem applL_yes {s:qI} {t:qH} {k:Nat} (h:Appl s t k):applL s t k++[(k:Int)]=applL s t (k+1):=by simp [applL,List.range_succ,List.filter_append,yH h]
theorem applL_no {s:qI} {t:qH} {k:Nat} (h:¬ Appl s t k):applL s t k=applL s t (k+1):=by simp [applL,List.range_succ,List.filter_append,xx h]
noncomputable def appls (s:qI) (t:qH):yLI:=applL s t s.qx.length
theorem applL_le (s:qI) (t:qH) (k:Nat):(applL s t k).length≤k:=by
  have:=List.length_filter_le (fun j=>dec (Appl s t j)) (List.range k)
  simpa [applL] using this
theorem mem_applL {s:qI} {t:qH} {k:Nat} {x:Int}:x∈applL s t k↔0≤x∧x.toNat < k∧Appl s t x.toNat:=by
  simp only [applL,List.mem_map,List.mem_filter,List.mem_range]
  constructor
  · rintro ⟨j,⟨h1,h2⟩,rfl⟩
    exact ⟨Int.natCast_nonneg j,h1,QU h2⟩
  · rintro ⟨h0,h1,h2⟩
    exact ⟨x.toNat,⟨h1,yH h2⟩,by show ((x.toNat:Nat):Int)=x;omega⟩
theorem jE.rule {s:qI} (h:jE s) {i:Nat} (hi:i < s.qx.length):RuleOk s (s.qx[i]!):=(h.2.2 i hi).1
theorem RuleOk.cell {s:qI} {r:Xg} (h:RuleOk s r):r.qG.toNat < jr s:=by have:=h.1.1;have:=h.1.2;unfold jr;omega
theorem vI.len {s:qI} {l:yLI} (h:vI s.xB l):l.length=QY s:=by have:=h.2;unfold QY;omega
theorem vI.get {n:Int} {l:yLI} (h:vI n l) {k:Nat} (hk:k < l.length):0≤l[k]! ∧l[k]! ≤1000:=h.1.1 k hk
theorem vI.mul {s:qI} {m:yLI} (h:vI s.xB m) {t:Int} (ht: -1000≤t∧t≤1000):∀ k,k < QY s→ -1000000≤t * m[k]! ∧t * m[k]! ≤1000000:=fun k hk=>by
  have h1:=h.1.1 k (by rw [h.len];exact hk)
  rcases Int.le_total 0 t with h0 | h0
  · have h2:=Int.mul_nonneg h0 h1.1
    have h3:=Int.mul_le_mul_of_nonneg_left h1.2 h0
    omega
  · have h2:=Int.mul_nonneg (show 0≤ -t by omega) h1.1
    have h3:=Int.mul_le_mul_of_nonneg_left h1.2 (show 0≤ -t by omega)
    have h4: -t * m[k]! = -(t * m[k]!):=Int.neg_mul ..
    omega
theorem vI.Qq {s:qI} {m:yLI} (h:vI s.xB m) {t:Int} (ht: -1000≤t∧t≤1000):SmallT m t:=bagOk_smallT h qf
theorem kinds_le {s:qI} (h:jE s):QY s≤8:=by have:=h.1.1.2;unfold QY;omega
theorem zu.shape {s:qI} {t:qH} (h:zu s t):Shape (jr s) (QY s) 1000 t.qE:=by
  refine ⟨h.2.1,fun p hp=>?_⟩
  have hb:=h.bagLen (k:=p) (by rw [h.2.1];exact hp)
  refine ⟨hb.len,fun k hk=>?_⟩
  have:=hb.get (k:=k) (by rw [hb.len];exact hk)
  omega
def CntOk (s:qI) (counts:yLI):Prop:=counts.length=s.qx.length∧∀ i,i < counts.length→0≤counts[i]! ∧counts[i]! ≤1000
theorem CntOk.bd {s:qI} {counts:yLI} (h:CntOk s counts) {i:Nat} (hi:i < s.qx.length):0≤counts[i]! ∧counts[i]! ≤1000:=h.2 i (by rw [h.1];exact hi)

def Qz (s:qI) (t:qH) (counts:yLI):Nat→yLL
  | 0=>t.qE
  | k+1=>(Qz s t counts k).set (s.qx[k]!).qG.toNat (ji ((Qz s t counts k)[(s.qx[k]!).qG.toNat]!) (s.qx[k]!).xn (-(counts[k]!)))
def needF (s:qI) (counts:yLI) (i p k:Nat):Int:=at' p (s.qx[i]!).qG.toNat (-(counts[i]!) * ((s.qx[i]!).xn)[k]!)
def needS (s:qI) (counts:yLI):Nat→Nat→Nat→Int
  | 0,_,_=>0
  | i+1,p,k=>needS s counts i p k+needF s counts i p k
theorem restR_ent {s:qI} {t:qH} {counts:yLI} (hs:jE s) (ht:zu s t) (hc:CntOk s counts):∀ k,k≤s.qx.length→
    Ent (jr s) (QY s) (fun p q=>(t.qE[p]!)[q]! +needS s counts k p q) (1000+1000000 * k) (Qz s t counts k)
  | 0,_=>⟨by simpa [Qz] using ht.shape,fun p k hp hk=>by simp [Qz,needS]⟩
  | k+1,h=>by
    have hr:=hs.rule (i:=k) qf
    have hcb:=hc.bd (i:=k) qf
    refine ((restR_ent hs ht hc k qf).add (D:=1000000) rfl hr.cell (hr.2.2.2.2.1.mul qf) qf).to (fun p q=>?_) qf
    show _=_+(needS s counts k p q+needF s counts k p q)
    unfold needF;omega
theorem restR_row {s:qI} {t:qH} {counts:yLI} (hs:jE s) (ht:zu s t) (hc:CntOk s counts) {k c:Nat} (hk:k≤s.qx.length) (h:c < jr s):
    ((Qz s t counts k)[c]!).length=QY s∧Mid ((Qz s t counts k)[c]!):=(restR_ent hs ht hc k hk).sh.row (by have:=hs.2.1;omega) (kinds_le hs) h
theorem restR_len {s:qI} {t:qH} {counts:yLI}:∀ k,(Qz s t counts k).length=t.qE.length
  | 0=>rfl
  | k+1=>by rw [Qz,List.length_set];exact restR_len k
open Classical in
noncomputable def Q9 (P:Nat→Prop):Nat→Nat
  | 0=>0
  | n+1=>if Q9 P n < n then Q9 P n else if P n then n else n+1
theorem stop_none {P:Nat→Prop}:∀ {n:Nat},(∀ j,j < n→¬ P j)→Q9 P n=n
  | 0,_=>rfl
  | n+1,h=>by rw [Q9,stop_none (n:=n) (fun j hj=>h j qf),if_neg qf,if_neg (h n qf)]
theorem stop_first {P:Nat→Prop}:∀ {n k:Nat},(∀ j,j < k→¬ P j)→k < n→P k→Q9 P n=k
  | n+1,k,h,hk,hp=>by
    rw [Q9]
    by_cases e:k=n
    · subst e;rw [stop_none h,if_neg qf,if_pos hp]
    · rw [stop_first (n:=n) h qf hp,if_pos qf]
def BadAt (s:qI) (t:qH) (counts:yLI) (i:Nat):Prop:=0 < counts[i]! ∧¬ Appl s t i
def GoodTo (s:qI) (t:qH) (counts:yLI) (k:Nat):Prop:=∀ i,i < k→¬ BadAt s t counts i
theorem GoodTo.succ {s:qI} {t:qH} {counts:yLI} {k:Nat} (h:GoodTo s t counts k) (h1:¬ BadAt s t counts k):GoodTo s t counts (k+1):=fun j hj=>by
  by_cases e:j=k
  · subst e;exact h1
  · exact h j qf
def NonNeg (b:yLL) (n:Nat):Prop:=∀ p,p < n→∀ k,k < (b[p]!).length→0≤(b[p]!)[k]!
theorem NonNeg.succ {b:yLL} {n:Nat} (h:NonNeg b n) (h1:∀ k,k < (b[n]!).length→0≤(b[n]!)[k]!):NonNeg b (n+1):=fun j hj=>by
  by_cases e:j=n
  · subst e;exact h1
  · exact h j qf
def IsCh (s:qI) (t:qH) (counts:yLI):Prop:=GoodTo s t counts counts.length∧NonNeg (Qz s t counts counts.length) t.qE.length
def Qm (l m:yLI):Nat→Int
  | 0=>1000
  | k+1=>if 0 < l[k]! then min (Qm l m k) (m[k]! / l[k]!) else Qm l m k
def jD (l m:yLI):Int:=Qm l m l.length
theorem timesTo_pos {l m:yLI} {k:Nat} (h:0 < l[k]!):Qm l m (k+1)=min (Qm l m k) (m[k]! / l[k]!):=by rw [Qm,if_pos h]
theorem timesTo_skip {l m:yLI} {k:Nat} (h:¬ 0 < l[k]!):Qm l m (k+1)=Qm l m k:=by rw [Qm,if_neg h]
theorem timesTo_bd {l m:yLI} (hm:∀ k,k < l.length→0≤m[k]!):∀ k,k≤l.length→0≤Qm l m k∧Qm l m k≤1000
  | 0,_=>by simp [Qm]
  | k+1,h=>by
    have:=timesTo_bd hm k qf
    rw [Qm]
    split
    · next h1=>have:=Int.ediv_nonneg (hm k qf) (show 0≤l[k]! by omega);omega
    · exact this
theorem timesTo_le {l m:yLI}:∀ {k j:Nat},j < k→0 < l[j]! →Qm l m k≤m[j]! / l[j]!
  | k+1,j,h,h1=>by
    rw [Qm]
    by_cases e:j=k
    · subst e;rw [if_pos h1];omega
    · have:=timesTo_le (m:=m) (show j < k by omega) h1
      split <;> omega
theorem timesL_left {l m:yLI} (hl:∀ k,k < l.length→0≤l[k]!) (hm:∀ k,k < l.length→0≤m[k]!) {k:Nat} (hk:k < l.length):0≤m[k]! + -(jD l m) * l[k]! :=by
  have h0:=timesTo_bd hm l.length (Nat.le_refl _)
  rcases Int.lt_or_eq_of_le (hl k hk) with h | h
  · have h1:=timesTo_le (m:=m) hk h
    have h2:m[k]! / l[k]! * l[k]! ≤m[k]! :=Int.ediv_mul_le _ qf
    have h3:=Int.mul_le_mul_of_nonneg_right h1 (show 0≤l[k]! by omega)
    have h4: -(jD l m) * l[k]! = -(jD l m * l[k]!):=Int.neg_mul ..
    unfold jD at *
    omega
  · rw [← h];have:=hm k hk;omega
def X0 (l m:yLI) (i:Nat) (best:Int):Prop:=(best=Qm l m i∧∃ j,j < i∧0 < l[j]!)∨(best= -1∧Qm l m i=1000∧∀ j,j < i→l[j]! ≤0)
theorem X0.zero (l m:yLI):X0 l m 0 (-1):=.inr ⟨rfl,rfl,fun j hj=>by omega⟩
theorem X0.take {l m:yLI} {i:Nat} {best:Int} (h:X0 l m i best) (hm:0≤m[i]! ∧m[i]! ≤1000) (hl:0 < l[i]!) (hb:best < 0∨m[i]! / l[i]! < best) (hn:0≤Qm l m i):X0 l m (i+1) (m[i]! / l[i]!):=by
  refine .inl ⟨?_,i,by omega,hl⟩
  rw [timesTo_pos hl]
  have h1:m[i]! / l[i]! ≤m[i]! :=Int.ediv_le_self _ hm.1
  rcases h with ⟨h,_⟩ | ⟨h,h2,_⟩ <;> omega
theorem X0.keep {l m:yLI} {i:Nat} {best:Int} (h:X0 l m i best) (hl:¬ 0 < l[i]!):X0 l m (i+1) best:=by
  unfold X0
  rw [timesTo_skip hl]
  rcases h with ⟨h,j,h1,h2⟩ | ⟨h,h2,h3⟩
  · exact .inl ⟨h,j,by omega,h2⟩
  · refine .inr ⟨h,h2,fun j hj=>?_⟩
    by_cases e:j=i
    · subst e;omega
    · exact h3 j qf
theorem X0.keep2 {l m:yLI} {i:Nat} {best:Int} (h:X0 l m i best) (hl:0 < l[i]!) (hb:¬ best < 0) (hn:¬ m[i]! / l[i]! < best):X0 l m (i+1) best:=by
  refine .inl ⟨?_,i,by omega,hl⟩
  rw [timesTo_pos hl]
  rcases h with ⟨h,_⟩ | ⟨h,_⟩ <;> omega
theorem X0.done {l m:yLI} {i:Nat} {best:Int} (h:X0 l m i best) (hp:∃ j,j < i∧0 < l[j]!):best=Qm l m i:=by
  rcases h with ⟨h,_⟩ | ⟨_,_,h3⟩
  · exact h
  · obtain ⟨j,h1,h2⟩:=hp
    have:=h3 j h1;omega
theorem sum_pos {l:yLI} (h:Yg l) (h1:Yd l≠0):∃ j,j < l.length∧0 < l[j]! :=by
  apply Classical.byContradiction
  intro hn
  have h0:∀ k,k≤l.length→sumTo l k=0:=by
    intro k
    induction k with
    | zero=>intro _;rfl
    | succ k ih=>
      intro hk
      have h2:=h.1 k qf
      have h3:¬ 0 < l[k]! :=fun h4=>hn ⟨k,by omega,h4⟩
      rw [sumTo,ih qf];omega
  exact h1 (h0 _ (Nat.le_refl _))
def Box (n K:Nat) (b:yLL):Prop:=b.length=n∧∀ p,p < n→(b[p]!).length=K∧∀ k,k < K→0≤(b[p]!)[k]! ∧(b[p]!)[k]! ≤1000
theorem zu.box {s:qI} {t:qH} (h:zu s t):Box (jr s) (QY s) t.qE:=by
  refine ⟨h.2.1,fun p hp=>?_⟩
  have hb:=h.bagLen (k:=p) (by rw [h.2.1];exact hp)
  exact ⟨hb.len,fun k hk=>hb.get (by rw [hb.len];exact hk)⟩
theorem parentNow_root {s:qI} {t:qH} (hs:Qx s):xA s t 0= -1:=by
  unfold xA
  rw [show s.qw[(0:Int).toNat]! = -1 from hs.2.2.1]
  exact climb_end fun h=>by omega
def outPl (s:qI) (t:qH) (r:Xg):Nat:=if r.qG=0 then jr s else (xA s t r.qG).toNat
theorem outPl_root {s:qI} {t:qH} {r:Xg} (h:r.qG=0):outPl s t r=jr s:=by rw [outPl,if_pos h]
theorem outPl_up {s:qI} {t:qH} {r:Xg} (h:r.qG≠0):outPl s t r=(xA s t r.qG).toNat:=by rw [outPl,if_neg h]
def intoF (r:Xg) (c:Int):Nat→Nat→Nat→Int
  | 0,_,_=>0
  | j+1,p,k=>intoF r c j p k+at' p (r.qU[j]!).qG.toNat (c * ((r.qU[j]!).jJ)[k]!)
def putF (s:qI) (t:qH) (r:Xg) (c:Int) (p k:Nat):Int:=at' p r.qG.toNat (c * r.xK[k]!)+at' p (outPl s t r) (c * r.ve[k]!)+intoF r c r.qU.length p k
def putS (s:qI) (t:qH) (counts:yLI):Nat→Nat→Nat→Int
  | 0,_,_=>0
  | i+1,p,k=>putS s t counts i p k+putF s t (s.qx[i]!) (counts[i]!) p k
def allS (s:qI) (t:qH) (counts:yLI):Nat→Nat→Nat→Int
  | 0,_,_=>0
  | i+1,p,k=>allS s t counts i p k+needF s counts i p k+putF s t (s.qx[i]!) (counts[i]!) p k
theorem allS_eq (s:qI) (t:qH) (counts:yLI) (p k:Nat):∀ i,allS s t counts i p k=needS s counts i p k+putS s t counts i p k
  | 0=>rfl
  | i+1=>by
    have:=allS_eq s t counts p k i
    simp only [allS,needS,putS]
    omega
theorem at_zero (p c:Nat) (x:Int):at' p c (0 * x)=0:=by unfold at';split <;> simp
theorem intoF_zero (r:Xg) (p k:Nat):∀ j,intoF r 0 j p k=0
  | 0=>rfl
  | j+1=>by rw [intoF,intoF_zero r p k j,at_zero];rfl
theorem putF_zero (s:qI) (t:qH) (r:Xg) {c:Int} (h:c=0) (p k:Nat):putF s t r c p k=0:=by
  subst h;rw [putF,at_zero,at_zero,intoF_zero];rfl
theorem putS_skip {s:qI} {t:qH} {counts:yLI} {i:Nat} (h:counts[i]! =0) (p k:Nat):putS s t counts (i+1) p k=putS s t counts i p k:=by
  rw [putS,putF_zero s t _ h];omega
def base0 (s:qI) (t:qH) (p k:Nat):Int:=if p < jr s then (t.qE[p]!)[k]! else t.qy[k]!
def stepF (s:qI) (t:qH) (counts:yLI) (p k:Nat):Int:=base0 s t p k+allS s t counts s.qx.length p k
noncomputable def xy (s:qI) (t:qH) (counts:yLI):qH:=
  ⟨t.qA,(tab2 (jr s+1) (QY s) (stepF s t counts)).take (jr s),(tab2 (jr s+1) (QY s) (stepF s t counts))[jr s]!⟩
theorem zu.around {s:qI} {t:qH} (h:zu s t):t.qy.length=QY s∧∀ k,k < QY s→0≤t.qy[k]! ∧t.qy[k]! ≤1000:=by
  have hb:=h.2.2.2.1
  exact ⟨hb.len,fun k hk=>hb.get (by rw [hb.len];exact hk)⟩
theorem start_ent {s:qI} {t:qH} {counts:yLI} (ht:zu s t):Ent (jr s+1) (QY s) (fun p k=>base0 s t p k+allS s t counts 0 p k) 1000 (t.qE++[t.qy]):=by
  have h1:Ent (jr s) (QY s) (fun p k=>base0 s t p k+allS s t counts 0 p k) 1000 t.qE:=⟨ht.shape,fun p k hp hk=>by simp [base0,hp,allS]⟩
  refine h1.snoc ht.around.1 (fun k hk=>by have:=ht.around.2 k hk;omega) fun k hk=>?_
  simp [base0,allS]
theorem rest_ent {s:qI} {t:qH} {counts:yLI} (hs:jE s) (ht:zu s t) (hc:CntOk s counts):
    Ent (jr s+1) (QY s) (fun p k=>base0 s t p k+needS s counts s.qx.length p k+putS s t counts 0 p k) (1000+1000000 * s.qx.length) (Qz s t counts s.qx.length++[t.qy]):=by
  have h1:Ent (jr s) (QY s) (fun p k=>base0 s t p k+needS s counts s.qx.length p k+putS s t counts 0 p k) (1000+1000000 * s.qx.length) (Qz s t counts s.qx.length):=by
    have h0:=restR_ent hs ht hc _ (Nat.le_refl _)
    exact ⟨h0.sh,fun p k hp hk=>by rw [h0.eq p k hp hk];simp [base0,hp,putS]⟩
  refine h1.snoc ht.around.1 (fun k hk=>by have:=ht.around.2 k hk;omega) fun k hk=>?_
  have h2:∀ i,i≤s.qx.length→needS s counts i (jr s) k=0:=by
    intro i
    induction i with
    | zero=>intro _;rfl
    | succ i ih=>
      intro hi
      have:=(hs.rule (i:=i) qf).cell
      rw [needS,ih qf,needF,at',if_neg qf];rfl
  rw [h2 _ (Nat.le_refl _)]
  simp [base0,putS]
theorem step_tab {s:qI} {t:qH} {counts:yLI} {B:Int} {b:yLL} (h:Ent (jr s+1) (QY s) (fun p k=>base0 s t p k+allS s t counts s.qx.length p k) B b):
    b.take (jr s)=(xy s t counts).qE∧b[jr s]! =(xy s t counts).qy:=by
  have e:=h.tab
  constructor
  · show _=(tab2 _ _ _).take _
    rw [e];rfl
  · show _=(tab2 _ _ _)[_]!
    rw [e];rfl
theorem step_tab2 {s:qI} {t:qH} {counts:yLI} {B:Int} {b:yLL} {a:yLI} (hb:b.length=jr s) (h:Ent (jr s+1) (QY s) (fun p k=>base0 s t p k+needS s counts s.qx.length p k+putS s t counts s.qx.length p k) B (b++[a])):
    b=(xy s t counts).qE∧a=(xy s t counts).qy:=by
  have h1:=step_tab (h.to (g:=fun p k=>base0 s t p k+allS s t counts s.qx.length p k) (fun p k=>by rw [allS_eq];omega) (Int.le_refl _))
  rw [← hb,List.take_left] at h1
  refine ⟨h1.1,?_⟩
  rw [← h1.2,getElem!_pos (b++[a]) b.length qm,List.getElem_append_right (Nat.le_refl _)];simp
theorem cat_set {b:yLL} {a v:yLI} {c:Nat} (hc:c < b.length):(b++[a]).set c v=b.set c v++[a]:=List.set_append_left c v hc
theorem cat_setN {b:yLL} {a v:yLI} {n:Nat} (h:b.length=n):(b++[a]).set n v=b++[v]:=by
  rw [List.set_append_right _ _ qf,h];simp
theorem cat_get {b:yLL} {a:yLI} {c:Nat} (hc:c < b.length):(b++[a])[c]! =b[c]! :=by
  rw [getElem!_pos (b++[a]) c (by simp;omega),getElem!_pos b c hc,List.getElem_append_left hc]
theorem cat_getN {b:yLL} {a:yLI} {n:Nat} (h:b.length=n):(b++[a])[n]! =a:=by
  rw [getElem!_pos (b++[a]) n (by simp;omega),List.getElem_append_right qf];simp [h]
theorem Ent.addL {n K:Nat} {f:Nat→Nat→Int} {B D:Int} {b:yLL} {a:yLI} (h:Ent (n+1) K f B (b++[a])) {c:Nat} {m:yLI} {t:Int} {b' :yLL} (e:b' =b.set c (ji (b[c]!) m t)) (hb:b.length=n) (hc:c < n) (ht:∀ k,k < K→ -D≤t * m[k]! ∧t * m[k]! ≤D) (hD:0≤D):
    Ent (n+1) K (fun p k=>f p k+at' p c (t * m[k]!)) (B+D) (b' ++[a]):=
  h.add (by rw [e,← cat_set qf,cat_get qf]) qf ht hD
theorem Ent.addN {n K:Nat} {f:Nat→Nat→Int} {B D:Int} {b:yLL} {a:yLI} (h:Ent (n+1) K f B (b++[a])) {m:yLI} {t:Int} {a' :yLI} (e:a' =ji a m t) (hb:b.length=n) (ht:∀ k,k < K→ -D≤t * m[k]! ∧t * m[k]! ≤D) (hD:0≤D):
    Ent (n+1) K (fun p k=>f p k+at' p n (t * m[k]!)) (B+D) (b++[a']):=
  h.add (by rw [e,cat_setN hb,cat_getN hb]) qf ht hD
theorem Ent.rowL {n K:Nat} {f:Nat→Nat→Int} {B:Int} {b:yLL} {a:yLI} (h:Ent (n+1) K f B (b++[a])) (hb:b.length=n) (hB:B≤1000000000000000) (hK:K≤8) {c:Nat} (hc:c < n):(b[c]!).length=K∧Mid (b[c]!):=by
  have:=h.sh.row hB hK (c:=c) qf
  rwa [cat_get qf] at this
theorem Ent.rowN {n K:Nat} {f:Nat→Nat→Int} {B:Int} {b:yLL} {a:yLI} (h:Ent (n+1) K f B (b++[a])) (hb:b.length=n) (hB:B≤1000000000000000) (hK:K≤8):a.length=K∧Mid a:=by
  have:=h.sh.row hB hK (c:=n) qf
  rwa [cat_getN hb] at this

def XB (s:qI) (counts:yLI) (c:Int) (k:Nat):Prop:=∃ i,i < k∧0 < counts[i]! ∧(s.qx[i]!).zH=true∧(s.qx[i]!).qG=c
theorem melts_zero (s:qI) (counts:yLI) (c:Int):¬ XB s counts c 0:=fun ⟨i,h,_⟩=>by omega
theorem melts_succ {s:qI} {counts:yLI} {c:Int} {k:Nat}:XB s counts c (k+1)↔XB s counts c k∨(0 < counts[k]! ∧(s.qx[k]!).zH=true∧(s.qx[k]!).qG=c):=by
  constructor
  · rintro ⟨i,h,h1⟩
    by_cases e:i=k
    · subst e;exact .inr h1
    · exact .inl ⟨i,by omega,h1⟩
  · rintro (⟨i,h,h1⟩ | h)
    · exact ⟨i,by omega,h1⟩
    · exact ⟨k,by omega,h⟩
theorem melts_1 {s:qI} {counts:yLI} {c:Int} {k:Nat} (h:dec (XB s counts c k)=true):true=dec (XB s counts c (k+1)):=(yH (melts_succ.2 (.inl (QU h)))).symm
theorem melts_2 {s:qI} {counts:yLI} {c:Int} {k:Nat} (h:dec (XB s counts c k)=false) (h1:¬ counts[k]! > 0):false=dec (XB s counts c (k+1)):=
  (xx fun x=>(melts_succ.1 x).elim (vG h) fun y=>h1 y.1).symm
theorem melts_3 {s:qI} {counts:yLI} {c:Int} {k:Nat} (h:dec (XB s counts c k)=false) (h1:(s.qx[k]!).zH=false):false=dec (XB s counts c (k+1)):=
  (xx fun x=>(melts_succ.1 x).elim (vG h) fun y=>ft y.2.1 h1).symm
theorem melts_4 {s:qI} {counts:yLI} {c:Int} {k:Nat} (h:dec (XB s counts c k)=false) (h1:counts[k]! > 0) (h2:(s.qx[k]!).zH=true):((s.qx[k]!).qG == c)=dec (XB s counts c (k+1)):=by
  refine dec_eq ?_
  rw [beq_iff_eq,melts_succ]
  exact ⟨fun e=>.inr ⟨h1,h2,e⟩,fun x=>x.elim (fun y=>absurd y (vG h)) fun y=>y.2.2⟩
abbrev Melts (s:qI) (counts:yLI) (c:Int):Prop:=XB s counts c s.qx.length
noncomputable def yV (s:qI) (counts:yLI) (n k:Nat):List Bool:=(List.range n).map fun c:Nat=>dec (XB s counts (c:Int) k)
theorem meltsL_len (s:qI) (counts:yLI) (n k:Nat):(yV s counts n k).length=n:=by simp [yV]
theorem meltsL_get {s:qI} {counts:yLI} {n k c:Nat} (h:c < n):(yV s counts n k)[c]! =dec (XB s counts (c:Int) k):=by
  rw [getElem!_pos (yV s counts n k) c (by rw [meltsL_len];exact h)];simp [yV]
theorem meltsL_zero (s:qI) (counts:yLI) (n:Nat):List.replicate n false=yV s counts n 0:=by
  refine ext_get (by simp [meltsL_len]) fun k hk=>?_
  rw [List.length_replicate] at hk
  rw [meltsL_get hk,xx (melts_zero _ _ _),getElem!_pos (List.replicate n false) k (by simpa using hk)];simp
theorem meltsL_set {s:qI} {counts:yLI} {n k:Nat} (h0:0≤(s.qx[k]!).qG) (h:(s.qx[k]!).qG.toNat < n) {x:Bool} (hx:x=true↔((yV s counts n k)[(s.qx[k]!).qG.toNat]! =true∨(0 < counts[k]! ∧(s.qx[k]!).zH=true))):
    (yV s counts n k).set (s.qx[k]!).qG.toNat x=yV s counts n (k+1):=by
  refine ext_get (by simp [meltsL_len]) fun p hp=>?_
  rw [List.length_set,meltsL_len] at hp
  rw [getset (by rw [meltsL_len];exact h),meltsL_get hp,meltsL_get hp]
  rw [meltsL_get h] at hx
  by_cases e:p=(s.qx[k]!).qG.toNat
  · rw [if_pos e]
    refine dec_eq (hx.trans ?_)
    rw [melts_succ,e,show (((s.qx[k]!).qG.toNat:Nat):Int)=(s.qx[k]!).qG by omega]
    constructor
    · rintro (h1 | h1)
      · exact .inl (QU h1)
      · exact .inr ⟨h1.1,h1.2,rfl⟩
    · rintro (h1 | h1)
      · exact .inl (yH h1)
      · exact .inr ⟨h1.1,h1.2.1⟩
  · rw [if_neg e]
    refine dec_congr ?_
    rw [melts_succ]
    constructor
    · exact .inl
    · rintro (h1 | ⟨_,_,h1⟩)
      · exact h1
      · exfalso;omega
open Classical in
noncomputable def xu (s:qI) (counts:yLI) (u:qH):Nat→qH
  | 0=>u
  | j+1=>if Melts s counts ((jr s:Int) - 1 - j) then melted s (xu s counts u j) ((jr s:Int) - 1 - j) else xu s counts u j
theorem meltDown_yes {s:qI} {counts:yLI} {u:qH} {j:Nat} {c:Int} (h:Melts s counts c) (hc:c=(jr s:Int) - 1 - j):xu s counts u (j+1)=melted s (xu s counts u j) c:=by subst hc;rw [xu,if_pos h]
theorem meltDown_no {s:qI} {counts:yLI} {u:qH} {j:Nat} {c:Int} (h:¬ Melts s counts c) (hc:c=(jr s:Int) - 1 - j):xu s counts u (j+1)=xu s counts u j:=by subst hc;rw [xu,if_neg h]
theorem Xd {s:qI} {counts:yLI} {u:qH} {j i:Nat} {c:Int} (h:dec (XB s counts c i)=true) (hi:i=s.qx.length) (hc:c=(jr s:Int) - 1 - j):xu s counts u (j+1)=melted s (xu s counts u j) c:=by subst hi;exact meltDown_yes (QU h) hc
theorem meltDown_no' {s:qI} {counts:yLI} {u:qH} {j i:Nat} {c:Int} (h:dec (XB s counts c i)=false) (hi:i=s.qx.length) (hc:c=(jr s:Int) - 1 - j):xu s counts u (j+1)=xu s counts u j:=by subst hi;exact meltDown_no (vG h) hc
theorem QV (s:qI) (counts:yLI) (u:qH):∀ j,(xu s counts u j).qy=u.qy
  | 0=>rfl
  | j+1=>by
    rw [xu]
    split
    · exact QV s counts u j
    · exact QV s counts u j
structure Live (s:qI) (B:Int) (u:qH):Prop where
  alive:u.qA.length=jr s
  root:u.qA[0]! =true
  bags:Shape (jr s) (QY s) B u.qE
  around:u.qy.length=QY s
theorem Live.melt {s:qI} {B:Int} {u:qH} (hs:jE s) (h:Live s B u) (hB:0≤B) {c:Int} (h0:0 < c) (h1:c≤(jr s:Int) - 1):Live s (2 * B) (melted s u c):=by
  have hp:=Y6 (t:=u) hs.1 h.root h0 h1
  have hpc:(xA s u c).toNat < jr s:=by omega
  have hcc:c.toNat < jr s:=by omega
  refine ⟨by simp [melted,h.alive],?_,?_,h.around⟩
  · show (u.qA.set c.toNat false)[0]! =true
    rw [getset (by rw [h.alive];exact hcc),if_neg qf];exact h.root
  · have hr:=(h.bags.2 _ hcc).2
    have hk:=(h.bags.2 _ hcc).1
    have h2:=h.bags.plus (m:=u.qE[c.toNat]!) (t:=1) (D:=B) hpc (fun k hk=>by have:=hr k hk;omega) hB
    refine (h2.set (D:=B+B) hcc (by simp [QY]) (fun k hk=>?_) qf).mono qf
    rw [getElem!_pos (List.replicate s.xB.toNat (0:Int)) k (by simpa [QY] using hk)]
    simp;omega
def bnd:Nat→Int
  | 0=>200000000
  | j+1=>2 * bnd j
theorem bnd_pos:∀ j,0≤bnd j
  | 0=>by simp [bnd]
  | j+1=>by have:=bnd_pos j;simp only [bnd];omega
theorem bnd_mono:∀ {i j:Nat},i≤j→bnd i≤bnd j
  | i, 0, h => by obtain rfl : i = 0 := by omega
                  exact Int.le_refl _
  | i,j+1,h=>by
    by_cases e:i=j+1
    · subst e;exact Int.le_refl _
    · have:=bnd_mono (show i≤j by omega)
      have:=bnd_pos j
      simp only [bnd];omega
theorem bnd_le {j:Nat} (h:j≤6):bnd j≤12800000000:=Int.le_trans (bnd_mono h) (by simp [bnd])
theorem Live.mono {s:qI} {B D:Int} {u:qH} (h:Live s B u) (hD:B≤D):Live s D u:=⟨h.alive,h.root,h.bags.mono hD,h.around⟩
theorem stepped_live {s:qI} {t:qH} {counts:yLI} {B:Int} {b:yLL} (ht:zu s t) (h:Ent (jr s+1) (QY s) (fun p k=>base0 s t p k+allS s t counts s.qx.length p k) B b) (hB:B≤200000000):Live s (bnd 0) (xy s t counts):=by
  have h1:=step_tab h
  have hr:=h.sh.2 (jr s) qf
  refine ⟨ht.1,ht.2.2.1,?_,by rw [← h1.2];exact hr.1⟩
  rw [← h1.1]
  refine ⟨by rw [List.length_take,h.sh.1];omega,fun p hp=>?_⟩
  have e:(b.take (jr s))[p]! =b[p]! :=by
    rw [getElem!_pos (b.take (jr s)) p (by rw [List.length_take,h.sh.1];omega),getElem!_pos b p (by rw [h.sh.1];omega)];simp
  rw [e]
  have:=h.sh.2 p qf
  exact ⟨this.1,fun k hk=>by have:=this.2 k hk;simp only [bnd];omega⟩
theorem meltDown_live {s:qI} {counts:yLI} {u:qH} (hs:jE s) (h:Live s (bnd 0) u):∀ j,j+1≤jr s→Live s (bnd j) (xu s counts u j)
  | 0,_=>h
  | j+1,hj=>by
    have ih:=meltDown_live (counts:=counts) hs h j qf
    by_cases hm:Melts s counts ((jr s:Int) - 1 - j)
    · rw [meltDown_yes hm rfl];exact ih.melt hs (bnd_pos j) qf qf
    · rw [meltDown_no hm rfl];exact ih.mono (bnd_mono qf)
theorem Live.rows {s:qI} {B:Int} {u:qH} (hs:jE s) (h:Live s B u) (hB:B≤12800000000) {p c:Nat} (hp:p < jr s) (hc:c < jr s):
    (u.qE[p]!).length≤(u.qE[c]!).length∧Mid (u.qE[p]!)∧SmallT (u.qE[c]!) 1:=by
  have h1:=h.bags.row qf (kinds_le hs) hp
  have h2:=h.bags.row qf (kinds_le hs) hc
  refine ⟨by omega,h1.2,fun k hk=>?_⟩
  have:=h2.2.2 k hk
  omega
noncomputable def stepRes (s:qI) (t:qH) (counts:yLI):qH×Int:=told s (xu s counts (xy s t counts) (jr s - 1))
open Classical in
noncomputable def zI (s:qI) (t:qH) (counts:yLI):qH×Int:=if IsCh s t counts then stepRes s t counts else (default,4)
theorem stepBy_yes {s:qI} {t:qH} {counts:yLI} (h:IsCh s t counts):zI s t counts=stepRes s t counts:=by rw [zI,if_pos h]
theorem stepBy_no {s:qI} {t:qH} {counts:yLI} (h:¬ IsCh s t counts):zI s t counts=(default,4):=by rw [zI,if_neg h]
def minus (k:Nat):yLI:=(List.range 6).map fun j=>if j < k then -1 else 0
theorem minus_len (k:Nat):(minus k).length=6:=by simp [minus]
theorem minus_get {k j:Nat} (h:j < 6):(minus k)[j]! =if j < k then -1 else 0:=by
  rw [getElem!_pos (minus k) j (by rw [minus_len];exact h)];simp [minus]
theorem minus_set {k:Nat} (h:k < 6):(minus k).set k (-1)=minus (k+1):=by
  refine ext_get (by simp [minus_len]) fun p hp=>?_
  rw [List.length_set,minus_len] at hp
  rw [getset (by rw [minus_len];exact h),minus_get hp,minus_get hp]
  by_cases e:p=k
  · rw [if_pos e,if_pos qf]
  · rw [if_neg e]
    by_cases h1:p < k
    · rw [if_pos h1,if_pos qf]
    · rw [if_neg h1,if_neg qf]
theorem minus_six {k:Nat} (h:k=6) (s:qI) (t:qH):minus k=bests s t (-1) 6 0:=by
  subst h
  rw [← bests_zero];rfl
theorem appl_yes {s:qI} {t:qH} {i k n:Nat} {z:Int} (hk:k=s.qx.length) (hi:i < s.qx.length) (hz:z≤(s.qx[i]!).zS) (hc:(s.qx[i]!).qG.toNat < n) (h1:(s.qx[i]!).zS=(bests s t z n k)[(s.qx[i]!).qG.toNat]!) (h2:EnOk s t (s.qx[i]!)):Appl s t i:=by
  rw [bests_get hc,hk] at h1
  exact (appl_iff hi hz).2 ⟨h2,h1⟩
theorem appl_no {s:qI} {t:qH} {i k n:Nat} {z:Int} (hk:k=s.qx.length) (hi:i < s.qx.length) (hz:z≤(s.qx[i]!).zS) (hc:(s.qx[i]!).qG.toNat < n) (h1:(s.qx[i]!).zS≠(bests s t z n k)[(s.qx[i]!).qG.toNat]!):¬ Appl s t i:=fun h=>by
  rw [bests_get hc,hk] at h1
  exact h1 ((appl_iff hi hz).1 h).2
theorem appls_halt {s:qI} {t:qH}:(appls s t).length=0↔Halted s t:=by
  constructor
  · intro h j hj ha
    have:(j:Int)∈appls s t:=mem_applL.2 ⟨Int.natCast_nonneg j,by simpa using hj,by simpa using ha⟩
    rw [List.length_eq_zero_iff.1 h] at this;cases this
  · intro h
    rw [List.length_eq_zero_iff]
    apply List.eq_nil_iff_forall_not_mem.2
    intro x hx
    obtain ⟨h0,h1,h2⟩:=mem_applL.1 hx
    exact h _ h1 h2
theorem outPl_in {s:qI} {t:qH} {r:Xg} (hs:Qx s) (h:0≤xA s t r.qG):outPl s t r=(xA s t r.qG).toNat:=by
  refine outPl_up fun e=>?_
  rw [e,parentNow_root hs] at h;omega
theorem outPl_out {s:qI} {t:qH} {r:Xg} (hs:Qx s) (h0:t.qA[0]! =true) (hc:CellIn s r.qG) (h:¬ 0≤xA s t r.qG):outPl s t r=s.qw.length:=by
  refine outPl_root ?_
  rcases Int.lt_or_eq_of_le hc.1 with h1 | h1
  · exact absurd (Y6 hs h0 h1 hc.2).1 h
  · exact h1.symm
theorem parentNow_lt {s:qI} {t:qH} (hs:Qx s) (h0:t.qA[0]! =true) {c:Int} (hc:CellIn s c):xA s t c≤(s.qw.length:Int) - 1:=by
  rcases Int.lt_or_eq_of_le hc.1 with h1 | h1
  · have:=Y6 hs h0 h1 hc.2;have:=hc.2;omega
  · rw [← h1,parentNow_root hs];have:=hs.2.1;omega
theorem stepBy_ok {s:qI} {t:qH} {counts:yLI} (h:(zI s t counts).2=0):zu s (zI s t counts).1:=by
  by_cases hc:IsCh s t counts
  · rw [stepBy_yes hc] at h ⊢
    unfold stepRes at h ⊢
    by_cases ho:zu s (xu s counts (xy s t counts) (jr s - 1))
    · rw [told_yes ho];exact ho
    · rw [told_no ho] at h;cases h
  · rw [stepBy_no hc] at h;cases h
theorem meltsL_1 {s:qI} {counts:yLI} {n k:Nat} (h0:0≤(s.qx[k]!).qG) (h:(s.qx[k]!).qG.toNat < n) (h1:(yV s counts n k)[(s.qx[k]!).qG.toNat]! =true):(yV s counts n k).set (s.qx[k]!).qG.toNat true=yV s counts n (k+1):=
  meltsL_set h0 h ⟨fun _=>.inl h1,fun _=>rfl⟩
theorem meltsL_2 {s:qI} {counts:yLI} {n k:Nat} (h0:0≤(s.qx[k]!).qG) (h:(s.qx[k]!).qG.toNat < n) (h1:(yV s counts n k)[(s.qx[k]!).qG.toNat]! =false) (h2:¬ counts[k]! > 0):(yV s counts n k).set (s.qx[k]!).qG.toNat false=yV s counts n (k+1):=
  meltsL_set h0 h ⟨fun h=>(by cases h),fun h=>h.elim (fun h=>(ft h h1).elim) fun h=>(h2 h.1).elim⟩
theorem meltsL_3 {s:qI} {counts:yLI} {n k:Nat} (h0:0≤(s.qx[k]!).qG) (h:(s.qx[k]!).qG.toNat < n) (h1:(yV s counts n k)[(s.qx[k]!).qG.toNat]! =false) (h2:counts[k]! > 0):(yV s counts n k).set (s.qx[k]!).qG.toNat (s.qx[k]!).zH=yV s counts n (k+1):=
  meltsL_set h0 h ⟨fun h=>.inr ⟨h2,h⟩,fun h=>h.elim (fun h=>(ft h h1).elim) fun h=>h.2⟩
theorem meltDown_yesL {s:qI} {counts:yLI} {u:qH} {j i n:Nat} {c:Int} (h:(yV s counts n i)[c.toNat]! =true) (hn:c.toNat < n) (h0:0≤c) (hi:i=s.qx.length) (hc:c=(jr s:Int) - 1 - j):xu s counts u (j+1)=melted s (xu s counts u j) c:=by
  rw [meltsL_get hn,show ((c.toNat:Nat):Int)=c by omega] at h
  exact Xd h hi hc
theorem meltDown_noL {s:qI} {counts:yLI} {u:qH} {j i n:Nat} {c:Int} (h:(yV s counts n i)[c.toNat]! =false) (hn:c.toNat < n) (h0:0≤c) (hi:i=s.qx.length) (hc:c=(jr s:Int) - 1 - j):xu s counts u (j+1)=xu s counts u j:=by
  rw [meltsL_get hn,show ((c.toNat:Nat):Int)=c by omega] at h
  exact meltDown_no' h hi hc
theorem copy_pre {n K:Nat} {f:Nat→Nat→Int} {B:Int} {b:yLL} {al:List Bool} (h:Ent (n+1) K f B b) (hK:K≤8) (hn:n≤6) (ha:al.length=n):
    (⟨al,b.take n,b[n]!⟩:qH).qA.length≤1000000∧(⟨al,b.take n,b[n]!⟩:qH).qy.length≤1000000∧(⟨al,b.take n,b[n]!⟩:qH).qE.length≤1000000∧
      ∀ j,j < (⟨al,b.take n,b[n]!⟩:qH).qE.length→((⟨al,b.take n,b[n]!⟩:qH).qE[j]!).length≤1000000:=by
  have hl:(b.take n).length=n:=by rw [List.length_take,h.sh.1];omega
  have hr:=h.sh.2 n qf
  refine ⟨?_,?_,?_,fun j hj=>?_⟩
  · show al.length≤1000000;omega
  · show (b[n]!).length≤1000000;omega
  · show (b.take n).length≤1000000;omega
  · have hj:j < (b.take n).length:=hj
    show ((b.take n)[j]!).length≤1000000
    rw [getElem!_pos (b.take n) j hj,List.getElem_take,← getElem!_pos b j (by rw [h.sh.1];omega)]
    have:=(h.sh.2 j qf).1;omega
def single (s:qI) (i:Nat):yLI:=(List.replicate s.qx.length (0:Int)).set i 1
theorem state_eq {a b:qH} (h1:a.qA=b.qA) (h2:a.qE=b.qE) (h3:a.qy=b.qy):a=b:=by
  cases a;cases b;simp only at h1 h2 h3;subst h1 h2 h3;rfl
open Classical in
noncomputable def yc (s:qI) (t:qH) (cs:yLL):Nat→List qH
  | 0=>[]
  | k+1=>if (zI s t (cs[k]!)).1∈yc s t cs k then yc s t cs k else yc s t cs k++[(zI s t (cs[k]!)).1]
theorem nextTo_in {s:qI} {t:qH} {cs:yLL} {k:Nat} (h:(zI s t (cs[k]!)).1∈yc s t cs k):yc s t cs k=yc s t cs (k+1):=by rw [yc,if_pos h]
theorem nextTo_new {s:qI} {t:qH} {cs:yLL} {k:Nat} (h:¬ (zI s t (cs[k]!)).1∈yc s t cs k):yc s t cs k++[(zI s t (cs[k]!)).1]=yc s t cs (k+1):=by rw [yc,if_neg h]
theorem nextTo_len {s:qI} {t:qH} {cs:yLL}:∀ k,(yc s t cs k).length≤k
  | 0=>by simp [yc]
  | k+1=>by
    have:=nextTo_len (s:=s) (t:=t) (cs:=cs) k
    rw [yc]
    split
    · omega
    · simp;omega
def CodeBad (s:qI) (t:qH) (cs:yLL) (k:Nat):Prop:=(zI s t (cs[k]!)).2≠0
def NoBad (s:qI) (t:qH) (cs:yLL) (k:Nat):Prop:=∀ j,j < k→¬ CodeBad s t cs j
theorem NoBad.succ {s:qI} {t:qH} {cs:yLL} {k:Nat} (h:NoBad s t cs k) (h1:(zI s t (cs[k]!)).2=0):NoBad s t cs (k+1):=fun j hj=>by
  by_cases e:j=k
  · subst e;exact fun x=>x h1
  · exact h j qf
open Classical in
noncomputable def QH (s:qI) (t:qH) (cs:yLL):List qH×Int:=
  if NoBad s t cs cs.length then (yc s t cs cs.length,0) else ([],(zI s t (cs[Q9 (CodeBad s t cs) cs.length]!)).2)
theorem next_ok {s:qI} {t:qH} {cs:yLL} (h:NoBad s t cs cs.length):QH s t cs=(yc s t cs cs.length,0):=by rw [QH,if_pos h]
theorem next_bad {s:qI} {t:qH} {cs:yLL} {k:Nat} (h:NoBad s t cs k) (hk:k < cs.length) (h1:(zI s t (cs[k]!)).2≠0):QH s t cs=([],(zI s t (cs[k]!)).2):=by
  rw [QH,if_neg (fun x=>x k hk h1),stop_first h hk h1]
theorem find_mem {l:List qH} {u:qH}:firstIdx (fun k=>decide (l[k]! =u)) l.length < 0↔¬ u∈l:=by
  have h:=anyTo_first (fun k=>decide (l[k]! =u)) l.length
  constructor
  · intro h1 hm
    obtain ⟨k,hk,e⟩:=List.mem_iff_getElem.1 hm
    have:anyTo (fun k=>decide (l[k]! =u)) l.length=true:=anyTo_iff.2 ⟨k,hk,by rw [getElem!_pos l k hk];simpa using e⟩
    rw [this] at h
    have:=of_decide_eq_true h
    omega
  · intro hm
    apply Classical.byContradiction
    intro h1
    rw [decide_eq_true qf] at h
    obtain ⟨k,hk,e⟩:=anyTo_iff.1 h.symm
    rw [getElem!_pos l k hk] at e
    exact hm ((of_decide_eq_true e)▸List.getElem_mem hk)
theorem mem_at {l:List qH} {u:qH} {k:Nat} (hk:k < l.length) (h:l[k]! =u):u∈l:=by
  rw [getElem!_pos l k hk] at h;rw [← h];exact List.getElem_mem hk
def NotIn (l:List qH) (u:qH) (k:Nat):Prop:=∀ j,j < k→l[j]! ≠u
theorem NotIn.succ {l:List qH} {u:qH} {k:Nat} (h:NotIn l u k) (h1:l[k]! ≠u):NotIn l u (k+1):=fun j hj=>by
  by_cases e:j=k
  · subst e;exact h1
  · exact h j qf
theorem NotIn.out {l:List qH} {u:qH} (h:NotIn l u l.length):¬ u∈l:=fun hm=>by
  obtain ⟨k,hk,e⟩:=List.mem_iff_getElem.1 hm
  exact h k hk (by rw [getElem!_pos l k hk];exact e)
def FullOk (parts:yLL) (rest:yLI):Prop:=∀ i,i < parts.length→within (parts[i]!) rest=false
def FullTo (parts:yLL) (rest:yLI) (k:Nat):Prop:=∀ i,i < k→within (parts[i]!) rest=false
theorem FullTo.succ {parts:yLL} {rest:yLI} {k:Nat} (h:FullTo parts rest k) (h1:within (parts[k]!) rest=false):FullTo parts rest (k+1):=fun j hj=>by
  by_cases e:j=k
  · subst e;exact h1
  · exact h j qf
open Classical in
noncomputable def packs (parts:yLL):Nat→Nat→yLI→yLL
  | 0,_,rest=>if FullOk parts rest then [[]] else []
  | f+1,k,rest=>(List.range ((jD (parts[k]!) rest).toNat+1)).flatMap fun (n:Nat)=>(packs parts f (k+1) (ji rest (parts[k]!) (-(n:Int)))).map ((n:Int) :: ·)
noncomputable def jM (parts:yLL) (f k:Nat) (rest:yLI) (m:Nat):yLL:=
  (List.range m).flatMap fun (n:Nat)=>(packs parts f (k+1) (ji rest (parts[k]!) (-(n:Int)))).map ((n:Int) :: ·)
theorem packs_succ (parts:yLL) (f k:Nat) (rest:yLI):packs parts (f+1) k rest=jM parts f k rest ((jD (parts[k]!) rest).toNat+1):=rfl
theorem packsTo_zero (parts:yLL) (f k:Nat) (rest:yLI):jM parts f k rest 0=[]:=rfl
theorem packsTo_succ (parts:yLL) (f k:Nat) (rest:yLI) (m:Nat):
    jM parts f k rest (m+1)=jM parts f k rest m++(packs parts f (k+1) (ji rest (parts[k]!) (-(m:Int)))).map ((m:Int) :: ·):=by
  simp [jM,List.range_succ]
theorem packs_full {parts:yLL} {k:Nat} {rest:yLI} (h:FullOk parts rest):packs parts 0 k rest=[[]]:=by rw [packs,if_pos h]
theorem packs_none {parts:yLL} {k:Nat} {rest:yLI} (h:¬ FullOk parts rest):packs parts 0 k rest=[]:=by rw [packs,if_neg h]
def gath (out more:yLL):yLL:=(out++more).take 2001
theorem gath_nil {out:yLL} (h:out.length≤2001):gath out []=out:=by unfold gath;rw [List.append_nil];exact List.take_of_length_le h
theorem gath_one {out:yLL} {x:yLI} (h:out.length≤2000):gath out [x]=out++[x]:=by
  unfold gath;rw [List.take_of_length_le];simp;omega
theorem gath_len (out more:yLL):(gath out more).length≤2001:=by simp [gath];omega
theorem gath_room {out more:yLL} (h:(gath out more).length≤2000):gath out more=out++more:=by
  unfold gath at *
  rw [List.length_take] at h
  exact List.take_of_length_le qf
theorem gath_cat {out a b:yLL} (h:(gath out a).length≤2000):gath (gath out a) b=gath out (a++b):=by
  rw [gath_room h];simp [gath]
theorem gath_stop {out a b:yLL} (h:¬ (gath out a).length≤2000):gath out a=gath out (a++b):=by
  unfold gath at *
  rw [List.length_take] at h
  rw [← List.append_assoc]
  exact (List.take_append_of_le_length (l₁:=out++a) (l₂:=b) qf).symm
def begins (b:yLI) (l:yLL):yLL:=l.map (b++·)
theorem begins_cat (b:yLI) (l m:yLL):begins b (l++m)=begins b l++begins b m:=by simp [begins]
theorem begins_cons (b:yLI) (n:Int) (l:yLL):begins b (l.map (n :: ·))=begins (b++[n]) l:=by simp [begins]
theorem begins_nil (l:yLL):begins [] l=l:=by simp [begins]
theorem begins_one (b:yLI):begins b [[]]=[b]:=by simp [begins]
theorem gath_step {parts:yLL} {f k m:Nat} {rest b:yLI} {out:yLL} (h:(gath out (begins b (jM parts f k rest m))).length≤2000):
    gath (gath out (begins b (jM parts f k rest m))) (begins (b++[(m:Int)]) (packs parts f (k+1) (ji rest (parts[k]!) (-(m:Int)))))=gath out (begins b (jM parts f k rest (m+1))):=by
  rw [gath_cat h,packsTo_succ,begins_cat,begins_cons]
theorem packsTo_more {parts:yLL} {f k:Nat} {rest:yLI}:∀ {m M:Nat},m≤M→∃ more,jM parts f k rest M=jM parts f k rest m++more
  | m, 0, h => ⟨[], by obtain rfl : m = 0 := by omega
                       simp⟩
  | m,M+1,h=>by
    by_cases e:m=M+1
    · subst e;exact ⟨[],by simp⟩
    · obtain ⟨more,hm⟩:=packsTo_more (parts:=parts) (f:=f) (k:=k) (rest:=rest) (show m≤M by omega)
      exact ⟨_,by rw [packsTo_succ,hm,List.append_assoc]⟩
theorem gath_end {parts:yLL} {f k m:Nat} {rest b:yLI} {out:yLL} (hm:m≤(jD (parts[k]!) rest).toNat+1) (h:m=(jD (parts[k]!) rest).toNat+1∨¬ (gath out (begins b (jM parts f k rest m))).length≤2000):
    gath out (begins b (jM parts f k rest m))=gath out (begins b (packs parts (f+1) k rest)):=by
  rw [packs_succ]
  rcases h with h | h
  · rw [h]
  · obtain ⟨more,e⟩:=packsTo_more (parts:=parts) (f:=f) (k:=k) (rest:=rest) hm
    rw [e,begins_cat]
    exact gath_stop h
open Classical in
noncomputable def vC (b:yLI) (parts:yLL):yLL×Int:=
  if Yd b > 16 then ([],3) else if (packs parts parts.length 0 b).length > 2000 then ([],3) else (packs parts parts.length 0 b,0)
theorem gath_all {l:yLL}:(gath [] l).length > 2000↔l.length > 2000:=by unfold gath;rw [List.nil_append,List.length_take];omega
theorem gath_few {l:yLL} (h:¬ l.length > 2000):gath [] l=l:=by unfold gath;rw [List.nil_append];exact List.take_of_length_le qf
theorem packs_len {parts:yLL}:∀ {f k:Nat} {rest x:yLI},x∈packs parts f k rest→x.length=f
  | 0,k,rest,x,h=>by
    rw [packs] at h
    split at h
    · obtain rfl:=List.mem_singleton.1 h;rfl
    · simp at h
  | f+1,k,rest,x,h=>by
    rw [packs,List.mem_flatMap] at h
    obtain ⟨n,_,h⟩:=h
    obtain ⟨y,hy,rfl⟩:=List.mem_map.1 h
    rw [List.length_cons,packs_len hy]
def ahead (a b:yLI):Prop:=∃ i,i < a.length∧(∀ j,j < i→a[j]! =b[j]!)∧a[i]! < b[i]!
def SameTo (a b:yLI) (k:Nat):Prop:=∀ j,j < k→a[j]! =b[j]!
theorem SameTo.succ {a b:yLI} {k:Nat} (h:SameTo a b k) (h1:a[k]! =b[k]!):SameTo a b (k+1):=fun j hj=>by
  by_cases e:j=k
  · subst e;exact h1
  · exact h j qf
theorem ahead_yes {a b:yLI} {k:Nat} (h:SameTo a b k) (hk:k < a.length) (h1:a[k]! < b[k]!):ahead a b:=⟨k,hk,h,h1⟩
theorem ahead_no {a b:yLI} {k:Nat} (h:SameTo a b k) (h1:¬ a[k]! < b[k]!) (h2:a[k]! ≠b[k]!):¬ ahead a b:=by
  rintro ⟨i,hi,hs,hl⟩
  rcases Nat.lt_or_ge i k with hik | hik
  · rw [h i hik] at hl;omega
  · rcases Nat.lt_or_eq_of_le hik with hki | hki
    · exact h2 (hs k hki)
    · subst hki;exact h1 hl
theorem ahead_same {a b:yLI} (h:SameTo a b a.length):¬ ahead a b:=by
  rintro ⟨i,hi,_,hl⟩
  rw [h i hi] at hl;omega
theorem ahead_irr (a:yLI):¬ ahead a a:=ahead_same fun _ _=>rfl
theorem ahead_trans {a b c:yLI} (hab:a.length=b.length) (h1:ahead a b) (h2:ahead b c):ahead a c:=by
  obtain ⟨i,hi,hs,hl⟩:=h1
  obtain ⟨k,hk,ht,hm⟩:=h2
  rcases Nat.lt_or_ge i k with h | h
  · exact ⟨i,hi,fun j hj=>(hs j hj).trans (ht j qf),by rw [← ht i h];exact hl⟩
  · rcases Nat.lt_or_eq_of_le h with h' | h'
    · exact ⟨k,by omega,fun j hj=>(hs j qf).trans (ht j hj),by rw [hs k h'];exact hm⟩
    · subst h'
      exact ⟨k,hi,fun j hj=>(hs j hj).trans (ht j hj),by omega⟩
theorem ahead_tri {a b:yLI} (hl:a.length=b.length) (h1:¬ ahead a b) (h2:¬ ahead b a):a=b:=by
  have key:∀ k,k≤a.length→SameTo a b k:=by
    intro k
    induction k with
    | zero=>intro _ j hj;omega
    | succ k ih=>
      intro hk
      have hs:=ih qf
      refine hs.succ ?_
      apply Classical.byContradiction
      intro hne
      rcases Int.lt_or_gt_of_ne hne with h | h
      · exact h1 ⟨k,by omega,hs,h⟩
      · exact h2 ⟨k,by omega,fun j hj=>(hs j hj).symm,h⟩
  exact ext_get hl fun k hk=>key _ (Nat.le_refl _) k hk
def InOrder (l:yLL):Prop:=l.Pairwise fun a b=>¬ ahead b a
theorem order_one {n:Nat}:∀ {l m:yLL},(∀ x∈l,x.length=n)→l.Perm m→InOrder l→InOrder m→l=m
  | [],m,_,hp,_,_=>(List.Perm.nil_eq hp)
  | x :: l,m,hn,hp,hl,hm=>by
    cases m with
    | nil=>exact absurd hp.length_eq qm
    | cons y m=>
      have hl' :=List.pairwise_cons.1 hl
      have hm' :=List.pairwise_cons.1 hm
      have hy:y∈x :: l:=hp.symm.subset (List.mem_cons_self ..)
      have hx:x∈y :: m:=hp.subset (List.mem_cons_self ..)
      have e:x=y:=by
        rcases List.mem_cons.1 hx with h | h
        · exact h
        · rcases List.mem_cons.1 hy with h' | h'
          · exact h'.symm
          · exact ahead_tri ((hn x (List.mem_cons_self ..)).trans (hn y (List.mem_cons_of_mem _ h')).symm) (hm'.1 x h) (hl'.1 y h')
      subst e
      rw [order_one (fun z hz=>hn z (List.mem_cons_of_mem _ hz)) (List.Perm.cons_inv hp) hl'.2 hm'.2]
def swapAt (l:yLL) (k:Nat):yLL:=(l.set k (l[k - 1]!)).set (k - 1) (l[k]!)
def OrderTo (l:yLL) (k:Nat):Prop:=InOrder (l.take k)
theorem orderTo_iff {l:yLL} {k:Nat} (hk:k≤l.length):OrderTo l k↔∀ i j,i < j→j < k→¬ ahead (l[j]!) (l[i]!):=by
  unfold OrderTo InOrder
  rw [List.pairwise_iff_getElem]
  constructor
  · intro h i j hij hj
    have:=h i j (by rw [List.length_take];omega) (by rw [List.length_take];omega) hij
    rw [List.getElem_take,List.getElem_take] at this
    rwa [getElem!_pos l i qf,getElem!_pos l j qf]
  · intro h i j hi hj hij
    rw [List.length_take] at hi hj
    rw [List.getElem_take,List.getElem_take,← getElem!_pos l i qf,← getElem!_pos l j qf]
    exact h i j hij qf
theorem swap_len (l:yLL) (k:Nat):(swapAt l k).length=l.length:=by simp [swapAt]
theorem swap_get {l:yLL} {k p:Nat} (hk:0 < k) (hl:k < l.length):(swapAt l k)[p]! =if p=k - 1 then l[k]! else if p=k then l[k - 1]! else l[p]! :=by
  unfold swapAt
  rw [getset (by rw [List.length_set];omega),getset hl]
theorem swap_perm {l:yLL} {k:Nat} (hk:0 < k) (hl:k < l.length):(swapAt l k).Perm l:=by
  obtain ⟨j,rfl⟩:∃ j,k=j+1:=⟨k - 1,by omega⟩
  have e1:l=l.take j++(l[j]! :: l[j+1]! :: l.drop (j+2)):=by
    rw [getElem!_pos l j qf,getElem!_pos l (j+1) hl]
    conv=>lhs;rw [← List.take_append_drop j l]
    rw [List.drop_eq_getElem_cons (show j < l.length by omega),List.drop_eq_getElem_cons hl]
  have e2:swapAt l (j+1)=l.take j++(l[j+1]! :: l[j]! :: l.drop (j+2)):=by
    have hlen:(l.take j).length=j:=List.length_take_of_le qf
    refine ext_get (by rw [swap_len];simp;omega) fun p hp=>?_
    rw [swap_len] at hp
    rw [swap_get hk hl]
    have hp' :p < (l.take j++(l[j+1]! :: l[j]! :: l.drop (j+2))).length:=by simp;omega
    rw [getElem!_pos (l.take j++(l[j+1]! :: l[j]! :: l.drop (j+2))) p hp']
    by_cases h1:p < j
    · rw [if_neg qf,if_neg qf,List.getElem_append_left qf,List.getElem_take,getElem!_pos l p hp]
    · rw [List.getElem_append_right qf]
      simp only [hlen]
      by_cases h2:p=j
      · subst h2;simp
      · by_cases h3:p=j+1
        · subst h3;simp
        · rw [if_neg qf,if_neg qf]
          obtain ⟨q,rfl⟩:∃ q,p=j+2+q:=⟨p - (j+2),by omega⟩
          rw [getElem!_pos l _ hp]
          have:j+2+q - j=q+1+1:=by omega
          simp only [this,List.getElem_cons_succ,List.getElem_drop]
  rw [e2]
  conv=>rhs;rw [e1]
  exact List.Perm.append_left _ (List.Perm.swap ..)
def InsTo (l:yLL) (i k:Nat):Prop:=∀ a b,a < b→b≤i→b≠k→¬ ahead (l[b]!) (l[a]!)
theorem InsTo.start {l:yLL} {i:Nat} (h:∀ a b,a < b→b < i→¬ ahead (l[b]!) (l[a]!)):InsTo l i i:=fun a b hab hb hne=>h a b hab qf
theorem InsTo.down {l:yLL} {i k n:Nat} (h:InsTo l i k) (hn:∀ j,j < l.length→(l[j]!).length=n) (hk:0 < k) (hki:k≤i) (hi:i < l.length) (h1:ahead (l[k]!) (l[k - 1]!)):InsTo (swapAt l k) i (k - 1):=by
  intro a b hab hb hne
  have hlk:=hn k qf
  have hlk1:=hn (k - 1) qf
  rw [swap_get hk qf,swap_get hk qf,if_neg hne]
  by_cases hbk:b=k
  · subst hbk
    rw [if_pos rfl]
    by_cases ha:a=b - 1
    · rw [if_pos ha]
      intro h2
      exact ahead_irr _ (ahead_trans qf h1 h2)
    · rw [if_neg ha,if_neg qf]
      exact h a (b - 1) qf qf qf
  · rw [if_neg hbk]
    by_cases ha:a=k - 1
    · rw [if_pos ha];exact h k b qf hb hbk
    · rw [if_neg ha]
      by_cases hak:a=k
      · rw [if_pos hak];exact h (k - 1) b qf hb hbk
      · rw [if_neg hak];exact h a b hab hb hbk
theorem InsTo.stop {l:yLL} {i k n:Nat} (h:InsTo l i k) (hn:∀ j,j < l.length→(l[j]!).length=n) (hki:k≤i) (hi:i < l.length) (h1:k=0∨¬ ahead (l[k]!) (l[k - 1]!)):∀ a b,a < b→b < i+1→¬ ahead (l[b]!) (l[a]!):=by
  intro a b hab hb
  by_cases hbk:b=k
  · subst hbk
    have h1:¬ ahead (l[b]!) (l[b - 1]!):=h1.resolve_left qf
    by_cases ha:a=b - 1
    · subst ha;exact h1
    · intro h2
      have h3:=h a (b - 1) qf qf qf
      have hla:=hn a qf
      have hlb:=hn b qf
      have hlb1:=hn (b - 1) qf
      by_cases h4:ahead (l[a]!) (l[b - 1]!)
      · exact h1 (ahead_trans qf h2 h4)
      · have e:=ahead_tri qf h4 h3
        rw [e] at h2;exact h1 h2
  · exact h a b hab qf hbk
def PartsOk (K:Nat) (parts:yLL):Prop:=∀ i,i < parts.length→(parts[i]!).length=K∧(∀ q,q < K→0≤(parts[i]!)[q]! ∧(parts[i]!)[q]! ≤1000)∧∃ j,j < K∧0 < (parts[i]!)[j]!
def RestOk (K:Nat) (rest:yLI):Prop:=rest.length=K∧∀ q,q < K→0≤rest[q]! ∧rest[q]! ≤1000
def YL (parts:yLL) (rest:yLI):Prop:=∃ K,K≤8∧PartsOk K parts∧RestOk K rest∧parts.length≤8

theorem times_bd {K:Nat} {parts:yLL} {rest:yLI} (hP:PartsOk K parts) (hR:RestOk K rest) {k:Nat} (hk:k < parts.length):0≤jD (parts[k]!) rest∧jD (parts[k]!) rest≤1000:=
  timesTo_bd (fun q hq=>(hR.2 q (by have:=(hP k hk).1;omega)).1) _ (Nat.le_refl _)
theorem take_get {K:Nat} {parts:yLL} {rest:yLI} (hP:PartsOk K parts) (hR:RestOk K rest) {k:Nat} (hk:k < parts.length) {n:Int} (h0:0≤n) (h1:n≤jD (parts[k]!) rest) {q:Nat} (hq:q < K):
    0≤rest[q]! + -n * (parts[k]!)[q]! ∧rest[q]! + -n * (parts[k]!)[q]! ≤rest[q]! :=by
  obtain ⟨hl,hb,_⟩:=hP k hk
  have a:=timesL_left (l:=parts[k]!) (m:=rest) (fun j hj=>(hb j qf).1) (fun j hj=>(hR.2 j qf).1) (k:=q) qf
  have b:=Int.mul_le_mul_of_nonneg_right h1 (hb q hq).1
  have c:=Int.mul_nonneg h0 (hb q hq).1
  have d: -n * (parts[k]!)[q]! = -(n * (parts[k]!)[q]!):=Int.neg_mul ..
  have e: -(jD (parts[k]!) rest) * (parts[k]!)[q]! = -(jD (parts[k]!) rest * (parts[k]!)[q]!):=Int.neg_mul ..
  omega
theorem RestOk.take {K:Nat} {parts:yLL} {rest:yLI} (hP:PartsOk K parts) (hR:RestOk K rest) {k:Nat} (hk:k < parts.length) {n:Int} (h0:0≤n) (h1:n≤jD (parts[k]!) rest):RestOk K (ji rest (parts[k]!) (-n)):=by
  refine ⟨by rw [plusL_len];exact hR.1,fun q hq=>?_⟩
  rw [plus_get (by have:=hR.1;omega)]
  have:=take_get hP hR hk h0 h1 hq
  have:=hR.2 q hq
  omega
theorem YL.times {parts:yLL} {rest:yLI} (h:YL parts rest) {k:Nat} (hk:k < parts.length):
    (parts[k]!).length≤rest.length∧(∀ q,q < (parts[k]!).length→0≤rest[q]! ∧rest[q]! ≤1000)∧(∃ j,j < (parts[k]!).length∧0 < (parts[k]!)[j]!)∧rest.length≤8∧0≤jD (parts[k]!) rest∧jD (parts[k]!) rest≤1000:=by
  obtain ⟨K,hK,hP,hR,hn⟩:=h
  obtain ⟨hl,hb,hj⟩:=hP k hk
  have ht:=times_bd hP hR hk
  refine ⟨by have:=hR.1;omega,fun q hq=>hR.2 q qf,by rw [hl];exact hj,by have:=hR.1;omega,ht⟩
theorem YL.plus {parts:yLL} {rest:yLI} (h:YL parts rest) {k:Nat} (hk:k < parts.length) {n:Int} (h0:0≤n) (h1:n≤jD (parts[k]!) rest):
    rest.length≤(parts[k]!).length∧Mid rest∧SmallT (parts[k]!) (-n)∧YL parts (ji rest (parts[k]!) (-n)):=by
  obtain ⟨K,hK,hP,hR,hn⟩:=h
  obtain ⟨hl,hb,hj⟩:=hP k hk
  have ht:=times_bd hP hR hk
  refine ⟨by have:=hR.1;omega,⟨by have:=hR.1;omega,fun q hq=>by have:=hR.2 q (by have:=hR.1;omega);omega⟩,fun q hq=>?_,K,hK,hP,hR.take hP hk h0 h1,hn⟩
  have a:=hb q qf
  have b:=Int.mul_nonneg h0 a.1
  have c:=Int.mul_le_mul (show n≤1000 by omega) a.2 a.1 qf
  have d: -n * (parts[k]!)[q]! = -(n * (parts[k]!)[q]!):=Int.neg_mul ..
  omega
theorem YL.small {parts:yLL} {rest:yLI} (h:YL parts rest):rest.length≤8∧parts.length≤8:=by
  obtain ⟨K,hK,_,hR,hn⟩:=h
  exact ⟨by have:=hR.1;omega,hn⟩
theorem YL.smallB {parts:yLL} {rest:yLI} (h:YL parts rest):Small rest:=by
  obtain ⟨K,hK,_,hR,hn⟩:=h
  exact ⟨by have:=hR.1;omega,fun q hq=>by have:=hR.2 q (by have:=hR.1;omega);omega⟩

theorem pack_step {parts:yLL} {rest begin' :yLI} {out:yLL} {f n:Nat} (hf:begin'.length+f=parts.length) (hp:begin'.length < parts.length)
    (h:(gath out (begins begin' (jM parts (f - 1) begin'.length rest n))).length≤2000):
    gath (gath out (begins begin' (jM parts (f - 1) begin'.length rest n))) (begins (begin' ++[(n:Int)]) (packs parts (parts.length - (begin' ++[(n:Int)]).length) (begin' ++[(n:Int)]).length (ji rest (parts[begin'.length]!) (-(n:Int)))))=
      gath out (begins begin' (jM parts (f - 1) begin'.length rest (n+1))):=by
  rw [← gath_step h,List.length_append,List.length_cons,List.length_nil,show parts.length - (begin'.length+(0+1))=f - 1 by omega]
theorem pack_start {parts:yLL} {rest begin' :yLI} {out:yLL} {f:Nat} (h:out.length≤2000):out=gath out (begins begin' (jM parts f begin'.length rest 0)):=by
  rw [packsTo_zero];exact (gath_nil qf).symm
theorem pack_full {parts:yLL} {rest begin' :yLI} {out:yLL} (hl:begin'.length=parts.length) (h:FullOk parts rest) (ho:out.length≤2000):
    gath out (begins begin' (packs parts (parts.length - begin'.length) begin'.length rest))=out++[begin']:=by
  rw [show parts.length - begin'.length=0 by omega,packs_full h,begins_one,gath_one ho]
theorem pack_none {parts:yLL} {rest begin' :yLI} {out:yLL} (hl:begin'.length=parts.length) (h:¬ FullOk parts rest) (ho:out.length≤2000):
    gath out (begins begin' (packs parts (parts.length - begin'.length) begin'.length rest))=out:=by
  rw [show parts.length - begin'.length=0 by omega,packs_none h];exact gath_nil qf
theorem pack_end {parts:yLL} {rest begin' :yLI} {out:yLL} {f n:Nat} (hf:begin'.length+f=parts.length) (hp:begin'.length < parts.length) (hn:(n:Int)≤jD (parts[begin'.length]!) rest+1)
    (h0:0≤jD (parts[begin'.length]!) rest) (h:¬ (n:Int)≤jD (parts[begin'.length]!) rest∨¬ ((gath out (begins begin' (jM parts (f - 1) begin'.length rest n))).length:Int)≤2000):
    gath out (begins begin' (packs parts (parts.length - begin'.length) begin'.length rest))=gath out (begins begin' (jM parts (f - 1) begin'.length rest n)):=by
  obtain ⟨f,rfl⟩:∃ g,f=g+1:=⟨f - 1,by omega⟩
  rw [show parts.length - begin'.length=f+1 by omega]
  rw [show f+1 - 1=f from rfl] at h ⊢
  exact (gath_end qf (by rcases h with h | h;(left;omega);(right;omega))).symm
theorem all_a {b:yLI} {parts:yLL} (h:Yd b > 16):vC b parts=([],3):=by rw [vC,if_pos h]
theorem all_b {b:yLI} {parts:yLL} (h:¬ Yd b > 16) (h1:((gath ([]:yLL) (begins ([]:yLI) (packs parts (parts.length - ([]:yLI).length) ([]:yLI).length b))).length:Int) > 2000):vC b parts=([],3):=by
  replace h1:(gath [] (begins [] (packs parts (parts.length - 0) 0 b))).length > 2000:=by have:((gath [] (begins [] (packs parts (parts.length - 0) 0 b))).length:Int) > 2000:=h1;omega
  rw [begins_nil] at h1
  have h2:(packs parts parts.length 0 b).length > 2000:=gath_all.1 h1
  rw [vC,if_neg h,if_pos h2]
theorem all_0 {b:yLI} {parts:yLL} (h:¬ Yd b > 16) (h1:¬ ((gath ([]:yLL) (begins ([]:yLI) (packs parts (parts.length - ([]:yLI).length) ([]:yLI).length b))).length:Int) > 2000):
    vC b parts=(gath ([]:yLL) (begins ([]:yLI) (packs parts (parts.length - ([]:yLI).length) ([]:yLI).length b)),0):=by
  show vC b parts=(gath [] (begins [] (packs parts (parts.length - 0) 0 b)),0)
  replace h1:¬ (gath [] (begins [] (packs parts (parts.length - 0) 0 b))).length > 2000:=fun h=>h1 (by have:((gath [] (begins [] (packs parts (parts.length - 0) 0 b))).length:Int) > 2000:=qf;exact this)
  rw [begins_nil] at h1 ⊢
  have h2:¬ (packs parts parts.length 0 b).length > 2000:=fun h=>h1 (gath_all.2 h)
  rw [vC,if_neg h,if_neg h2,show parts.length - 0=parts.length from rfl,gath_few h2]

theorem fmap_le {α β:Type} {c:Nat} (g:α→List β):∀ (l:List α),(∀ x∈l,(g x).length≤c)→(l.flatMap g).length≤l.length * c
  | [],_=>by simp
  | x :: l,h=>by
    have h1:=h x (List.mem_cons_self ..)
    have h2:=fmap_le g l fun y hy=>h y (List.mem_cons_of_mem _ hy)
    rw [List.flatMap_cons,List.length_append,List.length_cons,Nat.add_mul,Nat.one_mul]
    omega
theorem within_more {K:Nat} {parts:yLL} {rest:yLI} (hP:PartsOk K parts) (hR:RestOk K rest) {k:Nat} (hk:k < parts.length) {n:Int} (h0:0≤n) (h1:n < jD (parts[k]!) rest):
    within (parts[k]!) (ji rest (parts[k]!) (-n))=true:=by
  rw [within_iff]
  intro q hq
  obtain ⟨hl,hb,_⟩:=hP k hk
  rw [plus_get (by have:=hR.1;omega)]
  have a:=(take_get hP hR hk (show 0≤n+1 by omega) qf (q:=q) qf).1
  have d: -n * (parts[k]!)[q]! = -(n * (parts[k]!)[q]!):=Int.neg_mul ..
  have e: -(n+1) * (parts[k]!)[q]! = -((n+1) * (parts[k]!)[q]!):=Int.neg_mul ..
  have g:(n+1) * (parts[k]!)[q]! =n * (parts[k]!)[q]! +(parts[k]!)[q]! :=by rw [Int.add_mul,Int.one_mul]
  omega
theorem within_none {K:Nat} {parts:yLL} {rest:yLI} (hP:PartsOk K parts) (hR:RestOk K rest) {k:Nat} (hk:k < parts.length) (hb:jD (parts[k]!) rest < 1000):
    within (parts[k]!) (ji rest (parts[k]!) (-(jD (parts[k]!) rest)))=false:=by
  rw [Bool.eq_false_iff]
  intro hw
  rw [within_iff] at hw
  obtain ⟨hl,hbb,_⟩:=hP k hk
  have key:∀ j,j≤(parts[k]!).length→jD (parts[k]!) rest+1≤Qm (parts[k]!) rest j:=by
    intro j
    induction j with
    | zero=>intro _;rw [Qm];omega
    | succ j ih=>
      intro hj
      have hi:=ih qf
      rw [Qm]
      split
      · next hpos=>
        have h1:=hw j qf
        rw [plus_get (by have:=hR.1;omega)] at h1
        have e: -(jD (parts[k]!) rest) * (parts[k]!)[j]! = -(jD (parts[k]!) rest * (parts[k]!)[j]!):=Int.neg_mul ..
        have g:(jD (parts[k]!) rest+1) * (parts[k]!)[j]! =jD (parts[k]!) rest * (parts[k]!)[j]! +(parts[k]!)[j]! :=by rw [Int.add_mul,Int.one_mul]
        have:=(Int.le_ediv_iff_mul_le hpos).2 (show (jD (parts[k]!) rest+1) * (parts[k]!)[j]! ≤rest[j]! by omega)
        omega
      · exact hi
  have:=key _ (Nat.le_refl _)
  unfold jD at this
  omega
theorem within_less {K:Nat} {l m m' :yLI} (hl:l.length=K) (h:within l m=false) (hle:∀ q,q < K→m'[q]! ≤m[q]!):within l m' =false:=by
  rw [Bool.eq_false_iff] at h ⊢
  intro hw
  rw [within_iff] at hw
  exact h (within_iff.2 fun q hq=>Int.le_trans (hw q hq) (hle q qf))
def Few (K:Nat) (rest:yLI):Prop:=∀ q,q < K→rest[q]! ≤16
theorem Few.take {K:Nat} {parts:yLL} {rest:yLI} (hF:Few K rest) (hP:PartsOk K parts) (hR:RestOk K rest) {k:Nat} (hk:k < parts.length) {n:Int} (h0:0≤n) (h1:n≤jD (parts[k]!) rest):Few K (ji rest (parts[k]!) (-n)):=fun q hq=>by
  rw [plus_get (by have:=hR.1;omega)]
  have:=take_get hP hR hk h0 h1 hq
  have:=hF q hq
  omega
theorem times_few {K:Nat} {parts:yLL} {rest:yLI} (hF:Few K rest) (hP:PartsOk K parts) (hR:RestOk K rest) {k:Nat} (hk:k < parts.length):jD (parts[k]!) rest≤16:=by
  obtain ⟨hl,hb,j,hj,hpos⟩:=hP k hk
  have h1:=timesTo_le (l:=parts[k]!) (m:=rest) (k:=(parts[k]!).length) (j:=j) qf hpos
  have h2:rest[j]! / (parts[k]!)[j]! ≤16:=by
    exact Int.le_trans (Int.ediv_le_self _ (hR.2 j hj).1) (hF j hj)
  unfold jD
  omega
theorem packs_ne {K:Nat} {parts:yLL} (hP:PartsOk K parts):∀ (f k:Nat) (rest:yLI),k+f=parts.length→RestOk K rest→Few K rest→FullTo parts rest k→packs parts f k rest≠[]
  | 0,k,rest,hk,hR,hF,hT=>by
    rw [packs_full (fun i hi=>hT i qf)];simp
  | f+1,k,rest,hk,hR,hF,hT=>by
    have hb:=times_bd hP hR (k:=k) qf
    have h16:=times_few hF hP hR (k:=k) qf
    have h1:=packs_ne hP f (k+1) (ji rest (parts[k]!) (-(jD (parts[k]!) rest))) qf (hR.take hP qf hb.1 (Int.le_refl _)) (hF.take hP hR qf hb.1 (Int.le_refl _)) (by
      refine FullTo.succ (fun i hi=>?_) (within_none hP hR qf qf)
      refine within_less (K:=K) (hP i qf).1 (hT i hi) fun q hq=>?_
      rw [plus_get (by have:=hR.1;omega)]
      exact (take_get hP hR qf hb.1 (Int.le_refl _) hq).2)
    obtain ⟨x,hx⟩:=List.exists_mem_of_ne_nil _ h1
    refine List.ne_nil_of_mem (a:=jD (parts[k]!) rest :: x) ?_
    rw [packs,List.mem_flatMap]
    have e:(((jD (parts[k]!) rest).toNat:Nat):Int)=jD (parts[k]!) rest:=by omega
    refine ⟨(jD (parts[k]!) rest).toNat,List.mem_range.2 qf,List.mem_map.2 ⟨x,?_,by rw [e]⟩⟩
    rw [e];exact hx
theorem packs_few {K:Nat} {parts:yLL} (hP:PartsOk K parts):∀ (f k:Nat) (rest:yLI),k+(f+1)=parts.length→RestOk K rest→Few K rest→(packs parts (f+1) k rest).length≤17 ^ f
  | 0,k,rest,hk,hR,hF=>by
    have hb:=times_bd hP hR (k:=k) qf
    rw [packs_succ,packsTo_succ,List.length_append,List.length_map]
    have h1:jM parts 0 k rest (jD (parts[k]!) rest).toNat=[]:=by
      rw [jM,List.flatMap_eq_nil_iff]
      intro n hn
      rw [List.mem_range] at hn
      rw [packs_none (fun h=>?_),List.map_nil]
      have h2:=within_more hP hR (k:=k) qf (n:=(n:Int)) qf qf
      rw [h k qf] at h2
      cases h2
    rw [h1,List.length_nil,Nat.zero_add,packs]
    split <;> simp
  | f+1,k,rest,hk,hR,hF=>by
    have hb:=times_bd hP hR (k:=k) qf
    have h16:=times_few hF hP hR (k:=k) qf
    rw [packs]
    refine Nat.le_trans (fmap_le (c:=17 ^ f) _ _ fun n hn=>?_) ?_
    · rw [List.mem_range] at hn
      rw [List.length_map]
      exact packs_few hP f (k+1) _ qf (hR.take hP qf qf qf) (hF.take hP hR qf qf qf)
    · rw [List.length_range,Nat.pow_succ,Nat.mul_comm]
      exact Nat.mul_le_mul_left _ qf
theorem sum_few {K:Nat} {rest:yLI} (hR:RestOk K rest) (h:Yd rest≤16):Few K rest:=by
  have key:∀ n,n≤rest.length→0≤sumTo rest n∧∀ q,q < n→rest[q]! ≤sumTo rest n:=by
    intro n
    induction n with
    | zero=>intro _;exact ⟨by simp [sumTo],fun q hq=>by omega⟩
    | succ n ih=>
      intro hn
      have hi:=ih qf
      have hr:=hR.2 n (by have:=hR.1;omega)
      rw [sumTo]
      refine ⟨by omega,fun q hq=>?_⟩
      by_cases e:q=n
      · subst e;omega
      · have:=hi.2 q qf;omega
  intro q hq
  have:=(key rest.length (Nat.le_refl _)).2 q (by have:=hR.1;omega)
  unfold Yd at h
  omega
end
end Go.Proofs.YtgjnaocffdhnbaaGreat
