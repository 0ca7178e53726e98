/- Walks and laws, printed by program and by hand: what each function comes to, for all arguments, part 2. -/
import Derived.Test.YtgjnaocffdhnbaaGreatA1
import Derived.Test.YtgjnaocffdhnbaaGreatRows
namespace Go.Proofs.YtgjnaocffdhnbaaGreat
set_option linter.unusedVariables false
set_option linter.unusedSimpArgs false
open Go.Proofs.YtgjnaocffdhnbaaGreat.Tot (tot)
open Go.Proofs.YtgjnaocffdhnbaaGreat.Mark (cnt mrk mkd mkd_mark cnt_mark)
section
open Go.RowKit
set_option linter.unusedVariables false
set_option linter.unusedSimpArgs false
set_option maxRecDepth 100000
set_option maxHeartbeats 4000000
theorem slice_form {α:Type} [qO α] {w:World} {F:yLN} {v:Value} {l:List α} (h:qO.rep w F [v] l):∃ a c,v=.slice a l.length c:=by
  obtain ⟨a,c,hc,_⟩:=h
  simp only [List.cons.injEq,and_true] at hc
  exact ⟨a,c,hc⟩

theorem one_of {α:Type} [qO α] {w:World} {F:yLN} {v:Value} {x:α} (h:qO.rep w F [v] x):v.oneCell' =true:=qO.one h v (List.mem_singleton.2 rfl)

theorem St.vM {α:Type} [qO α] {W0 w:World} {ps:List Prv} {Γ:List Fact} (H:St W0 w ps Γ) (i:Nat) {fr:Bool} {F:yLN} {b o m c:Nat} {l:List (List α)} (hf:Γ[i]? =some (isF fr F (.slice (some ⟨b,o,none⟩) m c) l)) (iv:Int) (k:Nat) (hk:iv.toNat=k) (h0:0≤iv) (h1:iv < l.length):
    ∃ (a' :yOA) (c' :Nat) (Fk:yLN),St W0 w ps (isF fr Fk (.slice a' (l[k]!).length c') (l[k]!) :: atF b (o+iv.toNat * 1) [.slice a' (l[k]!).length c'] :: Γ):=by
  obtain ⟨cs,Fk,hc,hr,hsub⟩:=H.elem i hf iv h0 h1
  have hfr:fr=true→zZ w Fk:=fun e=>((H.get i hf).2 e).sub fun x hx=>hsub x (List.mem_cons_of_mem _ hx)
  rw [hk] at hr
  obtain ⟨a',c',rfl,_⟩:=id hr
  exact ⟨a',c',Fk,(H.jv i hf (atF b (o+iv.toNat * 1) _) hc (fun x hx=>hsub x (by simp only [atF,List.mem_singleton] at hx;subst hx;exact List.mem_cons_self ..))).jv (i+1) hf (isF fr Fk _ _) ⟨hr,hfr⟩ (fun x hx=>hsub x (List.mem_cons_of_mem _ hx))⟩

structure IntoD where
  qH:Int
  jy:yLI
  deriving DecidableEq
instance:Inhabited IntoD:=⟨⟨0,[]⟩⟩
instance:Tot IntoD:=⟨fun x=>tot x.jy⟩
theorem tot_IntoD (x:IntoD):tot x=tot x.jy:=rfl

instance:qO IntoD where
  size:=2
  rep:=fun w F cs x=>∃ (vBag:Value) (FBag:yLN),cs=[.int .i64 x.qH,vBag]∧F=FBag∧qO.rep w FBag [vBag] x.jy
  len:=by rintro w F cs x ⟨vBag,FBag,rfl,_,hBag⟩;rfl
  one:=by
    rintro w F cs x ⟨vBag,FBag,rfl,rfl,hBag⟩ u hu
    simp only [List.mem_cons,List.not_mem_nil,or_false] at hu
    rcases hu with rfl | rfl <;> first | rfl | exact one_of ql
  stay:=by
    rintro w w' F cs x ⟨vBag,FBag,rfl,rfl,hBag⟩ hs
    exact ⟨_,_,rfl,rfl,qO.stay hBag fun b hb=>hs b (by simp [hb])⟩
  lt:=by
    rintro w F cs x ⟨vBag,FBag,rfl,rfl,hBag⟩ b hb
    exact qO.lt hBag b hb

theorem St.jS {W0 w:World} {ps:List Prv} {Γ:List Fact} (H:St W0 w ps Γ) (i:Nat) {fr:Bool} {F:yLN} {b o m c:Nat} {l:List IntoD} (hf:Γ[i]? =some (isF fr F (.slice (some ⟨b,o,none⟩) m c) l)) (iv:Int) (k:Nat) (hk:iv.toNat=k) (h0:0≤iv) (h1:iv < l.length):
    ∃ (aBag:yOA) (cBag:Nat) (FBag:yLN),St W0 w ps (isF fr FBag (.slice aBag (l[k]!).jy.length cBag) (l[k]!).jy :: atF b (o+iv.toNat * 2) [.int .i64 (l[k]!).qH,.slice aBag (l[k]!).jy.length cBag] :: Γ):=by
  obtain ⟨cs,Fk,hc,hr,hsub⟩:=H.elem i hf iv h0 h1
  have hfr:fr=true→zZ w Fk:=fun e=>((H.get i hf).2 e).sub fun x hx=>hsub x (List.mem_cons_of_mem _ hx)
  rw [hk] at hr
  obtain ⟨vBag,FBag,rfl,hFF,hBag⟩:=hr
  obtain ⟨aBag,cBag,rfl⟩:=slice_form hBag
  exact ⟨_,_,_,((H.jv i hf (atF b (o+iv.toNat * 2) [.int .i64 (l[k]!).qH,.slice aBag (l[k]!).jy.length cBag]) hc (fun x hx=>hsub x (by simp only [atF,List.mem_singleton] at hx;subst hx;exact List.mem_cons_self ..))).jv (i+1) hf (isF fr FBag _ (l[k]!).jy) ⟨hBag,fun e=>(hfr e).sub (by rw [hFF];intro x hx;simp [hx])⟩ (fun x hx=>hsub x (List.mem_cons_of_mem _ (hFF.symm▸(by have hx:x∈FBag:=hx;simp [hx])))))⟩

def New_IntoD (w0 w:World) (v:Value) (x:IntoD):Prop:=
  ∃ (aBag:yOA) (cBag:Nat) (FBag:yLN),v=.agg #[.int .i64 x.qH,.slice aBag x.jy.length cBag]∧qO.rep w FBag [.slice aBag x.jy.length cBag] x.jy∧(∀ b∈(FBag),w0.heap.size≤b)∧(FBag).Nodup∧zZ w (FBag)
theorem St.add_IntoD {W0 w w' :World} {ps:List Prv} {Γ:List Fact} (H:St W0 w ps Γ) (e:Ext w w') {v:Value} {x:IntoD} (h:New_IntoD w w' v x):
    ∃ (aBag:yOA) (cBag:Nat) (FBag:yLN),v=.agg #[.int .i64 x.qH,.slice aBag x.jy.length cBag]∧((∀ b∈(FBag),w.heap.size≤b)∧(FBag).Nodup)∧St W0 w' ps (isF true FBag (.slice aBag x.jy.length cBag) x.jy :: Γ):=by
  obtain ⟨aBag,cBag,FBag,rfl,hBag,hF,hd,hfr⟩:=h
  refine ⟨_,_,_,rfl,⟨hF,hd⟩,?_⟩
  exact ((H.ext e).add (isF true FBag _ x.jy) ⟨hBag,fun _=>hfr.sub (by intro b hb;simp [hb])⟩ (fun b hb=>⟨qO.lt hBag b hb,fun i hi=>by have h1:=(yA H hi).2;have h2:=hF b (by have hb:b∈FBag:=hb;simp [hb]);omega⟩))

theorem St.snoc_IntoD {W0 w:World} {ps:List Prv} {Γ:List Fact} (H:St W0 w ps Γ) (i:Nat) {fr:Bool} {F:yLN} {xs:List Value} {l:List IntoD} (hf:Γ[i]? =some (zi fr F xs l)) (xCell:Int) (iBag:Nat) {GBag:yLN} {vBag:Value} {xBag:yLI} (hBag:Γ[iBag]? =some (isF fr GBag vBag xBag)):
    St W0 w ps (zi fr (F++(GBag)) (xs++[.int .i64 xCell,vBag]) (l++[⟨xCell,xBag⟩]) :: Γ):=by
  have hr:qO.rep w (GBag) [.int .i64 xCell,vBag] (⟨xCell,xBag⟩:IntoD):=⟨vBag,GBag,rfl,rfl,(H.get iBag hBag).1⟩
  refine H.add _ ⟨Qw (H.get i hf).1 (reps_one hr),fun e=>((H.get i hf).2 e).app (((H.get iBag hBag).2 e))⟩ fun b hb=>?_
  rcases List.mem_append.1 hb with h | h
  · exact (H.facts _ (List.mem_of_getElem? hf)).2 b h
  · exact (H.facts _ (List.mem_of_getElem? hBag)).2 b h

structure QU where
  qH:Int
  zM:Int
  xm:yLI
  xF:yLI
  xI:yLI
  xM:yLI
  zV:yLI
  qQ:List IntoD
  zA:Bool
  deriving DecidableEq
instance:Inhabited QU:=⟨⟨0,0,[],[],[],[],[],[],false⟩⟩
instance:Tot QU:=⟨fun x=>tot x.xm+tot x.xF+tot x.xI+tot x.xM+tot x.zV+tot x.qQ⟩
theorem tot_RuleD (x:QU):tot x=tot x.xm+tot x.xF+tot x.xI+tot x.xM+tot x.zV+tot x.qQ:=rfl

instance:qO QU where
  size:=9
  rep:=fun w F cs x=>∃ (vNeed vHave vLack vHere vOut vInto:Value) (YX Y1 YY Y0 FOut YZ:yLN),cs=[.int .i64 x.qH,.int .i64 x.zM,vNeed,vHave,vLack,vHere,vOut,vInto,.bool x.zA]∧F=YX++Y1++YY++Y0++FOut++YZ∧qO.rep w YX [vNeed] x.xm∧qO.rep w Y1 [vHave] x.xF∧qO.rep w YY [vLack] x.xI∧qO.rep w Y0 [vHere] x.xM∧qO.rep w FOut [vOut] x.zV∧qO.rep w YZ [vInto] x.qQ
  len:=by rintro w F cs x ⟨vNeed,vHave,vLack,vHere,vOut,vInto,YX,Y1,YY,Y0,FOut,YZ,rfl,_,hNeed,hHave,hLack,hHere,hOut,hInto⟩;rfl
  one:=by
    rintro w F cs x ⟨vNeed,vHave,vLack,vHere,vOut,vInto,YX,Y1,YY,Y0,FOut,YZ,rfl,rfl,hNeed,hHave,hLack,hHere,hOut,hInto⟩ u hu
    simp only [List.mem_cons,List.not_mem_nil,or_false] at hu
    rcases hu with rfl | rfl | rfl | rfl | rfl | rfl | rfl | rfl | rfl <;> first | rfl | exact one_of ql
  stay:=by
    rintro w w' F cs x ⟨vNeed,vHave,vLack,vHere,vOut,vInto,YX,Y1,YY,Y0,FOut,YZ,rfl,rfl,hNeed,hHave,hLack,hHere,hOut,hInto⟩ hs
    exact ⟨_,_,_,_,_,_,_,_,_,_,_,_,rfl,rfl,qO.stay hNeed fun b hb=>hs b (by simp [hb]),qO.stay hHave fun b hb=>hs b (by simp [hb]),qO.stay hLack fun b hb=>hs b (by simp [hb]),qO.stay hHere fun b hb=>hs b (by simp [hb]),qO.stay hOut fun b hb=>hs b (by simp [hb]),qO.stay hInto fun b hb=>hs b (by simp [hb])⟩
  lt:=by
    rintro w F cs x ⟨vNeed,vHave,vLack,vHere,vOut,vInto,YX,Y1,YY,Y0,FOut,YZ,rfl,rfl,hNeed,hHave,hLack,hHere,hOut,hInto⟩ b hb
    simp only [List.mem_append] at hb
    rcases hb with (((((hb | hb) | hb) | hb) | hb) | hb)
    · exact qO.lt hNeed b hb
    · exact qO.lt hHave b hb
    · exact qO.lt hLack b hb
    · exact qO.lt hHere b hb
    · exact qO.lt hOut b hb
    · exact qO.lt hInto b hb

theorem St.yt {W0 w:World} {ps:List Prv} {Γ:List Fact} (H:St W0 w ps Γ) (i:Nat) {fr:Bool} {F:yLN} {b o m c:Nat} {l:List QU} (hf:Γ[i]? =some (isF fr F (.slice (some ⟨b,o,none⟩) m c) l)) (iv:Int) (k:Nat) (hk:iv.toNat=k) (h0:0≤iv) (h1:iv < l.length):
    ∃ (aNeed:yOA) (cNeed:Nat) (YX:yLN) (aHave:yOA) (cHave:Nat) (Y1:yLN) (aLack:yOA) (cLack:Nat) (YY:yLN) (aHere:yOA) (cHere:Nat) (Y0:yLN) (aOut:yOA) (cOut:Nat) (FOut:yLN) (aInto:yOA) (cInto:Nat) (YZ:yLN),St W0 w ps (isF fr YX (.slice aNeed (l[k]!).xm.length cNeed) (l[k]!).xm :: isF fr Y1 (.slice aHave (l[k]!).xF.length cHave) (l[k]!).xF :: isF fr YY (.slice aLack (l[k]!).xI.length cLack) (l[k]!).xI :: isF fr Y0 (.slice aHere (l[k]!).xM.length cHere) (l[k]!).xM :: isF fr FOut (.slice aOut (l[k]!).zV.length cOut) (l[k]!).zV :: isF fr YZ (.slice aInto (l[k]!).qQ.length cInto) (l[k]!).qQ :: atF b (o+iv.toNat * 9) [.int .i64 (l[k]!).qH,.int .i64 (l[k]!).zM,.slice aNeed (l[k]!).xm.length cNeed,.slice aHave (l[k]!).xF.length cHave,.slice aLack (l[k]!).xI.length cLack,.slice aHere (l[k]!).xM.length cHere,.slice aOut (l[k]!).zV.length cOut,.slice aInto (l[k]!).qQ.length cInto,.bool (l[k]!).zA] :: Γ):=by
  obtain ⟨cs,Fk,hc,hr,hsub⟩:=H.elem i hf iv h0 h1
  have hfr:fr=true→zZ w Fk:=fun e=>((H.get i hf).2 e).sub fun x hx=>hsub x (List.mem_cons_of_mem _ hx)
  rw [hk] at hr
  obtain ⟨vNeed,vHave,vLack,vHere,vOut,vInto,YX,Y1,YY,Y0,FOut,YZ,rfl,hFF,hNeed,hHave,hLack,hHere,hOut,hInto⟩:=hr
  obtain ⟨aNeed,cNeed,rfl⟩:=slice_form hNeed
  obtain ⟨aHave,cHave,rfl⟩:=slice_form hHave
  obtain ⟨aLack,cLack,rfl⟩:=slice_form hLack
  obtain ⟨aHere,cHere,rfl⟩:=slice_form hHere
  obtain ⟨aOut,cOut,rfl⟩:=slice_form hOut
  obtain ⟨aInto,cInto,rfl⟩:=slice_form hInto
  exact ⟨_,_,_,_,_,_,_,_,_,_,_,_,_,_,_,_,_,_,(((((((H.jv i hf (atF b (o+iv.toNat * 9) [.int .i64 (l[k]!).qH,.int .i64 (l[k]!).zM,.slice aNeed (l[k]!).xm.length cNeed,.slice aHave (l[k]!).xF.length cHave,.slice aLack (l[k]!).xI.length cLack,.slice aHere (l[k]!).xM.length cHere,.slice aOut (l[k]!).zV.length cOut,.slice aInto (l[k]!).qQ.length cInto,.bool (l[k]!).zA]) hc (fun x hx=>hsub x (by simp only [atF,List.mem_singleton] at hx;subst hx;exact List.mem_cons_self ..))).jv (i+1) hf (isF fr YZ _ (l[k]!).qQ) ⟨hInto,fun e=>(hfr e).sub (by rw [hFF];intro x hx;simp [hx])⟩ (fun x hx=>hsub x (List.mem_cons_of_mem _ (hFF.symm▸(by have hx:x∈YZ:=hx;simp [hx]))))).jv (i+2) hf (isF fr FOut _ (l[k]!).zV) ⟨hOut,fun e=>(hfr e).sub (by rw [hFF];intro x hx;simp [hx])⟩ (fun x hx=>hsub x (List.mem_cons_of_mem _ (hFF.symm▸(by have hx:x∈FOut:=hx;simp [hx]))))).jv (i+3) hf (isF fr Y0 _ (l[k]!).xM) ⟨hHere,fun e=>(hfr e).sub (by rw [hFF];intro x hx;simp [hx])⟩ (fun x hx=>hsub x (List.mem_cons_of_mem _ (hFF.symm▸(by have hx:x∈Y0:=hx;simp [hx]))))).jv (i+4) hf (isF fr YY _ (l[k]!).xI) ⟨hLack,fun e=>(hfr e).sub (by rw [hFF];intro x hx;simp [hx])⟩ (fun x hx=>hsub x (List.mem_cons_of_mem _ (hFF.symm▸(by have hx:x∈YY:=hx;simp [hx]))))).jv (i+5) hf (isF fr Y1 _ (l[k]!).xF) ⟨hHave,fun e=>(hfr e).sub (by rw [hFF];intro x hx;simp [hx])⟩ (fun x hx=>hsub x (List.mem_cons_of_mem _ (hFF.symm▸(by have hx:x∈Y1:=hx;simp [hx]))))).jv (i+6) hf (isF fr YX _ (l[k]!).xm) ⟨hNeed,fun e=>(hfr e).sub (by rw [hFF];intro x hx;simp [hx])⟩ (fun x hx=>hsub x (List.mem_cons_of_mem _ (hFF.symm▸(by have hx:x∈YX:=hx;simp [hx])))))⟩

def New_RuleD (w0 w:World) (v:Value) (x:QU):Prop:=
  ∃ (aNeed:yOA) (cNeed:Nat) (YX:yLN) (aHave:yOA) (cHave:Nat) (Y1:yLN) (aLack:yOA) (cLack:Nat) (YY:yLN) (aHere:yOA) (cHere:Nat) (Y0:yLN) (aOut:yOA) (cOut:Nat) (FOut:yLN) (aInto:yOA) (cInto:Nat) (YZ:yLN),v=.agg #[.int .i64 x.qH,.int .i64 x.zM,.slice aNeed x.xm.length cNeed,.slice aHave x.xF.length cHave,.slice aLack x.xI.length cLack,.slice aHere x.xM.length cHere,.slice aOut x.zV.length cOut,.slice aInto x.qQ.length cInto,.bool x.zA]∧qO.rep w YX [.slice aNeed x.xm.length cNeed] x.xm∧qO.rep w Y1 [.slice aHave x.xF.length cHave] x.xF∧qO.rep w YY [.slice aLack x.xI.length cLack] x.xI∧qO.rep w Y0 [.slice aHere x.xM.length cHere] x.xM∧qO.rep w FOut [.slice aOut x.zV.length cOut] x.zV∧qO.rep w YZ [.slice aInto x.qQ.length cInto] x.qQ∧(∀ b∈(YX++Y1++YY++Y0++FOut++YZ),w0.heap.size≤b)∧(YX++Y1++YY++Y0++FOut++YZ).Nodup∧zZ w (YX++Y1++YY++Y0++FOut++YZ)
theorem St.add_RuleD {W0 w w' :World} {ps:List Prv} {Γ:List Fact} (H:St W0 w ps Γ) (e:Ext w w') {v:Value} {x:QU} (h:New_RuleD w w' v x):
    ∃ (aNeed:yOA) (cNeed:Nat) (YX:yLN) (aHave:yOA) (cHave:Nat) (Y1:yLN) (aLack:yOA) (cLack:Nat) (YY:yLN) (aHere:yOA) (cHere:Nat) (Y0:yLN) (aOut:yOA) (cOut:Nat) (FOut:yLN) (aInto:yOA) (cInto:Nat) (YZ:yLN),v=.agg #[.int .i64 x.qH,.int .i64 x.zM,.slice aNeed x.xm.length cNeed,.slice aHave x.xF.length cHave,.slice aLack x.xI.length cLack,.slice aHere x.xM.length cHere,.slice aOut x.zV.length cOut,.slice aInto x.qQ.length cInto,.bool x.zA]∧((∀ b∈(YX++Y1++YY++Y0++FOut++YZ),w.heap.size≤b)∧(YX++Y1++YY++Y0++FOut++YZ).Nodup)∧St W0 w' ps (isF true YX (.slice aNeed x.xm.length cNeed) x.xm :: isF true Y1 (.slice aHave x.xF.length cHave) x.xF :: isF true YY (.slice aLack x.xI.length cLack) x.xI :: isF true Y0 (.slice aHere x.xM.length cHere) x.xM :: isF true FOut (.slice aOut x.zV.length cOut) x.zV :: isF true YZ (.slice aInto x.qQ.length cInto) x.qQ :: Γ):=by
  obtain ⟨aNeed,cNeed,YX,aHave,cHave,Y1,aLack,cLack,YY,aHere,cHere,Y0,aOut,cOut,FOut,aInto,cInto,YZ,rfl,hNeed,hHave,hLack,hHere,hOut,hInto,hF,hd,hfr⟩:=h
  refine ⟨_,_,_,_,_,_,_,_,_,_,_,_,_,_,_,_,_,_,rfl,⟨hF,hd⟩,?_⟩
  exact (((((((H.ext e).add (isF true YZ _ x.qQ) ⟨hInto,fun _=>hfr.sub (by intro b hb;simp [hb])⟩ (fun b hb=>⟨qO.lt hInto b hb,fun i hi=>by have h1:=(yA H hi).2;have h2:=hF b (by have hb:b∈YZ:=hb;simp [hb]);omega⟩)).add (isF true FOut _ x.zV) ⟨hOut,fun _=>hfr.sub (by intro b hb;simp [hb])⟩ (fun b hb=>⟨qO.lt hOut b hb,fun i hi=>by have h1:=(yA H hi).2;have h2:=hF b (by have hb:b∈FOut:=hb;simp [hb]);omega⟩)).add (isF true Y0 _ x.xM) ⟨hHere,fun _=>hfr.sub (by intro b hb;simp [hb])⟩ (fun b hb=>⟨qO.lt hHere b hb,fun i hi=>by have h1:=(yA H hi).2;have h2:=hF b (by have hb:b∈Y0:=hb;simp [hb]);omega⟩)).add (isF true YY _ x.xI) ⟨hLack,fun _=>hfr.sub (by intro b hb;simp [hb])⟩ (fun b hb=>⟨qO.lt hLack b hb,fun i hi=>by have h1:=(yA H hi).2;have h2:=hF b (by have hb:b∈YY:=hb;simp [hb]);omega⟩)).add (isF true Y1 _ x.xF) ⟨hHave,fun _=>hfr.sub (by intro b hb;simp [hb])⟩ (fun b hb=>⟨qO.lt hHave b hb,fun i hi=>by have h1:=(yA H hi).2;have h2:=hF b (by have hb:b∈Y1:=hb;simp [hb]);omega⟩)).add (isF true YX _ x.xm) ⟨hNeed,fun _=>hfr.sub (by intro b hb;simp [hb])⟩ (fun b hb=>⟨qO.lt hNeed b hb,fun i hi=>by have h1:=(yA H hi).2;have h2:=hF b (by have hb:b∈YX:=hb;simp [hb]);omega⟩))

theorem St.snoc_RuleD {W0 w:World} {ps:List Prv} {Γ:List Fact} (H:St W0 w ps Γ) (i:Nat) {fr:Bool} {F:yLN} {xs:List Value} {l:List QU} (hf:Γ[i]? =some (zi fr F xs l)) (xCell:Int) (xRank:Int) (iNeed:Nat) {GNeed:yLN} {vNeed:Value} {xNeed:yLI} (hNeed:Γ[iNeed]? =some (isF fr GNeed vNeed xNeed)) (iHave:Nat) {GHave:yLN} {vHave:Value} {xHave:yLI} (hHave:Γ[iHave]? =some (isF fr GHave vHave xHave)) (iLack:Nat) {GLack:yLN} {vLack:Value} {xLack:yLI} (hLack:Γ[iLack]? =some (isF fr GLack vLack xLack)) (iHere:Nat) {GHere:yLN} {vHere:Value} {xHere:yLI} (hHere:Γ[iHere]? =some (isF fr GHere vHere xHere)) (iOut:Nat) {GOut:yLN} {vOut:Value} {xOut:yLI} (hOut:Γ[iOut]? =some (isF fr GOut vOut xOut)) (iInto:Nat) {GInto:yLN} {vInto:Value} {xInto:List IntoD} (hInto:Γ[iInto]? =some (isF fr GInto vInto xInto)) (xMelts:Bool):
    St W0 w ps (zi fr (F++(GNeed++GHave++GLack++GHere++GOut++GInto)) (xs++[.int .i64 xCell,.int .i64 xRank,vNeed,vHave,vLack,vHere,vOut,vInto,.bool xMelts]) (l++[⟨xCell,xRank,xNeed,xHave,xLack,xHere,xOut,xInto,xMelts⟩]) :: Γ):=by
  have hr:qO.rep w (GNeed++GHave++GLack++GHere++GOut++GInto) [.int .i64 xCell,.int .i64 xRank,vNeed,vHave,vLack,vHere,vOut,vInto,.bool xMelts] (⟨xCell,xRank,xNeed,xHave,xLack,xHere,xOut,xInto,xMelts⟩:QU):=⟨vNeed,vHave,vLack,vHere,vOut,vInto,GNeed,GHave,GLack,GHere,GOut,GInto,rfl,rfl,(H.get iNeed hNeed).1,(H.get iHave hHave).1,(H.get iLack hLack).1,(H.get iHere hHere).1,(H.get iOut hOut).1,(H.get iInto hInto).1⟩
  refine H.add _ ⟨Qw (H.get i hf).1 (reps_one hr),fun e=>((H.get i hf).2 e).app ((((((((H.get iNeed hNeed).2 e).app ((H.get iHave hHave).2 e)).app ((H.get iLack hLack).2 e)).app ((H.get iHere hHere).2 e)).app ((H.get iOut hOut).2 e)).app ((H.get iInto hInto).2 e)))⟩ fun b hb=>?_
  rcases List.mem_append.1 hb with h | h
  · exact (H.facts _ (List.mem_of_getElem? hf)).2 b h
  · simp only [List.mem_append] at h
    rcases h with (((((h | h) | h) | h) | h) | h)
    · exact (H.facts _ (List.mem_of_getElem? hNeed)).2 b h
    · exact (H.facts _ (List.mem_of_getElem? hHave)).2 b h
    · exact (H.facts _ (List.mem_of_getElem? hLack)).2 b h
    · exact (H.facts _ (List.mem_of_getElem? hHere)).2 b h
    · exact (H.facts _ (List.mem_of_getElem? hOut)).2 b h
    · exact (H.facts _ (List.mem_of_getElem? hInto)).2 b h

structure qG where
  xC:Int
  qw:yLI
  qx:List QU
  deriving DecidableEq
instance:Inhabited qG:=⟨⟨0,[],[]⟩⟩
instance:Tot qG:=⟨fun x=>tot x.qw+tot x.qx⟩
theorem tot_SystemD (x:qG):tot x=tot x.qw+tot x.qx:=rfl

instance:qO qG where
  size:=3
  rep:=fun w F cs x=>∃ (vParents vRules:Value) (Xb FRules:yLN),cs=[.int .i64 x.xC,vParents,vRules]∧F=Xb++FRules∧qO.rep w Xb [vParents] x.qw∧qO.rep w FRules [vRules] x.qx
  len:=by rintro w F cs x ⟨vParents,vRules,Xb,FRules,rfl,_,hParents,hRules⟩;rfl
  one:=by
    rintro w F cs x ⟨vParents,vRules,Xb,FRules,rfl,rfl,hParents,hRules⟩ u hu
    simp only [List.mem_cons,List.not_mem_nil,or_false] at hu
    rcases hu with rfl | rfl | rfl <;> first | rfl | exact one_of ql
  stay:=by
    rintro w w' F cs x ⟨vParents,vRules,Xb,FRules,rfl,rfl,hParents,hRules⟩ hs
    exact ⟨_,_,_,_,rfl,rfl,qO.stay hParents fun b hb=>hs b (by simp [hb]),qO.stay hRules fun b hb=>hs b (by simp [hb])⟩
  lt:=by
    rintro w F cs x ⟨vParents,vRules,Xb,FRules,rfl,rfl,hParents,hRules⟩ b hb
    simp only [List.mem_append] at hb
    rcases hb with (hb | hb)
    · exact qO.lt hParents b hb
    · exact qO.lt hRules b hb

def New_SystemD (w0 w:World) (v:Value) (x:qG):Prop:=
  ∃ (aParents:yOA) (cParents:Nat) (Xb:yLN) (aRules:yOA) (cRules:Nat) (FRules:yLN),v=.agg #[.int .i64 x.xC,.slice aParents x.qw.length cParents,.slice aRules x.qx.length cRules]∧qO.rep w Xb [.slice aParents x.qw.length cParents] x.qw∧qO.rep w FRules [.slice aRules x.qx.length cRules] x.qx∧(∀ b∈(Xb++FRules),w0.heap.size≤b)∧(Xb++FRules).Nodup∧zZ w (Xb++FRules)
theorem St.add_SystemD {W0 w w' :World} {ps:List Prv} {Γ:List Fact} (H:St W0 w ps Γ) (e:Ext w w') {v:Value} {x:qG} (h:New_SystemD w w' v x):
    ∃ (aParents:yOA) (cParents:Nat) (Xb:yLN) (aRules:yOA) (cRules:Nat) (FRules:yLN),v=.agg #[.int .i64 x.xC,.slice aParents x.qw.length cParents,.slice aRules x.qx.length cRules]∧((∀ b∈(Xb++FRules),w.heap.size≤b)∧(Xb++FRules).Nodup)∧St W0 w' ps (isF true Xb (.slice aParents x.qw.length cParents) x.qw :: isF true FRules (.slice aRules x.qx.length cRules) x.qx :: Γ):=by
  obtain ⟨aParents,cParents,Xb,aRules,cRules,FRules,rfl,hParents,hRules,hF,hd,hfr⟩:=h
  refine ⟨_,_,_,_,_,_,rfl,⟨hF,hd⟩,?_⟩
  exact (((H.ext e).add (isF true FRules _ x.qx) ⟨hRules,fun _=>hfr.sub (by intro b hb;simp [hb])⟩ (fun b hb=>⟨qO.lt hRules b hb,fun i hi=>by have h1:=(yA H hi).2;have h2:=hF b (by have hb:b∈FRules:=hb;simp [hb]);omega⟩)).add (isF true Xb _ x.qw) ⟨hParents,fun _=>hfr.sub (by intro b hb;simp [hb])⟩ (fun b hb=>⟨qO.lt hParents b hb,fun i hi=>by have h1:=(yA H hi).2;have h2:=hF b (by have hb:b∈Xb:=hb;simp [hb]);omega⟩))

structure qJ where
  qA:List Bool
  qE:yLL
  qC:yLI
  deriving DecidableEq
instance:Inhabited qJ:=⟨⟨[],[],[]⟩⟩
instance:Tot qJ:=⟨fun x=>tot x.qA+tot x.qE+tot x.qC⟩
theorem tot_StateD (x:qJ):tot x=tot x.qA+tot x.qE+tot x.qC:=rfl

instance:qO qJ where
  size:=3
  rep:=fun w F cs x=>∃ (vAlive vBags vAround:Value) (Vy FBags Xa:yLN),cs=[vAlive,vBags,vAround]∧F=Vy++FBags++Xa∧qO.rep w Vy [vAlive] x.qA∧qO.rep w FBags [vBags] x.qE∧qO.rep w Xa [vAround] x.qC
  len:=by rintro w F cs x ⟨vAlive,vBags,vAround,Vy,FBags,Xa,rfl,_,hAlive,hBags,YI⟩;rfl
  one:=by
    rintro w F cs x ⟨vAlive,vBags,vAround,Vy,FBags,Xa,rfl,rfl,hAlive,hBags,YI⟩ u hu
    simp only [List.mem_cons,List.not_mem_nil,or_false] at hu
    rcases hu with rfl | rfl | rfl <;> first | rfl | exact one_of ql
  stay:=by
    rintro w w' F cs x ⟨vAlive,vBags,vAround,Vy,FBags,Xa,rfl,rfl,hAlive,hBags,YI⟩ hs
    exact ⟨_,_,_,_,_,_,rfl,rfl,qO.stay hAlive fun b hb=>hs b (by simp [hb]),qO.stay hBags fun b hb=>hs b (by simp [hb]),qO.stay YI fun b hb=>hs b (by simp [hb])⟩
  lt:=by
    rintro w F cs x ⟨vAlive,vBags,vAround,Vy,FBags,Xa,rfl,rfl,hAlive,hBags,YI⟩ b hb
    simp only [List.mem_append] at hb
    rcases hb with ((hb | hb) | hb)
    · exact qO.lt hAlive b hb
    · exact qO.lt hBags b hb
    · exact qO.lt YI b hb

theorem St.YJ {W0 w:World} {ps:List Prv} {Γ:List Fact} (H:St W0 w ps Γ) (i:Nat) {fr:Bool} {F:yLN} {b o m c:Nat} {l:List qJ} (hf:Γ[i]? =some (isF fr F (.slice (some ⟨b,o,none⟩) m c) l)) (iv:Int) (k:Nat) (hk:iv.toNat=k) (h0:0≤iv) (h1:iv < l.length):
    ∃ (aAlive:yOA) (cAlive:Nat) (Vy:yLN) (aBags:yOA) (cBags:Nat) (FBags:yLN) (aAround:yOA) (cAround:Nat) (Xa:yLN),St W0 w ps (isF fr Vy (.slice aAlive (l[k]!).qA.length cAlive) (l[k]!).qA :: isF fr FBags (.slice aBags (l[k]!).qE.length cBags) (l[k]!).qE :: isF fr Xa (.slice aAround (l[k]!).qC.length cAround) (l[k]!).qC :: atF b (o+iv.toNat * 3) [.slice aAlive (l[k]!).qA.length cAlive,.slice aBags (l[k]!).qE.length cBags,.slice aAround (l[k]!).qC.length cAround] :: Γ):=by
  obtain ⟨cs,Fk,hc,hr,hsub⟩:=H.elem i hf iv h0 h1
  have hfr:fr=true→zZ w Fk:=fun e=>((H.get i hf).2 e).sub fun x hx=>hsub x (List.mem_cons_of_mem _ hx)
  rw [hk] at hr
  obtain ⟨vAlive,vBags,vAround,Vy,FBags,Xa,rfl,hFF,hAlive,hBags,YI⟩:=hr
  obtain ⟨aAlive,cAlive,rfl⟩:=slice_form hAlive
  obtain ⟨aBags,cBags,rfl⟩:=slice_form hBags
  obtain ⟨aAround,cAround,rfl⟩:=slice_form YI
  exact ⟨_,_,_,_,_,_,_,_,_,((((H.jv i hf (atF b (o+iv.toNat * 3) [.slice aAlive (l[k]!).qA.length cAlive,.slice aBags (l[k]!).qE.length cBags,.slice aAround (l[k]!).qC.length cAround]) hc (fun x hx=>hsub x (by simp only [atF,List.mem_singleton] at hx;subst hx;exact List.mem_cons_self ..))).jv (i+1) hf (isF fr Xa _ (l[k]!).qC) ⟨YI,fun e=>(hfr e).sub (by rw [hFF];intro x hx;simp [hx])⟩ (fun x hx=>hsub x (List.mem_cons_of_mem _ (hFF.symm▸(by have hx:x∈Xa:=hx;simp [hx]))))).jv (i+2) hf (isF fr FBags _ (l[k]!).qE) ⟨hBags,fun e=>(hfr e).sub (by rw [hFF];intro x hx;simp [hx])⟩ (fun x hx=>hsub x (List.mem_cons_of_mem _ (hFF.symm▸(by have hx:x∈FBags:=hx;simp [hx]))))).jv (i+3) hf (isF fr Vy _ (l[k]!).qA) ⟨hAlive,fun e=>(hfr e).sub (by rw [hFF];intro x hx;simp [hx])⟩ (fun x hx=>hsub x (List.mem_cons_of_mem _ (hFF.symm▸(by have hx:x∈Vy:=hx;simp [hx])))))⟩

def New_StateD (w0 w:World) (v:Value) (x:qJ):Prop:=
  ∃ (aAlive:yOA) (cAlive:Nat) (Vy:yLN) (aBags:yOA) (cBags:Nat) (FBags:yLN) (aAround:yOA) (cAround:Nat) (Xa:yLN),v=.agg #[.slice aAlive x.qA.length cAlive,.slice aBags x.qE.length cBags,.slice aAround x.qC.length cAround]∧qO.rep w Vy [.slice aAlive x.qA.length cAlive] x.qA∧qO.rep w FBags [.slice aBags x.qE.length cBags] x.qE∧qO.rep w Xa [.slice aAround x.qC.length cAround] x.qC∧(∀ b∈(Vy++FBags++Xa),w0.heap.size≤b)∧(Vy++FBags++Xa).Nodup∧zZ w (Vy++FBags++Xa)
theorem St.add_StateD {W0 w w' :World} {ps:List Prv} {Γ:List Fact} (H:St W0 w ps Γ) (e:Ext w w') {v:Value} {x:qJ} (h:New_StateD w w' v x):
    ∃ (aAlive:yOA) (cAlive:Nat) (Vy:yLN) (aBags:yOA) (cBags:Nat) (FBags:yLN) (aAround:yOA) (cAround:Nat) (Xa:yLN),v=.agg #[.slice aAlive x.qA.length cAlive,.slice aBags x.qE.length cBags,.slice aAround x.qC.length cAround]∧((∀ b∈(Vy++FBags++Xa),w.heap.size≤b)∧(Vy++FBags++Xa).Nodup)∧St W0 w' ps (isF true Vy (.slice aAlive x.qA.length cAlive) x.qA :: isF true FBags (.slice aBags x.qE.length cBags) x.qE :: isF true Xa (.slice aAround x.qC.length cAround) x.qC :: Γ):=by
  obtain ⟨aAlive,cAlive,Vy,aBags,cBags,FBags,aAround,cAround,Xa,rfl,hAlive,hBags,YI,hF,hd,hfr⟩:=h
  refine ⟨_,_,_,_,_,_,_,_,_,rfl,⟨hF,hd⟩,?_⟩
  exact ((((H.ext e).add (isF true Xa _ x.qC) ⟨YI,fun _=>hfr.sub (by intro b hb;simp [hb])⟩ (fun b hb=>⟨qO.lt YI b hb,fun i hi=>by have h1:=(yA H hi).2;have h2:=hF b (by have hb:b∈Xa:=hb;simp [hb]);omega⟩)).add (isF true FBags _ x.qE) ⟨hBags,fun _=>hfr.sub (by intro b hb;simp [hb])⟩ (fun b hb=>⟨qO.lt hBags b hb,fun i hi=>by have h1:=(yA H hi).2;have h2:=hF b (by have hb:b∈FBags:=hb;simp [hb]);omega⟩)).add (isF true Vy _ x.qA) ⟨hAlive,fun _=>hfr.sub (by intro b hb;simp [hb])⟩ (fun b hb=>⟨qO.lt hAlive b hb,fun i hi=>by have h1:=(yA H hi).2;have h2:=hF b (by have hb:b∈Vy:=hb;simp [hb]);omega⟩))

theorem St.YD {W0 w:World} {ps:List Prv} {Γ:List Fact} (H:St W0 w ps Γ) (i:Nat) {fr:Bool} {F:yLN} {xs:List Value} {l:List qJ} (hf:Γ[i]? =some (zi fr F xs l)) (iAlive:Nat) {GAlive:yLN} {vAlive:Value} {xAlive:List Bool} (hAlive:Γ[iAlive]? =some (isF fr GAlive vAlive xAlive)) (iBags:Nat) {GBags:yLN} {vBags:Value} {xBags:yLL} (hBags:Γ[iBags]? =some (isF fr GBags vBags xBags)) (iAround:Nat) {GAround:yLN} {vAround:Value} {xAround:yLI} (YI:Γ[iAround]? =some (isF fr GAround vAround xAround)):
    St W0 w ps (zi fr (F++(GAlive++GBags++GAround)) (xs++[vAlive,vBags,vAround]) (l++[⟨xAlive,xBags,xAround⟩]) :: Γ):=by
  have hr:qO.rep w (GAlive++GBags++GAround) [vAlive,vBags,vAround] (⟨xAlive,xBags,xAround⟩:qJ):=⟨vAlive,vBags,vAround,GAlive,GBags,GAround,rfl,rfl,(H.get iAlive hAlive).1,(H.get iBags hBags).1,(H.get iAround YI).1⟩
  refine H.add _ ⟨Qw (H.get i hf).1 (reps_one hr),fun e=>((H.get i hf).2 e).app (((((H.get iAlive hAlive).2 e).app ((H.get iBags hBags).2 e)).app ((H.get iAround YI).2 e)))⟩ fun b hb=>?_
  rcases List.mem_append.1 hb with h | h
  · exact (H.facts _ (List.mem_of_getElem? hf)).2 b h
  · simp only [List.mem_append] at h
    rcases h with ((h | h) | h)
    · exact (H.facts _ (List.mem_of_getElem? hAlive)).2 b h
    · exact (H.facts _ (List.mem_of_getElem? hBags)).2 b h
    · exact (H.facts _ (List.mem_of_getElem? YI)).2 b h

structure inCellD where
  frules:yLI
  fpackings:yLL
  deriving DecidableEq
instance:Inhabited inCellD:=⟨⟨[],[]⟩⟩
instance:Tot inCellD:=⟨fun x=>tot x.frules+tot x.fpackings⟩
instance:qO inCellD where
  size:=2
  rep:=fun w F cs x=>∃ (vrules vpackings:Value) (Frules Fpackings:yLN),cs=[vrules,vpackings]∧F=Frules++Fpackings∧qO.rep w Frules [vrules] x.frules∧qO.rep w Fpackings [vpackings] x.fpackings
  len:=by rintro w F cs x ⟨vrules,vpackings,Frules,Fpackings,rfl,_,hrules,hpackings⟩;rfl
  one:=by
    rintro w F cs x ⟨vrules,vpackings,Frules,Fpackings,rfl,rfl,hrules,hpackings⟩ u hu
    simp only [List.mem_cons,List.not_mem_nil,or_false] at hu
    rcases hu with rfl | rfl <;> first | rfl | exact one_of ql
  stay:=by
    rintro w w' F cs x ⟨vrules,vpackings,Frules,Fpackings,rfl,rfl,hrules,hpackings⟩ hs
    exact ⟨_,_,_,_,rfl,rfl,qO.stay hrules fun b hb=>hs b (by simp [hb]),qO.stay hpackings fun b hb=>hs b (by simp [hb])⟩
  lt:=by
    rintro w F cs x ⟨vrules,vpackings,Frules,Fpackings,rfl,rfl,hrules,hpackings⟩ b hb
    simp only [List.mem_append] at hb
    rcases hb with (hb | hb)
    · exact qO.lt hrules b hb
    · exact qO.lt hpackings b hb

theorem St.elem_inCellD {W0 w:World} {ps:List Prv} {Γ:List Fact} (H:St W0 w ps Γ) (i:Nat) {fr:Bool} {F:yLN} {b o m c:Nat} {l:List inCellD} (hf:Γ[i]? =some (isF fr F (.slice (some ⟨b,o,none⟩) m c) l)) (iv:Int) (k:Nat) (hk:iv.toNat=k) (h0:0≤iv) (h1:iv < l.length):
    ∃ (arules:yOA) (crules:Nat) (Frules:yLN) (apackings:yOA) (cpackings:Nat) (Fpackings:yLN),St W0 w ps (isF fr Frules (.slice arules (l[k]!).frules.length crules) (l[k]!).frules :: isF fr Fpackings (.slice apackings (l[k]!).fpackings.length cpackings) (l[k]!).fpackings :: atF b (o+iv.toNat * 2) [.slice arules (l[k]!).frules.length crules,.slice apackings (l[k]!).fpackings.length cpackings] :: Γ):=by
  obtain ⟨cs,Fk,hc,hr,hsub⟩:=H.elem i hf iv h0 h1
  have hfr:fr=true→zZ w Fk:=fun e=>((H.get i hf).2 e).sub fun x hx=>hsub x (List.mem_cons_of_mem _ hx)
  rw [hk] at hr
  obtain ⟨vrules,vpackings,Frules,Fpackings,rfl,hFF,hrules,hpackings⟩:=hr
  obtain ⟨arules,crules,rfl⟩:=slice_form hrules
  obtain ⟨apackings,cpackings,rfl⟩:=slice_form hpackings
  exact ⟨_,_,_,_,_,_,(((H.jv i hf (atF b (o+iv.toNat * 2) [.slice arules (l[k]!).frules.length crules,.slice apackings (l[k]!).fpackings.length cpackings]) hc (fun x hx=>hsub x (by simp only [atF,List.mem_singleton] at hx;subst hx;exact List.mem_cons_self ..))).jv (i+1) hf (isF fr Fpackings _ (l[k]!).fpackings) ⟨hpackings,fun e=>(hfr e).sub (by rw [hFF];intro x hx;simp [hx])⟩ (fun x hx=>hsub x (List.mem_cons_of_mem _ (hFF.symm▸(by have hx:x∈Fpackings:=hx;simp [hx]))))).jv (i+2) hf (isF fr Frules _ (l[k]!).frules) ⟨hrules,fun e=>(hfr e).sub (by rw [hFF];intro x hx;simp [hx])⟩ (fun x hx=>hsub x (List.mem_cons_of_mem _ (hFF.symm▸(by have hx:x∈Frules:=hx;simp [hx])))))⟩

theorem St.snoc_inCellD {W0 w:World} {ps:List Prv} {Γ:List Fact} (H:St W0 w ps Γ) (i:Nat) {fr:Bool} {F:yLN} {xs:List Value} {l:List inCellD} (hf:Γ[i]? =some (zi fr F xs l)) (irules:Nat) {Grules:yLN} {vrules:Value} {xrules:yLI} (hrules:Γ[irules]? =some (isF fr Grules vrules xrules)) (ipackings:Nat) {Gpackings:yLN} {vpackings:Value} {xpackings:yLL} (hpackings:Γ[ipackings]? =some (isF fr Gpackings vpackings xpackings)):
    St W0 w ps (zi fr (F++(Grules++Gpackings)) (xs++[vrules,vpackings]) (l++[⟨xrules,xpackings⟩]) :: Γ):=by
  have hr:qO.rep w (Grules++Gpackings) [vrules,vpackings] (⟨xrules,xpackings⟩:inCellD):=⟨vrules,vpackings,Grules,Gpackings,rfl,rfl,(H.get irules hrules).1,(H.get ipackings hpackings).1⟩
  refine H.add _ ⟨Qw (H.get i hf).1 (reps_one hr),fun e=>((H.get i hf).2 e).app ((((H.get irules hrules).2 e).app ((H.get ipackings hpackings).2 e)))⟩ fun b hb=>?_
  rcases List.mem_append.1 hb with h | h
  · exact (H.facts _ (List.mem_of_getElem? hf)).2 b h
  · simp only [List.mem_append] at h
    rcases h with (h | h)
    · exact (H.facts _ (List.mem_of_getElem? hrules)).2 b h
    · exact (H.facts _ (List.mem_of_getElem? hpackings)).2 b h


abbrev yS (s:qG) (a:Option Addr) (c:Nat) (a' :Option Addr) (c' :Nat):List Value:=[.int .i64 s.xC,.slice a s.qw.length c,.slice a' s.qx.length c']
abbrev yT (t:qJ) (a:Option Addr) (c:Nat) (a' :Option Addr) (c' :Nat) (b:Option Addr) (d:Nat):List Value:=[.slice a t.qA.length c,.slice a' t.qE.length c',.slice b t.qC.length d]
end
section

def FrameTo (s:qG) (k:Nat):Prop:=∀ c,1≤c→c < k→0≤s.qw[c]! ∧s.qw[c]! ≤(c:Int) - 1
theorem FrameTo.one (s:qG):FrameTo s 1:=fun c h1 h2=>by omega
theorem FrameTo.succ {s:qG} {k:Nat} (h:FrameTo s k) (h1:0≤s.qw[k]! ∧s.qw[k]! ≤(k:Int) - 1):FrameTo s (k+1):=fun c hc hk=>by
  by_cases e:c=k
  · subst e;exact h1
  · exact h c hc qf
def yX (s:qG):Prop:=(1≤s.xC∧s.xC≤8)∧(1≤s.qw.length∧s.qw.length≤6)∧s.qw[0]! = -1∧FrameTo s s.qw.length
theorem yX.up {s:qG} (h:yX s) {c:Int} (h0:0 < c) (h1:c≤(s.qw.length:Int) - 1):0≤s.qw[c.toNat]! ∧s.qw[c.toNat]! < c:=by
  have:=h.2.2.2 c.toNat qf qf
  omega
inductive Lies (p:yLI) (o:Int):Int→Prop where
  | here {c:Int}:0 < c→p[c.toNat]! =o→Lies p o c
  | up {c:Int}:0 < c→Lies p o (p[c.toNat]!)→Lies p o c
theorem lies_iff {p:yLI} {o c:Int}:Lies p o c↔0 < c∧(p[c.toNat]! =o∨Lies p o (p[c.toNat]!)):=by
  constructor
  · rintro (⟨h,e⟩ | ⟨h,e⟩)
    · exact ⟨h,.inl e⟩
    · exact ⟨h,.inr e⟩
  · rintro ⟨h,e | e⟩
    · exact .here h e
    · exact .up h e

abbrev CellIn (s:qG) (c:Int):Prop:=0≤c∧c≤(s.qw.length:Int) - 1
def IntoOk (s:qG) (r:QU) (j:Nat):Prop:=
  CellIn s (r.qQ[j]!).qH∧Lies s.qw r.qH (r.qQ[j]!).qH∧vw s.xC (r.qQ[j]!).jy∧VN (r.qQ[j]!).jy≠0∧(0 < j→(r.qQ[j - 1]!).qH < (r.qQ[j]!).qH)
def IntosTo (s:qG) (r:QU) (k:Nat):Prop:=∀ j,j < k→IntoOk s r j
theorem IntosTo.succ {s:qG} {r:QU} {k:Nat} (h:IntosTo s r k) (h1:IntoOk s r k):IntosTo s r (k+1):=fun j hj=>by
  by_cases e:j=k
  · subst e;exact h1
  · exact h j qf
def RuleOk (s:qG) (r:QU):Prop:=
  CellIn s r.qH∧(0≤r.zM∧r.zM≤9)∧¬ (r.zA=true∧r.qH=0)∧r.qQ.length≤3∧
    vw s.xC r.xm∧vw s.xC r.xF∧vw s.xC r.xI∧vw s.xC r.xM∧vw s.xC r.zV∧VN r.xm≠0∧IntosTo s r r.qQ.length
def VX (rs:List QU) (c:Int):Nat→Int
  | 0=>0
  | k+1=>VX rs c k+if (rs[k]!).qH=c then 1 else 0
def RulesTo (s:qG) (k:Nat):Prop:=∀ j,j < k→RuleOk s (s.qx[j]!)∧VX s.qx (s.qx[j]!).qH (j+1)≤8
theorem RulesTo.succ {s:qG} {k:Nat} (h:RulesTo s k) (h1:RuleOk s (s.qx[k]!)) (h2:VX s.qx (s.qx[k]!).qH (k+1)≤8):RulesTo s (k+1):=fun j hj=>by
  by_cases e:j=k
  · subst e;exact ⟨h1,h2⟩
  · exact h j qf
def jO (s:qG):Prop:=yX s∧s.qx.length≤16∧RulesTo s s.qx.length
def BagsTo (s:qG) (t:qJ) (k:Nat):Prop:=∀ c,c < k→vw s.xC (t.qE[c]!)∧(t.qA[c]! =false→VN (t.qE[c]!)≤0)
theorem BagsTo.succ {s:qG} {t:qJ} {k:Nat} (h:BagsTo s t k) (h1:vw s.xC (t.qE[k]!)) (h2:t.qA[k]! =false→VN (t.qE[k]!)≤0):BagsTo s t (k+1):=fun j hj=>by
  by_cases e:j=k
  · subst e;exact ⟨h1,h2⟩
  · exact h j qf
def zF (s:qG) (t:qJ):Prop:=
  t.qA.length=s.qw.length∧t.qE.length=s.qw.length∧t.qA[0]! =true∧vw s.xC t.qC∧BagsTo s t t.qE.length
theorem yX.step {s:qG} (h:yX s) {c:Int} (h0:0≤c) (h1:c≤(s.qw.length:Int) - 1): -1≤s.qw[c.toNat]! ∧s.qw[c.toNat]! < c:=by
  rcases Int.lt_or_eq_of_le h0 with h2 | h2
  · have:=h.up h2 h1;omega
  · subst h2
    have:=h.2.2.1
    simp only [Int.toNat_zero]
    omega
def climb (p:yLI) (alive:List Bool):Nat→Int→Int
  | 0,c=>c
  | n+1,c=>if 0≤c∧alive[c.toNat]! =false then climb p alive n (p[c.toNat]!) else c
theorem climb_go {p:yLI} {alive:List Bool} {n:Nat} {c:Int} (hn:c < n) (h0:0≤c) (h:alive[c.toNat]! =false):climb p alive n c=climb p alive (n - 1) (p[c.toNat]!):=by
  obtain ⟨m,rfl⟩:∃ m,n=m+1:=⟨n - 1,by omega⟩
  rw [climb,if_pos ⟨h0,h⟩];rfl
theorem climb_end {p:yLI} {alive:List Bool} {n:Nat} {c:Int} (h:¬ (0≤c∧alive[c.toNat]! =false)):climb p alive n c=c:=by
  cases n with
  | zero=>rfl
  | succ m=>rw [climb,if_neg h]
def xA (s:qG) (t:qJ) (c:Int):Int:=climb s.qw t.qA s.qw.length (s.qw[c.toNat]!)
theorem ofCell_bd (rs:List QU) (c:Int):∀ k,0≤VX rs c k∧VX rs c k≤k
  | 0=>by simp [VX]
  | k+1=>by
    have:=ofCell_bd rs c k
    simp only [VX]
    split <;> omega
def counts (s:qG) (k:Nat):yLI:=(List.range s.qw.length).map fun c:Nat=>VX s.qx (c:Int) k
theorem counts_len (s:qG) (k:Nat):(counts s k).length=s.qw.length:=by simp [counts]
theorem counts_zero (s:qG):List.replicate s.qw.length (0:Int)=counts s 0:=by
  apply List.ext_getElem
  · simp [counts]
  · intro i h1 h2;simp [counts,VX]
theorem YS {s:qG} {k:Nat} {c:Int} (h:CellIn s c):(counts s k)[c.toNat]! =VX s.qx c k:=by
  rw [getElem!_pos _ _ (by rw [counts_len];omega)]
  simp only [counts,List.getElem_map,List.getElem_range]
  rw [show ((c.toNat:Nat):Int)=c by omega]
theorem counts_succ {s:qG} {k:Nat} (h:CellIn s (s.qx[k]!).qH):
    (counts s k).set (s.qx[k]!).qH.toNat ((counts s k)[(s.qx[k]!).qH.toNat]! +1)=counts s (k+1):=by
  rw [YS h]
  apply List.ext_getElem
  · simp [counts]
  · intro i h1 h2
    rw [List.getElem_set]
    simp only [counts,List.getElem_map,List.getElem_range,VX]
    by_cases e:(s.qx[k]!).qH.toNat=i
    · subst e
      rw [if_pos rfl,if_pos qf,show (((s.qx[k]!).qH.toNat:Nat):Int)=(s.qx[k]!).qH by omega]
    · rw [if_neg e,if_neg qf];omega
theorem climb_in {s:qG} {t:qJ} (hs:yX s) (h0:t.qA[0]! =true):∀ (n:Nat) (c:Int),0≤c→c < n→c≤(s.qw.length:Int) - 1→
    0≤climb s.qw t.qA n c∧climb s.qw t.qA n c≤c∧t.qA[(climb s.qw t.qA n c).toNat]! =true
  | 0,c,h1,h2,h3=>by omega
  | n+1,c,h1,h2,h3=>by
    rw [climb]
    by_cases ha:0≤c∧t.qA[c.toNat]! =false
    · rw [if_pos ha]
      have hc:0 < c:=by
        rcases Int.lt_or_eq_of_le h1 with h | h
        · exact h
        · rw [← h] at ha;simp [h0] at ha
      have hu:=hs.up hc h3
      have:=climb_in hs h0 n (s.qw[c.toNat]!) hu.1 qf qf
      exact ⟨this.1,by omega,this.2.2⟩
    · rw [if_neg ha]
      refine ⟨h1,Int.le_refl _,?_⟩
      cases hx:t.qA[c.toNat]! with
      | true=>rfl
      | false=>exact absurd ⟨h1,hx⟩ ha
theorem YP {s:qG} {t:qJ} (hs:yX s) (h0:t.qA[0]! =true) {c:Int} (h1:0 < c) (h2:c≤(s.qw.length:Int) - 1):0≤xA s t c∧xA s t c < c∧t.qA[(xA s t c).toNat]! =true:=by
  have hu:=hs.up h1 h2
  have:=climb_in hs h0 s.qw.length (s.qw[c.toNat]!) hu.1 qf qf
  exact ⟨this.1,by have:=this.2.1;unfold xA;omega,this.2.2⟩

def melted (s:qG) (t:qJ) (c:Int):qJ:=
  ⟨t.qA.set c.toNat false,(t.qE.set (xA s t c).toNat (vY (t.qE[(xA s t c).toNat]!) (t.qE[c.toNat]!) 1)).set c.toNat (List.replicate s.xC.toNat 0),t.qC⟩
open Classical in
noncomputable def told (s:qG) (t:qJ):qJ×Int:=if zF s t then (t,0) else (default,3)
theorem told_yes {s:qG} {t:qJ} (h:zF s t):told s t=(t,0):=by rw [told,if_pos h]
theorem told_no {s:qG} {t:qJ} (h:¬ zF s t):told s t=(default,3):=by rw [told,if_neg h]
theorem zF.bagLen {s:qG} {t:qJ} (h:zF s t) {k:Nat} (hk:k < t.qE.length):vw s.xC (t.qE[k]!):=(h.2.2.2.2 k hk).1
theorem bagOk_smallT {n:Int} {l:yLI} (h:vw n l) {t:Int} (ht: -1000000≤t∧t≤1000000):SmallT l t:=fun k hk=>by
  have:=h.1.1 k hk
  constructor
  · have h1: -(1000000 * 1000)≤t * l[k]! :=by
      rcases Int.le_total 0 t with h0 | h0
      · have:=Int.mul_nonneg h0 this.1;omega
      · have h2:=Int.mul_le_mul_of_nonneg_left this.2 (show 0≤ -t by omega)
        have h3: -t * l[k]! = -(t * l[k]!):=Int.neg_mul ..
        have h4: -t * 1000≤1000000 * 1000:=by omega
        omega
    omega
  · have h1:t * l[k]! ≤1000000 * 1000:=by
      rcases Int.le_total 0 t with h0 | h0
      · have h2:=Int.mul_le_mul_of_nonneg_left this.2 h0
        omega
      · have h2:=Int.mul_nonneg (show 0≤ -t by omega) this.1
        have h3: -t * l[k]! = -(t * l[k]!):=Int.neg_mul ..
        omega
    omega
theorem zF.sizes {s:qG} {t:qJ} (hs:yX s) (h:zF s t):t.qA.length≤6∧t.qC.length≤8∧t.qE.length≤6∧∀ k,k < t.qE.length→(t.qE[k]!).length≤8:=
  ⟨by have:=h.1;have:=hs.2.1;omega,h.2.2.2.1.1.2.2,by have:=h.2.1;have:=hs.2.1;omega,fun k hk=>(h.bagLen hk).1.2.2⟩
theorem zF.add {s:qG} {t:qJ} (h:zF s t) {j k:Nat} (hj:j < t.qE.length) (hk:k < t.qE.length):(t.qE[j]!).length≤(t.qE[k]!).length∧Mid (t.qE[j]!)∧SmallT (t.qE[k]!) 1:=by
  have h1:=h.bagLen hj
  have h2:=h.bagLen hk
  exact ⟨by have:=h1.2;have:=h2.2;omega,(vJ h1).mid,bagOk_smallT h2 qf⟩
theorem drop_get {l:yLI} {k:Nat} (h:k+1 < l.length):(l.drop 1)[k]! =l[k+1]! :=by
  rw [getElem!_pos (l.drop 1) k (by rw [List.length_drop];omega),getElem!_pos l (k+1) h]
  simp [Nat.add_comm]
theorem lies_up {s:qG} (hs:yX s) {c o:Int} (hc:CellIn s c):Lies s.qw o c↔0≤s.qw[c.toNat]! ∧(s.qw[c.toNat]! =o∨Lies s.qw o (s.qw[c.toNat]!)):=by
  rw [lies_iff]
  rcases Int.lt_or_eq_of_le hc.1 with h | h
  · have:=hs.up h hc.2
    constructor
    · rintro ⟨_,h1⟩;exact ⟨this.1,h1⟩
    · rintro ⟨_,h1⟩;exact ⟨h,h1⟩
  · subst h
    have:=hs.2.2.1
    simp only [Int.toNat_zero] at *
    constructor
    · rintro ⟨h1,_⟩;omega
    · rintro ⟨h1,_⟩;omega
def counts6 (s:qG) (k:Nat):yLI:=(List.range 6).map fun c:Nat=>VX s.qx (c:Int) k
theorem counts6_len (s:qG) (k:Nat):(counts6 s k).length=6:=by simp [counts6]
theorem counts6_zero (s:qG):([0,0,0,0,0,0]:yLI)=counts6 s 0:=by simp [counts6,List.range_succ,VX]
theorem YK {s:qG} {k:Nat} {c:Int} (h:0≤c) (h1:c≤5):(counts6 s k)[c.toNat]! =VX s.qx c k:=by
  rw [getElem!_pos _ _ (by rw [counts6_len];omega)]
  simp only [counts6,List.getElem_map,List.getElem_range]
  rw [show ((c.toNat:Nat):Int)=c by omega]
theorem counts6_succ {s:qG} {k:Nat} (h:0≤(s.qx[k]!).qH) (h1:(s.qx[k]!).qH≤5):
    (counts6 s k).set (s.qx[k]!).qH.toNat ((counts6 s k)[(s.qx[k]!).qH.toNat]! +1)=counts6 s (k+1):=by
  rw [YK h h1]
  apply List.ext_getElem
  · simp [counts6]
  · intro i h1 h2
    rw [List.getElem_set]
    simp only [counts6,List.getElem_map,List.getElem_range,VX]
    by_cases e:(s.qx[k]!).qH.toNat=i
    · subst e
      rw [if_pos rfl,if_pos qf,show (((s.qx[k]!).qH.toNat:Nat):Int)=(s.qx[k]!).qH by omega]
    · rw [if_neg e,if_neg qf];omega
theorem sum_nonneg {l:yLI} (h:VP l):0≤VN l:=by
  have:∀ k,k≤l.length→0≤sumTo l k:=fun k=>by
    induction k with
    | zero=>intro _;exact Int.le_refl _
    | succ k ih=>intro hk;have:=ih qf;have:=h.1 k qf;simp only [sumTo];omega
  exact this _ (Nat.le_refl _)
end
section
open Go.Proofs.Tryz
open Go.RowKit
set_option linter.unusedVariables false
set_option linter.unusedSimpArgs false
set_option maxRecDepth 100000
set_option maxHeartbeats 4000000
variable {cl cm cx cxBag VZ V6 V3 V5 cxOut V4 jd Qm yU Q5 jE cy : Nat}
theorem YR (w:World) (n:Int) (lo:Int) (hi:Int):Calls Tryz.prog 78 #[yI n,yI lo,yI hi] w (Ret (fun v w' =>v=.bool (inR n lo hi)) w):=by
 refine en func78 ntmps78 ?_
 have H:=St.start w
 refine zcr (sp (.bool false) (zjc (sps [yI n,yI lo,.bool (decide ((n:Int)≥lo)),.bool (decide ((n:Int)≥lo))] ?_)))
 cases h1:(decide ((n:Int)≥lo))
 ·skip
  replace h1:=of_decide_eq_false h1
  refine zo [11,12,13] (sps [.bool false,.bool false] (zjr (ret1 (.bool false) rfl rfl ⟨_,rfl,?_,H.base⟩)))
  rw [inR_no ‹_›]
 replace h1:=of_decide_eq_true h1
 refine qP 10 rfl rfl (sp (yI n) (qP 10 rfl rfl (sp (yI hi) (qP 10 rfl rfl (sps [.bool (decide ((n:Int)≤hi)),.bool (decide ((n:Int)≤hi)),.bool (decide ((n:Int)≤hi))] (zjr (ret1 (.bool (decide ((n:Int)≤hi))) rfl rfl ⟨_,rfl,?_,H.base⟩)))))))
 rw [inR_yes ‹_›]

theorem l00In_ok (w:World) (n:Int) (lo:Int) (hi:Int):Calls Tryz.prog 75 #[yI n,yI lo,yI hi] w (Ret (fun v w' =>v=.bool (inR n lo hi)) w):=by
 refine en func75 ntmps75 ?_
 have H:=St.start w
 refine zcr (sp (.bool false) (zjc (sps [yI n,yI lo,.bool (decide ((n:Int)≥lo)),.bool (decide ((n:Int)≥lo))] ?_)))
 cases h1:(decide ((n:Int)≥lo))
 ·skip
  replace h1:=of_decide_eq_false h1
  refine zo [11,12,13] (sps [.bool false,.bool false] (zjr (ret1 (.bool false) rfl rfl ⟨_,rfl,?_,H.base⟩)))
  rw [inR_no ‹_›]
 replace h1:=of_decide_eq_true h1
 refine qP 10 rfl rfl (sp (yI n) (qP 10 rfl rfl (sp (yI hi) (qP 10 rfl rfl (sps [.bool (decide ((n:Int)≤hi)),.bool (decide ((n:Int)≤hi)),.bool (decide ((n:Int)≤hi))] (zjr (ret1 (.bool (decide ((n:Int)≤hi))) rfl rfl ⟨_,rfl,?_,H.base⟩)))))))
 rw [inR_yes ‹_›]

theorem isWithin_ok (w:World) (l:yLI) (m:yLI) {al:yOA} {Fl:yLN} {am:yOA} {Fm:yLN} (hl:qO.rep w Fl [.slice al l.length cl] l) (hm:qO.rep w Fm [.slice am m.length cm] m) (p0:l.length≤m.length) (p1:l.length≤1000000):Calls Tryz.prog 185 #[.slice al l.length cl,.slice am m.length cm] w (Ret (fun v w' =>v=.bool (within l m)) w):=by
 refine en func185 ntmps185 ?_
 have H:=((St.start w).arg hm).arg hl
 have nhl:=qK hl
 have nhm:=qK hm
 clear hl hm
 refine zcr (sp (.bool false) (zjcc (sp (.slice al l.length cl) (oN rfl (sp (yI 0) (zjn (qX ?_)))))))
 refine zu (fun m' ρ w1=>∃ (xU:Env) (k:Nat),ρ=upd (upd (upd (upd xU 1 (.slice am m.length cm)) 7 (.slice al l.length cl)) 8 (yI l.length)) 9 (yI k)∧(k≤l.length)∧(withinTo l m k)∧m' =l.length - k∧St w w1 [] [sF false Fl al cl l,sF false Fm am cm m]) (l.length - 0) ⟨_,0,uE4,qf,(by exact withinTo_zero l m),rfl,H⟩ ?_
 clear H
 rintro m' ρ w2 ⟨xU,k,rfl,i0,i1,rfl,H⟩
 refine zcr (sp (.bool (decide ((k:Int) < l.length))) (zjn (xQ (cD rfl (fun h3=>?_) (fun h3=>?_)))))
 ·skip
  refine qU (t_n (xQ (qX (zcr (sp (yI k) ?_)))))
  obtain ⟨b4,o5,rfl⟩:=H.addr 0 rfl qf
  refine oI rfl rfl (oL rfl (H.jC 0 rfl k qf qf) (sps [yI k,yI (l[k]!)] (zjc (sps [yI (l[k]!),.slice am m.length cm,yI k] ?_))))
  obtain ⟨b6,o7,rfl⟩:=H.addr 1 rfl qf
  refine oI rfl rfl (oL rfl (H.jC 1 rfl k qf qf) (sp (.bool (decide ((l[k]! :Int) > (m[k]!)))) (zjn (cD rfl (fun h8=>?_) (fun h8=>?_)))))
  ·skip
   refine zcr (sp (.bool false) (zjr (zr5 (ret1 (.bool false) rfl rfl ⟨_,rfl,?_,H.base⟩))))
   rw [within_no (k:=k) ‹_› qf]
  refine qU (b_n (t_n (xY (sw (zC k 1 rfl rfl qf (sp (yI (k+1)) (xZ (xf (m' :=l.length - (k+1)) qf ⟨_,k+1,uE4,?_,?_,rfl,H⟩))))))))
  · omega
  · exact withinTo_succ ‹_› qf
 refine zx4 (zcr (sp (.bool true) (zjr (ret1 (.bool true) rfl rfl ⟨_,rfl,?_,H.base⟩))))
 rw [within_yes ‹_› qf]

theorem VH (w:World) (l:yLI) {al:yOA} {Fl:yLN} (hl:qO.rep w Fl [.slice al l.length cl] l) (p0:Small l):Calls Tryz.prog 106 #[.slice al l.length cl] w (Ret (fun v w' =>v=yI (VN l)) w):=by
 refine en func106 ntmps106 ?_
 have H:=(St.start w).arg hl
 have nhl:=qK hl
 clear hl
 have p1:=p0.1
 refine zcr (sp (yI 0) (zjc (sp (yI 0) (zjcc (sp (.slice al l.length cl) (oN rfl (sp (yI 0) (zjn (qX ?_)))))))))
 refine zu (fun m' ρ w1=>∃ (xU:Env) (k:Nat),ρ=upd (upd (upd (upd (upd xU 2 (yI 0)) 3 (yI (sumTo l k))) 6 (.slice al l.length cl)) 7 (yI l.length)) 8 (yI k)∧(k≤l.length)∧m' =l.length - k∧St w w1 [] [sF false Fl al cl l]) (l.length - 0) ⟨_,0,uE5,qf,rfl,H⟩ ?_
 clear H
 rintro m' ρ w2 ⟨xU,k,rfl,i0,rfl,H⟩
 have hs:=sumTo_small p0 i0
 have hv:=p0.2 k
 refine zcr (sp (.bool (decide ((k:Int) < l.length))) (zjn (xQ (cD rfl (fun h3=>?_) (fun h3=>?_)))))
 ·skip
  refine qU (t_n (xQ (qX (zcr ?_))))
  obtain ⟨b4,o5,rfl⟩:=H.addr 0 rfl qf
  refine oI rfl rfl (oL rfl (H.jC 0 rfl k qf qf) (sp (yI (l[k]!)) (zjn (xY (sps [yI (sumTo l k),yI (l[k]!)] (sw (zC (sumTo l k) (l[k]!) rfl rfl (by (have:=hv qf;omega)) (sp (yI ((sumTo l k)+(l[k]!))) (xZ (b_n (t_n (xY (sw (zC k 1 rfl rfl (by (have:=hv qf;omega)) (sp (yI (k+1)) (xZ (xf (m' :=l.length - (k+1)) qf ⟨_,k+1,uE5,?_,rfl,H⟩)))))))))))))))))
  · omega
 refine zx4 (zcr (sps [yI (sumTo l k),yI (sumTo l k)] (zjr (ret1 (yI (sumTo l k)) rfl rfl ⟨_,rfl,?_,H.base⟩))))
 obtain rfl:k=l.length:=by omega
 rfl

theorem YQ (w:World) (l:yLI) {al:yOA} {Fl:yLN} (hl:qO.rep w Fl [.slice al l.length cl] l) (p0:Small l):Calls Tryz.prog 123 #[.slice al l.length cl] w (Ret (fun v w' =>v=yI (VN l)) w):=by
 refine en func123 ntmps123 ?_
 have H:=(St.start w).arg hl
 have nhl:=qK hl
 clear hl
 have p1:=p0.1
 refine zcr (sp (yI 0) (zjc (sp (yI 0) (zjcc (sp (yI 0) (zjn (qX ?_)))))))
 refine zu (fun m' ρ w1=>∃ (xU:Env) (k:Nat),ρ=upd (upd (upd (upd xU 0 (.slice al l.length cl)) 2 (yI 0)) 3 (yI (sumTo l k))) 4 (yI k)∧(k≤l.length)∧m' =l.length - k∧St w w1 [] [sF false Fl al cl l]) (l.length - 0) ⟨_,0,uE4,qf,rfl,H⟩ ?_
 clear H
 rintro m' ρ w2 ⟨xU,k,rfl,i0,rfl,H⟩
 have hs:=sumTo_small p0 i0
 have hv:=p0.2 k
 refine zcc (sps [yI k,.slice al l.length cl] (oN rfl (sp (.bool (decide ((k:Int) < l.length))) (zjn (cD rfl (fun h3=>?_) (fun h3=>?_))))))
 ·skip
  refine qU (t_n (xQ (qX (xY (sps [yI (sumTo l k),.slice al l.length cl,yI k] ?_)))))
  obtain ⟨b4,o5,rfl⟩:=H.addr 0 rfl qf
  refine oI rfl rfl (oL rfl (H.jC 0 rfl k qf qf) (sw (zC (sumTo l k) (l[k]!) rfl rfl (by (have:=hv qf;omega)) (sp (yI ((sumTo l k)+(l[k]!))) (xZ (b_n (t_n (xY (sp (yI k) (sw (zC k 1 rfl rfl (by (have:=hv qf;omega)) (sp (yI (k+1)) (xZ (xf (m' :=l.length - (k+1)) qf ⟨_,k+1,uE4,?_,rfl,H⟩))))))))))))))
  · omega
 refine zx4 (zcr (sps [yI (sumTo l k),yI (sumTo l k)] (zjr (ret1 (yI (sumTo l k)) rfl rfl ⟨_,rfl,?_,H.base⟩))))
 obtain rfl:k=l.length:=by omega
 rfl

theorem indexFuncI_ok (w:World) (l:yLI) (f:FuncId) (capsf:Array Value) (gf:Nat→Bool) {al:yOA} {Fl:yLN} (hl:qO.rep w Fl [.slice al l.length cl] l) (hff:∀ args w,(callFunc f args).run Tryz.prog w=.ok (.enter f args) w) (hoff:∀ k w',k < l.length→Ext w w' →Calls Tryz.prog f (([yI (l[k]!)]:List Value)++capsf.toList).toArray w' (Ret (fun v _=>v=.bool (gf k)) w')):Calls Tryz.prog 175 #[.slice al l.length cl,.func (.func f) #[] capsf] w (Ret (fun v w' =>v=yI (firstIdx gf l.length)) w):=by
 refine en func175 ntmps175 ?_
 have H:=(St.start w).arg hl
 have nhl:=qK hl
 clear hl
 refine zcr (sp (yI 0) (zjcc (sp (.slice al l.length cl) (oN rfl (sp (yI 0) (zjn (qX ?_)))))))
 refine zu (fun m' ρ w1=>∃ (xU:Env) (k:Nat),ρ=upd (upd (upd (upd xU 0 (.slice al l.length cl)) 1 (.func (.func f) #[] capsf)) 7 (yI l.length)) 8 (yI k)∧(k≤l.length)∧(noneTo gf k)∧m' =l.length - k∧St w w1 [] [sF false Fl al cl l]) (l.length - 0) ⟨_,0,uE4,qf,(by exact fun j hj=>by omega),rfl,H⟩ ?_
 clear H
 rintro m' ρ w2 ⟨xU,k,rfl,i0,i1,rfl,H⟩
 refine zcr (sp (.bool (decide ((k:Int) < l.length))) (zjn (xQ (cD rfl (fun h3=>?_) (fun h3=>?_)))))
 ·skip
  refine qU (t_n (xQ (qX (zcr (sps [yI k,yI k] (zjc (sps [.func (.func f) #[] capsf,.slice al l.length cl,yI k] ?_)))))))
  obtain ⟨b4,o5,rfl⟩:=H.addr 0 rfl qf
  refine oI rfl rfl (oL rfl (H.jC 0 rfl k qf qf) (sw (o_callV [yI (l[k]!)] rfl rfl hff (hoff k _ qf H.base) ?_)))
  rintro _ w6 rfl x7
  replace H:=H.ext x7
  refine zjn (xK (gf k) rfl (fun h8=>?_) (fun h8=>?_))
  ·skip
   refine zcr (sps [yI k,yI k] (zjr (zr5 (ret1 (yI k) rfl rfl ⟨_,rfl,?_,H.base⟩))))
   rw [firstIdx_some (k:=k) qf i1 ‹_›]
  refine qU (b_n (t_n (xY (sw (zC k 1 rfl rfl qf (sp (yI (k+1)) (xZ (xf (m' :=l.length - (k+1)) qf ⟨_,k+1,uE4,?_,?_,rfl,H⟩))))))))
  · omega
  · exact noneTo_succ ‹_› ‹_›
 refine zx4 (zcr (sp (yI (-1)) (zjr (ret1 (yI (-1)) rfl rfl ⟨_,rfl,?_,H.base⟩))))
 rw [firstIdx_none (fun j hj=>i1 j qf)]

theorem containsFuncI_ok (w:World) (l:yLI) (f:FuncId) (capsf:Array Value) (gf:Nat→Bool) {al:yOA} {Fl:yLN} (hl:qO.rep w Fl [.slice al l.length cl] l) (hff:∀ args w,(callFunc f args).run Tryz.prog w=.ok (.enter f args) w) (hoff:∀ k w',k < l.length→Ext w w' →Calls Tryz.prog f (([yI (l[k]!)]:List Value)++capsf.toList).toArray w' (Ret (fun v _=>v=.bool (gf k)) w')):Calls Tryz.prog 140 #[.slice al l.length cl,.func (.func f) #[] capsf] w (Ret (fun v w' =>v=.bool (anyTo gf l.length)) w):=by
 refine en func140 ntmps140 ?_
 have H:=(St.start w).arg hl
 have nhl:=qK hl
 clear hl
 refine zcr (sp (.bool false) (zjc (sps [.slice al l.length cl,.func (.func f) #[] capsf] (sw (oq (indexFuncI_ok _ l f capsf gf (H.get 0 rfl).1 hff hoff) H fun w1 H=>sps [.bool (decide ((firstIdx gf l.length:Int)≥0)),.bool (decide ((firstIdx gf l.length:Int)≥0))] (zjr (ret1 (.bool (decide ((firstIdx gf l.length:Int)≥0))) rfl rfl ⟨_,rfl,?_,H.base⟩)))))))
 rw [anyTo_first]

theorem validBag1_ok (w:World) (n:Int):Calls Tryz.prog 141 #[yI n] w (Ret (fun v w' =>v=.bool (!isCnt n)) w):=by
 refine en func141 ntmps141 ?_
 have H:=St.start w
 refine zcr (sp (.bool false) (zjc (sp (yI n) (sw (oq (YR w n 0 1000) H fun w1 H=>sps [.bool (!(inR n 0 1000)),.bool (!(inR n 0 1000))] (zjr (ret1 (.bool (!(inR n 0 1000))) rfl rfl ⟨_,rfl,?_,H.base⟩)))))))
 rfl

theorem sizeI_ok (w:World) (l:yLI) {al:yOA} {Fl:yLN} (hl:qO.rep w Fl [.slice al l.length cl] l):Calls Tryz.prog 92 #[.slice al l.length cl] w (Ret (fun v w' =>v=yI (l.length:Int)) w):=by
 refine en func92 ntmps92 ?_
 have H:=(St.start w).arg hl
 have nhl:=qK hl
 clear hl
 refine zcr (sp (yI 0) (zjc (sp (.slice al l.length cl) (oN rfl (sp (yI l.length) (zjr (ret1 (yI l.length) rfl rfl ⟨_,rfl,?_,H.base⟩)))))))
 rfl

theorem YB (w:World) (kinds:Int) (l:yLI) {al:yOA} {Fl:yLN} (hl:qO.rep w Fl [.slice al l.length cl] l):Calls Tryz.prog 105 #[yI kinds,.slice al l.length cl] w (Ret (fun v w' =>v=.bool (dec (vw kinds l))) w):=by
 refine en func105 ntmps105 ?_
 have H:=(St.start w).arg hl
 have nhl:=qK hl
 clear hl
 refine zcr (sp (.bool false) (zjc (sp (yI kinds) (sw (oq (YR w kinds 1 8) H fun w1 H=>sp (.bool (inR kinds 1 8)) ?_)))))
 cases h3:(inR kinds 1 8)
 ·skip
  replace h3:=Vs h3
  refine zo [8,9,10,11] (sps [.bool false,.bool false] (zo [14,15,16] (sps [.bool false,.bool false] (zjr (ret1 (.bool false) rfl rfl ⟨_,rfl,?_,H.base⟩)))))
  rw [xx (fun h=>by have:=h.1.2;have:=h.2;omega)]
 replace h3:=XL.1 h3
 refine qP 7 rfl rfl (sp (.slice al l.length cl) (qP 7 rfl rfl (sw (oq (sizeI_ok _ l (H.get 0 rfl).1) H fun w4 H=>qP 7 rfl rfl (sp (yI kinds) (qP 7 rfl rfl (sps [.bool (((l.length:Int):Int) == kinds),.bool (((l.length:Int):Int) == kinds),.bool (((l.length:Int):Int) == kinds)] ?_)))))))
 cases h6:(((l.length:Int):Int) == kinds)
 ·skip
  replace h6:=ne_of_beq_false h6
  refine zo [14,15,16] (sps [.bool false,.bool false] (zjr (ret1 (.bool false) rfl rfl ⟨_,rfl,?_,H.base⟩)))
  rw [xx (fun h=>by have:=h.1.2;have:=h.2;omega)]
 replace h6:=eq_of_beq h6
 refine qP 13 rfl rfl (sp (.slice al l.length cl) (qP 13 rfl rfl (sw (oq (containsFuncI_ok _ l 141 #[] (fun k=> !isCnt (l[k]!)) (H.get 0 rfl).1 call141 (fun k w' hk e=>validBag1_ok w' _)) H fun w7 H=>qP 13 rfl rfl (sps [.bool (!(anyTo (fun k=> !isCnt (l[k]!)) l.length)),.bool (!(anyTo (fun k=> !isCnt (l[k]!)) l.length)),.bool (!(anyTo (fun k=> !isCnt (l[k]!)) l.length))] (zjr (ret1 (.bool (!(anyTo (fun k=> !isCnt (l[k]!)) l.length))) rfl rfl ⟨_,rfl,(congrArg Value.bool (dec_eq ?_)),H.base⟩)))))))
 rw [anyCnt_iff]
 exact ⟨fun h=>⟨⟨h,by omega,by omega⟩,by omega⟩,fun h=>h.1.1⟩
theorem both_ok (w:World) (l:yLI) (m:yLI) (of:FuncId) (capsof:Array Value) (gof:Nat→Int) {al:yOA} {Fl:yLN} {am:yOA} {Fm:yLN} (hl:qO.rep w Fl [.slice al l.length cl] l) (hm:qO.rep w Fm [.slice am m.length cm] m) (p0:l.length≤m.length) (p1:l.length≤1000000) (hfof:∀ args w,(callFunc of args).run Tryz.prog w=.ok (.enter of args) w) (hofof:∀ k w',k < l.length→Ext w w' →Calls Tryz.prog of (([yI (l[k]!),yI (m[k]!)]:List Value)++capsof.toList).toArray w' (Ret (fun v _=>v=yI (gof k)) w')):Calls Tryz.prog 189 #[.slice al l.length cl,.slice am m.length cm,.func (.func of) #[] capsof] w (Ret (fun v w' =>OwnNew w w' 2 v (tabTo gof l.length)) w):=by
 refine en func189 ntmps189 ?_
 have H:=((St.start w).arg hm).arg hl
 have nhl:=qK hl
 have nhm:=qK hm
 clear hl hm
 refine zcr (sp yN (zjc (sw (vG H underlying22 ti2 fun b1 w2 H=>sp (.slice (aa b1 0) 0 0) (zjcc (sp (.slice al l.length cl) (oN rfl (sp (yI 0) (zjn (qX ?_))))))))))
 replace H:=H.boxRow 0 rfl 1 0 rfl qj
 replace H:St _ _ [rr (aa b1 0) 0 0 2 1 []] _:=H
 refine zu (fun m' ρ w3=>∃ (xU:Env) (k:Nat) (vr7:Value),ρ=upd (upd (upd (upd (upd (upd (upd xU 1 (.slice am m.length cm)) 2 (.func (.func of) #[] capsof)) 6 yN) 7 (vr7)) 11 (.slice al l.length cl)) 12 (yI l.length)) 13 (yI k)∧(k≤l.length)∧m' =l.length - k∧St w w3 [.row vr7 2 1 k ((tabTo gof k).map (Value.int .i64))] [sF false Fl al cl l,sF false Fm am cm m]) (l.length - 0) ⟨_,0,(.slice (aa b1 0) 0 0),uE7,qf,rfl,H⟩ ?_
 clear H
 rintro m' ρ w4 ⟨xU,k,vr7,rfl,i0,rfl,H⟩
 refine zcr (sp (.bool (decide ((k:Int) < l.length))) (zjn (xQ (cD rfl (fun h5=>?_) (fun h5=>?_)))))
 ·skip
  refine qU (t_n (xQ (qX (zcr (sp (yI k) ?_)))))
  obtain ⟨b6,o7,rfl⟩:=H.addr 0 rfl qf
  refine oI rfl rfl (oL rfl (H.jC 0 rfl k qf qf) (sps [yI k,yI (l[k]!)] (zjn (xY (sps [vr7,.func (.func of) #[] capsof,yI (l[k]!),.slice am m.length cm,yI k] ?_)))))
  obtain ⟨b8,o9,rfl⟩:=H.addr 1 rfl qf
  refine oI rfl rfl (oL rfl (H.jC 1 rfl k qf qf) (sw (o_callV [yI (l[k]!),yI (m[k]!)] rfl rfl hfof (hofof k _ qf H.base) ?_)))
  rintro _ w10 rfl x11
  replace H:=H.ext x11
  refine sw (o_build1 H underlying22 ti2 qj qj (yI (gof k)) rfl rfl fun b12 w13 H=>sw (o_append H 1 rfl 0 rfl underlying22 ti2 rfl qj rfl rfl rfl (by simp [Value.oneCell',Value.cells]) qp qf fun v14 w15 H=>?_))
  replace H:St _ _ [.box b12 [yI (gof k)] 2,.row v14 2 1 (k+1) (((tabTo gof k).map (Value.int .i64))++[yI (gof k)])] _:=H
  refine sp (v14) (xZ (b_n (t_n (xY (sw (zC k 1 rfl rfl qf (sp (yI (k+1)) (xZ ?_))))))))
  rw [show ((tabTo gof k).map (Value.int .i64))++[yI (gof k)]=(tabTo gof (k+1)).map (Value.int .i64) from by (rw [tabTo_succ];simp)] at H
  refine xf (m' :=l.length - (k+1)) qf ⟨_,k+1,v14,uE7,?_,rfl,H.sel _ (.cons _ (.refl _)) _ qm⟩
  · omega
 refine zx4 (zcr (sps [vr7,vr7] (zjr (ret1 (vr7) rfl rfl ⟨_,rfl,?_,H.base⟩))))
 obtain rfl:k=l.length:=by omega
 exact H.newInts 0 rfl qm

theorem plus1_ok (w:World) (x:Int) (y:Int) (t:Int) (bt ot:Nat) (hpt:ve w bt ot [yI t]) (p0: -1000000000000000≤x∧x≤1000000000000000) (p1: -1000000000000000≤t * y∧t * y≤1000000000000000):Calls Tryz.prog 190 #[yI x,yI y,pp bt ot] w (Ret (fun v w' =>v=yI (x+t * y)) w):=by
 refine en func190 ntmps190 ?_
 have H:=(St.start w).XW hpt
 clear hpt
 refine zcr (sp (yI 0) (zjc (sp (yI x) (oL rfl (H.xW 0 rfl 0 rfl) (sp (yI y) (sw (o_mul t y rfl rfl qf (sw (zC x (t * y) rfl rfl qf (sp (yI (x+(t * y))) (zjr (ret1 (yI (x+(t * y))) rfl rfl ⟨_,rfl,?_,H.base⟩))))))))))))
 rfl

theorem plus_ok (w:World) (l:yLI) (m:yLI) (t:Int) {al:yOA} {Fl:yLN} {am:yOA} {Fm:yLN} (hl:qO.rep w Fl [.slice al l.length cl] l) (hm:qO.rep w Fm [.slice am m.length cm] m) (p0:l.length≤m.length) (p1:Mid l) (p2:SmallT m t):Calls Tryz.prog 152 #[.slice al l.length cl,.slice am m.length cm,yI t] w (Ret (fun v w' =>OwnNew w w' 2 v (vY l m t)) w):=by
 refine en func152 ntmps152 ?_
 have H:=((St.start w).arg hm).arg hl
 have nhl:=qK hl
 have nhm:=qK hm
 clear hl hm
 have p3:=p1.1
 refine zcr (sw (o_box H (yI t) rfl fun b1 w2 H=>?_))
 replace H:St _ _ [.box b1 [yI t] 2] _:=H
 refine sp yN (zjc (sps [.slice al l.length cl,.slice am m.length cm,.func (.func 190) #[] #[pp b1 0]] ?_))
 have szx4:=H.base.size
 refine sw (oc (both_ok _ l m 190 #[pp b1 0] (fun k=>l[k]! +t * m[k]!) (H.get 0 rfl).1 (H.get 1 rfl).1 qf qf call190 (fun k w' hk e=>plus1_ok w' _ _ t _ _ ((H.ext e).cells 0 rfl) (by have:=p1.2 k hk;omega) (p2 k qf))) ?_)
 rintro v5 w3 r5 x4
 replace H:=H.zD x4 r5
 refine sp (v5) (zjr (ret1 (v5) rfl rfl ⟨_,rfl,(H.newInts 0 rfl (by simp [plusL_len])),H.base⟩))

theorem X6 (w:World) (l:yLI) (m:yLI) (t:Int) {al:yOA} {Fl:yLN} {am:yOA} {Fm:yLN} (hl:qO.rep w Fl [.slice al l.length cl] l) (hm:qO.rep w Fm [.slice am m.length cm] m) (p0:l.length≤m.length) (p1:Mid l) (p2:SmallT m t):Calls Tryz.prog 181 #[.slice al l.length cl,.slice am m.length cm,yI t] w (Ret (fun v w' =>OwnNew w w' 2 v (vY l m t)) w):=by
 refine en func181 ntmps181 ?_
 have H:=((St.start w).arg hm).arg hl
 have nhl:=qK hl
 have nhm:=qK hm
 clear hl hm
 have p3:=p1.1
 refine zcr (sp yN (zjc (sw (vG H underlying22 ti2 fun b1 w2 H=>sp (.slice (aa b1 0) 0 0) (zjcc (sp (yI 0) (zjn (qX ?_))))))))
 replace H:=H.boxRow 0 rfl 1 0 rfl qj
 replace H:St _ _ [rr (aa b1 0) 0 0 2 1 []] _:=H
 refine zu (fun m' ρ w3=>∃ (xU:Env) (k:Nat) (vr7:Value),ρ=upd (upd (upd (upd (upd (upd xU 0 (.slice al l.length cl)) 1 (.slice am m.length cm)) 2 (yI t)) 6 yN) 7 (vr7)) 8 (yI k)∧(k≤l.length)∧m' =l.length - k∧St w w3 [.row vr7 2 1 k ((plusTo l m t k).map (Value.int .i64))] [sF false Fl al cl l,sF false Fm am cm m]) (l.length - 0) ⟨_,0,(.slice (aa b1 0) 0 0),uE6,qf,rfl,H⟩ ?_
 clear H
 rintro m' ρ w4 ⟨xU,k,vr7,rfl,i0,rfl,H⟩
 refine zcc (sps [yI k,.slice al l.length cl] (oN rfl (sp (.bool (decide ((k:Int) < l.length))) (zjn (cD rfl (fun h5=>?_) (fun h5=>?_))))))
 ·skip
  refine qU (t_n (xQ (qX ?_)))
  refine c_draw (fun w6=>St w w6 [] [sF false Fl al cl l,sF false Fm am cm m]) rfl ((H.ext (ext_drew _)).sel _ (.cons _ (.refl _)) _ (fun _ h=>h)) ?_
  replace H:=H.ext (ext_drew _)
  refine rtp 0 (vr7) (H.sel _ (.cons _ (.refl _)) _ (fun _ h=>h)) ?_
  refine rtp 1 (.slice al l.length cl) (H.sel _ (.cons _ (.refl _)) _ (fun _ h=>h)) ?_
  refine rtp 2 (yI k) (H.sel _ (.cons _ (.refl _)) _ (fun _ h=>h)) ?_
  obtain ⟨b7,o8,rfl⟩:=H.addr 0 rfl qf
  refine tI 3 rfl rfl rfl (H.sel _ (.cons _ (.refl _)) _ (fun _ h=>h)) ?_
  refine tL 4 rfl rfl (fun _ h=>h.yu 0 rfl k qf) (H.sel _ (.cons _ (.refl _)) _ (fun _ h=>h)) ?_
  refine rtp 5 (.slice am m.length cm) (H.sel _ (.cons _ (.refl _)) _ (fun _ h=>h)) ?_
  refine rtp 6 (yI k) (H.sel _ (.cons _ (.refl _)) _ (fun _ h=>h)) ?_
  obtain ⟨b9,o10,rfl⟩:=H.addr 1 rfl qf
  refine tI 7 rfl rfl rfl (H.sel _ (.cons _ (.refl _)) _ (fun _ h=>h)) ?_
  refine tL 8 rfl rfl (fun _ h=>h.yu 1 rfl k qf) (H.sel _ (.cons _ (.refl _)) _ (fun _ h=>h)) ?_
  refine rtp 9 (yI t) (H.sel _ (.cons _ (.refl _)) _ (fun _ h=>h)) ?_
  refine rt 10 (yI ((m[k]!) * t)) (y_mul (m[k]!) t rfl rfl (by (have:=p1.2 k qf;have:=p2 k qf;rw [Int.mul_comm] at this;omega))) (H.sel _ (.cons _ (.refl _)) _ (fun _ h=>h)) ?_
  refine rt 11 (yI ((l[k]!)+((m[k]!) * t))) (y_add (l[k]!) ((m[k]!) * t) rfl rfl (by (have:=p1.2 k qf;have:=p2 k qf;rw [Int.mul_comm] at this;omega))) (H.sel _ (.cons _ (.refl _)) _ (fun _ h=>h)) ?_
  refine ro 12 rfl (o_build1 H underlying22 ti2 qj qj (yI ((l[k]!)+((m[k]!) * t))) rfl rfl fun b11 w12 H=>?_)
  replace H:St _ _ [.box b11 [yI ((l[k]!)+((m[k]!) * t))] 2,.row vr7 2 1 k ((plusTo l m t k).map (Value.int .i64))] _:=H
  refine ⟨H.sel _ (.cons _ (.cons _ (.refl _))) _ (fun _ h=>h),(ro 13 rfl (o_append H 1 rfl 0 rfl underlying22 ti2 rfl qj rfl rfl rfl (by simp [Value.oneCell',Value.cells]) qp qf fun v13 w14 H=>?_))⟩
  replace H:St _ _ [.box b11 [yI ((l[k]!)+((m[k]!) * t))] 2,.row v13 2 1 (k+1) (((plusTo l m t k).map (Value.int .i64))++[yI ((l[k]!)+((m[k]!) * t))])] _:=H
  refine ⟨H.sel _ (.cons _ (.cons _ (.refl _))) _ (fun _ h=>h),(rtp 14 (v13) (H.sel _ (.cons _ (.cons _ (.refl _))) _ (fun _ h=>h)) ?_)⟩
  refine xO qh (b_n (t_n (xY (sp (yI k) (sw (zC k 1 rfl rfl (by (have:=p1.2 k qf;have:=p2 k qf;rw [Int.mul_comm] at this;omega)) (sp (yI (k+1)) (xZ ?_))))))))
  rw [show ((plusTo l m t k).map (Value.int .i64))++[yI ((l[k]!)+((m[k]!) * t))]=(plusTo l m t (k+1)).map (Value.int .i64) from by (rw [plusTo_succ,Int.mul_comm t];simp)] at H
  refine xf (m' :=l.length - (k+1)) qf ⟨_,k+1,v13,uE6,?_,rfl,H.sel _ (.cons _ (.refl _)) _ qm⟩
  · omega
 refine zx4 (zcr (sps [vr7,vr7] (zjr (ret1 (vr7) rfl rfl ⟨_,rfl,?_,H.base⟩))))
 obtain rfl:k=l.length:=by omega
 exact H.newInts 0 rfl (by simp [vY,plusTo])

theorem X3 (w:World) (l:yLI) {al:yOA} {Fl:yLN} (hl:qO.rep w Fl [.slice al l.length cl] l) (p0:l.length≤1000000):Calls Tryz.prog 101 #[.slice al l.length cl] w (Ret (fun v w' =>OwnNew w w' 2 v l) w):=by
 refine en func101 ntmps101 ?_
 have H:=(St.start w).arg hl
 have nhl:=qK hl
 clear hl
 refine zcr (sp yN (zjc (sw (vG H underlying22 ti2 fun b1 w2 H=>sp (.slice al l.length cl) ?_))))
 replace H:=H.boxRow 0 rfl 1 0 rfl qj
 refine sw (o_appendInts H 0 rfl 0 rfl underlying22 ti2 rfl rfl rfl qp qf fun v3 w4 H=>?_)
 replace H:St _ _ [.row v3 2 1 (0+l.length) ([]++l.map (Value.int .i64))] _:=H
 refine sp (v3) (zjr (ret1 (v3) rfl rfl ⟨_,rfl,(H.newInts 0 rfl qf),H.base⟩))

theorem cloneI_ok (w:World) (l:yLI) {al:yOA} {Fl:yLN} (hl:qO.rep w Fl [.slice al l.length cl] l) (p0:l.length≤1000000):Calls Tryz.prog 108 #[.slice al l.length cl] w (Ret (fun v w' =>OwnNew w w' 2 v l) w):=by
 refine en func108 ntmps108 ?_
 have H:=(St.start w).arg hl
 have nhl:=qK hl
 clear hl
 refine zcr (sp yN (zjcc (sp (.slice al l.length cl) (sw (o_eqnil underlying22 al l.length cl rfl (zjn (xK (al.isNone) rfl (fun h1=>?_) (fun h1=>?_))))))))
 ·skip
  refine zcr (sp yN (zjr (t_r (ret1 yN rfl rfl ⟨_,rfl,?_,H.base⟩))))
  obtain rfl:=H.nilOf 0 rfl ‹_›
  exact ownNew_nil _ _ _
 refine qU (t_n (zcr (sw (vG H underlying22 ti2 fun b2 w3 H=>sp (.slice al l.length cl) ?_))))
 replace H:=H.boxRow 0 rfl 1 0 rfl qj
 refine sw (o_appendInts H 0 rfl 0 rfl underlying22 ti2 rfl rfl rfl qp qf fun v4 w5 H=>?_)
 replace H:St _ _ [.row v4 2 1 (0+l.length) ([]++l.map (Value.int .i64))] _:=H
 refine sp (v4) (zjr (ret1 (v4) rfl rfl ⟨_,rfl,(H.newInts 0 rfl qf),H.base⟩))
theorem XR (w:World) (x:yLI) (left:Int) {ax:yOA} {Fx:yLN} (hx:qO.rep w Fx [.slice ax x.length cx] x) (p0:0≤left∧left≤2000000):Calls Tryz.prog 53 #[.slice ax x.length cx,yI left] w (Ret (fun v w' =>v=yI (szR (tot x) left)) w):=by
 refine en func53 ntmps53 ?_
 have H:=(St.start w).arg hx
 have nhx:=qK hx
 clear hx
 refine zcr (sp (yI 0) (zjc (sps [yI left,.slice ax x.length cx] (oN rfl (sw (o_sub left x.length rfl rfl qf (sp (yI (left - x.length)) (zjcc (sps [yI (left - x.length),.bool (decide ((left - x.length:Int) < 0))] (zjn (cD rfl (fun h1=>?_) (fun h1=>?_))))))))))))
 ·skip
  refine zcr (sp (yI (-1)) (zjr (t_r (ret1 (yI (-1)) rfl rfl ⟨_,rfl,(congrArg (Value.int .i64) ?_),H.base⟩))))
  have:=zO (tot x) left
  rw [tot_ints] at *
  try omega
 refine qU (t_n (zcr (sps [yI (left - x.length),yI (left - x.length)] (zjr (ret1 (yI (left - x.length)) rfl rfl ⟨_,rfl,(congrArg (Value.int .i64) ?_),H.base⟩)))))
 have:=zO (tot x) left
 rw [tot_ints] at *
 try omega

theorem szBoolS_ok (w:World) (x:List Bool) (left:Int) {ax:yOA} {Fx:yLN} (hx:qO.rep w Fx [.slice ax x.length cx] x) (p0:0≤left∧left≤2000000):Calls Tryz.prog 55 #[.slice ax x.length cx,yI left] w (Ret (fun v w' =>v=yI (szR (tot x) left)) w):=by
 refine en func55 ntmps55 ?_
 have H:=(St.start w).arg hx
 have nhx:=qK hx
 clear hx
 refine zcr (sp (yI 0) (zjc (sps [yI left,.slice ax x.length cx] (oN rfl (sw (o_sub left x.length rfl rfl qf (sp (yI (left - x.length)) (zjcc (sps [yI (left - x.length),.bool (decide ((left - x.length:Int) < 0))] (zjn (cD rfl (fun h1=>?_) (fun h1=>?_))))))))))))
 ·skip
  refine zcr (sp (yI (-1)) (zjr (t_r (ret1 (yI (-1)) rfl rfl ⟨_,rfl,(congrArg (Value.int .i64) ?_),H.base⟩))))
  have:=zO (tot x) left
  rw [tot_bools] at *
  try omega
 refine qU (t_n (zcr (sps [yI (left - x.length),yI (left - x.length)] (zjr (ret1 (yI (left - x.length)) rfl rfl ⟨_,rfl,(congrArg (Value.int .i64) ?_),H.base⟩)))))
 have:=zO (tot x) left
 rw [tot_bools] at *
 try omega

theorem szInt64SS_ok (w:World) (x:yLL) (left:Int) {ax:yOA} {Fx:yLN} (hx:qO.rep w Fx [.slice ax x.length cx] x) (p0:0≤left∧left≤2000000):Calls Tryz.prog 56 #[.slice ax x.length cx,yI left] w (Ret (fun v w' =>v=yI (szR (tot x) left)) w):=by
 refine en func56 ntmps56 ?_
 have H:=(St.start w).arg hx
 have nhx:=qK hx
 clear hx
 refine zcr (sp (yI 0) (zjc (sps [yI left,.slice ax x.length cx] (oN rfl (sw (o_sub left x.length rfl rfl qf (sp (yI (left - x.length)) (zjcc (sps [yI (left - x.length),.bool (decide ((left - x.length:Int) < 0))] (zjn (cD rfl (fun h1=>?_) (fun h1=>?_))))))))))))
 ·skip
  refine zcr (sp (yI (-1)) (zjr (t_r (ret1 (yI (-1)) rfl rfl ⟨_,rfl,(congrArg (Value.int .i64) ?_),H.base⟩))))
  have:=zO (tot x) left
  have:=len_tot x
  omega
 refine qU (t_n (zcc (sp (yI 0) (zjn (qX ?_)))))
 refine zu (fun m' ρ w2=>∃ (xU:Env) (k:Nat) (r:Int),ρ=upd (upd (upd xU 0 (.slice ax x.length cx)) 1 (yI r)) 5 (yI k)∧(k≤x.length)∧(r=left - (x.length:Int) - (totTo x k:Nat))∧(0≤r)∧m' =x.length - k∧St w w2 [] [sF false Fx ax cx x]) (x.length - 0) ⟨_,0,left - (x.length:Int),uE3,qf,(by rw [totTo_zero];omega),qf,rfl,H⟩ ?_
 clear H
 rintro m' ρ w3 ⟨xU,k,r,rfl,i0,i1,i2,rfl,H⟩
 refine zcc (sps [yI k,.slice ax x.length cx] (oN rfl (sp (.bool (decide ((k:Int) < x.length))) (zjn (cD rfl (fun h4=>?_) (fun h4=>?_))))))
 ·skip
  refine qU (t_n (xQ (qX (zcr (sps [.slice ax x.length cx,yI k] ?_)))))
  obtain ⟨b5,o6,rfl⟩:=H.addr 0 rfl qf
  obtain ⟨ae7,ce7,Fe7,H⟩:=H.vM 0 rfl k k qf qf qf
  refine oI rfl rfl (oL rfl (H.xW 1 rfl 0 rfl) (sp (yI r) (sw (oq (XR _ (x[k]!) r (H.get 0 rfl).1 qf) H fun w8 H=>?_))))
  have:=zO (tot (x[k]!)) r
  refine sp (yI (szR (tot (x[k]!)) r)) (zjc (sps [yI (szR (tot (x[k]!)) r),.bool (decide ((szR (tot (x[k]!)) r:Int) < 0))] (zjn (cD rfl (fun h10=>?_) (fun h10=>?_)))))
  ·skip
   refine zcr (sp (yI (-1)) (zjr (zr5 (ret1 (yI (-1)) rfl rfl ⟨_,rfl,(congrArg (Value.int .i64) ?_),H.base⟩))))
   have:=zO (tot x) left
   have:=tot_get (l:=x) (k:=k) qf
   omega
  refine qU (b_n (t_n (xY (sp (yI k) (sw (zC k 1 rfl rfl qf (sp (yI (k+1)) (xZ (xf (m' :=x.length - (k+1)) qf ⟨_,k+1,szR (tot (x[k]!)) r,uE3,?_,?_,?_,rfl,H.sel _ (.refl _) _ qm⟩)))))))))
  · omega
  · rw [totTo_succ];omega
  · omega
 refine zx4 (zcr (sps [yI r,yI r] (zjr (ret1 (yI r) rfl rfl ⟨_,rfl,(congrArg (Value.int .i64) ?_),H.base⟩))))
 obtain rfl:k=x.length:=by omega
 have:=zO (tot x) left
 rw [tot_list] at *
 omega

theorem szInto_ok (w:World) (x:IntoD) (left:Int) {axBag:yOA} {FxBag:yLN} (hxBag:qO.rep w FxBag [.slice axBag x.jy.length cxBag] x.jy) (p0:0≤left∧left≤2000000):Calls Tryz.prog 169 #[.agg #[yI x.qH,.slice axBag x.jy.length cxBag],yI left] w (Ret (fun v w' =>v=yI (szR (tot x) left)) w):=by
 refine en func169 ntmps169 ?_
 have H:=(St.start w).arg hxBag
 have nhxBag:=qK hxBag
 clear hxBag
 refine zcr (sw (o_box H (.agg #[yI x.qH,.slice axBag x.jy.length cxBag]) rfl fun b1 w2 H=>?_))
 replace H:St _ _ [.box b1 [yI x.qH,.slice axBag x.jy.length cxBag] 190] _:=H
 refine sp (yI 0) (zjc (oF rfl (oL rfl (H.cell 0 rfl rfl) (sp (yI left) (sw (oq (XR _ x.jy left (H.get 0 rfl).1 qf) H fun w3 H=>?_))))))
 have:=zO (tot x.jy) left
 refine sp (yI (szR (tot x.jy) left)) (zjcc (sps [yI (szR (tot x.jy) left),.bool (decide ((szR (tot x.jy) left:Int) < 0))] (zjn (cD rfl (fun h5=>?_) (fun h5=>?_)))))
 ·skip
  refine zcr (sp (yI (-1)) (zjr (t_r (ret1 (yI (-1)) rfl rfl ⟨_,rfl,(congrArg (Value.int .i64) ?_),H.base⟩))))
  have:=zO (tot x) left
  rw [tot_IntoD] at *
  try omega
 refine qU (t_n (zcr (sps [yI (szR (tot x.jy) left),yI (szR (tot x.jy) left)] (zjr (ret1 (yI (szR (tot x.jy) left)) rfl rfl ⟨_,rfl,(congrArg (Value.int .i64) ?_),H.base⟩)))))
 have:=zO (tot x) left
 rw [tot_IntoD] at *
 try omega

theorem szIntoS_ok (w:World) (x:List IntoD) (left:Int) {ax:yOA} {Fx:yLN} (hx:qO.rep w Fx [.slice ax x.length cx] x) (p0:0≤left∧left≤2000000):Calls Tryz.prog 132 #[.slice ax x.length cx,yI left] w (Ret (fun v w' =>v=yI (szR (tot x) left)) w):=by
 refine en func132 ntmps132 ?_
 have H:=(St.start w).arg hx
 have nhx:=qK hx
 clear hx
 refine zcr (sp (yI 0) (zjc (sps [yI left,.slice ax x.length cx] (oN rfl (sw (o_sub left x.length rfl rfl qf (sp (yI (left - x.length)) (zjcc (sps [yI (left - x.length),.bool (decide ((left - x.length:Int) < 0))] (zjn (cD rfl (fun h1=>?_) (fun h1=>?_))))))))))))
 ·skip
  refine zcr (sp (yI (-1)) (zjr (t_r (ret1 (yI (-1)) rfl rfl ⟨_,rfl,(congrArg (Value.int .i64) ?_),H.base⟩))))
  have:=zO (tot x) left
  have:=len_tot x
  omega
 refine qU (t_n (zcc (sp (yI 0) (zjn (qX ?_)))))
 refine zu (fun m' ρ w2=>∃ (xU:Env) (k:Nat) (r:Int),ρ=upd (upd (upd xU 0 (.slice ax x.length cx)) 1 (yI r)) 5 (yI k)∧(k≤x.length)∧(r=left - (x.length:Int) - (totTo x k:Nat))∧(0≤r)∧m' =x.length - k∧St w w2 [] [sF false Fx ax cx x]) (x.length - 0) ⟨_,0,left - (x.length:Int),uE3,qf,(by rw [totTo_zero];omega),qf,rfl,H⟩ ?_
 clear H
 rintro m' ρ w3 ⟨xU,k,r,rfl,i0,i1,i2,rfl,H⟩
 refine zcc (sps [yI k,.slice ax x.length cx] (oN rfl (sp (.bool (decide ((k:Int) < x.length))) (zjn (cD rfl (fun h4=>?_) (fun h4=>?_))))))
 ·skip
  refine qU (t_n (xQ (qX (zcr (sps [.slice ax x.length cx,yI k] ?_)))))
  obtain ⟨b5,o6,rfl⟩:=H.addr 0 rfl qf
  obtain ⟨ae7Bag,ce7Bag,Fe7Bag,H⟩:=H.jS 0 rfl k k qf qf qf
  refine oI rfl rfl (sw (zn [yI ((x[k]!).qH),.slice ae7Bag (((x[k]!).jy).length) ce7Bag] isAgg190 sizeOf190 rfl (qF (H.get 1 rfl) 0 2) (sp (yI r) (sw (oq (szInto_ok _ (x[k]!) r (H.get 0 rfl).1 qf) H fun w8 H=>?_)))))
  have:=zO (tot (x[k]!)) r
  refine sp (yI (szR (tot (x[k]!)) r)) (zjc (sps [yI (szR (tot (x[k]!)) r),.bool (decide ((szR (tot (x[k]!)) r:Int) < 0))] (zjn (cD rfl (fun h10=>?_) (fun h10=>?_)))))
  ·skip
   refine zcr (sp (yI (-1)) (zjr (zr5 (ret1 (yI (-1)) rfl rfl ⟨_,rfl,(congrArg (Value.int .i64) ?_),H.base⟩))))
   have:=zO (tot x) left
   have:=tot_get (l:=x) (k:=k) qf
   omega
  refine qU (b_n (t_n (xY (sp (yI k) (sw (zC k 1 rfl rfl qf (sp (yI (k+1)) (xZ (xf (m' :=x.length - (k+1)) qf ⟨_,k+1,szR (tot (x[k]!)) r,uE3,?_,?_,?_,rfl,H.sel _ (.refl _) _ qm⟩)))))))))
  · omega
  · rw [totTo_succ];omega
  · omega
 refine zx4 (zcr (sps [yI r,yI r] (zjr (ret1 (yI r) rfl rfl ⟨_,rfl,(congrArg (Value.int .i64) ?_),H.base⟩))))
 obtain rfl:k=x.length:=by omega
 have:=zO (tot x) left
 rw [tot_list] at *
 omega

theorem szRule_ok (w:World) (x:QU) (left:Int) {Yd:yOA} {FxNeed:yLN} {Yh:yOA} {FxHave:yLN} {Ye:yOA} {FxLack:yLN} {Yg:yOA} {FxHere:yLN} {axOut:yOA} {FxOut:yLN} {Yf:yOA} {FxInto:yLN} (hxNeed:qO.rep w FxNeed [.slice Yd x.xm.length VZ] x.xm) (hxHave:qO.rep w FxHave [.slice Yh x.xF.length V6] x.xF) (hxLack:qO.rep w FxLack [.slice Ye x.xI.length V3] x.xI) (hxHere:qO.rep w FxHere [.slice Yg x.xM.length V5] x.xM) (hxOut:qO.rep w FxOut [.slice axOut x.zV.length cxOut] x.zV) (hxInto:qO.rep w FxInto [.slice Yf x.qQ.length V4] x.qQ) (p0:0≤left∧left≤2000000):Calls Tryz.prog 97 #[.agg #[yI x.qH,yI x.zM,.slice Yd x.xm.length VZ,.slice Yh x.xF.length V6,.slice Ye x.xI.length V3,.slice Yg x.xM.length V5,.slice axOut x.zV.length cxOut,.slice Yf x.qQ.length V4,.bool x.zA],yI left] w (Ret (fun v w' =>v=yI (szR (tot x) left)) w):=by
 refine en func97 ntmps97 ?_
 have H:=((((((St.start w).arg hxInto).arg hxOut).arg hxHere).arg hxLack).arg hxHave).arg hxNeed
 have nhxNeed:=qK hxNeed
 have nhxHave:=qK hxHave
 have nhxLack:=qK hxLack
 have nhxHere:=qK hxHere
 have nhxOut:=qK hxOut
 have nhxInto:=qK hxInto
 clear hxNeed hxHave hxLack hxHere hxOut hxInto
 refine zcr (sw (o_box H (.agg #[yI x.qH,yI x.zM,.slice Yd x.xm.length VZ,.slice Yh x.xF.length V6,.slice Ye x.xI.length V3,.slice Yg x.xM.length V5,.slice axOut x.zV.length cxOut,.slice Yf x.qQ.length V4,.bool x.zA]) rfl fun b1 w2 H=>?_))
 replace H:St _ _ [.box b1 [yI x.qH,yI x.zM,.slice Yd x.xm.length VZ,.slice Yh x.xF.length V6,.slice Ye x.xI.length V3,.slice Yg x.xM.length V5,.slice axOut x.zV.length cxOut,.slice Yf x.qQ.length V4,.bool x.zA] 111] _:=H
 refine sp (yI 0) (zjc (oF rfl (oL rfl (H.cell 0 rfl rfl) (sp (yI left) (sw (oq (XR _ x.xm left (H.get 0 rfl).1 qf) H fun w3 H=>?_))))))
 have:=zO (tot x.xm) left
 refine sp (yI (szR (tot x.xm) left)) (zjcc (sps [yI (szR (tot x.xm) left),.bool (decide ((szR (tot x.xm) left:Int) < 0))] (zjn (cD rfl (fun h5=>?_) (fun h5=>?_)))))
 ·skip
  refine zcr (sp (yI (-1)) (zjr (t_r (ret1 (yI (-1)) rfl rfl ⟨_,rfl,(congrArg (Value.int .i64) ?_),H.base⟩))))
  have:=zO (tot x) left
  rw [tot_RuleD] at *
  try omega
 refine qU (t_n (zcr (oF rfl (oL rfl (H.cell 0 rfl rfl) (sp (yI (szR (tot x.xm) left)) (sw (oq (XR _ x.xF (szR (tot x.xm) left) (H.get 1 rfl).1 qf) H fun w6 H=>?_)))))))
 have:=zO (tot x.xF) (szR (tot x.xm) left)
 refine sp (yI (szR (tot x.xF) (szR (tot x.xm) left))) (zjcc (sps [yI (szR (tot x.xF) (szR (tot x.xm) left)),.bool (decide ((szR (tot x.xF) (szR (tot x.xm) left):Int) < 0))] (zjn (cD rfl (fun h8=>?_) (fun h8=>?_)))))
 ·skip
  refine zcr (sp (yI (-1)) (zjr (t_r (ret1 (yI (-1)) rfl rfl ⟨_,rfl,(congrArg (Value.int .i64) ?_),H.base⟩))))
  have:=zO (tot x) left
  rw [tot_RuleD] at *
  try omega
 refine qU (t_n (zcr (oF rfl (oL rfl (H.cell 0 rfl rfl) (sp (yI (szR (tot x.xF) (szR (tot x.xm) left))) (sw (oq (XR _ x.xI (szR (tot x.xF) (szR (tot x.xm) left)) (H.get 2 rfl).1 qf) H fun w9 H=>?_)))))))
 have:=zO (tot x.xI) (szR (tot x.xF) (szR (tot x.xm) left))
 refine sp (yI (szR (tot x.xI) (szR (tot x.xF) (szR (tot x.xm) left)))) (zjcc (sps [yI (szR (tot x.xI) (szR (tot x.xF) (szR (tot x.xm) left))),.bool (decide ((szR (tot x.xI) (szR (tot x.xF) (szR (tot x.xm) left)):Int) < 0))] (zjn (cD rfl (fun h11=>?_) (fun h11=>?_)))))
 ·skip
  refine zcr (sp (yI (-1)) (zjr (t_r (ret1 (yI (-1)) rfl rfl ⟨_,rfl,(congrArg (Value.int .i64) ?_),H.base⟩))))
  have:=zO (tot x) left
  rw [tot_RuleD] at *
  try omega
 refine qU (t_n (zcr (oF rfl (oL rfl (H.cell 0 rfl rfl) (sp (yI (szR (tot x.xI) (szR (tot x.xF) (szR (tot x.xm) left)))) (sw (oq (XR _ x.xM (szR (tot x.xI) (szR (tot x.xF) (szR (tot x.xm) left))) (H.get 3 rfl).1 qf) H fun w12 H=>?_)))))))
 have:=zO (tot x.xM) (szR (tot x.xI) (szR (tot x.xF) (szR (tot x.xm) left)))
 refine sp (yI (szR (tot x.xM) (szR (tot x.xI) (szR (tot x.xF) (szR (tot x.xm) left))))) (zjcc (sps [yI (szR (tot x.xM) (szR (tot x.xI) (szR (tot x.xF) (szR (tot x.xm) left)))),.bool (decide ((szR (tot x.xM) (szR (tot x.xI) (szR (tot x.xF) (szR (tot x.xm) left))):Int) < 0))] (zjn (cD rfl (fun h14=>?_) (fun h14=>?_)))))
 ·skip
  refine zcr (sp (yI (-1)) (zjr (t_r (ret1 (yI (-1)) rfl rfl ⟨_,rfl,(congrArg (Value.int .i64) ?_),H.base⟩))))
  have:=zO (tot x) left
  rw [tot_RuleD] at *
  try omega
 refine qU (t_n (zcr (oF rfl (oL rfl (H.cell 0 rfl rfl) (sp (yI (szR (tot x.xM) (szR (tot x.xI) (szR (tot x.xF) (szR (tot x.xm) left))))) (sw (oq (XR _ x.zV (szR (tot x.xM) (szR (tot x.xI) (szR (tot x.xF) (szR (tot x.xm) left)))) (H.get 4 rfl).1 qf) H fun w15 H=>?_)))))))
 have:=zO (tot x.zV) (szR (tot x.xM) (szR (tot x.xI) (szR (tot x.xF) (szR (tot x.xm) left))))
 refine sp (yI (szR (tot x.zV) (szR (tot x.xM) (szR (tot x.xI) (szR (tot x.xF) (szR (tot x.xm) left)))))) (zjcc (sps [yI (szR (tot x.zV) (szR (tot x.xM) (szR (tot x.xI) (szR (tot x.xF) (szR (tot x.xm) left))))),.bool (decide ((szR (tot x.zV) (szR (tot x.xM) (szR (tot x.xI) (szR (tot x.xF) (szR (tot x.xm) left)))):Int) < 0))] (zjn (cD rfl (fun h17=>?_) (fun h17=>?_)))))
 ·skip
  refine zcr (sp (yI (-1)) (zjr (t_r (ret1 (yI (-1)) rfl rfl ⟨_,rfl,(congrArg (Value.int .i64) ?_),H.base⟩))))
  have:=zO (tot x) left
  rw [tot_RuleD] at *
  try omega
 refine qU (t_n (zcr (oF rfl (oL rfl (H.cell 0 rfl rfl) (sp (yI (szR (tot x.zV) (szR (tot x.xM) (szR (tot x.xI) (szR (tot x.xF) (szR (tot x.xm) left)))))) (sw (oq (szIntoS_ok _ x.qQ (szR (tot x.zV) (szR (tot x.xM) (szR (tot x.xI) (szR (tot x.xF) (szR (tot x.xm) left))))) (H.get 5 rfl).1 qf) H fun w18 H=>?_)))))))
 have:=zO (tot x.qQ) (szR (tot x.zV) (szR (tot x.xM) (szR (tot x.xI) (szR (tot x.xF) (szR (tot x.xm) left)))))
 refine sp (yI (szR (tot x.qQ) (szR (tot x.zV) (szR (tot x.xM) (szR (tot x.xI) (szR (tot x.xF) (szR (tot x.xm) left))))))) (zjcc (sps [yI (szR (tot x.qQ) (szR (tot x.zV) (szR (tot x.xM) (szR (tot x.xI) (szR (tot x.xF) (szR (tot x.xm) left)))))),.bool (decide ((szR (tot x.qQ) (szR (tot x.zV) (szR (tot x.xM) (szR (tot x.xI) (szR (tot x.xF) (szR (tot x.xm) left))))):Int) < 0))] (zjn (cD rfl (fun h20=>?_) (fun h20=>?_)))))
 ·skip
  refine zcr (sp (yI (-1)) (zjr (t_r (ret1 (yI (-1)) rfl rfl ⟨_,rfl,(congrArg (Value.int .i64) ?_),H.base⟩))))
  have:=zO (tot x) left
  rw [tot_RuleD] at *
  try omega
 refine qU (t_n (zcr (sps [yI (szR (tot x.qQ) (szR (tot x.zV) (szR (tot x.xM) (szR (tot x.xI) (szR (tot x.xF) (szR (tot x.xm) left)))))),yI (szR (tot x.qQ) (szR (tot x.zV) (szR (tot x.xM) (szR (tot x.xI) (szR (tot x.xF) (szR (tot x.xm) left))))))] (zjr (ret1 (yI (szR (tot x.qQ) (szR (tot x.zV) (szR (tot x.xM) (szR (tot x.xI) (szR (tot x.xF) (szR (tot x.xm) left))))))) rfl rfl ⟨_,rfl,(congrArg (Value.int .i64) ?_),H.base⟩)))))
 have:=zO (tot x) left
 rw [tot_RuleD] at *
 try omega

theorem szRuleS_ok (w:World) (x:List QU) (left:Int) {ax:yOA} {Fx:yLN} (hx:qO.rep w Fx [.slice ax x.length cx] x) (p0:0≤left∧left≤2000000):Calls Tryz.prog 54 #[.slice ax x.length cx,yI left] w (Ret (fun v w' =>v=yI (szR (tot x) left)) w):=by
 refine en func54 ntmps54 ?_
 have H:=(St.start w).arg hx
 have nhx:=qK hx
 clear hx
 refine zcr (sp (yI 0) (zjc (sps [yI left,.slice ax x.length cx] (oN rfl (sw (o_sub left x.length rfl rfl qf (sp (yI (left - x.length)) (zjcc (sps [yI (left - x.length),.bool (decide ((left - x.length:Int) < 0))] (zjn (cD rfl (fun h1=>?_) (fun h1=>?_))))))))))))
 ·skip
  refine zcr (sp (yI (-1)) (zjr (t_r (ret1 (yI (-1)) rfl rfl ⟨_,rfl,(congrArg (Value.int .i64) ?_),H.base⟩))))
  have:=zO (tot x) left
  have:=len_tot x
  omega
 refine qU (t_n (zcc (sp (yI 0) (zjn (qX ?_)))))
 refine zu (fun m' ρ w2=>∃ (xU:Env) (k:Nat) (r:Int),ρ=upd (upd (upd xU 0 (.slice ax x.length cx)) 1 (yI r)) 5 (yI k)∧(k≤x.length)∧(r=left - (x.length:Int) - (totTo x k:Nat))∧(0≤r)∧m' =x.length - k∧St w w2 [] [sF false Fx ax cx x]) (x.length - 0) ⟨_,0,left - (x.length:Int),uE3,qf,(by rw [totTo_zero];omega),qf,rfl,H⟩ ?_
 clear H
 rintro m' ρ w3 ⟨xU,k,r,rfl,i0,i1,i2,rfl,H⟩
 refine zcc (sps [yI k,.slice ax x.length cx] (oN rfl (sp (.bool (decide ((k:Int) < x.length))) (zjn (cD rfl (fun h4=>?_) (fun h4=>?_))))))
 ·skip
  refine qU (t_n (xQ (qX (zcr (sps [.slice ax x.length cx,yI k] ?_)))))
  obtain ⟨b5,o6,rfl⟩:=H.addr 0 rfl qf
  obtain ⟨ae7Need,ce7Need,Fe7Need,ae7Have,ce7Have,Fe7Have,ae7Lack,ce7Lack,Fe7Lack,ae7Here,ce7Here,Fe7Here,ae7Out,ce7Out,Fe7Out,ae7Into,ce7Into,Fe7Into,H⟩:=H.yt 0 rfl k k qf qf qf
  refine oI rfl rfl (sw (zn [yI ((x[k]!).qH),yI ((x[k]!).zM),.slice ae7Need (((x[k]!).xm).length) ce7Need,.slice ae7Have (((x[k]!).xF).length) ce7Have,.slice ae7Lack (((x[k]!).xI).length) ce7Lack,.slice ae7Here (((x[k]!).xM).length) ce7Here,.slice ae7Out (((x[k]!).zV).length) ce7Out,.slice ae7Into (((x[k]!).qQ).length) ce7Into,.bool ((x[k]!).zA)] isAgg111 sizeOf111 rfl (qF (H.get 6 rfl) 0 9) (sp (yI r) (sw (oq (szRule_ok _ (x[k]!) r (H.get 0 rfl).1 (H.get 1 rfl).1 (H.get 2 rfl).1 (H.get 3 rfl).1 (H.get 4 rfl).1 (H.get 5 rfl).1 qf) H fun w8 H=>?_)))))
  have:=zO (tot (x[k]!)) r
  refine sp (yI (szR (tot (x[k]!)) r)) (zjc (sps [yI (szR (tot (x[k]!)) r),.bool (decide ((szR (tot (x[k]!)) r:Int) < 0))] (zjn (cD rfl (fun h10=>?_) (fun h10=>?_)))))
  ·skip
   refine zcr (sp (yI (-1)) (zjr (zr5 (ret1 (yI (-1)) rfl rfl ⟨_,rfl,(congrArg (Value.int .i64) ?_),H.base⟩))))
   have:=zO (tot x) left
   have:=tot_get (l:=x) (k:=k) qf
   omega
  refine qU (b_n (t_n (xY (sp (yI k) (sw (zC k 1 rfl rfl qf (sp (yI (k+1)) (xZ (xf (m' :=x.length - (k+1)) qf ⟨_,k+1,szR (tot (x[k]!)) r,uE3,?_,?_,?_,rfl,H.sel _ (.refl _) _ qm⟩)))))))))
  · omega
  · rw [totTo_succ];omega
  · omega
 refine zx4 (zcr (sps [yI r,yI r] (zjr (ret1 (yI r) rfl rfl ⟨_,rfl,(congrArg (Value.int .i64) ?_),H.base⟩))))
 obtain rfl:k=x.length:=by omega
 have:=zO (tot x) left
 rw [tot_list] at *
 omega

theorem szSystem_ok (w:World) (x:qG) (left:Int) {je:yOA} {Qq:yLN} {Qp:yOA} {XZ:yLN} (QN:qO.rep w Qq [.slice je x.qw.length jd] x.qw) (VR:qO.rep w XZ [.slice Qp x.qx.length Qm] x.qx) (p0:0≤left∧left≤2000000):Calls Tryz.prog 14 #[.agg #[yI x.xC,.slice je x.qw.length jd,.slice Qp x.qx.length Qm],yI left] w (Ret (fun v w' =>v=yI (szR (tot x) left)) w):=by
 refine en func14 ntmps14 ?_
 have H:=((St.start w).arg VR).arg QN
 have nhxParents:=qK QN
 have nhxRules:=qK VR
 clear QN VR
 refine zcr (sw (o_box H (.agg #[yI x.xC,.slice je x.qw.length jd,.slice Qp x.qx.length Qm]) rfl fun b1 w2 H=>?_))
 replace H:St _ _ [.box b1 (yS x je jd Qp Qm) 25] _:=H
 refine sp (yI 0) (zjc (oF rfl (oL rfl (H.cell 0 rfl rfl) (sp (yI left) (sw (oq (XR _ x.qw left (H.get 0 rfl).1 qf) H fun w3 H=>?_))))))
 have:=zO (tot x.qw) left
 refine sp (yI (szR (tot x.qw) left)) (zjcc (sps [yI (szR (tot x.qw) left),.bool (decide ((szR (tot x.qw) left:Int) < 0))] (zjn (cD rfl (fun h5=>?_) (fun h5=>?_)))))
 ·skip
  refine zcr (sp (yI (-1)) (zjr (t_r (ret1 (yI (-1)) rfl rfl ⟨_,rfl,(congrArg (Value.int .i64) ?_),H.base⟩))))
  have:=zO (tot x) left
  rw [tot_SystemD] at *
  try omega
 refine qU (t_n (zcr (oF rfl (oL rfl (H.cell 0 rfl rfl) (sp (yI (szR (tot x.qw) left)) (sw (oq (szRuleS_ok _ x.qx (szR (tot x.qw) left) (H.get 1 rfl).1 qf) H fun w6 H=>?_)))))))
 have:=zO (tot x.qx) (szR (tot x.qw) left)
 refine sp (yI (szR (tot x.qx) (szR (tot x.qw) left))) (zjcc (sps [yI (szR (tot x.qx) (szR (tot x.qw) left)),.bool (decide ((szR (tot x.qx) (szR (tot x.qw) left):Int) < 0))] (zjn (cD rfl (fun h8=>?_) (fun h8=>?_)))))
 ·skip
  refine zcr (sp (yI (-1)) (zjr (t_r (ret1 (yI (-1)) rfl rfl ⟨_,rfl,(congrArg (Value.int .i64) ?_),H.base⟩))))
  have:=zO (tot x) left
  rw [tot_SystemD] at *
  try omega
 refine qU (t_n (zcr (sps [yI (szR (tot x.qx) (szR (tot x.qw) left)),yI (szR (tot x.qx) (szR (tot x.qw) left))] (zjr (ret1 (yI (szR (tot x.qx) (szR (tot x.qw) left))) rfl rfl ⟨_,rfl,(congrArg (Value.int .i64) ?_),H.base⟩)))))
 have:=zO (tot x) left
 rw [tot_SystemD] at *
 try omega

theorem szState_ok (w:World) (x:qJ) (left:Int) {yV:yOA} {XN:yLN} {Q8:yOA} {YT:yLN} {jF:yOA} {QM:yLN} (VS:qO.rep w XN [.slice yV x.qA.length yU] x.qA) (hxBags:qO.rep w YT [.slice Q8 x.qE.length Q5] x.qE) (Xy:qO.rep w QM [.slice jF x.qC.length jE] x.qC) (p0:0≤left∧left≤2000000):Calls Tryz.prog 15 #[.agg #[.slice yV x.qA.length yU,.slice Q8 x.qE.length Q5,.slice jF x.qC.length jE],yI left] w (Ret (fun v w' =>v=yI (szR (tot x) left)) w):=by
 refine en func15 ntmps15 ?_
 have H:=(((St.start w).arg Xy).arg hxBags).arg VS
 have nhxAlive:=qK VS
 have nhxBags:=qK hxBags
 have nhxAround:=qK Xy
 clear VS hxBags Xy
 refine zcr (sw (o_box H (.agg #[.slice yV x.qA.length yU,.slice Q8 x.qE.length Q5,.slice jF x.qC.length jE]) rfl fun b1 w2 H=>?_))
 replace H:St _ _ [.box b1 (yT x yV yU Q8 Q5 jF jE) 29] _:=H
 refine sp (yI 0) (zjc (oF rfl (oL rfl (H.cell 0 rfl rfl) (sp (yI left) (sw (oq (szBoolS_ok _ x.qA left (H.get 0 rfl).1 qf) H fun w3 H=>?_))))))
 have:=zO (tot x.qA) left
 refine sp (yI (szR (tot x.qA) left)) (zjcc (sps [yI (szR (tot x.qA) left),.bool (decide ((szR (tot x.qA) left:Int) < 0))] (zjn (cD rfl (fun h5=>?_) (fun h5=>?_)))))
 ·skip
  refine zcr (sp (yI (-1)) (zjr (t_r (ret1 (yI (-1)) rfl rfl ⟨_,rfl,(congrArg (Value.int .i64) ?_),H.base⟩))))
  have:=zO (tot x) left
  rw [tot_StateD] at *
  try omega
 refine qU (t_n (zcr (oF rfl (oL rfl (H.cell 0 rfl rfl) (sp (yI (szR (tot x.qA) left)) (sw (oq (szInt64SS_ok _ x.qE (szR (tot x.qA) left) (H.get 1 rfl).1 qf) H fun w6 H=>?_)))))))
 have:=zO (tot x.qE) (szR (tot x.qA) left)
 refine sp (yI (szR (tot x.qE) (szR (tot x.qA) left))) (zjcc (sps [yI (szR (tot x.qE) (szR (tot x.qA) left)),.bool (decide ((szR (tot x.qE) (szR (tot x.qA) left):Int) < 0))] (zjn (cD rfl (fun h8=>?_) (fun h8=>?_)))))
 ·skip
  refine zcr (sp (yI (-1)) (zjr (t_r (ret1 (yI (-1)) rfl rfl ⟨_,rfl,(congrArg (Value.int .i64) ?_),H.base⟩))))
  have:=zO (tot x) left
  rw [tot_StateD] at *
  try omega
 refine qU (t_n (zcr (oF rfl (oL rfl (H.cell 0 rfl rfl) (sp (yI (szR (tot x.qE) (szR (tot x.qA) left))) (sw (oq (XR _ x.qC (szR (tot x.qE) (szR (tot x.qA) left)) (H.get 2 rfl).1 qf) H fun w9 H=>?_)))))))
 have:=zO (tot x.qC) (szR (tot x.qE) (szR (tot x.qA) left))
 refine sp (yI (szR (tot x.qC) (szR (tot x.qE) (szR (tot x.qA) left)))) (zjcc (sps [yI (szR (tot x.qC) (szR (tot x.qE) (szR (tot x.qA) left))),.bool (decide ((szR (tot x.qC) (szR (tot x.qE) (szR (tot x.qA) left)):Int) < 0))] (zjn (cD rfl (fun h11=>?_) (fun h11=>?_)))))
 ·skip
  refine zcr (sp (yI (-1)) (zjr (t_r (ret1 (yI (-1)) rfl rfl ⟨_,rfl,(congrArg (Value.int .i64) ?_),H.base⟩))))
  have:=zO (tot x) left
  rw [tot_StateD] at *
  try omega
 refine qU (t_n (zcr (sps [yI (szR (tot x.qC) (szR (tot x.qE) (szR (tot x.qA) left))),yI (szR (tot x.qC) (szR (tot x.qE) (szR (tot x.qA) left)))] (zjr (ret1 (yI (szR (tot x.qC) (szR (tot x.qE) (szR (tot x.qA) left)))) rfl rfl ⟨_,rfl,(congrArg (Value.int .i64) ?_),H.base⟩)))))
 have:=zO (tot x) left
 rw [tot_StateD] at *
 try omega

theorem XQ (w:World) (x:yLI) {ax:yOA} {Fx:yLN} (hx:qO.rep w Fx [.slice ax x.length cx] x) (p0:tot x≤2000000):Calls Tryz.prog 59 #[.slice ax x.length cx] w (Ret (fun v w' =>OwnNew w w' 2 v x) w):=by
 refine en func59 ntmps59 ?_
 have H:=(St.start w).arg hx
 have nhx:=qK hx
 clear hx
 have p1:=len_tot x
 refine zcr (sp yN (zjc (sp (.slice ax x.length cx) (oN rfl (sw (o_make1 H underlying22 ti2 rfl x.length rfl rfl qf qf fun b1 w2 H=>?_))))))
 replace H:St _ _ [.box b1 (List.replicate x.length (yI 0)) 2] _:=H
 refine sp (.slice (aa b1 0) x.length x.length) (zjcc (sp (yI 0) (zjn (qX ?_))))
 refine zu (fun m' ρ w3=>∃ (xU:Env) (k:Nat),ρ=upd (upd (upd (upd xU 0 (.slice ax x.length cx)) 2 yN) 3 (.slice (aa b1 0) x.length x.length)) 4 (yI k)∧(k≤x.length)∧m' =x.length - k∧St w w3 [.box b1 ((x.take k).map (Value.int .i64)++List.replicate (x.length - (k)) (yI 0)) 2] [sF false Fx ax cx x]) (x.length - 0) ⟨_,0,uE4,qf,rfl,H⟩ ?_
 clear H
 rintro m' ρ w4 ⟨xU,k,rfl,i0,rfl,H⟩
 refine zcc (sps [yI k,.slice ax x.length cx] (oN rfl (sp (.bool (decide ((k:Int) < x.length))) (zjn (cD rfl (fun h5=>?_) (fun h5=>?_))))))
 ·skip
  refine qU (t_n (xQ (qX (xY (sps [.slice (aa b1 0) x.length x.length,yI k,.slice ax x.length cx,yI k] ?_)))))
  obtain ⟨b6,o7,rfl⟩:=H.addr 0 rfl qf
  refine oI rfl rfl (oL rfl (H.jC 0 rfl k qf qf) (oI rfl rfl (sw (Qj H 0 rfl (yI (x[k]!)) sizeOf2 rfl rfl rfl (by simp only [List.length_append,List.length_replicate];have:((x.take k).map (Value.int .i64)).length=k:=(by (simp;omega));omega) fun w9 H=>?_))))
  rw [fill_set (k:=k) (by (simp;omega)) qm qf] at H
  replace H:St _ _ [.box b1 ((x.take k).map (Value.int .i64)++[yI (x[k]!)]++List.replicate (x.length - (k+1)) (yI 0)) 2] _:=H
  refine xZ (b_n (t_n (xY (sp (yI k) (sw (zC k 1 rfl rfl qf (sp (yI (k+1)) (xZ ?_))))))))
  rw [show (x.take k).map (Value.int .i64)++[yI (x[k]!)]=(x.take (k+1)).map (Value.int .i64) from by exact map_take_snoc _ qf] at H
  refine xf (m' :=x.length - (k+1)) qf ⟨_,k+1,uE4,?_,rfl,H⟩
  · omega
 refine zx4 (zcr (sps [.slice (aa b1 0) x.length x.length,.slice (aa b1 0) x.length x.length] (zjr (ret1 (.slice (aa b1 0) x.length x.length) rfl rfl ⟨_,rfl,?_,H.base⟩))))
 rw [List.take_of_length_le (by omega:x.length≤k)] at H
 rw [fill_end1 qf] at H
 replace H:=H.boxRow 0 rfl 1 x.length (by (first | omega | (simp;done) | (simp;omega))) qp
 exact H.newInts 0 rfl qf

theorem toBoolS_ok (w:World) (x:List Bool) {ax:yOA} {Fx:yLN} (hx:qO.rep w Fx [.slice ax x.length cx] x) (p0:tot x≤2000000):Calls Tryz.prog 61 #[.slice ax x.length cx] w (Ret (fun v w' =>OwnNew w w' 4 v x) w):=by
 refine en func61 ntmps61 ?_
 have H:=(St.start w).arg hx
 have nhx:=qK hx
 clear hx
 have p1:=len_tot x
 refine zcr (sp yN (zjc (sp (.slice ax x.length cx) (oN rfl (sw (o_make1 H underlying26 ti4 rfl x.length rfl rfl qf qf fun b1 w2 H=>?_))))))
 replace H:St _ _ [.box b1 (List.replicate x.length (.bool false)) 4] _:=H
 refine sp (.slice (aa b1 0) x.length x.length) (zjcc (sp (yI 0) (zjn (qX ?_))))
 refine zu (fun m' ρ w3=>∃ (xU:Env) (k:Nat),ρ=upd (upd (upd (upd xU 0 (.slice ax x.length cx)) 2 yN) 3 (.slice (aa b1 0) x.length x.length)) 4 (yI k)∧(k≤x.length)∧m' =x.length - k∧St w w3 [.box b1 ((x.take k).map (Value.bool)++List.replicate (x.length - (k)) (.bool false)) 4] [sF false Fx ax cx x]) (x.length - 0) ⟨_,0,uE4,qf,rfl,H⟩ ?_
 clear H
 rintro m' ρ w4 ⟨xU,k,rfl,i0,rfl,H⟩
 refine zcc (sps [yI k,.slice ax x.length cx] (oN rfl (sp (.bool (decide ((k:Int) < x.length))) (zjn (cD rfl (fun h5=>?_) (fun h5=>?_))))))
 ·skip
  refine qU (t_n (xQ (qX (xY (sps [.slice (aa b1 0) x.length x.length,yI k,.slice ax x.length cx,yI k] ?_)))))
  obtain ⟨b6,o7,rfl⟩:=H.addr 0 rfl qf
  refine oI rfl rfl (oL rfl (H.Vb 0 rfl k qf qf) (oI rfl rfl (sw (Qj H 0 rfl (.bool (x[k]!)) sizeOf4 rfl rfl rfl (by simp only [List.length_append,List.length_replicate];have:((x.take k).map (Value.bool)).length=k:=(by (simp;omega));omega) fun w9 H=>?_))))
  rw [fill_set (k:=k) (by (simp;omega)) qm qf] at H
  replace H:St _ _ [.box b1 ((x.take k).map (Value.bool)++[.bool (x[k]!)]++List.replicate (x.length - (k+1)) (.bool false)) 4] _:=H
  refine xZ (b_n (t_n (xY (sp (yI k) (sw (zC k 1 rfl rfl qf (sp (yI (k+1)) (xZ ?_))))))))
  rw [show (x.take k).map (Value.bool)++[.bool (x[k]!)]=(x.take (k+1)).map (Value.bool) from by exact map_take_snoc _ qf] at H
  refine xf (m' :=x.length - (k+1)) qf ⟨_,k+1,uE4,?_,rfl,H⟩
  · omega
 refine zx4 (zcr (sps [.slice (aa b1 0) x.length x.length,.slice (aa b1 0) x.length x.length] (zjr (ret1 (.slice (aa b1 0) x.length x.length) rfl rfl ⟨_,rfl,?_,H.base⟩))))
 rw [List.take_of_length_le (by omega:x.length≤k)] at H
 rw [fill_end1 qf] at H
 replace H:=H.boxRow 0 rfl 1 x.length (by (first | omega | (simp;done) | (simp;omega))) qp
 exact H.newBools 0 rfl qf

theorem toInt64SS_ok (w:World) (x:yLL) {ax:yOA} {Fx:yLN} (hx:qO.rep w Fx [.slice ax x.length cx] x) (p0:tot x≤2000000):Calls Tryz.prog 62 #[.slice ax x.length cx] w (Ret (fun v w' =>OwnNew w w' 22 v x) w):=by
 refine en func62 ntmps62 ?_
 have H:=(St.start w).arg hx
 have nhx:=qK hx
 clear hx
 have p1:=len_tot x
 refine zcr (sp yN (zjc (sp (.slice ax x.length cx) (oN rfl (sw (o_make1 H underlying27 ti22 rfl x.length rfl rfl qf qf fun b1 w2 H=>?_))))))
 replace H:St _ _ [.box b1 (List.replicate x.length yN) 22] _:=H
 refine sp (.slice (aa b1 0) x.length x.length) (zjcc (sp (yI 0) (zjn (qX ?_))))
 replace H:=H.vI (α:=yLI)
 refine zu (fun m' ρ w3=>∃ (xU:Env) (k:Nat) (xs3:List Value) (Fr3:yLN),ρ=upd (upd (upd (upd xU 0 (.slice ax x.length cx)) 2 yN) 3 (.slice (aa b1 0) x.length x.length)) 4 (yI k)∧(k≤x.length)∧(xs3.length=k * 1)∧(∀ b∈Fr3,w.heap.size≤b)∧(Fr3.Nodup)∧m' =x.length - k∧St w w3 [.box b1 (xs3++List.replicate (x.length - (k)) yN) 22] [zi true Fr3 xs3 (x.take k),sF false Fx ax cx x]) (x.length - 0) ⟨_,0,[],[],uE4,qf,(by rfl),qm,qm,rfl,H⟩ ?_
 clear H
 rintro m' ρ w4 ⟨xU,k,xs3,Fr3,rfl,i0,hl3,nf3,nd3,rfl,H⟩
 have p2:=fun h=>tot_get (l:=x) (k:=k) h
 refine zcc (sps [yI k,.slice ax x.length cx] (oN rfl (sp (.bool (decide ((k:Int) < x.length))) (zjn (cD rfl (fun h5=>?_) (fun h5=>?_))))))
 ·skip
  refine qU (t_n (xQ (qX (xY (sps [.slice (aa b1 0) x.length x.length,yI k,.slice ax x.length cx,yI k] ?_)))))
  obtain ⟨b6,o7,rfl⟩:=H.addr 1 rfl qf
  obtain ⟨ae8,ce8,Fe8,H⟩:=H.vM 1 rfl k k qf qf qf
  refine oI rfl rfl (oL rfl (H.xW 1 rfl 0 rfl) ?_)
  have szx10:=H.base.size
  have lt11:=H.repsLt 2 rfl
  refine sw (oc (XQ _ (x[k]!) (H.get 0 rfl).1 (by first | omega | (have:=p2 qf;omega))) ?_)
  rintro v12 w9 r12 x10
  obtain ⟨a12,c12,F12,rfl,f12,H⟩:=H.add_is x10 r12.isNew
  have d12:=f12.2
  have q12:=f12.1
  replace f12:∀ b∈F12,w.heap.size≤b:=fun b hb=>Nat.le_trans szx10 (f12.1 b hb)
  refine oI rfl rfl (sw (Qj H 0 rfl (.slice a12 ((x[k]!).length) c12) sizeOf22 rfl rfl rfl (by simp only [List.length_append,List.length_replicate];have:(xs3).length=k:=(by (omega));omega) fun w14 H=>?_))
  rw [fill_set (k:=k) (by (omega)) qm qf] at H
  replace H:St _ _ [.box b1 (xs3++[.slice a12 ((x[k]!).length) c12]++List.replicate (x.length - (k+1)) yN) 22] _:=H
  refine xZ (b_n (t_n (xY (sp (yI k) (sw (zC k 1 rfl rfl qf (sp (yI (k+1)) (xZ ?_))))))))
  replace H:=H.jW 3 rfl 0 rfl
  rw [show (x.take k)++[(x[k]!)]=x.take (k+1) from by exact take_snoc qf] at H
  refine xf (m' :=x.length - (k+1)) qf ⟨_,k+1,(xs3++[.slice a12 ((x[k]!).length) c12]),(Fr3++F12),uE4,?_,?_,?_,?_,rfl,H.sel _ (.refl _) _ qm⟩
  · omega
  · first | (simp only [List.length_append,List.length_cons,List.length_nil];omega) | (simp [hl3];done) | (simp;omega)
  · exact XM nf3 f12
  · exact XJ nd3 d12 lt11 q12
 refine zx4 (zcr (sps [.slice (aa b1 0) x.length x.length,.slice (aa b1 0) x.length x.length] (zjr (ret1 (.slice (aa b1 0) x.length x.length) rfl rfl ⟨_,rfl,?_,H.base⟩))))
 rw [List.take_of_length_le (by omega:x.length≤k)] at H
 rw [fill_end1 qf] at H
 replace H:=H.boxRow 0 rfl 1 x.length qf qp
 exact H.newRow 0 rfl 0 rfl qf ql ql

theorem toInto_ok (w:World) (x:IntoD) {axBag:yOA} {FxBag:yLN} (hxBag:qO.rep w FxBag [.slice axBag x.jy.length cxBag] x.jy) (p0:tot x≤2000000):Calls Tryz.prog 172 #[.agg #[yI x.qH,.slice axBag x.jy.length cxBag]] w (Ret (fun v w' =>New_IntoD w w' v x) w):=by
 refine en func172 ntmps172 ?_
 have H:=(St.start w).arg hxBag
 have nhxBag:=qK hxBag
 clear hxBag
 have p1:=tot_IntoD x
 refine zcr (sw (o_box H (.agg #[yI x.qH,.slice axBag x.jy.length cxBag]) rfl fun b1 w2 H=>sw (o_alloc H ti164 fun b3 w4 H=>zjc (sw (o_alloc H ti164 fun b5 w6 H=>zjc (oF rfl (oL rfl (H.cell 2 rfl rfl) (oF rfl (sw (Qj H 0 rfl (yI x.qH) sizeOf2 rfl rfl rfl (Nat.le_of_ble_eq_true rfl) fun w7 H=>?_))))))))))
 replace H:St _ _ [.box b5 [yI x.qH,yN] 164,.box b3 [yI 0,yN] 164,.box b1 [yI x.qH,.slice axBag x.jy.length cxBag] 190] _:=H
 refine zjc (oF rfl (oL rfl (H.cell 2 rfl rfl) ?_))
 have szx9:=H.base.size
 refine sw (oc (XQ _ x.jy (H.get 0 rfl).1 (by first | omega | (have:=p2 qf;omega))) ?_)
 rintro v10 w8 r10 x9
 obtain ⟨a10,c10,F10,rfl,f10,H⟩:=H.add_is x9 r10.isNew
 have d10:=f10.2
 have q10:=f10.1
 replace f10:∀ b∈F10,w.heap.size≤b:=fun b hb=>Nat.le_trans szx9 (f10.1 b hb)
 refine oF rfl (sw (Qj H 0 rfl (.slice a10 x.jy.length c10) sizeOf22 rfl rfl rfl (Nat.le_of_ble_eq_true rfl) fun w11 H=>?_))
 replace H:St _ _ [.box b5 [yI x.qH,.slice a10 x.jy.length c10] 164,.box b3 [yI 0,yN] 164,.box b1 [yI x.qH,.slice axBag x.jy.length cxBag] 190] _:=H
 refine zjc (sw (zn [yI x.qH,.slice a10 x.jy.length c10] isAgg164 sizeOf164 rfl (qF (H.cells 0 rfl) 0 2) (sw (o_store H 1 rfl (.agg #[yI x.qH,.slice a10 x.jy.length c10]) sizeOf164 rfl rfl (by simp [Value.oneCell',Value.cells]) (Nat.le_of_ble_eq_true rfl) fun w12 H=>?_))))
 replace H:St _ _ [.box b5 [yI x.qH,.slice a10 x.jy.length c10] 164,.box b3 [yI x.qH,.slice a10 x.jy.length c10] 164,.box b1 [yI x.qH,.slice axBag x.jy.length cxBag] 190] _:=H
 refine zjr (retC H 1 rfl rfl isAgg164 sizeOf164 rfl ⟨_,rfl,(⟨_,_,_,rfl,(H.get 0 rfl).1,f10,d10,((H.get 0 rfl).2 rfl)⟩),H.base⟩)

theorem toIntoS_ok (w:World) (x:List IntoD) {ax:yOA} {Fx:yLN} (hx:qO.rep w Fx [.slice ax x.length cx] x) (p0:tot x≤2000000):Calls Tryz.prog 137 #[.slice ax x.length cx] w (Ret (fun v w' =>OwnNew w w' 164 v x) w):=by
 refine en func137 ntmps137 ?_
 have H:=(St.start w).arg hx
 have nhx:=qK hx
 clear hx
 have p1:=len_tot x
 refine zcr (sp yN (zjc (sp (.slice ax x.length cx) (oN rfl (sw (o_makeN H underlying119 ti164 rfl qj x.length rfl rfl qf qf fun b1 w2 H=>?_))))))
 replace H:St _ _ [.box b1 ((List.replicate x.length [yI 0,yN]).flatten) 164] _:=H
 refine sp (.slice (aa b1 0) x.length x.length) (zjcc (sp (yI 0) (zjn (qX ?_))))
 replace H:=H.vI (α:=IntoD)
 refine zu (fun m' ρ w3=>∃ (xU:Env) (k:Nat) (xs3:List Value) (Fr3:yLN),ρ=upd (upd (upd (upd xU 0 (.slice ax x.length cx)) 2 yN) 3 (.slice (aa b1 0) x.length x.length)) 4 (yI k)∧(k≤x.length)∧(xs3.length=k * 2)∧(∀ b∈Fr3,w.heap.size≤b)∧(Fr3.Nodup)∧m' =x.length - k∧St w w3 [.box b1 (xs3++(List.replicate (x.length - (k)) [yI 0,yN]).flatten) 164] [zi true Fr3 xs3 (x.take k),sF false Fx ax cx x]) (x.length - 0) ⟨_,0,[],[],uE4,qf,(by rfl),qm,qm,rfl,H⟩ ?_
 clear H
 rintro m' ρ w4 ⟨xU,k,xs3,Fr3,rfl,i0,hl3,nf3,nd3,rfl,H⟩
 have p2:=fun h=>tot_get (l:=x) (k:=k) h
 refine zcc (sps [yI k,.slice ax x.length cx] (oN rfl (sp (.bool (decide ((k:Int) < x.length))) (zjn (cD rfl (fun h5=>?_) (fun h5=>?_))))))
 ·skip
  refine qU (t_n (xQ (qX (xY (sps [.slice (aa b1 0) x.length x.length,yI k,.slice ax x.length cx,yI k] ?_)))))
  obtain ⟨b6,o7,rfl⟩:=H.addr 1 rfl qf
  obtain ⟨ae8Bag,ce8Bag,Fe8Bag,H⟩:=H.jS 1 rfl k k qf qf qf
  refine oI rfl rfl (sw (zn [yI ((x[k]!).qH),.slice ae8Bag (((x[k]!).jy).length) ce8Bag] isAgg190 sizeOf190 rfl (qF (H.get 1 rfl) 0 2) ?_))
  have szx10:=H.base.size
  have lt11:=H.repsLt 2 rfl
  refine sw (oc (toInto_ok _ (x[k]!) (H.get 0 rfl).1 qf) ?_)
  rintro v12 w9 r12 x10
  obtain ⟨a12Bag,c12Bag,F12Bag,rfl,f12,H⟩:=H.add_IntoD x10 r12
  have d12:=f12.2
  have q12:=f12.1
  replace f12:∀ b∈F12Bag,w.heap.size≤b:=fun b hb=>Nat.le_trans szx10 (f12.1 b hb)
  refine oI rfl rfl (sw (o_store H 0 rfl (.agg #[yI ((x[k]!).qH),.slice a12Bag (((x[k]!).jy).length) c12Bag]) sizeOf164 rfl rfl (by simp [Value.oneCell',Value.cells]) (by have:(xs3).length=k * 2:=(by (exact hl3));simp [Value.cells];have:=fill_room (n:=x.length) (k:=k) (s:=2) qf;simp at this;omega) fun w14 H=>?_))
  replace H:St _ _ [.box b1 (xs3++[yI ((x[k]!).qH),.slice a12Bag (((x[k]!).jy).length) c12Bag]++(List.replicate (x.length - (k+1)) [yI 0,yN]).flatten) 164] _:=(fill_put (vs:=[yI ((x[k]!).qH),.slice a12Bag (((x[k]!).jy).length) c12Bag]) (zs:=[yI 0,yN]) (off:=0+(k:Int).toNat * 2) (xs:=xs3) (k:=k) (s:=2) (n:=x.length) (by (exact hl3)) qm rfl rfl qf)▸H
  replace H:St _ _ [.box b1 (xs3++[yI ((x[k]!).qH),.slice a12Bag (((x[k]!).jy).length) c12Bag]++(List.replicate (x.length - (k+1)) [yI 0,yN]).flatten) 164] _:=H
  refine xZ (b_n (t_n (xY (sp (yI k) (sw (zC k 1 rfl rfl qf (sp (yI (k+1)) (xZ ?_))))))))
  replace H:=H.snoc_IntoD 3 rfl ((x[k]!).qH) 0 rfl
  rw [show (x.take k)++[⟨(x[k]!).qH,(x[k]!).jy⟩]=x.take (k+1) from by exact take_snoc qf] at H
  refine xf (m' :=x.length - (k+1)) qf ⟨_,k+1,(xs3++[yI ((x[k]!).qH),.slice a12Bag (((x[k]!).jy).length) c12Bag]),(Fr3++F12Bag),uE4,?_,?_,?_,?_,rfl,H.sel _ (.refl _) _ qm⟩
  · omega
  · first | (simp only [List.length_append,List.length_cons,List.length_nil];omega) | (simp [hl3];done) | (simp;omega)
  · exact XM nf3 f12
  · exact XJ nd3 d12 lt11 q12
 refine zx4 (zcr (sps [.slice (aa b1 0) x.length x.length,.slice (aa b1 0) x.length x.length] (zjr (ret1 (.slice (aa b1 0) x.length x.length) rfl rfl ⟨_,rfl,?_,H.base⟩))))
 rw [List.take_of_length_le (by omega:x.length≤k)] at H
 rw [fill_endN qf] at H
 replace H:=H.boxRow 0 rfl 2 x.length qf qp
 exact H.newRow 0 rfl 0 rfl qf ql ql

theorem toRule_ok (w:World) (x:QU) {Yd:yOA} {FxNeed:yLN} {Yh:yOA} {FxHave:yLN} {Ye:yOA} {FxLack:yLN} {Yg:yOA} {FxHere:yLN} {axOut:yOA} {FxOut:yLN} {Yf:yOA} {FxInto:yLN} (hxNeed:qO.rep w FxNeed [.slice Yd x.xm.length VZ] x.xm) (hxHave:qO.rep w FxHave [.slice Yh x.xF.length V6] x.xF) (hxLack:qO.rep w FxLack [.slice Ye x.xI.length V3] x.xI) (hxHere:qO.rep w FxHere [.slice Yg x.xM.length V5] x.xM) (hxOut:qO.rep w FxOut [.slice axOut x.zV.length cxOut] x.zV) (hxInto:qO.rep w FxInto [.slice Yf x.qQ.length V4] x.qQ) (p0:tot x≤2000000):Calls Tryz.prog 103 #[.agg #[yI x.qH,yI x.zM,.slice Yd x.xm.length VZ,.slice Yh x.xF.length V6,.slice Ye x.xI.length V3,.slice Yg x.xM.length V5,.slice axOut x.zV.length cxOut,.slice Yf x.qQ.length V4,.bool x.zA]] w (Ret (fun v w' =>New_RuleD w w' v x) w):=by
 refine en func103 ntmps103 ?_
 have H:=((((((St.start w).arg hxInto).arg hxOut).arg hxHere).arg hxLack).arg hxHave).arg hxNeed
 have nhxNeed:=qK hxNeed
 have nhxHave:=qK hxHave
 have nhxLack:=qK hxLack
 have nhxHere:=qK hxHere
 have nhxOut:=qK hxOut
 have nhxInto:=qK hxInto
 clear hxNeed hxHave hxLack hxHere hxOut hxInto
 have p1:=tot_RuleD x
 refine zcr (sw (o_box H (.agg #[yI x.qH,yI x.zM,.slice Yd x.xm.length VZ,.slice Yh x.xF.length V6,.slice Ye x.xI.length V3,.slice Yg x.xM.length V5,.slice axOut x.zV.length cxOut,.slice Yf x.qQ.length V4,.bool x.zA]) rfl fun b1 w2 H=>sw (o_alloc H ti121 fun b3 w4 H=>zjc (sw (o_alloc H ti121 fun b5 w6 H=>zjc (oF rfl (oL rfl (H.cell 2 rfl rfl) (oF rfl (sw (Qj H 0 rfl (yI x.qH) sizeOf2 rfl rfl rfl (Nat.le_of_ble_eq_true rfl) fun w7 H=>zjc (oF rfl (oL rfl (H.cell 2 rfl rfl) (oF rfl ?_)))))))))))))
 refine sw (Qj H 0 rfl (yI x.zM) sizeOf2 rfl rfl rfl (Nat.le_of_ble_eq_true rfl) fun w8 H=>?_)
 replace H:St _ _ [.box b5 [yI x.qH,yI x.zM,yN,yN,yN,yN,yN,yN,.bool false] 121,.box b3 [yI 0,yI 0,yN,yN,yN,yN,yN,yN,.bool false] 121,.box b1 [yI x.qH,yI x.zM,.slice Yd x.xm.length VZ,.slice Yh x.xF.length V6,.slice Ye x.xI.length V3,.slice Yg x.xM.length V5,.slice axOut x.zV.length cxOut,.slice Yf x.qQ.length V4,.bool x.zA] 111] _:=H
 refine zjc (oF rfl (oL rfl (H.cell 2 rfl rfl) ?_))
 have szx10:=H.base.size
 refine sw (oc (XQ _ x.xm (H.get 0 rfl).1 (by first | omega | (have:=p2 qf;omega))) ?_)
 rintro v11 w9 r11 x10
 obtain ⟨a11,c11,F11,rfl,f11,H⟩:=H.add_is x10 r11.isNew
 have d11:=f11.2
 have q11:=f11.1
 replace f11:∀ b∈F11,w.heap.size≤b:=fun b hb=>Nat.le_trans szx10 (f11.1 b hb)
 refine oF rfl (sw (Qj H 0 rfl (.slice a11 x.xm.length c11) sizeOf22 rfl rfl rfl (Nat.le_of_ble_eq_true rfl) fun w12 H=>?_))
 replace H:St _ _ [.box b5 [yI x.qH,yI x.zM,.slice a11 x.xm.length c11,yN,yN,yN,yN,yN,.bool false] 121,.box b3 [yI 0,yI 0,yN,yN,yN,yN,yN,yN,.bool false] 121,.box b1 [yI x.qH,yI x.zM,.slice Yd x.xm.length VZ,.slice Yh x.xF.length V6,.slice Ye x.xI.length V3,.slice Yg x.xM.length V5,.slice axOut x.zV.length cxOut,.slice Yf x.qQ.length V4,.bool x.zA] 111] _:=H
 refine zjc (oF rfl (oL rfl (H.cell 2 rfl rfl) ?_))
 have szx14:=H.base.size
 have lt15:=H.isLt 0 rfl
 refine sw (oc (XQ _ x.xF (H.get 2 rfl).1 (by first | omega | (have:=p2 qf;omega))) ?_)
 rintro v16 w13 r16 x14
 obtain ⟨a16,c16,F16,rfl,f16,H⟩:=H.add_is x14 r16.isNew
 have d16:=f16.2
 have q16:=f16.1
 replace f16:∀ b∈F16,w.heap.size≤b:=fun b hb=>Nat.le_trans szx14 (f16.1 b hb)
 refine oF rfl (sw (Qj H 0 rfl (.slice a16 x.xF.length c16) sizeOf22 rfl rfl rfl (Nat.le_of_ble_eq_true rfl) fun w17 H=>?_))
 replace H:St _ _ [.box b5 [yI x.qH,yI x.zM,.slice a11 x.xm.length c11,.slice a16 x.xF.length c16,yN,yN,yN,yN,.bool false] 121,.box b3 [yI 0,yI 0,yN,yN,yN,yN,yN,yN,.bool false] 121,.box b1 [yI x.qH,yI x.zM,.slice Yd x.xm.length VZ,.slice Yh x.xF.length V6,.slice Ye x.xI.length V3,.slice Yg x.xM.length V5,.slice axOut x.zV.length cxOut,.slice Yf x.qQ.length V4,.bool x.zA] 111] _:=H
 refine zjc (oF rfl (oL rfl (H.cell 2 rfl rfl) ?_))
 have szx19:=H.base.size
 have lt20:=H.isLt 0 rfl
 have lt21:=H.isLt 1 rfl
 refine sw (oc (XQ _ x.xI (H.get 4 rfl).1 (by first | omega | (have:=p2 qf;omega))) ?_)
 rintro v22 w18 r22 x19
 obtain ⟨a22,c22,F22,rfl,f22,H⟩:=H.add_is x19 r22.isNew
 have d22:=f22.2
 have q22:=f22.1
 replace f22:∀ b∈F22,w.heap.size≤b:=fun b hb=>Nat.le_trans szx19 (f22.1 b hb)
 refine oF rfl (sw (Qj H 0 rfl (.slice a22 x.xI.length c22) sizeOf22 rfl rfl rfl (Nat.le_of_ble_eq_true rfl) fun w23 H=>?_))
 replace H:St _ _ [.box b5 [yI x.qH,yI x.zM,.slice a11 x.xm.length c11,.slice a16 x.xF.length c16,.slice a22 x.xI.length c22,yN,yN,yN,.bool false] 121,.box b3 [yI 0,yI 0,yN,yN,yN,yN,yN,yN,.bool false] 121,.box b1 [yI x.qH,yI x.zM,.slice Yd x.xm.length VZ,.slice Yh x.xF.length V6,.slice Ye x.xI.length V3,.slice Yg x.xM.length V5,.slice axOut x.zV.length cxOut,.slice Yf x.qQ.length V4,.bool x.zA] 111] _:=H
 refine zjc (oF rfl (oL rfl (H.cell 2 rfl rfl) ?_))
 have szx25:=H.base.size
 have lt26:=H.isLt 0 rfl
 have lt27:=H.isLt 1 rfl
 have lt28:=H.isLt 2 rfl
 refine sw (oc (XQ _ x.xM (H.get 6 rfl).1 (by first | omega | (have:=p2 qf;omega))) ?_)
 rintro v29 w24 r29 x25
 obtain ⟨a29,c29,F29,rfl,f29,H⟩:=H.add_is x25 r29.isNew
 have d29:=f29.2
 have q29:=f29.1
 replace f29:∀ b∈F29,w.heap.size≤b:=fun b hb=>Nat.le_trans szx25 (f29.1 b hb)
 refine oF rfl (sw (Qj H 0 rfl (.slice a29 x.xM.length c29) sizeOf22 rfl rfl rfl (Nat.le_of_ble_eq_true rfl) fun w30 H=>?_))
 replace H:St _ _ [.box b5 [yI x.qH,yI x.zM,.slice a11 x.xm.length c11,.slice a16 x.xF.length c16,.slice a22 x.xI.length c22,.slice a29 x.xM.length c29,yN,yN,.bool false] 121,.box b3 [yI 0,yI 0,yN,yN,yN,yN,yN,yN,.bool false] 121,.box b1 [yI x.qH,yI x.zM,.slice Yd x.xm.length VZ,.slice Yh x.xF.length V6,.slice Ye x.xI.length V3,.slice Yg x.xM.length V5,.slice axOut x.zV.length cxOut,.slice Yf x.qQ.length V4,.bool x.zA] 111] _:=H
 refine zjc (oF rfl (oL rfl (H.cell 2 rfl rfl) ?_))
 have szx32:=H.base.size
 have lt33:=H.isLt 0 rfl
 have lt34:=H.isLt 1 rfl
 have lt35:=H.isLt 2 rfl
 have lt36:=H.isLt 3 rfl
 refine sw (oc (XQ _ x.zV (H.get 8 rfl).1 (by first | omega | (have:=p2 qf;omega))) ?_)
 rintro v37 w31 r37 x32
 obtain ⟨a37,c37,F37,rfl,f37,H⟩:=H.add_is x32 r37.isNew
 have d37:=f37.2
 have q37:=f37.1
 replace f37:∀ b∈F37,w.heap.size≤b:=fun b hb=>Nat.le_trans szx32 (f37.1 b hb)
 refine oF rfl (sw (Qj H 0 rfl (.slice a37 x.zV.length c37) sizeOf22 rfl rfl rfl (Nat.le_of_ble_eq_true rfl) fun w38 H=>?_))
 replace H:St _ _ [.box b5 [yI x.qH,yI x.zM,.slice a11 x.xm.length c11,.slice a16 x.xF.length c16,.slice a22 x.xI.length c22,.slice a29 x.xM.length c29,.slice a37 x.zV.length c37,yN,.bool false] 121,.box b3 [yI 0,yI 0,yN,yN,yN,yN,yN,yN,.bool false] 121,.box b1 [yI x.qH,yI x.zM,.slice Yd x.xm.length VZ,.slice Yh x.xF.length V6,.slice Ye x.xI.length V3,.slice Yg x.xM.length V5,.slice axOut x.zV.length cxOut,.slice Yf x.qQ.length V4,.bool x.zA] 111] _:=H
 refine zjc (oF rfl (oL rfl (H.cell 2 rfl rfl) ?_))
 have szx40:=H.base.size
 have lt41:=H.isLt 0 rfl
 have lt42:=H.isLt 1 rfl
 have lt43:=H.isLt 2 rfl
 have lt44:=H.isLt 3 rfl
 have lt45:=H.isLt 4 rfl
 refine sw (oc (toIntoS_ok _ x.qQ (H.get 10 rfl).1 (by first | omega | (have:=p2 qf;omega))) ?_)
 rintro v46 w39 r46 x40
 obtain ⟨a46,c46,F46,rfl,f46,H⟩:=H.add_is x40 r46.isNew
 have d46:=f46.2
 have q46:=f46.1
 replace f46:∀ b∈F46,w.heap.size≤b:=fun b hb=>Nat.le_trans szx40 (f46.1 b hb)
 refine oF rfl (sw (Qj H 0 rfl (.slice a46 x.qQ.length c46) sizeOf119 rfl rfl rfl (Nat.le_of_ble_eq_true rfl) fun w47 H=>zjc (oF rfl (oL rfl (H.cell 2 rfl rfl) (oF rfl (sw (Qj H 0 rfl (.bool x.zA) sizeOf4 rfl rfl rfl (Nat.le_of_ble_eq_true rfl) fun w48 H=>?_)))))))
 replace H:St _ _ [.box b5 [yI x.qH,yI x.zM,.slice a11 x.xm.length c11,.slice a16 x.xF.length c16,.slice a22 x.xI.length c22,.slice a29 x.xM.length c29,.slice a37 x.zV.length c37,.slice a46 x.qQ.length c46,.bool x.zA] 121,.box b3 [yI 0,yI 0,yN,yN,yN,yN,yN,yN,.bool false] 121,.box b1 [yI x.qH,yI x.zM,.slice Yd x.xm.length VZ,.slice Yh x.xF.length V6,.slice Ye x.xI.length V3,.slice Yg x.xM.length V5,.slice axOut x.zV.length cxOut,.slice Yf x.qQ.length V4,.bool x.zA] 111] _:=H
 refine zjc (sw (zn [yI x.qH,yI x.zM,.slice a11 x.xm.length c11,.slice a16 x.xF.length c16,.slice a22 x.xI.length c22,.slice a29 x.xM.length c29,.slice a37 x.zV.length c37,.slice a46 x.qQ.length c46,.bool x.zA] isAgg121 sizeOf121 rfl (qF (H.cells 0 rfl) 0 9) ?_))
 refine sw (o_store H 1 rfl (.agg #[yI x.qH,yI x.zM,.slice a11 x.xm.length c11,.slice a16 x.xF.length c16,.slice a22 x.xI.length c22,.slice a29 x.xM.length c29,.slice a37 x.zV.length c37,.slice a46 x.qQ.length c46,.bool x.zA]) sizeOf121 rfl rfl (by simp [Value.oneCell',Value.cells]) (Nat.le_of_ble_eq_true rfl) fun w49 H=>?_)
 replace H:St _ _ [.box b5 [yI x.qH,yI x.zM,.slice a11 x.xm.length c11,.slice a16 x.xF.length c16,.slice a22 x.xI.length c22,.slice a29 x.xM.length c29,.slice a37 x.zV.length c37,.slice a46 x.qQ.length c46,.bool x.zA] 121,.box b3 [yI x.qH,yI x.zM,.slice a11 x.xm.length c11,.slice a16 x.xF.length c16,.slice a22 x.xI.length c22,.slice a29 x.xM.length c29,.slice a37 x.zV.length c37,.slice a46 x.qQ.length c46,.bool x.zA] 121,.box b1 [yI x.qH,yI x.zM,.slice Yd x.xm.length VZ,.slice Yh x.xF.length V6,.slice Ye x.xI.length V3,.slice Yg x.xM.length V5,.slice axOut x.zV.length cxOut,.slice Yf x.qQ.length V4,.bool x.zA] 111] _:=H
 refine zjr (retC H 1 rfl rfl isAgg121 sizeOf121 rfl ⟨_,rfl,?_,H.base⟩)
 exact ⟨_,_,_,_,_,_,_,_,_,_,_,_,_,_,_,_,_,_,rfl,(H.get 5 rfl).1,(H.get 4 rfl).1,(H.get 3 rfl).1,(H.get 2 rfl).1,(H.get 1 rfl).1,(H.get 0 rfl).1,(XM (XM (XM (XM (XM f11 f16) f22) f29) f37) f46),(XJ (XJ (XJ (XJ (XJ d11 d16 lt15 q16) d22 (VW lt21 lt20) q22) d29 (VW (VW lt28 lt27) lt26) q29) d37 (VW (VW (VW lt36 lt35) lt34) lt33) q37) d46 (VW (VW (VW (VW lt45 lt44) lt43) lt42) lt41) q46),(((((((H.get 5 rfl).2 rfl).app ((H.get 4 rfl).2 rfl)).app ((H.get 3 rfl).2 rfl)).app ((H.get 2 rfl).2 rfl)).app ((H.get 1 rfl).2 rfl)).app ((H.get 0 rfl).2 rfl))⟩

theorem toRuleS_ok (w:World) (x:List QU) {ax:yOA} {Fx:yLN} (hx:qO.rep w Fx [.slice ax x.length cx] x) (p0:tot x≤2000000):Calls Tryz.prog 60 #[.slice ax x.length cx] w (Ret (fun v w' =>OwnNew w w' 121 v x) w):=by
 refine en func60 ntmps60 ?_
 have H:=(St.start w).arg hx
 have nhx:=qK hx
 clear hx
 have p1:=len_tot x
 refine zcr (sp yN (zjc (sp (.slice ax x.length cx) (oN rfl (sw (o_makeN H underlying34 ti121 rfl qj x.length rfl rfl qf qf fun b1 w2 H=>?_))))))
 replace H:St _ _ [.box b1 ((List.replicate x.length [yI 0,yI 0,yN,yN,yN,yN,yN,yN,.bool false]).flatten) 121] _:=H
 refine sp (.slice (aa b1 0) x.length x.length) (zjcc (sp (yI 0) (zjn (qX ?_))))
 replace H:=H.vI (α:=QU)
 refine zu (fun m' ρ w3=>∃ (xU:Env) (k:Nat) (xs3:List Value) (Fr3:yLN),ρ=upd (upd (upd (upd xU 0 (.slice ax x.length cx)) 2 yN) 3 (.slice (aa b1 0) x.length x.length)) 4 (yI k)∧(k≤x.length)∧(xs3.length=k * 9)∧(∀ b∈Fr3,w.heap.size≤b)∧(Fr3.Nodup)∧m' =x.length - k∧St w w3 [.box b1 (xs3++(List.replicate (x.length - (k)) [yI 0,yI 0,yN,yN,yN,yN,yN,yN,.bool false]).flatten) 121] [zi true Fr3 xs3 (x.take k),sF false Fx ax cx x]) (x.length - 0) ⟨_,0,[],[],uE4,qf,(by rfl),qm,qm,rfl,H⟩ ?_
 clear H
 rintro m' ρ w4 ⟨xU,k,xs3,Fr3,rfl,i0,hl3,nf3,nd3,rfl,H⟩
 have p2:=fun h=>tot_get (l:=x) (k:=k) h
 refine zcc (sps [yI k,.slice ax x.length cx] (oN rfl (sp (.bool (decide ((k:Int) < x.length))) (zjn (cD rfl (fun h5=>?_) (fun h5=>?_))))))
 ·skip
  refine qU (t_n (xQ (qX (xY (sps [.slice (aa b1 0) x.length x.length,yI k,.slice ax x.length cx,yI k] ?_)))))
  obtain ⟨b6,o7,rfl⟩:=H.addr 1 rfl qf
  obtain ⟨ae8Need,ce8Need,Fe8Need,ae8Have,ce8Have,Fe8Have,ae8Lack,ce8Lack,Fe8Lack,ae8Here,ce8Here,Fe8Here,ae8Out,ce8Out,Fe8Out,ae8Into,ce8Into,Fe8Into,H⟩:=H.yt 1 rfl k k qf qf qf
  refine oI rfl rfl (sw (zn [yI ((x[k]!).qH),yI ((x[k]!).zM),.slice ae8Need (((x[k]!).xm).length) ce8Need,.slice ae8Have (((x[k]!).xF).length) ce8Have,.slice ae8Lack (((x[k]!).xI).length) ce8Lack,.slice ae8Here (((x[k]!).xM).length) ce8Here,.slice ae8Out (((x[k]!).zV).length) ce8Out,.slice ae8Into (((x[k]!).qQ).length) ce8Into,.bool ((x[k]!).zA)] isAgg111 sizeOf111 rfl (qF (H.get 6 rfl) 0 9) ?_))
  have szx10:=H.base.size
  have lt11:=H.repsLt 7 rfl
  refine sw (oc (toRule_ok _ (x[k]!) (H.get 0 rfl).1 (H.get 1 rfl).1 (H.get 2 rfl).1 (H.get 3 rfl).1 (H.get 4 rfl).1 (H.get 5 rfl).1 qf) ?_)
  rintro v12 w9 r12 x10
  obtain ⟨a12Need,c12Need,F12Need,a12Have,c12Have,F12Have,a12Lack,c12Lack,F12Lack,a12Here,c12Here,F12Here,a12Out,c12Out,F12Out,a12Into,c12Into,F12Into,rfl,f12,H⟩:=H.add_RuleD x10 r12
  have d12:=f12.2
  have q12:=f12.1
  replace f12:∀ b∈(F12Need++F12Have++F12Lack++F12Here++F12Out++F12Into),w.heap.size≤b:=fun b hb=>Nat.le_trans szx10 (f12.1 b hb)
  refine oI rfl rfl (sw (o_store H 0 rfl (.agg #[yI ((x[k]!).qH),yI ((x[k]!).zM),.slice a12Need (((x[k]!).xm).length) c12Need,.slice a12Have (((x[k]!).xF).length) c12Have,.slice a12Lack (((x[k]!).xI).length) c12Lack,.slice a12Here (((x[k]!).xM).length) c12Here,.slice a12Out (((x[k]!).zV).length) c12Out,.slice a12Into (((x[k]!).qQ).length) c12Into,.bool ((x[k]!).zA)]) sizeOf121 rfl rfl (by simp [Value.oneCell',Value.cells]) (by have:(xs3).length=k * 9:=(by (exact hl3));simp [Value.cells];have:=fill_room (n:=x.length) (k:=k) (s:=9) qf;simp at this;omega) fun w14 H=>?_))
  replace H:St _ _ [.box b1 (xs3++[yI ((x[k]!).qH),yI ((x[k]!).zM),.slice a12Need (((x[k]!).xm).length) c12Need,.slice a12Have (((x[k]!).xF).length) c12Have,.slice a12Lack (((x[k]!).xI).length) c12Lack,.slice a12Here (((x[k]!).xM).length) c12Here,.slice a12Out (((x[k]!).zV).length) c12Out,.slice a12Into (((x[k]!).qQ).length) c12Into,.bool ((x[k]!).zA)]++(List.replicate (x.length - (k+1)) [yI 0,yI 0,yN,yN,yN,yN,yN,yN,.bool false]).flatten) 121] _:=(fill_put (vs:=[yI ((x[k]!).qH),yI ((x[k]!).zM),.slice a12Need (((x[k]!).xm).length) c12Need,.slice a12Have (((x[k]!).xF).length) c12Have,.slice a12Lack (((x[k]!).xI).length) c12Lack,.slice a12Here (((x[k]!).xM).length) c12Here,.slice a12Out (((x[k]!).zV).length) c12Out,.slice a12Into (((x[k]!).qQ).length) c12Into,.bool ((x[k]!).zA)]) (zs:=[yI 0,yI 0,yN,yN,yN,yN,yN,yN,.bool false]) (off:=0+(k:Int).toNat * 9) (xs:=xs3) (k:=k) (s:=9) (n:=x.length) (by (exact hl3)) qm rfl rfl qf)▸H
  replace H:St _ _ [.box b1 (xs3++[yI ((x[k]!).qH),yI ((x[k]!).zM),.slice a12Need (((x[k]!).xm).length) c12Need,.slice a12Have (((x[k]!).xF).length) c12Have,.slice a12Lack (((x[k]!).xI).length) c12Lack,.slice a12Here (((x[k]!).xM).length) c12Here,.slice a12Out (((x[k]!).zV).length) c12Out,.slice a12Into (((x[k]!).qQ).length) c12Into,.bool ((x[k]!).zA)]++(List.replicate (x.length - (k+1)) [yI 0,yI 0,yN,yN,yN,yN,yN,yN,.bool false]).flatten) 121] _:=H
  refine xZ (b_n (t_n (xY (sp (yI k) (sw (zC k 1 rfl rfl qf (sp (yI (k+1)) (xZ ?_))))))))
  replace H:=H.snoc_RuleD 13 rfl ((x[k]!).qH) ((x[k]!).zM) 0 rfl 1 rfl 2 rfl 3 rfl 4 rfl 5 rfl ((x[k]!).zA)
  rw [show (x.take k)++[⟨(x[k]!).qH,(x[k]!).zM,(x[k]!).xm,(x[k]!).xF,(x[k]!).xI,(x[k]!).xM,(x[k]!).zV,(x[k]!).qQ,(x[k]!).zA⟩]=x.take (k+1) from by exact take_snoc qf] at H
  refine xf (m' :=x.length - (k+1)) qf ⟨_,k+1,(xs3++[yI ((x[k]!).qH),yI ((x[k]!).zM),.slice a12Need (((x[k]!).xm).length) c12Need,.slice a12Have (((x[k]!).xF).length) c12Have,.slice a12Lack (((x[k]!).xI).length) c12Lack,.slice a12Here (((x[k]!).xM).length) c12Here,.slice a12Out (((x[k]!).zV).length) c12Out,.slice a12Into (((x[k]!).qQ).length) c12Into,.bool ((x[k]!).zA)]),(Fr3++(F12Need++F12Have++F12Lack++F12Here++F12Out++F12Into)),uE4,?_,?_,?_,?_,rfl,H.sel _ (.refl _) _ qm⟩
  · omega
  · first | (simp only [List.length_append,List.length_cons,List.length_nil];omega) | (simp [hl3];done) | (simp;omega)
  · exact XM nf3 f12
  · exact XJ nd3 d12 lt11 q12
 refine zx4 (zcr (sps [.slice (aa b1 0) x.length x.length,.slice (aa b1 0) x.length x.length] (zjr (ret1 (.slice (aa b1 0) x.length x.length) rfl rfl ⟨_,rfl,?_,H.base⟩))))
 rw [List.take_of_length_le (by omega:x.length≤k)] at H
 rw [fill_endN qf] at H
 replace H:=H.boxRow 0 rfl 9 x.length qf qp
 exact H.newRow 0 rfl 0 rfl qf ql ql

theorem toSystem_ok (w:World) (x:qG) {je:yOA} {Qq:yLN} {Qp:yOA} {XZ:yLN} (QN:qO.rep w Qq [.slice je x.qw.length jd] x.qw) (VR:qO.rep w XZ [.slice Qp x.qx.length Qm] x.qx) (p0:tot x≤2000000):Calls Tryz.prog 17 #[.agg #[yI x.xC,.slice je x.qw.length jd,.slice Qp x.qx.length Qm]] w (Ret (fun v w' =>New_SystemD w w' v x) w):=by
 refine en func17 ntmps17 ?_
 have H:=((St.start w).arg VR).arg QN
 have nhxParents:=qK QN
 have nhxRules:=qK VR
 clear QN VR
 have p1:=tot_SystemD x
 refine zcr (sw (o_box H (.agg #[yI x.xC,.slice je x.qw.length jd,.slice Qp x.qx.length Qm]) rfl fun b1 w2 H=>sw (o_alloc H ti36 fun b3 w4 H=>zjc (sw (o_alloc H ti36 fun b5 w6 H=>zjc (oF rfl (oL rfl (H.cell 2 rfl rfl) (oF rfl (sw (Qj H 0 rfl (yI x.xC) sizeOf2 rfl rfl rfl (Nat.le_of_ble_eq_true rfl) fun w7 H=>?_))))))))))
 replace H:St _ _ [.box b5 [yI x.xC,yN,yN] 36,.box b3 [yI 0,yN,yN] 36,.box b1 (yS x je jd Qp Qm) 25] _:=H
 refine zjc (oF rfl (oL rfl (H.cell 2 rfl rfl) ?_))
 have szx9:=H.base.size
 refine sw (oc (XQ _ x.qw (H.get 0 rfl).1 (by first | omega | (have:=p2 qf;omega))) ?_)
 rintro v10 w8 r10 x9
 obtain ⟨a10,c10,F10,rfl,f10,H⟩:=H.add_is x9 r10.isNew
 have d10:=f10.2
 have q10:=f10.1
 replace f10:∀ b∈F10,w.heap.size≤b:=fun b hb=>Nat.le_trans szx9 (f10.1 b hb)
 refine oF rfl (sw (Qj H 0 rfl (.slice a10 x.qw.length c10) sizeOf22 rfl rfl rfl (Nat.le_of_ble_eq_true rfl) fun w11 H=>?_))
 replace H:St _ _ [.box b5 [yI x.xC,.slice a10 x.qw.length c10,yN] 36,.box b3 [yI 0,yN,yN] 36,.box b1 (yS x je jd Qp Qm) 25] _:=H
 refine zjc (oF rfl (oL rfl (H.cell 2 rfl rfl) ?_))
 have szx13:=H.base.size
 have lt14:=H.isLt 0 rfl
 refine sw (oc (toRuleS_ok _ x.qx (H.get 2 rfl).1 (by first | omega | (have:=p2 qf;omega))) ?_)
 rintro v15 w12 r15 x13
 obtain ⟨a15,c15,F15,rfl,f15,H⟩:=H.add_is x13 r15.isNew
 have d15:=f15.2
 have q15:=f15.1
 replace f15:∀ b∈F15,w.heap.size≤b:=fun b hb=>Nat.le_trans szx13 (f15.1 b hb)
 refine oF rfl (sw (Qj H 0 rfl (.slice a15 x.qx.length c15) sizeOf34 rfl rfl rfl (Nat.le_of_ble_eq_true rfl) fun w16 H=>?_))
 replace H:St _ _ [.box b5 (yS x a10 c10 a15 c15) 36,.box b3 [yI 0,yN,yN] 36,.box b1 (yS x je jd Qp Qm) 25] _:=H
 refine zjc (sw (zn (yS x a10 c10 a15 c15) isAgg36 sizeOf36 rfl (qF (H.cells 0 rfl) 0 3) (sw (o_store H 1 rfl (.agg #[yI x.xC,.slice a10 x.qw.length c10,.slice a15 x.qx.length c15]) sizeOf36 rfl rfl (by simp [Value.oneCell',Value.cells]) (Nat.le_of_ble_eq_true rfl) fun w17 H=>?_))))
 replace H:St _ _ [.box b5 (yS x a10 c10 a15 c15) 36,.box b3 (yS x a10 c10 a15 c15) 36,.box b1 (yS x je jd Qp Qm) 25] _:=H
 refine zjr (retC H 1 rfl rfl isAgg36 sizeOf36 rfl ⟨_,rfl,(⟨_,_,_,_,_,_,rfl,(H.get 1 rfl).1,(H.get 0 rfl).1,(XM f10 f15),(XJ d10 d15 lt14 q15),(((H.get 1 rfl).2 rfl).app ((H.get 0 rfl).2 rfl))⟩),H.base⟩)

theorem toState_ok (w:World) (x:qJ) {yV:yOA} {XN:yLN} {Q8:yOA} {YT:yLN} {jF:yOA} {QM:yLN} (VS:qO.rep w XN [.slice yV x.qA.length yU] x.qA) (hxBags:qO.rep w YT [.slice Q8 x.qE.length Q5] x.qE) (Xy:qO.rep w QM [.slice jF x.qC.length jE] x.qC) (p0:tot x≤2000000):Calls Tryz.prog 18 #[.agg #[.slice yV x.qA.length yU,.slice Q8 x.qE.length Q5,.slice jF x.qC.length jE]] w (Ret (fun v w' =>New_StateD w w' v x) w):=by
 refine en func18 ntmps18 ?_
 have H:=(((St.start w).arg Xy).arg hxBags).arg VS
 have nhxAlive:=qK VS
 have nhxBags:=qK hxBags
 have nhxAround:=qK Xy
 clear VS hxBags Xy
 have p1:=tot_StateD x
 refine zcr (sw (o_box H (.agg #[.slice yV x.qA.length yU,.slice Q8 x.qE.length Q5,.slice jF x.qC.length jE]) rfl fun b1 w2 H=>sw (o_alloc H ti38 fun b3 w4 H=>zjc (sw (o_alloc H ti38 fun b5 w6 H=>?_)))))
 replace H:St _ _ [.box b5 [yN,yN,yN] 38,.box b3 [yN,yN,yN] 38,.box b1 (yT x yV yU Q8 Q5 jF jE) 29] _:=H
 refine zjc (oF rfl (oL rfl (H.cell 2 rfl rfl) ?_))
 have szx8:=H.base.size
 refine sw (oc (toBoolS_ok _ x.qA (H.get 0 rfl).1 (by first | omega | (have:=p2 qf;omega))) ?_)
 rintro v9 w7 r9 x8
 obtain ⟨a9,c9,F9,rfl,f9,H⟩:=H.add_is x8 r9.isNew
 have d9:=f9.2
 have q9:=f9.1
 replace f9:∀ b∈F9,w.heap.size≤b:=fun b hb=>Nat.le_trans szx8 (f9.1 b hb)
 refine oF rfl (sw (Qj H 0 rfl (.slice a9 x.qA.length c9) sizeOf26 rfl rfl rfl (Nat.le_of_ble_eq_true rfl) fun w10 H=>?_))
 replace H:St _ _ [.box b5 [.slice a9 x.qA.length c9,yN,yN] 38,.box b3 [yN,yN,yN] 38,.box b1 (yT x yV yU Q8 Q5 jF jE) 29] _:=H
 refine zjc (oF rfl (oL rfl (H.cell 2 rfl rfl) ?_))
 have szx12:=H.base.size
 have lt13:=H.isLt 0 rfl
 refine sw (oc (toInt64SS_ok _ x.qE (H.get 2 rfl).1 (by first | omega | (have:=p2 qf;omega))) ?_)
 rintro v14 w11 r14 x12
 obtain ⟨a14,c14,F14,rfl,f14,H⟩:=H.add_is x12 r14.isNew
 have d14:=f14.2
 have q14:=f14.1
 replace f14:∀ b∈F14,w.heap.size≤b:=fun b hb=>Nat.le_trans szx12 (f14.1 b hb)
 refine oF rfl (sw (Qj H 0 rfl (.slice a14 x.qE.length c14) sizeOf27 rfl rfl rfl (Nat.le_of_ble_eq_true rfl) fun w15 H=>?_))
 replace H:St _ _ [.box b5 [.slice a9 x.qA.length c9,.slice a14 x.qE.length c14,yN] 38,.box b3 [yN,yN,yN] 38,.box b1 (yT x yV yU Q8 Q5 jF jE) 29] _:=H
 refine zjc (oF rfl (oL rfl (H.cell 2 rfl rfl) ?_))
 have szx17:=H.base.size
 have lt18:=H.isLt 0 rfl
 have lt19:=H.isLt 1 rfl
 refine sw (oc (XQ _ x.qC (H.get 4 rfl).1 (by first | omega | (have:=p2 qf;omega))) ?_)
 rintro v20 w16 r20 x17
 obtain ⟨a20,c20,F20,rfl,f20,H⟩:=H.add_is x17 r20.isNew
 have d20:=f20.2
 have q20:=f20.1
 replace f20:∀ b∈F20,w.heap.size≤b:=fun b hb=>Nat.le_trans szx17 (f20.1 b hb)
 refine oF rfl (sw (Qj H 0 rfl (.slice a20 x.qC.length c20) sizeOf22 rfl rfl rfl (Nat.le_of_ble_eq_true rfl) fun w21 H=>?_))
 replace H:St _ _ [.box b5 (yT x a9 c9 a14 c14 a20 c20) 38,.box b3 [yN,yN,yN] 38,.box b1 (yT x yV yU Q8 Q5 jF jE) 29] _:=H
 refine zjc (sw (zn (yT x a9 c9 a14 c14 a20 c20) isAgg38 sizeOf38 rfl (qF (H.cells 0 rfl) 0 3) (sw (o_store H 1 rfl (.agg #[.slice a9 x.qA.length c9,.slice a14 x.qE.length c14,.slice a20 x.qC.length c20]) sizeOf38 rfl rfl (by simp [Value.oneCell',Value.cells]) (Nat.le_of_ble_eq_true rfl) fun w22 H=>?_))))
 replace H:St _ _ [.box b5 (yT x a9 c9 a14 c14 a20 c20) 38,.box b3 (yT x a9 c9 a14 c14 a20 c20) 38,.box b1 (yT x yV yU Q8 Q5 jF jE) 29] _:=H
 refine zjr (retC H 1 rfl rfl isAgg38 sizeOf38 rfl ⟨_,rfl,(⟨_,_,_,_,_,_,_,_,_,rfl,(H.get 2 rfl).1,(H.get 1 rfl).1,(H.get 0 rfl).1,(XM (XM f9 f14) f20),(XJ (XJ d9 d14 lt13 q14) d20 (VW lt19 lt18) q20),((((H.get 2 rfl).2 rfl).app ((H.get 1 rfl).2 rfl)).app ((H.get 0 rfl).2 rfl))⟩),H.base⟩)

theorem Xt (w:World) (x:yLI) (y:yLI) {ax:yOA} {Fx:yLN} {ay:yOA} {Fy:yLN} (hx:qO.rep w Fx [.slice ax x.length cx] x) (hy:qO.rep w Fy [.slice ay y.length cy] y):Calls Tryz.prog 65 #[.slice ax x.length cx,.slice ay y.length cy] w (Ret (fun v w' =>v=.bool (decide (x=y))) w):=by
 refine en func65 ntmps65 ?_
 have H:=((St.start w).arg hy).arg hx
 have nhx:=qK hx
 have nhy:=qK hy
 clear hx hy
 refine zcr (sp (.bool false) (zjcc (sp (.slice ax x.length cx) (oN rfl (sp (.slice ay y.length cy) (oN rfl (sp (.bool ((x.length:Int) != y.length)) (zjn (xK ((x.length:Int) != y.length) rfl (fun h1=>?_) (fun h1=>?_))))))))))
 ·skip
  replace h1:=bne_iff_ne.1 h1
  refine zcr (sp (.bool false) (zjr (t_r (ret1 (.bool false) rfl rfl ⟨_,rfl,?_,H.base⟩))))
  first | rw [decide_eq_false (fun e=>by subst e;omega)] | rw [decide_eq_false (vZ (k:=k) ‹_›)] | rw [decide_eq_true (jh (k:=k) qf qf ‹_›)]
 replace h1:=xq h1
 refine qU (t_n (zcc (sp (yI 0) (zjn (qX ?_)))))
 refine zu (fun m' ρ w2=>∃ (xU:Env) (k:Nat),ρ=upd (upd (upd xU 0 (.slice ax x.length cx)) 1 (.slice ay y.length cy)) 5 (yI k)∧(k≤x.length)∧(x.take k=y.take k)∧m' =x.length - k∧St w w2 [] [sF false Fx ax cx x,sF false Fy ay cy y]) (x.length - 0) ⟨_,0,uE3,qf,(by rfl),rfl,H⟩ ?_
 clear H
 rintro m' ρ w3 ⟨xU,k,rfl,i0,i1,rfl,H⟩
 refine zcc (sps [yI k,.slice ax x.length cx] (oN rfl (sp (.bool (decide ((k:Int) < x.length))) (zjn (cD rfl (fun h4=>?_) (fun h4=>?_))))))
 ·skip
  refine qU (t_n (xQ (qX (xQ ?_))))
  refine vT rfl H fun H=>rtp 0 (.slice ax x.length cx) H ?_
  refine rtp 1 (yI k) H ?_
  obtain ⟨b6,o7,rfl⟩:=H.addr 0 rfl qf
  refine tI 2 rfl rfl rfl H ?_
  refine tL 3 rfl rfl (fun _ h=>h.yu 0 rfl k qf) H ?_
  refine rtp 4 (.slice ay y.length cy) H ?_
  refine rtp 5 (yI k) H ?_
  obtain ⟨b8,o9,rfl⟩:=H.addr 1 rfl qf
  refine tI 6 rfl rfl rfl H ?_
  refine tL 7 rfl rfl (fun _ h=>h.yu 1 rfl k qf) H ?_
  refine rtp 8 (.bool ((x[k]! :Int) != (y[k]!))) H ?_
  refine xO qh (t_n (xK ((x[k]! :Int) != (y[k]!)) rfl (fun h10=>?_) (fun h10=>?_)))
  ·skip
   replace h10:=bne_iff_ne.1 h10
   refine zcr (sp (.bool false) (zjr (zr5 (ret1 (.bool false) rfl rfl ⟨_,rfl,?_,H.base⟩))))
   first | rw [decide_eq_false (fun e=>by subst e;omega)] | rw [decide_eq_false (vZ (k:=k) ‹_›)] | rw [decide_eq_true (jh (k:=k) qf qf ‹_›)]
  replace h10:=xq h10
  refine qU (b_n (t_n (xY (sp (yI k) (sw (zC k 1 rfl rfl qf (sp (yI (k+1)) (xZ (xf (m' :=x.length - (k+1)) qf ⟨_,k+1,uE3,?_,?_,rfl,H⟩)))))))))
  · omega
  · exact Xj qf qf ‹_› qg
 refine zx4 (zcr (sp (.bool true) (zjr (ret1 (.bool true) rfl rfl ⟨_,rfl,?_,H.base⟩))))
 first | rw [decide_eq_false (fun e=>by subst e;omega)] | rw [decide_eq_false (vZ (k:=k) ‹_›)] | rw [decide_eq_true (jh (k:=k) qf qf ‹_›)]

theorem eqBoolS_ok (w:World) (x:List Bool) (y:List Bool) {ax:yOA} {Fx:yLN} {ay:yOA} {Fy:yLN} (hx:qO.rep w Fx [.slice ax x.length cx] x) (hy:qO.rep w Fy [.slice ay y.length cy] y):Calls Tryz.prog 67 #[.slice ax x.length cx,.slice ay y.length cy] w (Ret (fun v w' =>v=.bool (decide (x=y))) w):=by
 refine en func67 ntmps67 ?_
 have H:=((St.start w).arg hy).arg hx
 have nhx:=qK hx
 have nhy:=qK hy
 clear hx hy
 refine zcr (sp (.bool false) (zjcc (sp (.slice ax x.length cx) (oN rfl (sp (.slice ay y.length cy) (oN rfl (sp (.bool ((x.length:Int) != y.length)) (zjn (xK ((x.length:Int) != y.length) rfl (fun h1=>?_) (fun h1=>?_))))))))))
 ·skip
  replace h1:=bne_iff_ne.1 h1
  refine zcr (sp (.bool false) (zjr (t_r (ret1 (.bool false) rfl rfl ⟨_,rfl,?_,H.base⟩))))
  first | rw [decide_eq_false (fun e=>by subst e;omega)] | rw [decide_eq_false (vZ (k:=k) ‹_›)] | rw [decide_eq_true (jh (k:=k) qf qf ‹_›)]
 replace h1:=xq h1
 refine qU (t_n (zcc (sp (yI 0) (zjn (qX ?_)))))
 refine zu (fun m' ρ w2=>∃ (xU:Env) (k:Nat),ρ=upd (upd (upd xU 0 (.slice ax x.length cx)) 1 (.slice ay y.length cy)) 5 (yI k)∧(k≤x.length)∧(x.take k=y.take k)∧m' =x.length - k∧St w w2 [] [sF false Fx ax cx x,sF false Fy ay cy y]) (x.length - 0) ⟨_,0,uE3,qf,(by rfl),rfl,H⟩ ?_
 clear H
 rintro m' ρ w3 ⟨xU,k,rfl,i0,i1,rfl,H⟩
 refine zcc (sps [yI k,.slice ax x.length cx] (oN rfl (sp (.bool (decide ((k:Int) < x.length))) (zjn (cD rfl (fun h4=>?_) (fun h4=>?_))))))
 ·skip
  refine qU (t_n (xQ (qX (xQ ?_))))
  refine vT rfl H fun H=>rtp 0 (.slice ax x.length cx) H ?_
  refine rtp 1 (yI k) H ?_
  obtain ⟨b6,o7,rfl⟩:=H.addr 0 rfl qf
  refine tI 2 rfl rfl rfl H ?_
  refine tL 3 rfl rfl (fun _ h=>h.elemBoolN 0 rfl k qf) H ?_
  refine rtp 4 (.slice ay y.length cy) H ?_
  refine rtp 5 (yI k) H ?_
  obtain ⟨b8,o9,rfl⟩:=H.addr 1 rfl qf
  refine tI 6 rfl rfl rfl H ?_
  refine tL 7 rfl rfl (fun _ h=>h.elemBoolN 1 rfl k qf) H ?_
  refine rt 8 (.bool ((x[k]!) != (y[k]!))) (y_neB underlying4 (x[k]!) (y[k]!) rfl rfl) H ?_
  refine xO qh (t_n (xK ((x[k]!) != (y[k]!)) rfl (fun h10=>?_) (fun h10=>?_)))
  ·skip
   replace h10:=bne_iff_ne.1 h10
   refine zcr (sp (.bool false) (zjr (zr5 (ret1 (.bool false) rfl rfl ⟨_,rfl,?_,H.base⟩))))
   first | rw [decide_eq_false (fun e=>by subst e;omega)] | rw [decide_eq_false (vZ (k:=k) ‹_›)] | rw [decide_eq_true (jh (k:=k) qf qf ‹_›)]
  replace h10:=xq h10
  refine qU (b_n (t_n (xY (sp (yI k) (sw (zC k 1 rfl rfl qf (sp (yI (k+1)) (xZ (xf (m' :=x.length - (k+1)) qf ⟨_,k+1,uE3,?_,?_,rfl,H⟩)))))))))
  · omega
  · exact Xj qf qf ‹_› qg
 refine zx4 (zcr (sp (.bool true) (zjr (ret1 (.bool true) rfl rfl ⟨_,rfl,?_,H.base⟩))))
 first | rw [decide_eq_false (fun e=>by subst e;omega)] | rw [decide_eq_false (vZ (k:=k) ‹_›)] | rw [decide_eq_true (jh (k:=k) qf qf ‹_›)]

theorem eqInt64SS_ok (w:World) (x:yLL) (y:yLL) {ax:yOA} {Fx:yLN} {ay:yOA} {Fy:yLN} (hx:qO.rep w Fx [.slice ax x.length cx] x) (hy:qO.rep w Fy [.slice ay y.length cy] y):Calls Tryz.prog 20 #[.slice ax x.length cx,.slice ay y.length cy] w (Ret (fun v w' =>v=.bool (decide (x=y))) w):=by
 refine en func20 ntmps20 ?_
 have H:=((St.start w).arg hy).arg hx
 have nhx:=qK hx
 have nhy:=qK hy
 clear hx hy
 refine zcr (sp (.bool false) (zjcc (sp (.slice ax x.length cx) (oN rfl (sp (.slice ay y.length cy) (oN rfl (sp (.bool ((x.length:Int) != y.length)) (zjn (xK ((x.length:Int) != y.length) rfl (fun h1=>?_) (fun h1=>?_))))))))))
 ·skip
  replace h1:=bne_iff_ne.1 h1
  refine zcr (sp (.bool false) (zjr (t_r (ret1 (.bool false) rfl rfl ⟨_,rfl,?_,H.base⟩))))
  first | rw [decide_eq_false (fun e=>by subst e;omega)] | rw [decide_eq_false (vZ (k:=k) ‹_›)] | rw [decide_eq_true (jh (k:=k) qf qf ‹_›)]
 replace h1:=xq h1
 refine qU (t_n (zcc (sp (yI 0) (zjn (qX ?_)))))
 refine zu (fun m' ρ w2=>∃ (xU:Env) (k:Nat),ρ=upd (upd (upd xU 0 (.slice ax x.length cx)) 1 (.slice ay y.length cy)) 5 (yI k)∧(k≤x.length)∧(x.take k=y.take k)∧m' =x.length - k∧St w w2 [] [sF false Fx ax cx x,sF false Fy ay cy y]) (x.length - 0) ⟨_,0,uE3,qf,(by rfl),rfl,H⟩ ?_
 clear H
 rintro m' ρ w3 ⟨xU,k,rfl,i0,i1,rfl,H⟩
 refine zcc (sps [yI k,.slice ax x.length cx] (oN rfl (sp (.bool (decide ((k:Int) < x.length))) (zjn (cD rfl (fun h4=>?_) (fun h4=>?_))))))
 ·skip
  refine qU (t_n (xQ (qX (xQ ?_))))
  refine vT rfl H fun H=>rtp 0 (.slice ax x.length cx) H ?_
  refine rtp 1 (yI k) H ?_
  obtain ⟨b6,o7,rfl⟩:=H.addr 0 rfl qf
  obtain ⟨ae8,ce8,Fe8,H⟩:=H.vM 0 rfl k k qf qf qf
  refine tI 2 rfl rfl rfl (H.sel _ (.refl _) _ (fun _ h=>List.mem_cons_of_mem _ (List.mem_cons_of_mem _ (h)))) ?_
  refine rtp 4 (.slice ay y.length cy) (H.sel _ (.refl _) _ (fun _ h=>List.mem_cons_of_mem _ (List.mem_cons_of_mem _ (h)))) ?_
  refine rtp 5 (yI k) (H.sel _ (.refl _) _ (fun _ h=>List.mem_cons_of_mem _ (List.mem_cons_of_mem _ (h)))) ?_
  obtain ⟨b9,o10,rfl⟩:=H.addr 3 rfl qf
  obtain ⟨ae11,ce11,Fe11,H⟩:=H.vM 3 rfl k k qf qf qf
  refine tI 6 rfl rfl rfl (H.sel _ (.refl _) _ (fun _ h=>List.mem_cons_of_mem _ (List.mem_cons_of_mem _ (List.mem_cons_of_mem _ (List.mem_cons_of_mem _ (h)))))) ?_
  refine ji [3,7] qh qm (Qg rfl ?_ (Qg rfl ?_ jk))
  ·skip
   refine zN (.slice ae8 ((x[k]!).length) ce8) isAgg22 rfl (H.xW 3 rfl 0 rfl) (⟨H.dF 4,(ro 7 rfl (zN (.slice ae11 ((y[k]!).length) ce11) isAgg22 rfl (H.xW 1 rfl 0 rfl) (⟨H.dF 4,(ro 8 rfl (oq (Xt _ (x[k]!) (y[k]!) (H.get 2 rfl).1 (H.get 0 rfl).1) H fun w12 H=>⟨H.dF 4,(rtp 9 (.bool (!(decide ((x[k]!)=(y[k]!))))) (H.sel _ (.refl _) _ (fun _ h=>List.mem_cons_of_mem _ (List.mem_cons_of_mem _ (List.mem_cons_of_mem _ (List.mem_cons_of_mem _ (h)))))) ?_)⟩))⟩)))⟩)
   refine xO qh (t_n (xK (!(decide ((x[k]!)=(y[k]!)))) rfl (fun h14=>?_) (fun h14=>?_)))
   ·skip
    replace h14:=xw h14
    replace h14:=of_decide_eq_false h14
    refine zcr (sp (.bool false) (zjr (zr5 (ret1 (.bool false) rfl rfl ⟨_,rfl,?_,H.base⟩))))
    first | rw [decide_eq_false (fun e=>by subst e;omega)] | rw [decide_eq_false (vZ (k:=k) ‹_›)] | rw [decide_eq_true (jh (k:=k) qf qf ‹_›)]
   replace h14:=xh h14
   replace h14:=of_decide_eq_true h14
   refine qU (b_n (t_n (xY (sp (yI k) (sw (zC k 1 rfl rfl qf (sp (yI (k+1)) (xZ (xf (m' :=x.length - (k+1)) qf ⟨_,k+1,uE3,?_,?_,rfl,H.sel _ (.refl _) _ qm⟩)))))))))
   · omega
   · exact Xj qf qf ‹_› qg
  refine zN (.slice ae11 ((y[k]!).length) ce11) isAgg22 rfl (H.xW 1 rfl 0 rfl) (⟨H.dF 4,(ro 3 rfl (zN (.slice ae8 ((x[k]!).length) ce8) isAgg22 rfl (H.xW 3 rfl 0 rfl) (⟨H.dF 4,(ro 8 rfl (oq (Xt _ (x[k]!) (y[k]!) (H.get 2 rfl).1 (H.get 0 rfl).1) H fun w15 H=>⟨H.dF 4,(rtp 9 (.bool (!(decide ((x[k]!)=(y[k]!))))) (H.sel _ (.refl _) _ (fun _ h=>List.mem_cons_of_mem _ (List.mem_cons_of_mem _ (List.mem_cons_of_mem _ (List.mem_cons_of_mem _ (h)))))) ?_)⟩))⟩)))⟩)
  refine xO qh (t_n (xK (!(decide ((x[k]!)=(y[k]!)))) rfl (fun h17=>?_) (fun h17=>?_)))
  ·skip
   replace h17:=xw h17
   replace h17:=of_decide_eq_false h17
   refine zcr (sp (.bool false) (zjr (zr5 (ret1 (.bool false) rfl rfl ⟨_,rfl,?_,H.base⟩))))
   first | rw [decide_eq_false (fun e=>by subst e;omega)] | rw [decide_eq_false (vZ (k:=k) ‹_›)] | rw [decide_eq_true (jh (k:=k) qf qf ‹_›)]
  replace h17:=xh h17
  replace h17:=of_decide_eq_true h17
  refine qU (b_n (t_n (xY (sp (yI k) (sw (zC k 1 rfl rfl qf (sp (yI (k+1)) (xZ (xf (m' :=x.length - (k+1)) qf ⟨_,k+1,uE3,?_,?_,rfl,H.sel _ (.refl _) _ qm⟩)))))))))
  · omega
  · exact Xj qf qf ‹_› qg
 refine zx4 (zcr (sp (.bool true) (zjr (ret1 (.bool true) rfl rfl ⟨_,rfl,?_,H.base⟩))))
 first | rw [decide_eq_false (fun e=>by subst e;omega)] | rw [decide_eq_false (vZ (k:=k) ‹_›)] | rw [decide_eq_true (jh (k:=k) qf qf ‹_›)]

theorem eqInto_ok (w:World) (x:IntoD) (y:IntoD) {axBag:yOA} {FxBag:yLN} {ayBag:yOA} {cyBag:Nat} {FyBag:yLN} (hxBag:qO.rep w FxBag [.slice axBag x.jy.length cxBag] x.jy) (hyBag:qO.rep w FyBag [.slice ayBag y.jy.length cyBag] y.jy):Calls Tryz.prog 179 #[.agg #[yI x.qH,.slice axBag x.jy.length cxBag],.agg #[yI y.qH,.slice ayBag y.jy.length cyBag]] w (Ret (fun v w' =>v=.bool (decide (x=y))) w):=by
 refine en func179 ntmps179 ?_
 have H:=((St.start w).arg hyBag).arg hxBag
 have nhxBag:=qK hxBag
 have nhyBag:=qK hyBag
 clear hxBag hyBag
 refine zcr (sw (o_box H (.agg #[yI x.qH,.slice axBag x.jy.length cxBag]) rfl fun b1 w2 H=>sw (o_box H (.agg #[yI y.qH,.slice ayBag y.jy.length cyBag]) rfl fun b3 w4 H=>?_)))
 replace H:St _ _ [.box b3 [yI y.qH,.slice ayBag y.jy.length cyBag] 164,.box b1 [yI x.qH,.slice axBag x.jy.length cxBag] 164] _:=H
 refine sp (.bool false) (zjcc (oF rfl (oL rfl (H.cell 1 rfl rfl) (oF rfl (oL rfl (H.cell 0 rfl rfl) (sp (.bool ((x.qH:Int) != y.qH)) (zjn (xK ((x.qH:Int) != y.qH) rfl (fun h5=>?_) (fun h5=>?_)))))))))
 ·skip
  replace h5:=bne_iff_ne.1 h5
  refine zcr (sp (.bool false) (zjr (t_r (ret1 (.bool false) rfl rfl ⟨_,rfl,?_,H.base⟩))))
  rw [decide_eq_false (fun e=>by subst e;simp_all)]
 replace h5:=xq h5
 refine qU (t_n (zcc (oF rfl (oL rfl (H.cell 1 rfl rfl) (oF rfl (oL rfl (H.cell 0 rfl rfl) (sw (oq (Xt _ x.jy y.jy (H.get 0 rfl).1 (H.get 1 rfl).1) H fun w6 H=>sp (.bool (!(decide (x.jy=y.jy)))) (zjn (xK (!(decide (x.jy=y.jy))) rfl (fun h8=>?_) (fun h8=>?_)))))))))))
 ·skip
  replace h8:=xw h8
  replace h8:=of_decide_eq_false h8
  refine zcr (sp (.bool false) (zjr (t_r (ret1 (.bool false) rfl rfl ⟨_,rfl,?_,H.base⟩))))
  rw [decide_eq_false (fun e=>by subst e;simp_all)]
 replace h8:=xh h8
 replace h8:=of_decide_eq_true h8
 refine qU (t_n (zcr (sp (.bool true) (zjr (ret1 (.bool true) rfl rfl ⟨_,rfl,?_,H.base⟩)))))
 rw [decide_eq_true (by cases x;cases y;simp_all)]

theorem eqIntoS_ok (w:World) (x:List IntoD) (y:List IntoD) {ax:yOA} {Fx:yLN} {ay:yOA} {Fy:yLN} (hx:qO.rep w Fx [.slice ax x.length cx] x) (hy:qO.rep w Fy [.slice ay y.length cy] y):Calls Tryz.prog 143 #[.slice ax x.length cx,.slice ay y.length cy] w (Ret (fun v w' =>v=.bool (decide (x=y))) w):=by
 refine en func143 ntmps143 ?_
 have H:=((St.start w).arg hy).arg hx
 have nhx:=qK hx
 have nhy:=qK hy
 clear hx hy
 refine zcr (sp (.bool false) (zjcc (sp (.slice ax x.length cx) (oN rfl (sp (.slice ay y.length cy) (oN rfl (sp (.bool ((x.length:Int) != y.length)) (zjn (xK ((x.length:Int) != y.length) rfl (fun h1=>?_) (fun h1=>?_))))))))))
 ·skip
  replace h1:=bne_iff_ne.1 h1
  refine zcr (sp (.bool false) (zjr (t_r (ret1 (.bool false) rfl rfl ⟨_,rfl,?_,H.base⟩))))
  first | rw [decide_eq_false (fun e=>by subst e;omega)] | rw [decide_eq_false (vZ (k:=k) ‹_›)] | rw [decide_eq_true (jh (k:=k) qf qf ‹_›)]
 replace h1:=xq h1
 refine qU (t_n (zcc (sp (yI 0) (zjn (qX ?_)))))
 refine zu (fun m' ρ w2=>∃ (xU:Env) (k:Nat),ρ=upd (upd (upd xU 0 (.slice ax x.length cx)) 1 (.slice ay y.length cy)) 5 (yI k)∧(k≤x.length)∧(x.take k=y.take k)∧m' =x.length - k∧St w w2 [] [sF false Fx ax cx x,sF false Fy ay cy y]) (x.length - 0) ⟨_,0,uE3,qf,(by rfl),rfl,H⟩ ?_
 clear H
 rintro m' ρ w3 ⟨xU,k,rfl,i0,i1,rfl,H⟩
 refine zcc (sps [yI k,.slice ax x.length cx] (oN rfl (sp (.bool (decide ((k:Int) < x.length))) (zjn (cD rfl (fun h4=>?_) (fun h4=>?_))))))
 ·skip
  refine qU (t_n (xQ (qX (xQ ?_))))
  refine vT rfl H fun H=>rtp 0 (.slice ax x.length cx) H ?_
  refine rtp 1 (yI k) H ?_
  obtain ⟨b6,o7,rfl⟩:=H.addr 0 rfl qf
  obtain ⟨ae8Bag,ce8Bag,Fe8Bag,H⟩:=H.jS 0 rfl k k qf qf qf
  refine tI 2 rfl rfl rfl (H.sel _ (.refl _) _ (fun _ h=>List.mem_cons_of_mem _ (List.mem_cons_of_mem _ (h)))) ?_
  refine rtp 4 (.slice ay y.length cy) (H.sel _ (.refl _) _ (fun _ h=>List.mem_cons_of_mem _ (List.mem_cons_of_mem _ (h)))) ?_
  refine rtp 5 (yI k) (H.sel _ (.refl _) _ (fun _ h=>List.mem_cons_of_mem _ (List.mem_cons_of_mem _ (h)))) ?_
  obtain ⟨b9,o10,rfl⟩:=H.addr 3 rfl qf
  obtain ⟨ae11Bag,ce11Bag,Fe11Bag,H⟩:=H.jS 3 rfl k k qf qf qf
  refine tI 6 rfl rfl rfl (H.sel _ (.refl _) _ (fun _ h=>List.mem_cons_of_mem _ (List.mem_cons_of_mem _ (List.mem_cons_of_mem _ (List.mem_cons_of_mem _ (h)))))) ?_
  refine ji [3,7] qh qm (Qg rfl ?_ (Qg rfl ?_ jk))
  ·skip
   refine zn [yI ((x[k]!).qH),.slice ae8Bag (((x[k]!).jy).length) ce8Bag] isAgg164 sizeOf164 rfl (qF (H.get 3 rfl) 0 2) (⟨H.dF 4,(ro 7 rfl (zn [yI ((y[k]!).qH),.slice ae11Bag (((y[k]!).jy).length) ce11Bag] isAgg164 sizeOf164 rfl (qF (H.get 1 rfl) 0 2) (⟨H.dF 4,(ro 8 rfl (oq (eqInto_ok _ (x[k]!) (y[k]!) (H.get 2 rfl).1 (H.get 0 rfl).1) H fun w12 H=>⟨H.dF 4,(rtp 9 (.bool (!(decide ((x[k]!)=(y[k]!))))) (H.sel _ (.refl _) _ (fun _ h=>List.mem_cons_of_mem _ (List.mem_cons_of_mem _ (List.mem_cons_of_mem _ (List.mem_cons_of_mem _ (h)))))) ?_)⟩))⟩)))⟩)
   refine xO qh (t_n (xK (!(decide ((x[k]!)=(y[k]!)))) rfl (fun h14=>?_) (fun h14=>?_)))
   ·skip
    replace h14:=xw h14
    replace h14:=of_decide_eq_false h14
    refine zcr (sp (.bool false) (zjr (zr5 (ret1 (.bool false) rfl rfl ⟨_,rfl,?_,H.base⟩))))
    first | rw [decide_eq_false (fun e=>by subst e;omega)] | rw [decide_eq_false (vZ (k:=k) ‹_›)] | rw [decide_eq_true (jh (k:=k) qf qf ‹_›)]
   replace h14:=xh h14
   replace h14:=of_decide_eq_true h14
   refine qU (b_n (t_n (xY (sp (yI k) (sw (zC k 1 rfl rfl qf (sp (yI (k+1)) (xZ (xf (m' :=x.length - (k+1)) qf ⟨_,k+1,uE3,?_,?_,rfl,H.sel _ (.refl _) _ qm⟩)))))))))
   · omega
   · exact Xj qf qf ‹_› qg
  refine zn [yI ((y[k]!).qH),.slice ae11Bag (((y[k]!).jy).length) ce11Bag] isAgg164 sizeOf164 rfl (qF (H.get 1 rfl) 0 2) (⟨H.dF 4,(ro 3 rfl (zn [yI ((x[k]!).qH),.slice ae8Bag (((x[k]!).jy).length) ce8Bag] isAgg164 sizeOf164 rfl (qF (H.get 3 rfl) 0 2) (⟨H.dF 4,(ro 8 rfl (oq (eqInto_ok _ (x[k]!) (y[k]!) (H.get 2 rfl).1 (H.get 0 rfl).1) H fun w15 H=>⟨H.dF 4,(rtp 9 (.bool (!(decide ((x[k]!)=(y[k]!))))) (H.sel _ (.refl _) _ (fun _ h=>List.mem_cons_of_mem _ (List.mem_cons_of_mem _ (List.mem_cons_of_mem _ (List.mem_cons_of_mem _ (h)))))) ?_)⟩))⟩)))⟩)
  refine xO qh (t_n (xK (!(decide ((x[k]!)=(y[k]!)))) rfl (fun h17=>?_) (fun h17=>?_)))
  ·skip
   replace h17:=xw h17
   replace h17:=of_decide_eq_false h17
   refine zcr (sp (.bool false) (zjr (zr5 (ret1 (.bool false) rfl rfl ⟨_,rfl,?_,H.base⟩))))
   first | rw [decide_eq_false (fun e=>by subst e;omega)] | rw [decide_eq_false (vZ (k:=k) ‹_›)] | rw [decide_eq_true (jh (k:=k) qf qf ‹_›)]
  replace h17:=xh h17
  replace h17:=of_decide_eq_true h17
  refine qU (b_n (t_n (xY (sp (yI k) (sw (zC k 1 rfl rfl qf (sp (yI (k+1)) (xZ (xf (m' :=x.length - (k+1)) qf ⟨_,k+1,uE3,?_,?_,rfl,H.sel _ (.refl _) _ qm⟩)))))))))
  · omega
  · exact Xj qf qf ‹_› qg
 refine zx4 (zcr (sp (.bool true) (zjr (ret1 (.bool true) rfl rfl ⟨_,rfl,?_,H.base⟩))))
 first | rw [decide_eq_false (fun e=>by subst e;omega)] | rw [decide_eq_false (vZ (k:=k) ‹_›)] | rw [decide_eq_true (jh (k:=k) qf qf ‹_›)]

theorem eqRule_ok (w:World) (x:QU) (y:QU) {Yd:yOA} {FxNeed:yLN} {Yh:yOA} {FxHave:yLN} {Ye:yOA} {FxLack:yLN} {Yg:yOA} {FxHere:yLN} {axOut:yOA} {FxOut:yLN} {Yf:yOA} {FxInto:yLN} {ayNeed:yOA} {cyNeed:Nat} {FyNeed:yLN} {ayHave:yOA} {cyHave:Nat} {FyHave:yLN} {ayLack:yOA} {cyLack:Nat} {FyLack:yLN} {ayHere:yOA} {cyHere:Nat} {FyHere:yLN} {ayOut:yOA} {cyOut:Nat} {FyOut:yLN} {ayInto:yOA} {cyInto:Nat} {FyInto:yLN} (hxNeed:qO.rep w FxNeed [.slice Yd x.xm.length VZ] x.xm) (hxHave:qO.rep w FxHave [.slice Yh x.xF.length V6] x.xF) (hxLack:qO.rep w FxLack [.slice Ye x.xI.length V3] x.xI) (hxHere:qO.rep w FxHere [.slice Yg x.xM.length V5] x.xM) (hxOut:qO.rep w FxOut [.slice axOut x.zV.length cxOut] x.zV) (hxInto:qO.rep w FxInto [.slice Yf x.qQ.length V4] x.qQ) (hyNeed:qO.rep w FyNeed [.slice ayNeed y.xm.length cyNeed] y.xm) (hyHave:qO.rep w FyHave [.slice ayHave y.xF.length cyHave] y.xF) (hyLack:qO.rep w FyLack [.slice ayLack y.xI.length cyLack] y.xI) (hyHere:qO.rep w FyHere [.slice ayHere y.xM.length cyHere] y.xM) (hyOut:qO.rep w FyOut [.slice ayOut y.zV.length cyOut] y.zV) (hyInto:qO.rep w FyInto [.slice ayInto y.qQ.length cyInto] y.qQ):Calls Tryz.prog 109 #[.agg #[yI x.qH,yI x.zM,.slice Yd x.xm.length VZ,.slice Yh x.xF.length V6,.slice Ye x.xI.length V3,.slice Yg x.xM.length V5,.slice axOut x.zV.length cxOut,.slice Yf x.qQ.length V4,.bool x.zA],.agg #[yI y.qH,yI y.zM,.slice ayNeed y.xm.length cyNeed,.slice ayHave y.xF.length cyHave,.slice ayLack y.xI.length cyLack,.slice ayHere y.xM.length cyHere,.slice ayOut y.zV.length cyOut,.slice ayInto y.qQ.length cyInto,.bool y.zA]] w (Ret (fun v w' =>v=.bool (decide (x=y))) w):=by
 refine en func109 ntmps109 ?_
 have H:=((((((((((((St.start w).arg hyInto).arg hyOut).arg hyHere).arg hyLack).arg hyHave).arg hyNeed).arg hxInto).arg hxOut).arg hxHere).arg hxLack).arg hxHave).arg hxNeed
 have nhxNeed:=qK hxNeed
 have nhxHave:=qK hxHave
 have nhxLack:=qK hxLack
 have nhxHere:=qK hxHere
 have nhxOut:=qK hxOut
 have nhxInto:=qK hxInto
 have nhyNeed:=qK hyNeed
 have nhyHave:=qK hyHave
 have nhyLack:=qK hyLack
 have nhyHere:=qK hyHere
 have nhyOut:=qK hyOut
 have nhyInto:=qK hyInto
 clear hxNeed hxHave hxLack hxHere hxOut hxInto hyNeed hyHave hyLack hyHere hyOut hyInto
 refine zcr (sw (o_box H (.agg #[yI x.qH,yI x.zM,.slice Yd x.xm.length VZ,.slice Yh x.xF.length V6,.slice Ye x.xI.length V3,.slice Yg x.xM.length V5,.slice axOut x.zV.length cxOut,.slice Yf x.qQ.length V4,.bool x.zA]) rfl fun b1 w2 H=>sw (o_box H (.agg #[yI y.qH,yI y.zM,.slice ayNeed y.xm.length cyNeed,.slice ayHave y.xF.length cyHave,.slice ayLack y.xI.length cyLack,.slice ayHere y.xM.length cyHere,.slice ayOut y.zV.length cyOut,.slice ayInto y.qQ.length cyInto,.bool y.zA]) rfl fun b3 w4 H=>?_)))
 replace H:St _ _ [.box b3 [yI y.qH,yI y.zM,.slice ayNeed y.xm.length cyNeed,.slice ayHave y.xF.length cyHave,.slice ayLack y.xI.length cyLack,.slice ayHere y.xM.length cyHere,.slice ayOut y.zV.length cyOut,.slice ayInto y.qQ.length cyInto,.bool y.zA] 121,.box b1 [yI x.qH,yI x.zM,.slice Yd x.xm.length VZ,.slice Yh x.xF.length V6,.slice Ye x.xI.length V3,.slice Yg x.xM.length V5,.slice axOut x.zV.length cxOut,.slice Yf x.qQ.length V4,.bool x.zA] 121] _:=H
 refine sp (.bool false) (zjcc (oF rfl (oL rfl (H.cell 1 rfl rfl) (oF rfl (oL rfl (H.cell 0 rfl rfl) (sp (.bool ((x.qH:Int) != y.qH)) (zjn (xK ((x.qH:Int) != y.qH) rfl (fun h5=>?_) (fun h5=>?_)))))))))
 ·skip
  replace h5:=bne_iff_ne.1 h5
  refine zcr (sp (.bool false) (zjr (t_r (ret1 (.bool false) rfl rfl ⟨_,rfl,?_,H.base⟩))))
  rw [decide_eq_false (fun e=>by subst e;simp_all)]
 replace h5:=xq h5
 refine qU (t_n (zcc (oF rfl (oL rfl (H.cell 1 rfl rfl) (oF rfl (oL rfl (H.cell 0 rfl rfl) (sp (.bool ((x.zM:Int) != y.zM)) (zjn (xK ((x.zM:Int) != y.zM) rfl (fun h6=>?_) (fun h6=>?_))))))))))
 ·skip
  replace h6:=bne_iff_ne.1 h6
  refine zcr (sp (.bool false) (zjr (t_r (ret1 (.bool false) rfl rfl ⟨_,rfl,?_,H.base⟩))))
  rw [decide_eq_false (fun e=>by subst e;simp_all)]
 replace h6:=xq h6
 refine qU (t_n (zcc (oF rfl (oL rfl (H.cell 1 rfl rfl) (oF rfl (oL rfl (H.cell 0 rfl rfl) (sw (oq (Xt _ x.xm y.xm (H.get 0 rfl).1 (H.get 6 rfl).1) H fun w7 H=>sp (.bool (!(decide (x.xm=y.xm)))) (zjn (xK (!(decide (x.xm=y.xm))) rfl (fun h9=>?_) (fun h9=>?_)))))))))))
 ·skip
  replace h9:=xw h9
  replace h9:=of_decide_eq_false h9
  refine zcr (sp (.bool false) (zjr (t_r (ret1 (.bool false) rfl rfl ⟨_,rfl,?_,H.base⟩))))
  rw [decide_eq_false (fun e=>by subst e;simp_all)]
 replace h9:=xh h9
 replace h9:=of_decide_eq_true h9
 refine qU (t_n (zcc (oF rfl (oL rfl (H.cell 1 rfl rfl) (oF rfl (oL rfl (H.cell 0 rfl rfl) (sw (oq (Xt _ x.xF y.xF (H.get 1 rfl).1 (H.get 7 rfl).1) H fun w10 H=>sp (.bool (!(decide (x.xF=y.xF)))) (zjn (xK (!(decide (x.xF=y.xF))) rfl (fun h12=>?_) (fun h12=>?_)))))))))))
 ·skip
  replace h12:=xw h12
  replace h12:=of_decide_eq_false h12
  refine zcr (sp (.bool false) (zjr (t_r (ret1 (.bool false) rfl rfl ⟨_,rfl,?_,H.base⟩))))
  rw [decide_eq_false (fun e=>by subst e;simp_all)]
 replace h12:=xh h12
 replace h12:=of_decide_eq_true h12
 refine qU (t_n (zcc (oF rfl (oL rfl (H.cell 1 rfl rfl) (oF rfl (oL rfl (H.cell 0 rfl rfl) (sw (oq (Xt _ x.xI y.xI (H.get 2 rfl).1 (H.get 8 rfl).1) H fun w13 H=>sp (.bool (!(decide (x.xI=y.xI)))) (zjn (xK (!(decide (x.xI=y.xI))) rfl (fun h15=>?_) (fun h15=>?_)))))))))))
 ·skip
  replace h15:=xw h15
  replace h15:=of_decide_eq_false h15
  refine zcr (sp (.bool false) (zjr (t_r (ret1 (.bool false) rfl rfl ⟨_,rfl,?_,H.base⟩))))
  rw [decide_eq_false (fun e=>by subst e;simp_all)]
 replace h15:=xh h15
 replace h15:=of_decide_eq_true h15
 refine qU (t_n (zcc (oF rfl (oL rfl (H.cell 1 rfl rfl) (oF rfl (oL rfl (H.cell 0 rfl rfl) (sw (oq (Xt _ x.xM y.xM (H.get 3 rfl).1 (H.get 9 rfl).1) H fun w16 H=>sp (.bool (!(decide (x.xM=y.xM)))) (zjn (xK (!(decide (x.xM=y.xM))) rfl (fun h18=>?_) (fun h18=>?_)))))))))))
 ·skip
  replace h18:=xw h18
  replace h18:=of_decide_eq_false h18
  refine zcr (sp (.bool false) (zjr (t_r (ret1 (.bool false) rfl rfl ⟨_,rfl,?_,H.base⟩))))
  rw [decide_eq_false (fun e=>by subst e;simp_all)]
 replace h18:=xh h18
 replace h18:=of_decide_eq_true h18
 refine qU (t_n (zcc (oF rfl (oL rfl (H.cell 1 rfl rfl) (oF rfl (oL rfl (H.cell 0 rfl rfl) (sw (oq (Xt _ x.zV y.zV (H.get 4 rfl).1 (H.get 10 rfl).1) H fun w19 H=>sp (.bool (!(decide (x.zV=y.zV)))) (zjn (xK (!(decide (x.zV=y.zV))) rfl (fun h21=>?_) (fun h21=>?_)))))))))))
 ·skip
  replace h21:=xw h21
  replace h21:=of_decide_eq_false h21
  refine zcr (sp (.bool false) (zjr (t_r (ret1 (.bool false) rfl rfl ⟨_,rfl,?_,H.base⟩))))
  rw [decide_eq_false (fun e=>by subst e;simp_all)]
 replace h21:=xh h21
 replace h21:=of_decide_eq_true h21
 refine qU (t_n (zcc (oF rfl (oL rfl (H.cell 1 rfl rfl) (oF rfl (oL rfl (H.cell 0 rfl rfl) (sw (oq (eqIntoS_ok _ x.qQ y.qQ (H.get 5 rfl).1 (H.get 11 rfl).1) H fun w22 H=>sp (.bool (!(decide (x.qQ=y.qQ)))) (zjn (xK (!(decide (x.qQ=y.qQ))) rfl (fun h24=>?_) (fun h24=>?_)))))))))))
 ·skip
  replace h24:=xw h24
  replace h24:=of_decide_eq_false h24
  refine zcr (sp (.bool false) (zjr (t_r (ret1 (.bool false) rfl rfl ⟨_,rfl,?_,H.base⟩))))
  rw [decide_eq_false (fun e=>by subst e;simp_all)]
 replace h24:=xh h24
 replace h24:=of_decide_eq_true h24
 refine qU (t_n (zcc (oF rfl (oL rfl (H.cell 1 rfl rfl) (oF rfl (oL rfl (H.cell 0 rfl rfl) (sw (o_neB underlying4 x.zA y.zA rfl rfl (zjn (xK (x.zA != y.zA) rfl (fun h25=>?_) (fun h25=>?_)))))))))))
 ·skip
  replace h25:=bne_iff_ne.1 h25
  refine zcr (sp (.bool false) (zjr (t_r (ret1 (.bool false) rfl rfl ⟨_,rfl,?_,H.base⟩))))
  rw [decide_eq_false (fun e=>by subst e;simp_all)]
 replace h25:=xq h25
 refine qU (t_n (zcr (sp (.bool true) (zjr (ret1 (.bool true) rfl rfl ⟨_,rfl,?_,H.base⟩)))))
 rw [decide_eq_true (by cases x;cases y;simp_all)]

theorem eqRuleS_ok (w:World) (x:List QU) (y:List QU) {ax:yOA} {Fx:yLN} {ay:yOA} {Fy:yLN} (hx:qO.rep w Fx [.slice ax x.length cx] x) (hy:qO.rep w Fy [.slice ay y.length cy] y):Calls Tryz.prog 66 #[.slice ax x.length cx,.slice ay y.length cy] w (Ret (fun v w' =>v=.bool (decide (x=y))) w):=by
 refine en func66 ntmps66 ?_
 have H:=((St.start w).arg hy).arg hx
 have nhx:=qK hx
 have nhy:=qK hy
 clear hx hy
 refine zcr (sp (.bool false) (zjcc (sp (.slice ax x.length cx) (oN rfl (sp (.slice ay y.length cy) (oN rfl (sp (.bool ((x.length:Int) != y.length)) (zjn (xK ((x.length:Int) != y.length) rfl (fun h1=>?_) (fun h1=>?_))))))))))
 ·skip
  replace h1:=bne_iff_ne.1 h1
  refine zcr (sp (.bool false) (zjr (t_r (ret1 (.bool false) rfl rfl ⟨_,rfl,?_,H.base⟩))))
  first | rw [decide_eq_false (fun e=>by subst e;omega)] | rw [decide_eq_false (vZ (k:=k) ‹_›)] | rw [decide_eq_true (jh (k:=k) qf qf ‹_›)]
 replace h1:=xq h1
 refine qU (t_n (zcc (sp (yI 0) (zjn (qX ?_)))))
 refine zu (fun m' ρ w2=>∃ (xU:Env) (k:Nat),ρ=upd (upd (upd xU 0 (.slice ax x.length cx)) 1 (.slice ay y.length cy)) 5 (yI k)∧(k≤x.length)∧(x.take k=y.take k)∧m' =x.length - k∧St w w2 [] [sF false Fx ax cx x,sF false Fy ay cy y]) (x.length - 0) ⟨_,0,uE3,qf,(by rfl),rfl,H⟩ ?_
 clear H
 rintro m' ρ w3 ⟨xU,k,rfl,i0,i1,rfl,H⟩
 refine zcc (sps [yI k,.slice ax x.length cx] (oN rfl (sp (.bool (decide ((k:Int) < x.length))) (zjn (cD rfl (fun h4=>?_) (fun h4=>?_))))))
 ·skip
  refine qU (t_n (xQ (qX (xQ ?_))))
  refine vT rfl H fun H=>rtp 0 (.slice ax x.length cx) H ?_
  refine rtp 1 (yI k) H ?_
  obtain ⟨b6,o7,rfl⟩:=H.addr 0 rfl qf
  obtain ⟨ae8Need,ce8Need,Fe8Need,ae8Have,ce8Have,Fe8Have,ae8Lack,ce8Lack,Fe8Lack,ae8Here,ce8Here,Fe8Here,ae8Out,ce8Out,Fe8Out,ae8Into,ce8Into,Fe8Into,H⟩:=H.yt 0 rfl k k qf qf qf
  refine tI 2 rfl rfl rfl (H.sel _ (.refl _) _ (fun _ h=>List.mem_cons_of_mem _ (List.mem_cons_of_mem _ (List.mem_cons_of_mem _ (List.mem_cons_of_mem _ (List.mem_cons_of_mem _ (List.mem_cons_of_mem _ (List.mem_cons_of_mem _ (h))))))))) ?_
  refine rtp 4 (.slice ay y.length cy) (H.sel _ (.refl _) _ (fun _ h=>List.mem_cons_of_mem _ (List.mem_cons_of_mem _ (List.mem_cons_of_mem _ (List.mem_cons_of_mem _ (List.mem_cons_of_mem _ (List.mem_cons_of_mem _ (List.mem_cons_of_mem _ (h))))))))) ?_
  refine rtp 5 (yI k) (H.sel _ (.refl _) _ (fun _ h=>List.mem_cons_of_mem _ (List.mem_cons_of_mem _ (List.mem_cons_of_mem _ (List.mem_cons_of_mem _ (List.mem_cons_of_mem _ (List.mem_cons_of_mem _ (List.mem_cons_of_mem _ (h))))))))) ?_
  obtain ⟨b9,o10,rfl⟩:=H.addr 8 rfl qf
  obtain ⟨ae11Need,ce11Need,Fe11Need,ae11Have,ce11Have,Fe11Have,ae11Lack,ce11Lack,Fe11Lack,ae11Here,ce11Here,Fe11Here,ae11Out,ce11Out,Fe11Out,ae11Into,ce11Into,Fe11Into,H⟩:=H.yt 8 rfl k k qf qf qf
  refine tI 6 rfl rfl rfl (H.sel _ (.refl _) _ (fun _ h=>List.mem_cons_of_mem _ (List.mem_cons_of_mem _ (List.mem_cons_of_mem _ (List.mem_cons_of_mem _ (List.mem_cons_of_mem _ (List.mem_cons_of_mem _ (List.mem_cons_of_mem _ (List.mem_cons_of_mem _ (List.mem_cons_of_mem _ (List.mem_cons_of_mem _ (List.mem_cons_of_mem _ (List.mem_cons_of_mem _ (List.mem_cons_of_mem _ (List.mem_cons_of_mem _ (h)))))))))))))))) ?_
  refine ji [3,7] qh qm (Qg rfl ?_ (Qg rfl ?_ jk))
  ·skip
   refine zn [yI ((x[k]!).qH),yI ((x[k]!).zM),.slice ae8Need (((x[k]!).xm).length) ce8Need,.slice ae8Have (((x[k]!).xF).length) ce8Have,.slice ae8Lack (((x[k]!).xI).length) ce8Lack,.slice ae8Here (((x[k]!).xM).length) ce8Here,.slice ae8Out (((x[k]!).zV).length) ce8Out,.slice ae8Into (((x[k]!).qQ).length) ce8Into,.bool ((x[k]!).zA)] isAgg121 sizeOf121 rfl (qF (H.get 13 rfl) 0 9) (⟨H.dF 14,(ro 7 rfl ?_)⟩)
   refine zn [yI ((y[k]!).qH),yI ((y[k]!).zM),.slice ae11Need (((y[k]!).xm).length) ce11Need,.slice ae11Have (((y[k]!).xF).length) ce11Have,.slice ae11Lack (((y[k]!).xI).length) ce11Lack,.slice ae11Here (((y[k]!).xM).length) ce11Here,.slice ae11Out (((y[k]!).zV).length) ce11Out,.slice ae11Into (((y[k]!).qQ).length) ce11Into,.bool ((y[k]!).zA)] isAgg121 sizeOf121 rfl (qF (H.get 6 rfl) 0 9) (⟨H.dF 14,(ro 8 rfl ?_)⟩)
   refine oq (eqRule_ok _ (x[k]!) (y[k]!) (H.get 7 rfl).1 (H.get 8 rfl).1 (H.get 9 rfl).1 (H.get 10 rfl).1 (H.get 11 rfl).1 (H.get 12 rfl).1 (H.get 0 rfl).1 (H.get 1 rfl).1 (H.get 2 rfl).1 (H.get 3 rfl).1 (H.get 4 rfl).1 (H.get 5 rfl).1) H fun w12 H=>⟨H.dF 14,?_⟩
   refine rtp 9 (.bool (!(decide ((x[k]!)=(y[k]!))))) (H.sel _ (.refl _) _ (fun _ h=>List.mem_cons_of_mem _ (List.mem_cons_of_mem _ (List.mem_cons_of_mem _ (List.mem_cons_of_mem _ (List.mem_cons_of_mem _ (List.mem_cons_of_mem _ (List.mem_cons_of_mem _ (List.mem_cons_of_mem _ (List.mem_cons_of_mem _ (List.mem_cons_of_mem _ (List.mem_cons_of_mem _ (List.mem_cons_of_mem _ (List.mem_cons_of_mem _ (List.mem_cons_of_mem _ (h)))))))))))))))) ?_
   refine xO qh (t_n (xK (!(decide ((x[k]!)=(y[k]!)))) rfl (fun h14=>?_) (fun h14=>?_)))
   ·skip
    replace h14:=xw h14
    replace h14:=of_decide_eq_false h14
    refine zcr (sp (.bool false) (zjr (zr5 (ret1 (.bool false) rfl rfl ⟨_,rfl,?_,H.base⟩))))
    first | rw [decide_eq_false (fun e=>by subst e;omega)] | rw [decide_eq_false (vZ (k:=k) ‹_›)] | rw [decide_eq_true (jh (k:=k) qf qf ‹_›)]
   replace h14:=xh h14
   replace h14:=of_decide_eq_true h14
   refine qU (b_n (t_n (xY (sp (yI k) (sw (zC k 1 rfl rfl qf (sp (yI (k+1)) (xZ (xf (m' :=x.length - (k+1)) qf ⟨_,k+1,uE3,?_,?_,rfl,H.sel _ (.refl _) _ qm⟩)))))))))
   · omega
   · exact Xj qf qf ‹_› qg
  refine zn [yI ((y[k]!).qH),yI ((y[k]!).zM),.slice ae11Need (((y[k]!).xm).length) ce11Need,.slice ae11Have (((y[k]!).xF).length) ce11Have,.slice ae11Lack (((y[k]!).xI).length) ce11Lack,.slice ae11Here (((y[k]!).xM).length) ce11Here,.slice ae11Out (((y[k]!).zV).length) ce11Out,.slice ae11Into (((y[k]!).qQ).length) ce11Into,.bool ((y[k]!).zA)] isAgg121 sizeOf121 rfl (qF (H.get 6 rfl) 0 9) (⟨H.dF 14,(ro 3 rfl ?_)⟩)
  refine zn [yI ((x[k]!).qH),yI ((x[k]!).zM),.slice ae8Need (((x[k]!).xm).length) ce8Need,.slice ae8Have (((x[k]!).xF).length) ce8Have,.slice ae8Lack (((x[k]!).xI).length) ce8Lack,.slice ae8Here (((x[k]!).xM).length) ce8Here,.slice ae8Out (((x[k]!).zV).length) ce8Out,.slice ae8Into (((x[k]!).qQ).length) ce8Into,.bool ((x[k]!).zA)] isAgg121 sizeOf121 rfl (qF (H.get 13 rfl) 0 9) (⟨H.dF 14,(ro 8 rfl ?_)⟩)
  refine oq (eqRule_ok _ (x[k]!) (y[k]!) (H.get 7 rfl).1 (H.get 8 rfl).1 (H.get 9 rfl).1 (H.get 10 rfl).1 (H.get 11 rfl).1 (H.get 12 rfl).1 (H.get 0 rfl).1 (H.get 1 rfl).1 (H.get 2 rfl).1 (H.get 3 rfl).1 (H.get 4 rfl).1 (H.get 5 rfl).1) H fun w15 H=>⟨H.dF 14,?_⟩
  refine rtp 9 (.bool (!(decide ((x[k]!)=(y[k]!))))) (H.sel _ (.refl _) _ (fun _ h=>List.mem_cons_of_mem _ (List.mem_cons_of_mem _ (List.mem_cons_of_mem _ (List.mem_cons_of_mem _ (List.mem_cons_of_mem _ (List.mem_cons_of_mem _ (List.mem_cons_of_mem _ (List.mem_cons_of_mem _ (List.mem_cons_of_mem _ (List.mem_cons_of_mem _ (List.mem_cons_of_mem _ (List.mem_cons_of_mem _ (List.mem_cons_of_mem _ (List.mem_cons_of_mem _ (h)))))))))))))))) ?_
  refine xO qh (t_n (xK (!(decide ((x[k]!)=(y[k]!)))) rfl (fun h17=>?_) (fun h17=>?_)))
  ·skip
   replace h17:=xw h17
   replace h17:=of_decide_eq_false h17
   refine zcr (sp (.bool false) (zjr (zr5 (ret1 (.bool false) rfl rfl ⟨_,rfl,?_,H.base⟩))))
   first | rw [decide_eq_false (fun e=>by subst e;omega)] | rw [decide_eq_false (vZ (k:=k) ‹_›)] | rw [decide_eq_true (jh (k:=k) qf qf ‹_›)]
  replace h17:=xh h17
  replace h17:=of_decide_eq_true h17
  refine qU (b_n (t_n (xY (sp (yI k) (sw (zC k 1 rfl rfl qf (sp (yI (k+1)) (xZ (xf (m' :=x.length - (k+1)) qf ⟨_,k+1,uE3,?_,?_,rfl,H.sel _ (.refl _) _ qm⟩)))))))))
  · omega
  · exact Xj qf qf ‹_› qg
 refine zx4 (zcr (sp (.bool true) (zjr (ret1 (.bool true) rfl rfl ⟨_,rfl,?_,H.base⟩))))
 first | rw [decide_eq_false (fun e=>by subst e;omega)] | rw [decide_eq_false (vZ (k:=k) ‹_›)] | rw [decide_eq_true (jh (k:=k) qf qf ‹_›)]

theorem eqSystem_ok (w:World) (x:qG) (y:qG) {je:yOA} {Qq:yLN} {Qp:yOA} {XZ:yLN} {ayParents:yOA} {cyParents:Nat} {FyParents:yLN} {ayRules:yOA} {cyRules:Nat} {FyRules:yLN} (QN:qO.rep w Qq [.slice je x.qw.length jd] x.qw) (VR:qO.rep w XZ [.slice Qp x.qx.length Qm] x.qx) (hyParents:qO.rep w FyParents [.slice ayParents y.qw.length cyParents] y.qw) (hyRules:qO.rep w FyRules [.slice ayRules y.qx.length cyRules] y.qx):Calls Tryz.prog 21 #[.agg #[yI x.xC,.slice je x.qw.length jd,.slice Qp x.qx.length Qm],.agg #[yI y.xC,.slice ayParents y.qw.length cyParents,.slice ayRules y.qx.length cyRules]] w (Ret (fun v w' =>v=.bool (decide (x=y))) w):=by
 refine en func21 ntmps21 ?_
 have H:=((((St.start w).arg hyRules).arg hyParents).arg VR).arg QN
 have nhxParents:=qK QN
 have nhxRules:=qK VR
 have nhyParents:=qK hyParents
 have nhyRules:=qK hyRules
 clear QN VR hyParents hyRules
 refine zcr (sw (o_box H (.agg #[yI x.xC,.slice je x.qw.length jd,.slice Qp x.qx.length Qm]) rfl fun b1 w2 H=>sw (o_box H (.agg #[yI y.xC,.slice ayParents y.qw.length cyParents,.slice ayRules y.qx.length cyRules]) rfl fun b3 w4 H=>?_)))
 replace H:St _ _ [.box b3 (yS y ayParents cyParents ayRules cyRules) 36,.box b1 (yS x je jd Qp Qm) 36] _:=H
 refine sp (.bool false) (zjcc (oF rfl (oL rfl (H.cell 1 rfl rfl) (oF rfl (oL rfl (H.cell 0 rfl rfl) (sp (.bool ((x.xC:Int) != y.xC)) (zjn (xK ((x.xC:Int) != y.xC) rfl (fun h5=>?_) (fun h5=>?_)))))))))
 ·skip
  replace h5:=bne_iff_ne.1 h5
  refine zcr (sp (.bool false) (zjr (t_r (ret1 (.bool false) rfl rfl ⟨_,rfl,?_,H.base⟩))))
  rw [decide_eq_false (fun e=>by subst e;simp_all)]
 replace h5:=xq h5
 refine qU (t_n (zcc (oF rfl (oL rfl (H.cell 1 rfl rfl) (oF rfl (oL rfl (H.cell 0 rfl rfl) (sw (oq (Xt _ x.qw y.qw (H.get 0 rfl).1 (H.get 2 rfl).1) H fun w6 H=>sp (.bool (!(decide (x.qw=y.qw)))) (zjn (xK (!(decide (x.qw=y.qw))) rfl (fun h8=>?_) (fun h8=>?_)))))))))))
 ·skip
  replace h8:=xw h8
  replace h8:=of_decide_eq_false h8
  refine zcr (sp (.bool false) (zjr (t_r (ret1 (.bool false) rfl rfl ⟨_,rfl,?_,H.base⟩))))
  rw [decide_eq_false (fun e=>by subst e;simp_all)]
 replace h8:=xh h8
 replace h8:=of_decide_eq_true h8
 refine qU (t_n (zcc (oF rfl (oL rfl (H.cell 1 rfl rfl) (oF rfl (oL rfl (H.cell 0 rfl rfl) (sw (oq (eqRuleS_ok _ x.qx y.qx (H.get 1 rfl).1 (H.get 3 rfl).1) H fun w9 H=>sp (.bool (!(decide (x.qx=y.qx)))) (zjn (xK (!(decide (x.qx=y.qx))) rfl (fun h11=>?_) (fun h11=>?_)))))))))))
 ·skip
  replace h11:=xw h11
  replace h11:=of_decide_eq_false h11
  refine zcr (sp (.bool false) (zjr (t_r (ret1 (.bool false) rfl rfl ⟨_,rfl,?_,H.base⟩))))
  rw [decide_eq_false (fun e=>by subst e;simp_all)]
 replace h11:=xh h11
 replace h11:=of_decide_eq_true h11
 refine qU (t_n (zcr (sp (.bool true) (zjr (ret1 (.bool true) rfl rfl ⟨_,rfl,?_,H.base⟩)))))
 rw [decide_eq_true (by cases x;cases y;simp_all)]

theorem eqState_ok (w:World) (x:qJ) (y:qJ) {yV:yOA} {XN:yLN} {Q8:yOA} {YT:yLN} {jF:yOA} {QM:yLN} {ayAlive:yOA} {cyAlive:Nat} {FyAlive:yLN} {ayBags:yOA} {cyBags:Nat} {FyBags:yLN} {ayAround:yOA} {cyAround:Nat} {FyAround:yLN} (VS:qO.rep w XN [.slice yV x.qA.length yU] x.qA) (hxBags:qO.rep w YT [.slice Q8 x.qE.length Q5] x.qE) (Xy:qO.rep w QM [.slice jF x.qC.length jE] x.qC) (hyAlive:qO.rep w FyAlive [.slice ayAlive y.qA.length cyAlive] y.qA) (hyBags:qO.rep w FyBags [.slice ayBags y.qE.length cyBags] y.qE) (hyAround:qO.rep w FyAround [.slice ayAround y.qC.length cyAround] y.qC):Calls Tryz.prog 22 #[.agg #[.slice yV x.qA.length yU,.slice Q8 x.qE.length Q5,.slice jF x.qC.length jE],.agg #[.slice ayAlive y.qA.length cyAlive,.slice ayBags y.qE.length cyBags,.slice ayAround y.qC.length cyAround]] w (Ret (fun v w' =>v=.bool (decide (x=y))) w):=by
 refine en func22 ntmps22 ?_
 have H:=((((((St.start w).arg hyAround).arg hyBags).arg hyAlive).arg Xy).arg hxBags).arg VS
 have nhxAlive:=qK VS
 have nhxBags:=qK hxBags
 have nhxAround:=qK Xy
 have nhyAlive:=qK hyAlive
 have nhyBags:=qK hyBags
 have nhyAround:=qK hyAround
 clear VS hxBags Xy hyAlive hyBags hyAround
 refine zcr (sw (o_box H (.agg #[.slice yV x.qA.length yU,.slice Q8 x.qE.length Q5,.slice jF x.qC.length jE]) rfl fun b1 w2 H=>sw (o_box H (.agg #[.slice ayAlive y.qA.length cyAlive,.slice ayBags y.qE.length cyBags,.slice ayAround y.qC.length cyAround]) rfl fun b3 w4 H=>?_)))
 replace H:St _ _ [.box b3 (yT y ayAlive cyAlive ayBags cyBags ayAround cyAround) 38,.box b1 (yT x yV yU Q8 Q5 jF jE) 38] _:=H
 refine sp (.bool false) (zjcc (oF rfl (oL rfl (H.cell 1 rfl rfl) (oF rfl (oL rfl (H.cell 0 rfl rfl) (sw (oq (eqBoolS_ok _ x.qA y.qA (H.get 0 rfl).1 (H.get 3 rfl).1) H fun w5 H=>sp (.bool (!(decide (x.qA=y.qA)))) (zjn (xK (!(decide (x.qA=y.qA))) rfl (fun h7=>?_) (fun h7=>?_))))))))))
 ·skip
  replace h7:=xw h7
  replace h7:=of_decide_eq_false h7
  refine zcr (sp (.bool false) (zjr (t_r (ret1 (.bool false) rfl rfl ⟨_,rfl,?_,H.base⟩))))
  rw [decide_eq_false (fun e=>by subst e;simp_all)]
 replace h7:=xh h7
 replace h7:=of_decide_eq_true h7
 refine qU (t_n (zcc (oF rfl (oL rfl (H.cell 1 rfl rfl) (oF rfl (oL rfl (H.cell 0 rfl rfl) (sw (oq (eqInt64SS_ok _ x.qE y.qE (H.get 1 rfl).1 (H.get 4 rfl).1) H fun w8 H=>sp (.bool (!(decide (x.qE=y.qE)))) (zjn (xK (!(decide (x.qE=y.qE))) rfl (fun h10=>?_) (fun h10=>?_)))))))))))
 ·skip
  replace h10:=xw h10
  replace h10:=of_decide_eq_false h10
  refine zcr (sp (.bool false) (zjr (t_r (ret1 (.bool false) rfl rfl ⟨_,rfl,?_,H.base⟩))))
  rw [decide_eq_false (fun e=>by subst e;simp_all)]
 replace h10:=xh h10
 replace h10:=of_decide_eq_true h10
 refine qU (t_n (zcc (oF rfl (oL rfl (H.cell 1 rfl rfl) (oF rfl (oL rfl (H.cell 0 rfl rfl) (sw (oq (Xt _ x.qC y.qC (H.get 2 rfl).1 (H.get 5 rfl).1) H fun w11 H=>sp (.bool (!(decide (x.qC=y.qC)))) (zjn (xK (!(decide (x.qC=y.qC))) rfl (fun h13=>?_) (fun h13=>?_)))))))))))
 ·skip
  replace h13:=xw h13
  replace h13:=of_decide_eq_false h13
  refine zcr (sp (.bool false) (zjr (t_r (ret1 (.bool false) rfl rfl ⟨_,rfl,?_,H.base⟩))))
  rw [decide_eq_false (fun e=>by subst e;simp_all)]
 replace h13:=xh h13
 replace h13:=of_decide_eq_true h13
 refine qU (t_n (zcr (sp (.bool true) (zjr (ret1 (.bool true) rfl rfl ⟨_,rfl,?_,H.base⟩)))))
 rw [decide_eq_true (by cases x;cases y;simp_all)]
end
section
open Go.RowKit
set_option linter.unusedVariables false
set_option linter.unusedSimpArgs false
set_option maxRecDepth 100000
set_option maxHeartbeats 4000000
theorem St.open_Int {W w:World} {ps:List Prv} {F:yLN} {b o m c:Nat} {l:yLI} (H:St W w ps [isF true F (.slice (some ⟨b,o,none⟩) m c) l]) (N:F.Nodup) (k:Nat) (hk:k < l.length) {y:Int} (hy:l[k]! =y):
    ∃ (xs1 xs2:List Value) (F1 F2:yLN),F=b :: (F1++[]++F2)∧xs1.length=k * 1∧St W w ps [VY b o xs1 [.int .i64 y] xs2 F1 F2 (l.take k) (l.drop (k+1))]∧
      ([b :: (F1++F2)]:List yLN).flatten.Nodup:=by
  obtain ⟨cs,xs1,xs2,F1,Fk,F2,rfl,hx,hr,hfr,hlt,H⟩:=H.openAt k hk
  rw [hy] at hr
  obtain ⟨hFF,rfl⟩:=hr
  exact ⟨xs1,xs2,F1,F2,by rw [hFF],hx,H,by have N' :=nodup_hole N;rw [hFF] at N';simpa using N'⟩

theorem St.open_Bool {W w:World} {ps:List Prv} {F:yLN} {b o m c:Nat} {l:List Bool} (H:St W w ps [isF true F (.slice (some ⟨b,o,none⟩) m c) l]) (N:F.Nodup) (k:Nat) (hk:k < l.length) {y:Bool} (hy:l[k]! =y):
    ∃ (xs1 xs2:List Value) (F1 F2:yLN),F=b :: (F1++[]++F2)∧xs1.length=k * 1∧St W w ps [VY b o xs1 [.bool y] xs2 F1 F2 (l.take k) (l.drop (k+1))]∧
      ([b :: (F1++F2)]:List yLN).flatten.Nodup:=by
  obtain ⟨cs,xs1,xs2,F1,Fk,F2,rfl,hx,hr,hfr,hlt,H⟩:=H.openAt k hk
  rw [hy] at hr
  obtain ⟨hFF,rfl⟩:=hr
  exact ⟨xs1,xs2,F1,F2,by rw [hFF],hx,H,by have N' :=nodup_hole N;rw [hFF] at N';simpa using N'⟩

theorem St.open_List {α:Type} [qO α] {W w:World} {ps:List Prv} {F:yLN} {b o m c:Nat} {l:List (List α)} (H:St W w ps [isF true F (.slice (some ⟨b,o,none⟩) m c) l]) (N:F.Nodup) (k:Nat) (hk:k < l.length) {y:List α} (hy:l[k]! =y):
    ∃ (xs1 xs2:List Value) (F1 F2:yLN) (a:yOA) (c' :Nat) (Fk:yLN),F=b :: (F1++Fk++F2)∧xs1.length=k * 1∧St W w ps [VY b o xs1 [.slice a y.length c'] xs2 F1 F2 (l.take k) (l.drop (k+1)),isF true Fk (.slice a y.length c') y]∧
      ([b :: (F1++F2),Fk]:List yLN).flatten.Nodup:=by
  obtain ⟨cs,xs1,xs2,F1,Fk,F2,rfl,hx,hr,hfr,hlt,H⟩:=H.openAt k hk
  rw [hy] at hr
  obtain ⟨a,c',rfl,_⟩:=id hr
  exact ⟨xs1,xs2,F1,F2,a,c',Fk,rfl,hx,(H.add (isF true Fk (.slice a y.length c') y) ⟨hr,fun _=>hfr⟩ hlt).sel _ (.refl _) _ (all_of ⟨.tail _ (.head _),⟨.head _,trivial⟩⟩),by simpa using nodup_hole N⟩

instance:Mark IntoD where
  cnt x:=1+cnt x.jy
  mrk x k:=⟨mrk x.qH (k),mrk x.jy (k+1)⟩
  mkd x k:=mkd x.qH (k)∧mkd x.jy (k+1)
  mkd_mark x k:=by
    simp only [cnt_mark]
    exact ⟨mkd_mark _ _,mkd_mark _ _⟩
  cnt_mark x k:=by simp only [cnt_mark]
theorem cnt_IntoD (x:IntoD):cnt x=1+cnt x.jy:=rfl

theorem St.open_IntoD {W w:World} {ps:List Prv} {F:yLN} {b o m c:Nat} {l:List IntoD} (H:St W w ps [isF true F (.slice (some ⟨b,o,none⟩) m c) l]) (N:F.Nodup) (k:Nat) (hk:k < l.length) {y:IntoD} (hy:l[k]! =y):
    ∃ (xs1 xs2:List Value) (F1 F2:yLN) (aBag:yOA) (cBag:Nat) (FBag:yLN),F=b :: (F1++(FBag)++F2)∧xs1.length=k * 2∧St W w ps [VY b o xs1 [.int .i64 y.qH,.slice aBag y.jy.length cBag] xs2 F1 F2 (l.take k) (l.drop (k+1)),isF true FBag (.slice aBag y.jy.length cBag) y.jy]∧
      ([b :: (F1++F2),FBag]:List yLN).flatten.Nodup:=by
  obtain ⟨cs,xs1,xs2,F1,Fk,F2,rfl,hx,hr,hfr,hlt,H⟩:=H.openAt k hk
  rw [hy] at hr
  obtain ⟨vBag,FBag,rfl,hFF,hBag⟩:=hr
  obtain ⟨aBag,cBag,rfl⟩:=slice_form hBag
  exact ⟨xs1,xs2,F1,F2,_,_,_,by rw [hFF],hx,(H.add (isF true FBag (.slice aBag y.jy.length cBag) y.jy) ⟨hBag,fun _=>hfr.sub (by rw [hFF];intro z hz;simp [hz])⟩ (fun z hz=>hlt z (by rw [hFF];have hz:z∈FBag:=hz;simp [hz]))).sel _ (.refl _) _ (all_of ⟨.tail _ (.head _),⟨.head _,trivial⟩⟩),by have N' :=nodup_hole N;rw [hFF] at N';simpa using N'⟩

instance:Mark QU where
  cnt x:=1+1+cnt x.xm+cnt x.xF+cnt x.xI+cnt x.xM+cnt x.zV+cnt x.qQ+1
  mrk x k:=⟨mrk x.qH (k),mrk x.zM (k+1),mrk x.xm (k+1+1),mrk x.xF (k+1+1+(cnt x.xm:Nat)),mrk x.xI (k+1+1+(cnt x.xm:Nat)+(cnt x.xF:Nat)),mrk x.xM (k+1+1+(cnt x.xm:Nat)+(cnt x.xF:Nat)+(cnt x.xI:Nat)),mrk x.zV (k+1+1+(cnt x.xm:Nat)+(cnt x.xF:Nat)+(cnt x.xI:Nat)+(cnt x.xM:Nat)),mrk x.qQ (k+1+1+(cnt x.xm:Nat)+(cnt x.xF:Nat)+(cnt x.xI:Nat)+(cnt x.xM:Nat)+(cnt x.zV:Nat)),mrk x.zA (k+1+1+(cnt x.xm:Nat)+(cnt x.xF:Nat)+(cnt x.xI:Nat)+(cnt x.xM:Nat)+(cnt x.zV:Nat)+(cnt x.qQ:Nat))⟩
  mkd x k:=mkd x.qH (k)∧mkd x.zM (k+1)∧mkd x.xm (k+1+1)∧mkd x.xF (k+1+1+(cnt x.xm:Nat))∧mkd x.xI (k+1+1+(cnt x.xm:Nat)+(cnt x.xF:Nat))∧mkd x.xM (k+1+1+(cnt x.xm:Nat)+(cnt x.xF:Nat)+(cnt x.xI:Nat))∧mkd x.zV (k+1+1+(cnt x.xm:Nat)+(cnt x.xF:Nat)+(cnt x.xI:Nat)+(cnt x.xM:Nat))∧mkd x.qQ (k+1+1+(cnt x.xm:Nat)+(cnt x.xF:Nat)+(cnt x.xI:Nat)+(cnt x.xM:Nat)+(cnt x.zV:Nat))∧mkd x.zA (k+1+1+(cnt x.xm:Nat)+(cnt x.xF:Nat)+(cnt x.xI:Nat)+(cnt x.xM:Nat)+(cnt x.zV:Nat)+(cnt x.qQ:Nat))
  mkd_mark x k:=by
    simp only [cnt_mark]
    exact ⟨mkd_mark _ _,mkd_mark _ _,mkd_mark _ _,mkd_mark _ _,mkd_mark _ _,mkd_mark _ _,mkd_mark _ _,mkd_mark _ _,mkd_mark _ _⟩
  cnt_mark x k:=by simp only [cnt_mark]
theorem Qa (x:QU):cnt x=1+1+cnt x.xm+cnt x.xF+cnt x.xI+cnt x.xM+cnt x.zV+cnt x.qQ+1:=rfl

theorem St.open_RuleD {W w:World} {ps:List Prv} {F:yLN} {b o m c:Nat} {l:List QU} (H:St W w ps [isF true F (.slice (some ⟨b,o,none⟩) m c) l]) (N:F.Nodup) (k:Nat) (hk:k < l.length) {y:QU} (hy:l[k]! =y):
    ∃ (xs1 xs2:List Value) (F1 F2:yLN) (aNeed:yOA) (cNeed:Nat) (YX:yLN) (aHave:yOA) (cHave:Nat) (Y1:yLN) (aLack:yOA) (cLack:Nat) (YY:yLN) (aHere:yOA) (cHere:Nat) (Y0:yLN) (aOut:yOA) (cOut:Nat) (FOut:yLN) (aInto:yOA) (cInto:Nat) (YZ:yLN),F=b :: (F1++(YX++Y1++YY++Y0++FOut++YZ)++F2)∧xs1.length=k * 9∧St W w ps [VY b o xs1 [.int .i64 y.qH,.int .i64 y.zM,.slice aNeed y.xm.length cNeed,.slice aHave y.xF.length cHave,.slice aLack y.xI.length cLack,.slice aHere y.xM.length cHere,.slice aOut y.zV.length cOut,.slice aInto y.qQ.length cInto,.bool y.zA] xs2 F1 F2 (l.take k) (l.drop (k+1)),isF true YX (.slice aNeed y.xm.length cNeed) y.xm,isF true Y1 (.slice aHave y.xF.length cHave) y.xF,isF true YY (.slice aLack y.xI.length cLack) y.xI,isF true Y0 (.slice aHere y.xM.length cHere) y.xM,isF true FOut (.slice aOut y.zV.length cOut) y.zV,isF true YZ (.slice aInto y.qQ.length cInto) y.qQ]∧
      ([b :: (F1++F2),YX,Y1,YY,Y0,FOut,YZ]:List yLN).flatten.Nodup:=by
  obtain ⟨cs,xs1,xs2,F1,Fk,F2,rfl,hx,hr,hfr,hlt,H⟩:=H.openAt k hk
  rw [hy] at hr
  obtain ⟨vNeed,vHave,vLack,vHere,vOut,vInto,YX,Y1,YY,Y0,FOut,YZ,rfl,hFF,hNeed,hHave,hLack,hHere,hOut,hInto⟩:=hr
  obtain ⟨aNeed,cNeed,rfl⟩:=slice_form hNeed
  obtain ⟨aHave,cHave,rfl⟩:=slice_form hHave
  obtain ⟨aLack,cLack,rfl⟩:=slice_form hLack
  obtain ⟨aHere,cHere,rfl⟩:=slice_form hHere
  obtain ⟨aOut,cOut,rfl⟩:=slice_form hOut
  obtain ⟨aInto,cInto,rfl⟩:=slice_form hInto
  exact ⟨xs1,xs2,F1,F2,_,_,_,_,_,_,_,_,_,_,_,_,_,_,_,_,_,_,by rw [hFF],hx,((((((H.add (isF true YZ (.slice aInto y.qQ.length cInto) y.qQ) ⟨hInto,fun _=>hfr.sub (by rw [hFF];intro z hz;simp [hz])⟩ (fun z hz=>hlt z (by rw [hFF];have hz:z∈YZ:=hz;simp [hz]))).add (isF true FOut (.slice aOut y.zV.length cOut) y.zV) ⟨hOut,fun _=>hfr.sub (by rw [hFF];intro z hz;simp [hz])⟩ (fun z hz=>hlt z (by rw [hFF];have hz:z∈FOut:=hz;simp [hz]))).add (isF true Y0 (.slice aHere y.xM.length cHere) y.xM) ⟨hHere,fun _=>hfr.sub (by rw [hFF];intro z hz;simp [hz])⟩ (fun z hz=>hlt z (by rw [hFF];have hz:z∈Y0:=hz;simp [hz]))).add (isF true YY (.slice aLack y.xI.length cLack) y.xI) ⟨hLack,fun _=>hfr.sub (by rw [hFF];intro z hz;simp [hz])⟩ (fun z hz=>hlt z (by rw [hFF];have hz:z∈YY:=hz;simp [hz]))).add (isF true Y1 (.slice aHave y.xF.length cHave) y.xF) ⟨hHave,fun _=>hfr.sub (by rw [hFF];intro z hz;simp [hz])⟩ (fun z hz=>hlt z (by rw [hFF];have hz:z∈Y1:=hz;simp [hz]))).add (isF true YX (.slice aNeed y.xm.length cNeed) y.xm) ⟨hNeed,fun _=>hfr.sub (by rw [hFF];intro z hz;simp [hz])⟩ (fun z hz=>hlt z (by rw [hFF];have hz:z∈YX:=hz;simp [hz]))).sel _ (.refl _) _ (all_of ⟨.tail _ (.tail _ (.tail _ (.tail _ (.tail _ (.tail _ (.head _)))))),⟨.head _,⟨.tail _ (.head _),⟨.tail _ (.tail _ (.head _)),⟨.tail _ (.tail _ (.tail _ (.head _))),⟨.tail _ (.tail _ (.tail _ (.tail _ (.head _)))),⟨.tail _ (.tail _ (.tail _ (.tail _ (.tail _ (.head _))))),trivial⟩⟩⟩⟩⟩⟩⟩),by have N' :=nodup_hole N;rw [hFF] at N';simpa using N'⟩

instance:Mark qJ where
  cnt x:=cnt x.qA+cnt x.qE+cnt x.qC
  mrk x k:=⟨mrk x.qA (k),mrk x.qE (k+(cnt x.qA:Nat)),mrk x.qC (k+(cnt x.qA:Nat)+(cnt x.qE:Nat))⟩
  mkd x k:=mkd x.qA (k)∧mkd x.qE (k+(cnt x.qA:Nat))∧mkd x.qC (k+(cnt x.qA:Nat)+(cnt x.qE:Nat))
  mkd_mark x k:=by
    simp only [cnt_mark]
    exact ⟨mkd_mark _ _,mkd_mark _ _,mkd_mark _ _⟩
  cnt_mark x k:=by simp only [cnt_mark]
end
section

class CntTot (α:Type) [Mark α] [Tot α]:Prop where
  le:∀ x:α,cnt x≤10+10 * tot x
instance:CntTot Int:=⟨fun _=>by show 1≤_;omega⟩
instance:CntTot Bool:=⟨fun _=>by show 1≤_;omega⟩
section
variable {α : Type} [Mark α] [Tot α] [Inhabited α] [CntTot α]
theorem cntTo_tot (l:List α):∀ k,cntTo l k≤10 * k+10 * totTo l k
  | 0=>Nat.zero_le _
  | k+1=>by
    have h1:=cntTo_tot l k
    have h2:=CntTot.le (l[k]!)
    rw [QZ,totTo_succ]
    omega
theorem VC (l:List α):cnt l≤10 * tot l:=by
  have:=cntTo_tot l l.length
  rw [cnt_list,tot_list]
  omega
instance:CntTot (List α):=⟨fun l=>by have:=VC l;omega⟩
end
instance:CntTot IntoD:=⟨fun x=>by
  have h1:=VC x.jy
  have h2:=tot_IntoD x
  have h3:=cnt_IntoD x
  omega⟩
instance:CntTot QU:=⟨fun x=>by
  have h1:=VC x.xm
  have h2:=VC x.xF
  have h3:=VC x.xI
  have h4:=VC x.xM
  have h5:=VC x.zV
  have h6:=VC x.qQ
  have h7:=tot_RuleD x
  have h8:=Qa x
  omega⟩
theorem cntTo_one {α:Type} [Mark α] [Inhabited α] (l:List α) (n:Nat) (h:∀ k,k < l.length→cnt (l[k]!)≤n):∀ k,k≤l.length→cntTo l k≤n * k
  | 0,_=>Nat.zero_le _
  | k+1,hk=>by
    have h1:=cntTo_one l n h k qf
    have h2:=h k qf
    rw [QZ,Nat.mul_add]
    omega
theorem cnt_ints (l:yLI):cnt l=l.length:=by
  have:∀ k,cntTo l k=k:=fun k=>by
    induction k with
    | zero=>rfl
    | succ k ih=>rw [QZ,ih];rfl
  rw [cnt_list,this]
theorem ft {b:Bool} (h:b=true) (h' :b=false):False:=by rw [h] at h';cases h'

theorem getset {α:Type} [Inhabited α] {l:List α} {c p:Nat} {v:α} (hc:c < l.length):(l.set c v)[p]! =if p=c then v else l[p]! :=by
  by_cases hp:p < l.length
  · rw [getElem!_pos _ _ (by simpa using hp),getElem!_pos l p hp,List.getElem_set]
    by_cases e:c=p
    · rw [if_pos e,if_pos e.symm]
    · rw [if_neg e,if_neg (fun h=>e h.symm)]
  · rw [if_neg qf,getElem!_neg (l.set c v) p (by simpa using hp),getElem!_neg l p hp]
theorem plus_get {l m:yLI} {t:Int} {k:Nat} (hk:k < l.length):(vY l m t)[k]! =l[k]! +t * m[k]! :=by
  rw [getElem!_pos (vY l m t) k (by rw [plusL_len];exact hk)]
  simp [vY,plusTo]
theorem ext_get {α:Type} [Inhabited α] {l m:List α} (hl:l.length=m.length) (h:∀ k,k < l.length→l[k]! =m[k]!):l=m:=by
  apply List.ext_getElem hl
  intro i h1 h2
  have:=h i h1
  rwa [getElem!_pos l i h1,getElem!_pos m i h2] at this
def Shape (n K:Nat) (B:Int) (b:yLL):Prop:=b.length=n∧∀ p,p < n→(b[p]!).length=K∧∀ k,k < K→ -B≤(b[p]!)[k]! ∧(b[p]!)[k]! ≤B
structure Ent (n K:Nat) (f:Nat→Nat→Int) (B:Int) (b:yLL):Prop where
  sh:Shape n K B b
  eq:∀ p k,p < n→k < K→(b[p]!)[k]! =f p k
def at' (p c:Nat) (x:Int):Int:=if p=c then x else 0
theorem Shape.set {n K:Nat} {B D:Int} {b:yLL} (h:Shape n K B b) {c:Nat} {v:yLI} (hc:c < n) (hv:v.length=K) (hb:∀ k,k < K→ -D≤v[k]! ∧v[k]! ≤D) (hD:B≤D):Shape n K D (b.set c v):=by
  refine ⟨by simp [h.1],fun p hp=>?_⟩
  rw [getset (by rw [h.1];exact hc)]
  by_cases e:p=c
  · rw [if_pos e];exact ⟨hv,hb⟩
  · rw [if_neg e]
    refine ⟨(h.2 p hp).1,fun k hk=>?_⟩
    have:=(h.2 p hp).2 k hk
    omega
theorem Shape.plus {n K:Nat} {B D:Int} {b:yLL} (h:Shape n K B b) {c:Nat} {m:yLI} {t:Int} (hc:c < n) (ht:∀ k,k < K→ -D≤t * m[k]! ∧t * m[k]! ≤D) (hD:0≤D):
    Shape n K (B+D) (b.set c (vY (b[c]!) m t)):=by
  have h1:=h.2 c hc
  refine h.set hc (by rw [plusL_len];exact h1.1) (fun k hk=>?_) qf
  rw [plus_get (by rw [h1.1];exact hk)]
  have:=h1.2 k hk
  have:=ht k hk
  omega
theorem Shape.row {n K:Nat} {B:Int} {b:yLL} (h:Shape n K B b) (hB:B≤1000000000000000) (hK:K≤8) {c:Nat} (hc:c < n):(b[c]!).length=K∧Mid (b[c]!):=by
  have h1:=h.2 c hc
  refine ⟨h1.1,by have:=h1.1;omega,fun k hk=>?_⟩
  have:=h1.2 k (by have:=h1.1;omega)
  omega
theorem Ent.add {n K:Nat} {f:Nat→Nat→Int} {B:Int} {b:yLL} (h:Ent n K f B b) {c:Nat} {m:yLI} {t:Int} {D:Int} {b' :yLL} (e:b' =b.set c (vY (b[c]!) m t)) (hc:c < n) (ht:∀ k,k < K→ -D≤t * m[k]! ∧t * m[k]! ≤D) (hD:0≤D):
    Ent n K (fun p k=>f p k+at' p c (t * m[k]!)) (B+D) b' :=by
  subst e
  refine ⟨h.sh.plus hc ht hD,fun p k hp hk=>?_⟩
  rw [getset (by rw [h.sh.1];exact hc)]
  unfold at'
  by_cases e:p=c
  · subst e
    rw [if_pos rfl,if_pos rfl,plus_get (by rw [(h.sh.2 p hp).1];exact hk),h.eq p k hp hk]
  · rw [if_neg e,if_neg e,h.eq p k hp hk];omega
theorem Shape.mono {n K:Nat} {B D:Int} {b:yLL} (h:Shape n K B b) (hD:B≤D):Shape n K D b:=⟨h.1,fun p hp=>⟨(h.2 p hp).1,fun k hk=>by have:=(h.2 p hp).2 k hk;omega⟩⟩
theorem Ent.to {n K:Nat} {f g:Nat→Nat→Int} {B D:Int} {b:yLL} (h:Ent n K f B b) (e:∀ p k,f p k=g p k) (hD:B≤D):Ent n K g D b:=⟨h.sh.mono hD,fun p k hp hk=>(h.eq p k hp hk).trans (e p k)⟩
theorem Ent.same {n K:Nat} {f g:Nat→Nat→Int} {B D:Int} {b c:yLL} (h:Ent n K f B b) (h' :Ent n K g D c) (e:∀ p k,p < n→k < K→f p k=g p k):b=c:=by
  refine ext_get (by rw [h.sh.1,h'.sh.1]) fun p hp=>?_
  rw [h.sh.1] at hp
  refine ext_get (by rw [(h.sh.2 p hp).1,(h'.sh.2 p hp).1]) fun k hk=>?_
  rw [(h.sh.2 p hp).1] at hk
  rw [h.eq p k hp hk,h'.eq p k hp hk,e p k hp hk]
def tab2 (n K:Nat) (f:Nat→Nat→Int):yLL:=(List.range n).map fun p=>(List.range K).map (f p)
theorem tab2_len (n K:Nat) (f:Nat→Nat→Int):(tab2 n K f).length=n:=by simp [tab2]
theorem tab2_row {n K:Nat} {f:Nat→Nat→Int} {p:Nat} (hp:p < n):(tab2 n K f)[p]! =(List.range K).map (f p):=by
  rw [getElem!_pos (tab2 n K f) p (by rw [tab2_len];exact hp)];simp [tab2]
theorem Ent.tab {n K:Nat} {f:Nat→Nat→Int} {B:Int} {b:yLL} (h:Ent n K f B b):b=tab2 n K f:=by
  refine ext_get (by rw [h.sh.1,tab2_len]) fun p hp=>?_
  rw [h.sh.1] at hp
  rw [tab2_row hp]
  refine ext_get (by rw [(h.sh.2 p hp).1];simp) fun k hk=>?_
  rw [(h.sh.2 p hp).1] at hk
  rw [h.eq p k hp hk,getElem!_pos ((List.range K).map (f p)) k (by simpa using hk)];simp
theorem Ent.snoc {n K:Nat} {f:Nat→Nat→Int} {B:Int} {b:yLL} {a:yLI} (h:Ent n K f B b) (ha:a.length=K) (hb:∀ k,k < K→ -B≤a[k]! ∧a[k]! ≤B) (he:∀ k,k < K→a[k]! =f n k):Ent (n+1) K f B (b++[a]):=by
  have hl:(b++[a]).length=n+1:=by simp [h.sh.1]
  have h1:∀ p,p < n→(b++[a])[p]! =b[p]! :=fun p hp=>by
    rw [getElem!_pos (b++[a]) p qf,getElem!_pos b p (by rw [h.sh.1];exact hp),List.getElem_append_left]
  have h2:(b++[a])[n]! =a:=by
    rw [getElem!_pos (b++[a]) n qf,List.getElem_append_right (by rw [h.sh.1];exact Nat.le_refl _)];simp
  refine ⟨⟨hl,fun p hp=>?_⟩,fun p k hp hk=>?_⟩
  · by_cases e:p=n
    · subst e;rw [h2];exact ⟨ha,hb⟩
    · rw [h1 p qf];exact h.sh.2 p qf
  · by_cases e:p=n
    · subst e;rw [h2];exact he k hk
    · rw [h1 p qf];exact h.eq p k qf hk

def QH (s:qG):Nat:=s.xC.toNat
abbrev jg (s:qG):Nat:=s.qw.length
def IntoUp (s:qG) (t:qJ) (r:QU) (k:Nat):Prop:=∀ j,j < k→t.qA[(r.qQ[j]!).qH.toNat]! =true∧xA s t (r.qQ[j]!).qH=r.qH
theorem IntoUp.succ {s:qG} {t:qJ} {r:QU} {k:Nat} (h:IntoUp s t r k) (h1:t.qA[(r.qQ[k]!).qH.toNat]! =true) (h2:xA s t (r.qQ[k]!).qH=r.qH):IntoUp s t r (k+1):=fun j hj=>by
  by_cases e:j=k
  · subst e;exact ⟨h1,h2⟩
  · exact h j qf
def EnOk (s:qG) (t:qJ) (r:QU):Prop:=
  t.qA[r.qH.toNat]! =true∧within r.xm (t.qE[r.qH.toNat]!)=true∧within r.xF (t.qE[r.qH.toNat]!)=true∧¬ (0 < VN r.xI∧within r.xI (t.qE[r.qH.toNat]!)=true)∧IntoUp s t r r.qQ.length
open Classical in
noncomputable def bestOf (s:qG) (t:qJ) (z:Int) (c:Nat):Nat→Int
  | 0=>z
  | k+1=>if EnOk s t (s.qx[k]!)∧(s.qx[k]!).qH.toNat=c then max (bestOf s t z c k) (s.qx[k]!).zM else bestOf s t z c k
noncomputable def bests (s:qG) (t:qJ) (z:Int) (n k:Nat):yLI:=tabTo (fun c=>bestOf s t z c k) n
theorem X4 (s:qG) (t:qJ) (z:Int) (n k:Nat):(bests s t z n k).length=n:=tabTo_len _ _
theorem tab_get {g:Nat→Int} {n c:Nat} (h:c < n):(tabTo g n)[c]! =g c:=by
  rw [getElem!_pos (tabTo g n) c (by rw [tabTo_len];exact h)];simp [tabTo]
theorem bests_zero (s:qG) (t:qJ) (z:Int) (n:Nat):List.replicate n z=bests s t z n 0:=by
  refine ext_get (by simp [X4]) fun k hk=>?_
  rw [List.length_replicate] at hk
  rw [bests,tab_get hk,getElem!_pos (List.replicate n z) k (by simpa using hk)];simp [bestOf]
theorem bests_get {s:qG} {t:qJ} {z:Int} {n k c:Nat} (h:c < n):(bests s t z n k)[c]! =bestOf s t z c k:=tab_get h
theorem bests_set {s:qG} {t:qJ} {z:Int} {n k:Nat} (h:EnOk s t (s.qx[k]!)) (hc:(s.qx[k]!).qH.toNat < n):
    (bests s t z n k).set (s.qx[k]!).qH.toNat (max ((bests s t z n k)[(s.qx[k]!).qH.toNat]!) (s.qx[k]!).zM)=bests s t z n (k+1):=by
  refine ext_get (by simp [X4]) fun p hp=>?_
  rw [List.length_set,X4] at hp
  rw [getset (by rw [X4];exact hc),bests_get hc,bests_get hp,bests_get hp,bestOf]
  by_cases e:p=(s.qx[k]!).qH.toNat
  · rw [if_pos e,if_pos ⟨h,e.symm⟩,e]
  · rw [if_neg e,if_neg fun x=>e x.2.symm]
theorem bests_skip {s:qG} {t:qJ} {z:Int} {n k:Nat} (h:¬ EnOk s t (s.qx[k]!)):bests s t z n k=bests s t z n (k+1):=by
  refine ext_get (by simp [X4]) fun p hp=>?_
  rw [X4] at hp
  rw [bests_get hp,bests_get hp,bestOf,if_neg fun x=>h x.1]
def Appl (s:qG) (t:qJ) (i:Nat):Prop:=
  EnOk s t (s.qx[i]!)∧∀ j,j < s.qx.length→EnOk s t (s.qx[j]!)→(s.qx[j]!).qH.toNat=(s.qx[i]!).qH.toNat→(s.qx[j]!).zM≤(s.qx[i]!).zM
theorem best_ge {s:qG} {t:qJ} {z:Int} {c:Nat}:∀ {k j:Nat},j < k→EnOk s t (s.qx[j]!)→(s.qx[j]!).qH.toNat=c→(s.qx[j]!).zM≤bestOf s t z c k
  | k+1,j,h,h1,h2=>by
    rw [bestOf]
    by_cases e:j=k
    · subst e;rw [if_pos ⟨h1,h2⟩];omega
    · have:=best_ge (z:=z) (show j < k by omega) h1 h2
      split <;> omega
theorem best_le {s:qG} {t:qJ} {z:Int} {c:Nat} {x:Int} (hz:z≤x):∀ {k:Nat},(∀ j,j < k→EnOk s t (s.qx[j]!)→(s.qx[j]!).qH.toNat=c→(s.qx[j]!).zM≤x)→bestOf s t z c k≤x
  | 0,_=>hz
  | k+1,h=>by
    rw [bestOf]
    have h1:=best_le hz (k:=k) fun j hj=>h j qf
    split
    · next h2=>have:=h k qf h2.1 h2.2;omega
    · exact h1
theorem appl_iff {s:qG} {t:qJ} {z:Int} {i:Nat} (hi:i < s.qx.length) (hz:z≤(s.qx[i]!).zM):
    Appl s t i↔EnOk s t (s.qx[i]!)∧(s.qx[i]!).zM=bestOf s t z (s.qx[i]!).qH.toNat s.qx.length:=by
  constructor
  · rintro ⟨h1,h2⟩
    refine ⟨h1,?_⟩
    have h3:=best_ge (z:=z) hi h1 rfl
    have h4:=best_le (c:=(s.qx[i]!).qH.toNat) hz (k:=s.qx.length) h2
    omega
  · rintro ⟨h1,h2⟩
    exact ⟨h1,fun j hj h3 h4=>by rw [h2];exact best_ge hj h3 h4⟩
noncomputable def applB (s:qG) (t:qJ) (k m:Nat):List Bool:=(List.range m).map fun j=>if j < k then dec (Appl s t j) else dec (EnOk s t (s.qx[j]!))
theorem applB_len (s:qG) (t:qJ) (k m:Nat):(applB s t k m).length=m:=by simp [applB]
theorem applB_get {s:qG} {t:qJ} {k m j:Nat} (h:j < m):(applB s t k m)[j]! =if j < k then dec (Appl s t j) else dec (EnOk s t (s.qx[j]!)):=by
  rw [getElem!_pos (applB s t k m) j (by rw [applB_len];exact h)];simp [applB]
theorem applB_snoc (s:qG) (t:qJ) (m:Nat):applB s t 0 m++[dec (EnOk s t (s.qx[m]!))]=applB s t 0 (m+1):=by simp [applB,List.range_succ]
theorem applB_set {s:qG} {t:qJ} {k m:Nat} {x:Bool} (hk:k < m) (hx:x=dec (Appl s t k)):(applB s t k m).set k x=applB s t (k+1) m:=by
  refine ext_get (by simp [applB_len]) fun p hp=>?_
  rw [List.length_set,applB_len] at hp
  rw [getset (by rw [applB_len];exact hk),applB_get hp,applB_get hp]
  by_cases e:p=k
  · subst e;rw [if_pos rfl,if_pos qf,hx]
  · rw [if_neg e]
    by_cases e1:p < k
    · rw [if_pos e1,if_pos qf]
    · rw [if_neg e1,if_neg qf]
theorem applB_step0 {s:qG} {t:qJ} {k m:Nat} (hk:k < m) (h:(applB s t k m)[k]! =false):false=dec (Appl s t k):=by
  rw [applB_get hk,if_neg qf] at h
  exact (xx fun x=>vk h x.1).symm
theorem applB_step1 {s:qG} {t:qJ} {k m n i:Nat} {z:Int} (hk:k < m) (h:(applB s t k m)[k]! =true) (hm:m=s.qx.length) (hc:(s.qx[k]!).qH.toNat < n) (hz:z≤(s.qx[k]!).zM) (hi:i=s.qx.length):
    ((s.qx[k]!).zM == (bests s t z n i)[(s.qx[k]!).qH.toNat]!)=dec (Appl s t k):=by
  rw [applB_get hk,if_neg qf] at h
  refine dec_eq ?_
  rw [beq_iff_eq,bests_get hc,hi,appl_iff qf hz]
  exact ⟨fun e=>⟨QD h,e⟩,fun e=>e.2⟩
noncomputable def appl (s:qG) (t:qJ):List Bool:=applB s t s.qx.length s.qx.length
theorem appl_len (s:qG) (t:qJ):(appl s t).length=s.qx.length:=applB_len _ _ _ _
theorem appl_get {s:qG} {t:qJ} {j:Nat} (h:j < s.qx.length):(appl s t)[j]! =dec (Appl s t j):=by rw [appl,applB_get h,if_pos h]
theorem Q9 {s:qG} {t:qJ} {j:Nat} (h:j < s.qx.length) (h1:(appl s t)[j]! =true):Appl s t j:=QD (appl_get (s:=s) (t:=t) h▸h1)
theorem Qy {s:qG} {t:qJ} {j:Nat} (h:j < s.qx.length) (h1:(appl s t)[j]! =false):¬ Appl s t j:=vk (appl_get (s:=s) (t:=t) h▸h1)
def HaltTo (s:qG) (t:qJ) (k:Nat):Prop:=∀ j,j < k→¬ Appl s t j
theorem HaltTo.succ {s:qG} {t:qJ} {k:Nat} (h:HaltTo s t k) (h1:¬ Appl s t k):HaltTo s t (k+1):=fun j hj=>by
  by_cases e:j=k
  · subst e;exact h1
  · exact h j qf
abbrev Halted (s:qG) (t:qJ):Prop:=HaltTo s t s.qx.length
noncomputable def applL (s:qG) (t:qJ) (k:Nat):yLI:=((List.range k).filter fun j=>dec (Appl s t j)).map Int.ofNat
theorem applL_yes {s:qG} {t:qJ} {k:Nat} (h:Appl s t k):applL s t k++[(k:Int)]=applL s t (k+1):=by simp [applL,List.range_succ,List.filter_append,yD h]
theorem applL_no {s:qG} {t:qJ} {k:Nat} (h:¬ Appl s t k):applL s t k=applL s t (k+1):=by simp [applL,List.range_succ,List.filter_append,xx h]
noncomputable def appls (s:qG) (t:qJ):yLI:=applL s t s.qx.length
theorem applL_le (s:qG) (t:qJ) (k:Nat):(applL s t k).length≤k:=by
  have:=List.length_filter_le (fun j=>dec (Appl s t j)) (List.range k)
  simpa [applL] using this
theorem mem_applL {s:qG} {t:qJ} {k:Nat} {x:Int}:x∈applL s t k↔0≤x∧x.toNat < k∧Appl s t x.toNat:=by
  simp only [applL,List.mem_map,List.mem_filter,List.mem_range]
  constructor
  · rintro ⟨j,⟨h1,h2⟩,rfl⟩
    exact ⟨Int.natCast_nonneg j,h1,QD h2⟩
  · rintro ⟨h0,h1,h2⟩
    exact ⟨x.toNat,⟨h1,yD h2⟩,by show ((x.toNat:Nat):Int)=x;omega⟩
theorem jO.rule {s:qG} (h:jO s) {i:Nat} (hi:i < s.qx.length):RuleOk s (s.qx[i]!):=(h.2.2 i hi).1
theorem RuleOk.cell {s:qG} {r:QU} (h:RuleOk s r):r.qH.toNat < jg s:=by have:=h.1.1;have:=h.1.2;unfold jg;omega
theorem vw.len {s:qG} {l:yLI} (h:vw s.xC l):l.length=QH s:=by have:=h.2;unfold QH;omega
theorem vw.get {n:Int} {l:yLI} (h:vw n l) {k:Nat} (hk:k < l.length):0≤l[k]! ∧l[k]! ≤1000:=h.1.1 k hk
theorem vw.mul {s:qG} {m:yLI} (h:vw s.xC m) {t:Int} (ht: -1000≤t∧t≤1000):∀ k,k < QH s→ -1000000≤t * m[k]! ∧t * m[k]! ≤1000000:=fun k hk=>by
  have h1:=h.1.1 k (by rw [h.len];exact hk)
  rcases Int.le_total 0 t with h0 | h0
  · have h2:=Int.mul_nonneg h0 h1.1
    have h3:=Int.mul_le_mul_of_nonneg_left h1.2 h0
    omega
  · have h2:=Int.mul_nonneg (show 0≤ -t by omega) h1.1
    have h3:=Int.mul_le_mul_of_nonneg_left h1.2 (show 0≤ -t by omega)
    have h4: -t * m[k]! = -(t * m[k]!):=Int.neg_mul ..
    omega
theorem vw.yY {s:qG} {m:yLI} (h:vw s.xC m) {t:Int} (ht: -1000≤t∧t≤1000):SmallT m t:=bagOk_smallT h qf
theorem kinds_le {s:qG} (h:jO s):QH s≤8:=by have:=h.1.1.2;unfold QH;omega
theorem zF.shape {s:qG} {t:qJ} (h:zF s t):Shape (jg s) (QH s) 1000 t.qE:=by
  refine ⟨h.2.1,fun p hp=>?_⟩
  have hb:=h.bagLen (k:=p) (by rw [h.2.1];exact hp)
  refine ⟨hb.len,fun k hk=>?_⟩
  have:=hb.get (k:=k) (by rw [hb.len];exact hk)
  omega
def CntOk (s:qG) (counts:yLI):Prop:=counts.length=s.qx.length∧∀ i,i < counts.length→0≤counts[i]! ∧counts[i]! ≤1000
theorem CntOk.bd {s:qG} {counts:yLI} (h:CntOk s counts) {i:Nat} (hi:i < s.qx.length):0≤counts[i]! ∧counts[i]! ≤1000:=h.2 i (by rw [h.1];exact hi)

def Qi (s:qG) (t:qJ) (counts:yLI):Nat→yLL
  | 0=>t.qE
  | k+1=>(Qi s t counts k).set (s.qx[k]!).qH.toNat (vY ((Qi s t counts k)[(s.qx[k]!).qH.toNat]!) (s.qx[k]!).xm (-(counts[k]!)))
def needF (s:qG) (counts:yLI) (i p k:Nat):Int:=at' p (s.qx[i]!).qH.toNat (-(counts[i]!) * ((s.qx[i]!).xm)[k]!)
def needS (s:qG) (counts:yLI):Nat→Nat→Nat→Int
  | 0,_,_=>0
  | i+1,p,k=>needS s counts i p k+needF s counts i p k
theorem restR_ent {s:qG} {t:qJ} {counts:yLI} (hs:jO s) (ht:zF s t) (hc:CntOk s counts):∀ k,k≤s.qx.length→
    Ent (jg s) (QH s) (fun p q=>(t.qE[p]!)[q]! +needS s counts k p q) (1000+1000000 * k) (Qi s t counts k)
  | 0,_=>⟨by simpa [Qi] using ht.shape,fun p k hp hk=>by simp [Qi,needS]⟩
  | k+1,h=>by
    have hr:=hs.rule (i:=k) qf
    have hcb:=hc.bd (i:=k) qf
    refine ((restR_ent hs ht hc k qf).add (D:=1000000) rfl hr.cell (hr.2.2.2.2.1.mul qf) qf).to (fun p q=>?_) qf
    show _=_+(needS s counts k p q+needF s counts k p q)
    unfold needF;omega
theorem restR_row {s:qG} {t:qJ} {counts:yLI} (hs:jO s) (ht:zF s t) (hc:CntOk s counts) {k c:Nat} (hk:k≤s.qx.length) (h:c < jg s):
    ((Qi s t counts k)[c]!).length=QH s∧Mid ((Qi s t counts k)[c]!):=(restR_ent hs ht hc k hk).sh.row (by have:=hs.2.1;omega) (kinds_le hs) h
theorem restR_len {s:qG} {t:qJ} {counts:yLI}:∀ k,(Qi s t counts k).length=t.qE.length
  | 0=>rfl
  | k+1=>by rw [Qi,List.length_set];exact restR_len k
open Classical in
noncomputable def QC (P:Nat→Prop):Nat→Nat
  | 0=>0
  | n+1=>if QC P n < n then QC P n else if P n then n else n+1
theorem stop_none {P:Nat→Prop}:∀ {n:Nat},(∀ j,j < n→¬ P j)→QC P n=n
  | 0,_=>rfl
  | n+1,h=>by rw [QC,stop_none (n:=n) (fun j hj=>h j qf),if_neg qf,if_neg (h n qf)]
theorem stop_first {P:Nat→Prop}:∀ {n k:Nat},(∀ j,j < k→¬ P j)→k < n→P k→QC P n=k
  | n+1,k,h,hk,hp=>by
    rw [QC]
    by_cases e:k=n
    · subst e;rw [stop_none h,if_neg qf,if_pos hp]
    · rw [stop_first (n:=n) h qf hp,if_pos qf]
def BadAt (s:qG) (t:qJ) (counts:yLI) (i:Nat):Prop:=0 < counts[i]! ∧¬ Appl s t i
def GoodTo (s:qG) (t:qJ) (counts:yLI) (k:Nat):Prop:=∀ i,i < k→¬ BadAt s t counts i
theorem GoodTo.succ {s:qG} {t:qJ} {counts:yLI} {k:Nat} (h:GoodTo s t counts k) (h1:¬ BadAt s t counts k):GoodTo s t counts (k+1):=fun j hj=>by
  by_cases e:j=k
  · subst e;exact h1
  · exact h j qf
def NonNeg (b:yLL) (n:Nat):Prop:=∀ p,p < n→∀ k,k < (b[p]!).length→0≤(b[p]!)[k]!
theorem NonNeg.succ {b:yLL} {n:Nat} (h:NonNeg b n) (h1:∀ k,k < (b[n]!).length→0≤(b[n]!)[k]!):NonNeg b (n+1):=fun j hj=>by
  by_cases e:j=n
  · subst e;exact h1
  · exact h j qf
def IsCh (s:qG) (t:qJ) (counts:yLI):Prop:=GoodTo s t counts counts.length∧NonNeg (Qi s t counts counts.length) t.qE.length
def yR (l m:yLI):Nat→Int
  | 0=>1000
  | k+1=>if 0 < l[k]! then min (yR l m k) (m[k]! / l[k]!) else yR l m k
def jm (l m:yLI):Int:=yR l m l.length
theorem timesTo_pos {l m:yLI} {k:Nat} (h:0 < l[k]!):yR l m (k+1)=min (yR l m k) (m[k]! / l[k]!):=by rw [yR,if_pos h]
theorem timesTo_skip {l m:yLI} {k:Nat} (h:¬ 0 < l[k]!):yR l m (k+1)=yR l m k:=by rw [yR,if_neg h]
theorem timesTo_bd {l m:yLI} (hm:∀ k,k < l.length→0≤m[k]!):∀ k,k≤l.length→0≤yR l m k∧yR l m k≤1000
  | 0,_=>by simp [yR]
  | k+1,h=>by
    have:=timesTo_bd hm k qf
    rw [yR]
    split
    · next h1=>have:=Int.ediv_nonneg (hm k qf) (show 0≤l[k]! by omega);omega
    · exact this
theorem timesTo_le {l m:yLI}:∀ {k j:Nat},j < k→0 < l[j]! →yR l m k≤m[j]! / l[j]!
  | k+1,j,h,h1=>by
    rw [yR]
    by_cases e:j=k
    · subst e;rw [if_pos h1];omega
    · have:=timesTo_le (m:=m) (show j < k by omega) h1
      split <;> omega
theorem timesL_left {l m:yLI} (hl:∀ k,k < l.length→0≤l[k]!) (hm:∀ k,k < l.length→0≤m[k]!) {k:Nat} (hk:k < l.length):0≤m[k]! + -(jm l m) * l[k]! :=by
  have h0:=timesTo_bd hm l.length (Nat.le_refl _)
  rcases Int.lt_or_eq_of_le (hl k hk) with h | h
  · have h1:=timesTo_le (m:=m) hk h
    have h2:m[k]! / l[k]! * l[k]! ≤m[k]! :=Int.ediv_mul_le _ qf
    have h3:=Int.mul_le_mul_of_nonneg_right h1 (show 0≤l[k]! by omega)
    have h4: -(jm l m) * l[k]! = -(jm l m * l[k]!):=Int.neg_mul ..
    unfold jm at *
    omega
  · rw [← h];have:=hm k hk;omega
def XE (l m:yLI) (i:Nat) (best:Int):Prop:=(best=yR l m i∧∃ j,j < i∧0 < l[j]!)∨(best= -1∧yR l m i=1000∧∀ j,j < i→l[j]! ≤0)
theorem XE.zero (l m:yLI):XE l m 0 (-1):=.inr ⟨rfl,rfl,fun j hj=>by omega⟩
theorem XE.take {l m:yLI} {i:Nat} {best:Int} (h:XE l m i best) (hm:0≤m[i]! ∧m[i]! ≤1000) (hl:0 < l[i]!) (hb:best < 0∨m[i]! / l[i]! < best) (hn:0≤yR l m i):XE l m (i+1) (m[i]! / l[i]!):=by
  refine .inl ⟨?_,i,by omega,hl⟩
  rw [timesTo_pos hl]
  have h1:m[i]! / l[i]! ≤m[i]! :=Int.ediv_le_self _ hm.1
  rcases h with ⟨h,_⟩ | ⟨h,h2,_⟩ <;> omega
theorem XE.keep {l m:yLI} {i:Nat} {best:Int} (h:XE l m i best) (hl:¬ 0 < l[i]!):XE l m (i+1) best:=by
  unfold XE
  rw [timesTo_skip hl]
  rcases h with ⟨h,j,h1,h2⟩ | ⟨h,h2,h3⟩
  · exact .inl ⟨h,j,by omega,h2⟩
  · refine .inr ⟨h,h2,fun j hj=>?_⟩
    by_cases e:j=i
    · subst e;omega
    · exact h3 j qf
theorem XE.keep2 {l m:yLI} {i:Nat} {best:Int} (h:XE l m i best) (hl:0 < l[i]!) (hb:¬ best < 0) (hn:¬ m[i]! / l[i]! < best):XE l m (i+1) best:=by
  refine .inl ⟨?_,i,by omega,hl⟩
  rw [timesTo_pos hl]
  rcases h with ⟨h,_⟩ | ⟨h,_⟩ <;> omega
theorem XE.done {l m:yLI} {i:Nat} {best:Int} (h:XE l m i best) (hp:∃ j,j < i∧0 < l[j]!):best=yR l m i:=by
  rcases h with ⟨h,_⟩ | ⟨_,_,h3⟩
  · exact h
  · obtain ⟨j,h1,h2⟩:=hp
    have:=h3 j h1;omega
theorem sum_pos {l:yLI} (h:VP l) (h1:VN l≠0):∃ j,j < l.length∧0 < l[j]! :=by
  apply Classical.byContradiction
  intro hn
  have h0:∀ k,k≤l.length→sumTo l k=0:=by
    intro k
    induction k with
    | zero=>intro _;rfl
    | succ k ih=>
      intro hk
      have h2:=h.1 k qf
      have h3:¬ 0 < l[k]! :=fun h4=>hn ⟨k,by omega,h4⟩
      rw [sumTo,ih qf];omega
  exact h1 (h0 _ (Nat.le_refl _))
def Box (n K:Nat) (b:yLL):Prop:=b.length=n∧∀ p,p < n→(b[p]!).length=K∧∀ k,k < K→0≤(b[p]!)[k]! ∧(b[p]!)[k]! ≤1000
theorem zF.box {s:qG} {t:qJ} (h:zF s t):Box (jg s) (QH s) t.qE:=by
  refine ⟨h.2.1,fun p hp=>?_⟩
  have hb:=h.bagLen (k:=p) (by rw [h.2.1];exact hp)
  exact ⟨hb.len,fun k hk=>hb.get (by rw [hb.len];exact hk)⟩
theorem parentNow_root {s:qG} {t:qJ} (hs:yX s):xA s t 0= -1:=by
  unfold xA
  rw [show s.qw[(0:Int).toNat]! = -1 from hs.2.2.1]
  exact climb_end fun h=>by omega
def outPl (s:qG) (t:qJ) (r:QU):Nat:=if r.qH=0 then jg s else (xA s t r.qH).toNat
theorem outPl_root {s:qG} {t:qJ} {r:QU} (h:r.qH=0):outPl s t r=jg s:=by rw [outPl,if_pos h]
theorem outPl_up {s:qG} {t:qJ} {r:QU} (h:r.qH≠0):outPl s t r=(xA s t r.qH).toNat:=by rw [outPl,if_neg h]
def intoF (r:QU) (c:Int):Nat→Nat→Nat→Int
  | 0,_,_=>0
  | j+1,p,k=>intoF r c j p k+at' p (r.qQ[j]!).qH.toNat (c * ((r.qQ[j]!).jy)[k]!)
def putF (s:qG) (t:qJ) (r:QU) (c:Int) (p k:Nat):Int:=at' p r.qH.toNat (c * r.xM[k]!)+at' p (outPl s t r) (c * r.zV[k]!)+intoF r c r.qQ.length p k
def putS (s:qG) (t:qJ) (counts:yLI):Nat→Nat→Nat→Int
  | 0,_,_=>0
  | i+1,p,k=>putS s t counts i p k+putF s t (s.qx[i]!) (counts[i]!) p k
def allS (s:qG) (t:qJ) (counts:yLI):Nat→Nat→Nat→Int
  | 0,_,_=>0
  | i+1,p,k=>allS s t counts i p k+needF s counts i p k+putF s t (s.qx[i]!) (counts[i]!) p k
theorem allS_eq (s:qG) (t:qJ) (counts:yLI) (p k:Nat):∀ i,allS s t counts i p k=needS s counts i p k+putS s t counts i p k
  | 0=>rfl
  | i+1=>by
    have:=allS_eq s t counts p k i
    simp only [allS,needS,putS]
    omega
theorem at_zero (p c:Nat) (x:Int):at' p c (0 * x)=0:=by unfold at';split <;> simp
theorem intoF_zero (r:QU) (p k:Nat):∀ j,intoF r 0 j p k=0
  | 0=>rfl
  | j+1=>by rw [intoF,intoF_zero r p k j,at_zero];rfl
theorem putF_zero (s:qG) (t:qJ) (r:QU) {c:Int} (h:c=0) (p k:Nat):putF s t r c p k=0:=by
  subst h;rw [putF,at_zero,at_zero,intoF_zero];rfl
theorem putS_skip {s:qG} {t:qJ} {counts:yLI} {i:Nat} (h:counts[i]! =0) (p k:Nat):putS s t counts (i+1) p k=putS s t counts i p k:=by
  rw [putS,putF_zero s t _ h];omega
def base0 (s:qG) (t:qJ) (p k:Nat):Int:=if p < jg s then (t.qE[p]!)[k]! else t.qC[k]!
def stepF (s:qG) (t:qJ) (counts:yLI) (p k:Nat):Int:=base0 s t p k+allS s t counts s.qx.length p k
noncomputable def xy (s:qG) (t:qJ) (counts:yLI):qJ:=
  ⟨t.qA,(tab2 (jg s+1) (QH s) (stepF s t counts)).take (jg s),(tab2 (jg s+1) (QH s) (stepF s t counts))[jg s]!⟩
theorem zF.around {s:qG} {t:qJ} (h:zF s t):t.qC.length=QH s∧∀ k,k < QH s→0≤t.qC[k]! ∧t.qC[k]! ≤1000:=by
  have hb:=h.2.2.2.1
  exact ⟨hb.len,fun k hk=>hb.get (by rw [hb.len];exact hk)⟩
theorem start_ent {s:qG} {t:qJ} {counts:yLI} (ht:zF s t):Ent (jg s+1) (QH s) (fun p k=>base0 s t p k+allS s t counts 0 p k) 1000 (t.qE++[t.qC]):=by
  have h1:Ent (jg s) (QH s) (fun p k=>base0 s t p k+allS s t counts 0 p k) 1000 t.qE:=⟨ht.shape,fun p k hp hk=>by simp [base0,hp,allS]⟩
  refine h1.snoc ht.around.1 (fun k hk=>by have:=ht.around.2 k hk;omega) fun k hk=>?_
  simp [base0,allS]
theorem rest_ent {s:qG} {t:qJ} {counts:yLI} (hs:jO s) (ht:zF s t) (hc:CntOk s counts):
    Ent (jg s+1) (QH s) (fun p k=>base0 s t p k+needS s counts s.qx.length p k+putS s t counts 0 p k) (1000+1000000 * s.qx.length) (Qi s t counts s.qx.length++[t.qC]):=by
  have h1:Ent (jg s) (QH s) (fun p k=>base0 s t p k+needS s counts s.qx.length p k+putS s t counts 0 p k) (1000+1000000 * s.qx.length) (Qi s t counts s.qx.length):=by
    have h0:=restR_ent hs ht hc _ (Nat.le_refl _)
    exact ⟨h0.sh,fun p k hp hk=>by rw [h0.eq p k hp hk];simp [base0,hp,putS]⟩
  refine h1.snoc ht.around.1 (fun k hk=>by have:=ht.around.2 k hk;omega) fun k hk=>?_
  have h2:∀ i,i≤s.qx.length→needS s counts i (jg s) k=0:=by
    intro i
    induction i with
    | zero=>intro _;rfl
    | succ i ih=>
      intro hi
      have:=(hs.rule (i:=i) qf).cell
      rw [needS,ih qf,needF,at',if_neg qf];rfl
  rw [h2 _ (Nat.le_refl _)]
  simp [base0,putS]
theorem step_tab {s:qG} {t:qJ} {counts:yLI} {B:Int} {b:yLL} (h:Ent (jg s+1) (QH s) (fun p k=>base0 s t p k+allS s t counts s.qx.length p k) B b):
    b.take (jg s)=(xy s t counts).qE∧b[jg s]! =(xy s t counts).qC:=by
  have e:=h.tab
  constructor
  · show _=(tab2 _ _ _).take _
    rw [e];rfl
  · show _=(tab2 _ _ _)[_]!
    rw [e];rfl
theorem step_tab2 {s:qG} {t:qJ} {counts:yLI} {B:Int} {b:yLL} {a:yLI} (hb:b.length=jg s) (h:Ent (jg s+1) (QH s) (fun p k=>base0 s t p k+needS s counts s.qx.length p k+putS s t counts s.qx.length p k) B (b++[a])):
    b=(xy s t counts).qE∧a=(xy s t counts).qC:=by
  have h1:=step_tab (h.to (g:=fun p k=>base0 s t p k+allS s t counts s.qx.length p k) (fun p k=>by rw [allS_eq];omega) (Int.le_refl _))
  rw [← hb,List.take_left] at h1
  refine ⟨h1.1,?_⟩
  rw [← h1.2,getElem!_pos (b++[a]) b.length qm,List.getElem_append_right (Nat.le_refl _)];simp
theorem cat_set {b:yLL} {a v:yLI} {c:Nat} (hc:c < b.length):(b++[a]).set c v=b.set c v++[a]:=List.set_append_left c v hc
theorem cat_setN {b:yLL} {a v:yLI} {n:Nat} (h:b.length=n):(b++[a]).set n v=b++[v]:=by
  rw [List.set_append_right _ _ qf,h];simp
theorem cat_get {b:yLL} {a:yLI} {c:Nat} (hc:c < b.length):(b++[a])[c]! =b[c]! :=by
  rw [getElem!_pos (b++[a]) c (by simp;omega),getElem!_pos b c hc,List.getElem_append_left hc]
theorem cat_getN {b:yLL} {a:yLI} {n:Nat} (h:b.length=n):(b++[a])[n]! =a:=by
  rw [getElem!_pos (b++[a]) n (by simp;omega),List.getElem_append_right qf];simp [h]
theorem Ent.addL {n K:Nat} {f:Nat→Nat→Int} {B D:Int} {b:yLL} {a:yLI} (h:Ent (n+1) K f B (b++[a])) {c:Nat} {m:yLI} {t:Int} {b' :yLL} (e:b' =b.set c (vY (b[c]!) m t)) (hb:b.length=n) (hc:c < n) (ht:∀ k,k < K→ -D≤t * m[k]! ∧t * m[k]! ≤D) (hD:0≤D):
    Ent (n+1) K (fun p k=>f p k+at' p c (t * m[k]!)) (B+D) (b' ++[a]):=
  h.add (by rw [e,← cat_set qf,cat_get qf]) qf ht hD
theorem Ent.addN {n K:Nat} {f:Nat→Nat→Int} {B D:Int} {b:yLL} {a:yLI} (h:Ent (n+1) K f B (b++[a])) {m:yLI} {t:Int} {a' :yLI} (e:a' =vY a m t) (hb:b.length=n) (ht:∀ k,k < K→ -D≤t * m[k]! ∧t * m[k]! ≤D) (hD:0≤D):
    Ent (n+1) K (fun p k=>f p k+at' p n (t * m[k]!)) (B+D) (b++[a']):=
  h.add (by rw [e,cat_setN hb,cat_getN hb]) qf ht hD
theorem Ent.rowL {n K:Nat} {f:Nat→Nat→Int} {B:Int} {b:yLL} {a:yLI} (h:Ent (n+1) K f B (b++[a])) (hb:b.length=n) (hB:B≤1000000000000000) (hK:K≤8) {c:Nat} (hc:c < n):(b[c]!).length=K∧Mid (b[c]!):=by
  have:=h.sh.row hB hK (c:=c) qf
  rwa [cat_get qf] at this
theorem Ent.rowN {n K:Nat} {f:Nat→Nat→Int} {B:Int} {b:yLL} {a:yLI} (h:Ent (n+1) K f B (b++[a])) (hb:b.length=n) (hB:B≤1000000000000000) (hK:K≤8):a.length=K∧Mid a:=by
  have:=h.sh.row hB hK (c:=n) qf
  rwa [cat_getN hb] at this

def Xg (s:qG) (counts:yLI) (c:Int) (k:Nat):Prop:=∃ i,i < k∧0 < counts[i]! ∧(s.qx[i]!).zA=true∧(s.qx[i]!).qH=c
theorem melts_zero (s:qG) (counts:yLI) (c:Int):¬ Xg s counts c 0:=fun ⟨i,h,_⟩=>by omega
theorem melts_succ {s:qG} {counts:yLI} {c:Int} {k:Nat}:Xg s counts c (k+1)↔Xg s counts c k∨(0 < counts[k]! ∧(s.qx[k]!).zA=true∧(s.qx[k]!).qH=c):=by
  constructor
  · rintro ⟨i,h,h1⟩
    by_cases e:i=k
    · subst e;exact .inr h1
    · exact .inl ⟨i,by omega,h1⟩
  · rintro (⟨i,h,h1⟩ | h)
    · exact ⟨i,by omega,h1⟩
    · exact ⟨k,by omega,h⟩
theorem melts_1 {s:qG} {counts:yLI} {c:Int} {k:Nat} (h:dec (Xg s counts c k)=true):true=dec (Xg s counts c (k+1)):=(yD (melts_succ.2 (.inl (QD h)))).symm
theorem melts_2 {s:qG} {counts:yLI} {c:Int} {k:Nat} (h:dec (Xg s counts c k)=false) (h1:¬ counts[k]! > 0):false=dec (Xg s counts c (k+1)):=
  (xx fun x=>(melts_succ.1 x).elim (vk h) fun y=>h1 y.1).symm
theorem melts_3 {s:qG} {counts:yLI} {c:Int} {k:Nat} (h:dec (Xg s counts c k)=false) (h1:(s.qx[k]!).zA=false):false=dec (Xg s counts c (k+1)):=
  (xx fun x=>(melts_succ.1 x).elim (vk h) fun y=>ft y.2.1 h1).symm
theorem melts_4 {s:qG} {counts:yLI} {c:Int} {k:Nat} (h:dec (Xg s counts c k)=false) (h1:counts[k]! > 0) (h2:(s.qx[k]!).zA=true):((s.qx[k]!).qH == c)=dec (Xg s counts c (k+1)):=by
  refine dec_eq ?_
  rw [beq_iff_eq,melts_succ]
  exact ⟨fun e=>.inr ⟨h1,h2,e⟩,fun x=>x.elim (fun y=>absurd y (vk h)) fun y=>y.2.2⟩
abbrev Melts (s:qG) (counts:yLI) (c:Int):Prop:=Xg s counts c s.qx.length
noncomputable def yE (s:qG) (counts:yLI) (n k:Nat):List Bool:=(List.range n).map fun c:Nat=>dec (Xg s counts (c:Int) k)
theorem meltsL_len (s:qG) (counts:yLI) (n k:Nat):(yE s counts n k).length=n:=by simp [yE]
theorem meltsL_get {s:qG} {counts:yLI} {n k c:Nat} (h:c < n):(yE s counts n k)[c]! =dec (Xg s counts (c:Int) k):=by
  rw [getElem!_pos (yE s counts n k) c (by rw [meltsL_len];exact h)];simp [yE]
theorem meltsL_zero (s:qG) (counts:yLI) (n:Nat):List.replicate n false=yE s counts n 0:=by
  refine ext_get (by simp [meltsL_len]) fun k hk=>?_
  rw [List.length_replicate] at hk
  rw [meltsL_get hk,xx (melts_zero _ _ _),getElem!_pos (List.replicate n false) k (by simpa using hk)];simp
theorem meltsL_set {s:qG} {counts:yLI} {n k:Nat} (h0:0≤(s.qx[k]!).qH) (h:(s.qx[k]!).qH.toNat < n) {x:Bool} (hx:x=true↔((yE s counts n k)[(s.qx[k]!).qH.toNat]! =true∨(0 < counts[k]! ∧(s.qx[k]!).zA=true))):
    (yE s counts n k).set (s.qx[k]!).qH.toNat x=yE s counts n (k+1):=by
  refine ext_get (by simp [meltsL_len]) fun p hp=>?_
  rw [List.length_set,meltsL_len] at hp
  rw [getset (by rw [meltsL_len];exact h),meltsL_get hp,meltsL_get hp]
  rw [meltsL_get h] at hx
  by_cases e:p=(s.qx[k]!).qH.toNat
  · rw [if_pos e]
    refine dec_eq (hx.trans ?_)
    rw [melts_succ,e,show (((s.qx[k]!).qH.toNat:Nat):Int)=(s.qx[k]!).qH by omega]
    constructor
    · rintro (h1 | h1)
      · exact .inl (QD h1)
      · exact .inr ⟨h1.1,h1.2,rfl⟩
    · rintro (h1 | h1)
      · exact .inl (yD h1)
      · exact .inr ⟨h1.1,h1.2.1⟩
  · rw [if_neg e]
    refine dec_congr ?_
    rw [melts_succ]
    constructor
    · exact .inl
    · rintro (h1 | ⟨_,_,h1⟩)
      · exact h1
      · exfalso;omega
open Classical in
noncomputable def xu (s:qG) (counts:yLI) (u:qJ):Nat→qJ
  | 0=>u
  | j+1=>if Melts s counts ((jg s:Int) - 1 - j) then melted s (xu s counts u j) ((jg s:Int) - 1 - j) else xu s counts u j
theorem meltDown_yes {s:qG} {counts:yLI} {u:qJ} {j:Nat} {c:Int} (h:Melts s counts c) (hc:c=(jg s:Int) - 1 - j):xu s counts u (j+1)=melted s (xu s counts u j) c:=by subst hc;rw [xu,if_pos h]
theorem meltDown_no {s:qG} {counts:yLI} {u:qJ} {j:Nat} {c:Int} (h:¬ Melts s counts c) (hc:c=(jg s:Int) - 1 - j):xu s counts u (j+1)=xu s counts u j:=by subst hc;rw [xu,if_neg h]
theorem QR {s:qG} {counts:yLI} {u:qJ} {j i:Nat} {c:Int} (h:dec (Xg s counts c i)=true) (hi:i=s.qx.length) (hc:c=(jg s:Int) - 1 - j):xu s counts u (j+1)=melted s (xu s counts u j) c:=by subst hi;exact meltDown_yes (QD h) hc
theorem meltDown_no' {s:qG} {counts:yLI} {u:qJ} {j i:Nat} {c:Int} (h:dec (Xg s counts c i)=false) (hi:i=s.qx.length) (hc:c=(jg s:Int) - 1 - j):xu s counts u (j+1)=xu s counts u j:=by subst hi;exact meltDown_no (vk h) hc
theorem QE (s:qG) (counts:yLI) (u:qJ):∀ j,(xu s counts u j).qC=u.qC
  | 0=>rfl
  | j+1=>by
    rw [xu]
    split
    · exact QE s counts u j
    · exact QE s counts u j
structure Live (s:qG) (B:Int) (u:qJ):Prop where
  alive:u.qA.length=jg s
  root:u.qA[0]! =true
  bags:Shape (jg s) (QH s) B u.qE
  around:u.qC.length=QH s
theorem Live.melt {s:qG} {B:Int} {u:qJ} (hs:jO s) (h:Live s B u) (hB:0≤B) {c:Int} (h0:0 < c) (h1:c≤(jg s:Int) - 1):Live s (2 * B) (melted s u c):=by
  have hp:=YP (t:=u) hs.1 h.root h0 h1
  have hpc:(xA s u c).toNat < jg s:=by omega
  have hcc:c.toNat < jg s:=by omega
  refine ⟨by simp [melted,h.alive],?_,?_,h.around⟩
  · show (u.qA.set c.toNat false)[0]! =true
    rw [getset (by rw [h.alive];exact hcc),if_neg qf];exact h.root
  · have hr:=(h.bags.2 _ hcc).2
    have hk:=(h.bags.2 _ hcc).1
    have h2:=h.bags.plus (m:=u.qE[c.toNat]!) (t:=1) (D:=B) hpc (fun k hk=>by have:=hr k hk;omega) hB
    refine (h2.set (D:=B+B) hcc (by simp [QH]) (fun k hk=>?_) qf).mono qf
    rw [getElem!_pos (List.replicate s.xC.toNat (0:Int)) k (by simpa [QH] using hk)]
    simp;omega
def bnd:Nat→Int
  | 0=>200000000
  | j+1=>2 * bnd j
theorem bnd_pos:∀ j,0≤bnd j
  | 0=>by simp [bnd]
  | j+1=>by have:=bnd_pos j;simp only [bnd];omega
theorem bnd_mono:∀ {i j:Nat},i≤j→bnd i≤bnd j
  | i, 0, h => by obtain rfl : i = 0 := by omega
                  exact Int.le_refl _
  | i,j+1,h=>by
    by_cases e:i=j+1
    · subst e;exact Int.le_refl _
    · have:=bnd_mono (show i≤j by omega)
      have:=bnd_pos j
      simp only [bnd];omega
theorem bnd_le {j:Nat} (h:j≤6):bnd j≤12800000000:=Int.le_trans (bnd_mono h) (by simp [bnd])
theorem Live.mono {s:qG} {B D:Int} {u:qJ} (h:Live s B u) (hD:B≤D):Live s D u:=⟨h.alive,h.root,h.bags.mono hD,h.around⟩
theorem stepped_live {s:qG} {t:qJ} {counts:yLI} {B:Int} {b:yLL} (ht:zF s t) (h:Ent (jg s+1) (QH s) (fun p k=>base0 s t p k+allS s t counts s.qx.length p k) B b) (hB:B≤200000000):Live s (bnd 0) (xy s t counts):=by
  have h1:=step_tab h
  have hr:=h.sh.2 (jg s) qf
  refine ⟨ht.1,ht.2.2.1,?_,by rw [← h1.2];exact hr.1⟩
  rw [← h1.1]
  refine ⟨by rw [List.length_take,h.sh.1];omega,fun p hp=>?_⟩
  have e:(b.take (jg s))[p]! =b[p]! :=by
    rw [getElem!_pos (b.take (jg s)) p (by rw [List.length_take,h.sh.1];omega),getElem!_pos b p (by rw [h.sh.1];omega)];simp
  rw [e]
  have:=h.sh.2 p qf
  exact ⟨this.1,fun k hk=>by have:=this.2 k hk;simp only [bnd];omega⟩
theorem meltDown_live {s:qG} {counts:yLI} {u:qJ} (hs:jO s) (h:Live s (bnd 0) u):∀ j,j+1≤jg s→Live s (bnd j) (xu s counts u j)
  | 0,_=>h
  | j+1,hj=>by
    have ih:=meltDown_live (counts:=counts) hs h j qf
    by_cases hm:Melts s counts ((jg s:Int) - 1 - j)
    · rw [meltDown_yes hm rfl];exact ih.melt hs (bnd_pos j) qf qf
    · rw [meltDown_no hm rfl];exact ih.mono (bnd_mono qf)
theorem Live.rows {s:qG} {B:Int} {u:qJ} (hs:jO s) (h:Live s B u) (hB:B≤12800000000) {p c:Nat} (hp:p < jg s) (hc:c < jg s):
    (u.qE[p]!).length≤(u.qE[c]!).length∧Mid (u.qE[p]!)∧SmallT (u.qE[c]!) 1:=by
  have h1:=h.bags.row qf (kinds_le hs) hp
  have h2:=h.bags.row qf (kinds_le hs) hc
  refine ⟨by omega,h1.2,fun k hk=>?_⟩
  have:=h2.2.2 k hk
  omega
noncomputable def stepRes (s:qG) (t:qJ) (counts:yLI):qJ×Int:=told s (xu s counts (xy s t counts) (jg s - 1))
open Classical in
noncomputable def xN (s:qG) (t:qJ) (counts:yLI):qJ×Int:=if IsCh s t counts then stepRes s t counts else (default,4)
theorem stepBy_yes {s:qG} {t:qJ} {counts:yLI} (h:IsCh s t counts):xN s t counts=stepRes s t counts:=by rw [xN,if_pos h]
theorem stepBy_no {s:qG} {t:qJ} {counts:yLI} (h:¬ IsCh s t counts):xN s t counts=(default,4):=by rw [xN,if_neg h]
def minus (k:Nat):yLI:=(List.range 6).map fun j=>if j < k then -1 else 0
theorem minus_len (k:Nat):(minus k).length=6:=by simp [minus]
theorem minus_get {k j:Nat} (h:j < 6):(minus k)[j]! =if j < k then -1 else 0:=by
  rw [getElem!_pos (minus k) j (by rw [minus_len];exact h)];simp [minus]
theorem minus_set {k:Nat} (h:k < 6):(minus k).set k (-1)=minus (k+1):=by
  refine ext_get (by simp [minus_len]) fun p hp=>?_
  rw [List.length_set,minus_len] at hp
  rw [getset (by rw [minus_len];exact h),minus_get hp,minus_get hp]
  by_cases e:p=k
  · rw [if_pos e,if_pos qf]
  · rw [if_neg e]
    by_cases h1:p < k
    · rw [if_pos h1,if_pos qf]
    · rw [if_neg h1,if_neg qf]
theorem minus_six {k:Nat} (h:k=6) (s:qG) (t:qJ):minus k=bests s t (-1) 6 0:=by
  subst h
  rw [← bests_zero];rfl
theorem appl_yes {s:qG} {t:qJ} {i k n:Nat} {z:Int} (hk:k=s.qx.length) (hi:i < s.qx.length) (hz:z≤(s.qx[i]!).zM) (hc:(s.qx[i]!).qH.toNat < n) (h1:(s.qx[i]!).zM=(bests s t z n k)[(s.qx[i]!).qH.toNat]!) (h2:EnOk s t (s.qx[i]!)):Appl s t i:=by
  rw [bests_get hc,hk] at h1
  exact (appl_iff hi hz).2 ⟨h2,h1⟩
theorem appl_no {s:qG} {t:qJ} {i k n:Nat} {z:Int} (hk:k=s.qx.length) (hi:i < s.qx.length) (hz:z≤(s.qx[i]!).zM) (hc:(s.qx[i]!).qH.toNat < n) (h1:(s.qx[i]!).zM≠(bests s t z n k)[(s.qx[i]!).qH.toNat]!):¬ Appl s t i:=fun h=>by
  rw [bests_get hc,hk] at h1
  exact h1 ((appl_iff hi hz).1 h).2
theorem appls_halt {s:qG} {t:qJ}:(appls s t).length=0↔Halted s t:=by
  constructor
  · intro h j hj ha
    have:(j:Int)∈appls s t:=mem_applL.2 ⟨Int.natCast_nonneg j,by simpa using hj,by simpa using ha⟩
    rw [List.length_eq_zero_iff.1 h] at this;cases this
  · intro h
    rw [List.length_eq_zero_iff]
    apply List.eq_nil_iff_forall_not_mem.2
    intro x hx
    obtain ⟨h0,h1,h2⟩:=mem_applL.1 hx
    exact h _ h1 h2
theorem outPl_in {s:qG} {t:qJ} {r:QU} (hs:yX s) (h:0≤xA s t r.qH):outPl s t r=(xA s t r.qH).toNat:=by
  refine outPl_up fun e=>?_
  rw [e,parentNow_root hs] at h;omega
theorem outPl_out {s:qG} {t:qJ} {r:QU} (hs:yX s) (h0:t.qA[0]! =true) (hc:CellIn s r.qH) (h:¬ 0≤xA s t r.qH):outPl s t r=s.qw.length:=by
  refine outPl_root ?_
  rcases Int.lt_or_eq_of_le hc.1 with h1 | h1
  · exact absurd (YP hs h0 h1 hc.2).1 h
  · exact h1.symm
theorem parentNow_lt {s:qG} {t:qJ} (hs:yX s) (h0:t.qA[0]! =true) {c:Int} (hc:CellIn s c):xA s t c≤(s.qw.length:Int) - 1:=by
  rcases Int.lt_or_eq_of_le hc.1 with h1 | h1
  · have:=YP hs h0 h1 hc.2;have:=hc.2;omega
  · rw [← h1,parentNow_root hs];have:=hs.2.1;omega
theorem stepBy_ok {s:qG} {t:qJ} {counts:yLI} (h:(xN s t counts).2=0):zF s (xN s t counts).1:=by
  by_cases hc:IsCh s t counts
  · rw [stepBy_yes hc] at h ⊢
    unfold stepRes at h ⊢
    by_cases ho:zF s (xu s counts (xy s t counts) (jg s - 1))
    · rw [told_yes ho];exact ho
    · rw [told_no ho] at h;cases h
  · rw [stepBy_no hc] at h;cases h
theorem meltsL_1 {s:qG} {counts:yLI} {n k:Nat} (h0:0≤(s.qx[k]!).qH) (h:(s.qx[k]!).qH.toNat < n) (h1:(yE s counts n k)[(s.qx[k]!).qH.toNat]! =true):(yE s counts n k).set (s.qx[k]!).qH.toNat true=yE s counts n (k+1):=
  meltsL_set h0 h ⟨fun _=>.inl h1,fun _=>rfl⟩
theorem meltsL_2 {s:qG} {counts:yLI} {n k:Nat} (h0:0≤(s.qx[k]!).qH) (h:(s.qx[k]!).qH.toNat < n) (h1:(yE s counts n k)[(s.qx[k]!).qH.toNat]! =false) (h2:¬ counts[k]! > 0):(yE s counts n k).set (s.qx[k]!).qH.toNat false=yE s counts n (k+1):=
  meltsL_set h0 h ⟨fun h=>(by cases h),fun h=>h.elim (fun h=>(ft h h1).elim) fun h=>(h2 h.1).elim⟩
theorem meltsL_3 {s:qG} {counts:yLI} {n k:Nat} (h0:0≤(s.qx[k]!).qH) (h:(s.qx[k]!).qH.toNat < n) (h1:(yE s counts n k)[(s.qx[k]!).qH.toNat]! =false) (h2:counts[k]! > 0):(yE s counts n k).set (s.qx[k]!).qH.toNat (s.qx[k]!).zA=yE s counts n (k+1):=
  meltsL_set h0 h ⟨fun h=>.inr ⟨h2,h⟩,fun h=>h.elim (fun h=>(ft h h1).elim) fun h=>h.2⟩
theorem meltDown_yesL {s:qG} {counts:yLI} {u:qJ} {j i n:Nat} {c:Int} (h:(yE s counts n i)[c.toNat]! =true) (hn:c.toNat < n) (h0:0≤c) (hi:i=s.qx.length) (hc:c=(jg s:Int) - 1 - j):xu s counts u (j+1)=melted s (xu s counts u j) c:=by
  rw [meltsL_get hn,show ((c.toNat:Nat):Int)=c by omega] at h
  exact QR h hi hc
theorem meltDown_noL {s:qG} {counts:yLI} {u:qJ} {j i n:Nat} {c:Int} (h:(yE s counts n i)[c.toNat]! =false) (hn:c.toNat < n) (h0:0≤c) (hi:i=s.qx.length) (hc:c=(jg s:Int) - 1 - j):xu s counts u (j+1)=xu s counts u j:=by
  rw [meltsL_get hn,show ((c.toNat:Nat):Int)=c by omega] at h
  exact meltDown_no' h hi hc
theorem copy_pre {n K:Nat} {f:Nat→Nat→Int} {B:Int} {b:yLL} {al:List Bool} (h:Ent (n+1) K f B b) (hK:K≤8) (hn:n≤6) (ha:al.length=n):
    (⟨al,b.take n,b[n]!⟩:qJ).qA.length≤1000000∧(⟨al,b.take n,b[n]!⟩:qJ).qC.length≤1000000∧(⟨al,b.take n,b[n]!⟩:qJ).qE.length≤1000000∧
      ∀ j,j < (⟨al,b.take n,b[n]!⟩:qJ).qE.length→((⟨al,b.take n,b[n]!⟩:qJ).qE[j]!).length≤1000000:=by
  have hl:(b.take n).length=n:=by rw [List.length_take,h.sh.1];omega
  have hr:=h.sh.2 n qf
  refine ⟨?_,?_,?_,fun j hj=>?_⟩
  · show al.length≤1000000;omega
  · show (b[n]!).length≤1000000;omega
  · show (b.take n).length≤1000000;omega
  · have hj:j < (b.take n).length:=hj
    show ((b.take n)[j]!).length≤1000000
    rw [getElem!_pos (b.take n) j hj,List.getElem_take,← getElem!_pos b j (by rw [h.sh.1];omega)]
    have:=(h.sh.2 j qf).1;omega
def single (s:qG) (i:Nat):yLI:=(List.replicate s.qx.length (0:Int)).set i 1
theorem state_eq {a b:qJ} (h1:a.qA=b.qA) (h2:a.qE=b.qE) (h3:a.qC=b.qC):a=b:=by
  cases a;cases b;simp only at h1 h2 h3;subst h1 h2 h3;rfl
open Classical in
noncomputable def jH (s:qG) (t:qJ) (cs:yLL):Nat→List qJ
  | 0=>[]
  | k+1=>if (xN s t (cs[k]!)).1∈jH s t cs k then jH s t cs k else jH s t cs k++[(xN s t (cs[k]!)).1]
theorem nextTo_in {s:qG} {t:qJ} {cs:yLL} {k:Nat} (h:(xN s t (cs[k]!)).1∈jH s t cs k):jH s t cs k=jH s t cs (k+1):=by rw [jH,if_pos h]
theorem nextTo_new {s:qG} {t:qJ} {cs:yLL} {k:Nat} (h:¬ (xN s t (cs[k]!)).1∈jH s t cs k):jH s t cs k++[(xN s t (cs[k]!)).1]=jH s t cs (k+1):=by rw [jH,if_neg h]
theorem nextTo_len {s:qG} {t:qJ} {cs:yLL}:∀ k,(jH s t cs k).length≤k
  | 0=>by simp [jH]
  | k+1=>by
    have:=nextTo_len (s:=s) (t:=t) (cs:=cs) k
    rw [jH]
    split
    · omega
    · simp;omega
def CodeBad (s:qG) (t:qJ) (cs:yLL) (k:Nat):Prop:=(xN s t (cs[k]!)).2≠0
def NoBad (s:qG) (t:qJ) (cs:yLL) (k:Nat):Prop:=∀ j,j < k→¬ CodeBad s t cs j
theorem NoBad.succ {s:qG} {t:qJ} {cs:yLL} {k:Nat} (h:NoBad s t cs k) (h1:(xN s t (cs[k]!)).2=0):NoBad s t cs (k+1):=fun j hj=>by
  by_cases e:j=k
  · subst e;exact fun x=>x h1
  · exact h j qf
open Classical in
noncomputable def Qk (s:qG) (t:qJ) (cs:yLL):List qJ×Int:=
  if NoBad s t cs cs.length then (jH s t cs cs.length,0) else ([],(xN s t (cs[QC (CodeBad s t cs) cs.length]!)).2)
theorem next_ok {s:qG} {t:qJ} {cs:yLL} (h:NoBad s t cs cs.length):Qk s t cs=(jH s t cs cs.length,0):=by rw [Qk,if_pos h]
theorem next_bad {s:qG} {t:qJ} {cs:yLL} {k:Nat} (h:NoBad s t cs k) (hk:k < cs.length) (h1:(xN s t (cs[k]!)).2≠0):Qk s t cs=([],(xN s t (cs[k]!)).2):=by
  rw [Qk,if_neg (fun x=>x k hk h1),stop_first h hk h1]
theorem find_mem {l:List qJ} {u:qJ}:firstIdx (fun k=>decide (l[k]! =u)) l.length < 0↔¬ u∈l:=by
  have h:=anyTo_first (fun k=>decide (l[k]! =u)) l.length
  constructor
  · intro h1 hm
    obtain ⟨k,hk,e⟩:=List.mem_iff_getElem.1 hm
    have:anyTo (fun k=>decide (l[k]! =u)) l.length=true:=anyTo_iff.2 ⟨k,hk,by rw [getElem!_pos l k hk];simpa using e⟩
    rw [this] at h
    have:=of_decide_eq_true h
    omega
  · intro hm
    apply Classical.byContradiction
    intro h1
    rw [decide_eq_true qf] at h
    obtain ⟨k,hk,e⟩:=anyTo_iff.1 h.symm
    rw [getElem!_pos l k hk] at e
    exact hm ((of_decide_eq_true e)▸List.getElem_mem hk)
theorem mem_at {l:List qJ} {u:qJ} {k:Nat} (hk:k < l.length) (h:l[k]! =u):u∈l:=by
  rw [getElem!_pos l k hk] at h;rw [← h];exact List.getElem_mem hk
def NotIn (l:List qJ) (u:qJ) (k:Nat):Prop:=∀ j,j < k→l[j]! ≠u
theorem NotIn.succ {l:List qJ} {u:qJ} {k:Nat} (h:NotIn l u k) (h1:l[k]! ≠u):NotIn l u (k+1):=fun j hj=>by
  by_cases e:j=k
  · subst e;exact h1
  · exact h j qf
theorem NotIn.out {l:List qJ} {u:qJ} (h:NotIn l u l.length):¬ u∈l:=fun hm=>by
  obtain ⟨k,hk,e⟩:=List.mem_iff_getElem.1 hm
  exact h k hk (by rw [getElem!_pos l k hk];exact e)
def FullOk (parts:yLL) (rest:yLI):Prop:=∀ i,i < parts.length→within (parts[i]!) rest=false
def FullTo (parts:yLL) (rest:yLI) (k:Nat):Prop:=∀ i,i < k→within (parts[i]!) rest=false
theorem FullTo.succ {parts:yLL} {rest:yLI} {k:Nat} (h:FullTo parts rest k) (h1:within (parts[k]!) rest=false):FullTo parts rest (k+1):=fun j hj=>by
  by_cases e:j=k
  · subst e;exact h1
  · exact h j qf
open Classical in
noncomputable def packs (parts:yLL):Nat→Nat→yLI→yLL
  | 0,_,rest=>if FullOk parts rest then [[]] else []
  | f+1,k,rest=>(List.range ((jm (parts[k]!) rest).toNat+1)).flatMap fun (n:Nat)=>(packs parts f (k+1) (vY rest (parts[k]!) (-(n:Int)))).map ((n:Int) :: ·)
noncomputable def jA (parts:yLL) (f k:Nat) (rest:yLI) (m:Nat):yLL:=
  (List.range m).flatMap fun (n:Nat)=>(packs parts f (k+1) (vY rest (parts[k]!) (-(n:Int)))).map ((n:Int) :: ·)
theorem packs_succ (parts:yLL) (f k:Nat) (rest:yLI):packs parts (f+1) k rest=jA parts f k rest ((jm (parts[k]!) rest).toNat+1):=rfl
theorem packsTo_zero (parts:yLL) (f k:Nat) (rest:yLI):jA parts f k rest 0=[]:=rfl
theorem packsTo_succ (parts:yLL) (f k:Nat) (rest:yLI) (m:Nat):
    jA parts f k rest (m+1)=jA parts f k rest m++(packs parts f (k+1) (vY rest (parts[k]!) (-(m:Int)))).map ((m:Int) :: ·):=by
  simp [jA,List.range_succ]
theorem packs_full {parts:yLL} {k:Nat} {rest:yLI} (h:FullOk parts rest):packs parts 0 k rest=[[]]:=by rw [packs,if_pos h]
theorem packs_none {parts:yLL} {k:Nat} {rest:yLI} (h:¬ FullOk parts rest):packs parts 0 k rest=[]:=by rw [packs,if_neg h]
def gath (out more:yLL):yLL:=(out++more).take 2001
theorem gath_nil {out:yLL} (h:out.length≤2001):gath out []=out:=by unfold gath;rw [List.append_nil];exact List.take_of_length_le h
theorem gath_one {out:yLL} {x:yLI} (h:out.length≤2000):gath out [x]=out++[x]:=by
  unfold gath;rw [List.take_of_length_le];simp;omega
theorem gath_len (out more:yLL):(gath out more).length≤2001:=by simp [gath];omega
theorem gath_room {out more:yLL} (h:(gath out more).length≤2000):gath out more=out++more:=by
  unfold gath at *
  rw [List.length_take] at h
  exact List.take_of_length_le qf
theorem gath_cat {out a b:yLL} (h:(gath out a).length≤2000):gath (gath out a) b=gath out (a++b):=by
  rw [gath_room h];simp [gath]
theorem gath_stop {out a b:yLL} (h:¬ (gath out a).length≤2000):gath out a=gath out (a++b):=by
  unfold gath at *
  rw [List.length_take] at h
  rw [← List.append_assoc]
  exact (List.take_append_of_le_length (l₁:=out++a) (l₂:=b) qf).symm
def begins (b:yLI) (l:yLL):yLL:=l.map (b++·)
theorem begins_cat (b:yLI) (l m:yLL):begins b (l++m)=begins b l++begins b m:=by simp [begins]
theorem begins_cons (b:yLI) (n:Int) (l:yLL):begins b (l.map (n :: ·))=begins (b++[n]) l:=by simp [begins]
theorem begins_nil (l:yLL):begins [] l=l:=by simp [begins]
theorem begins_one (b:yLI):begins b [[]]=[b]:=by simp [begins]
theorem gath_step {parts:yLL} {f k m:Nat} {rest b:yLI} {out:yLL} (h:(gath out (begins b (jA parts f k rest m))).length≤2000):
    gath (gath out (begins b (jA parts f k rest m))) (begins (b++[(m:Int)]) (packs parts f (k+1) (vY rest (parts[k]!) (-(m:Int)))))=gath out (begins b (jA parts f k rest (m+1))):=by
  rw [gath_cat h,packsTo_succ,begins_cat,begins_cons]
theorem packsTo_more {parts:yLL} {f k:Nat} {rest:yLI}:∀ {m M:Nat},m≤M→∃ more,jA parts f k rest M=jA parts f k rest m++more
  | m, 0, h => ⟨[], by obtain rfl : m = 0 := by omega
                       simp⟩
  | m,M+1,h=>by
    by_cases e:m=M+1
    · subst e;exact ⟨[],by simp⟩
    · obtain ⟨more,hm⟩:=packsTo_more (parts:=parts) (f:=f) (k:=k) (rest:=rest) (show m≤M by omega)
      exact ⟨_,by rw [packsTo_succ,hm,List.append_assoc]⟩
theorem gath_end {parts:yLL} {f k m:Nat} {rest b:yLI} {out:yLL} (hm:m≤(jm (parts[k]!) rest).toNat+1) (h:m=(jm (parts[k]!) rest).toNat+1∨¬ (gath out (begins b (jA parts f k rest m))).length≤2000):
    gath out (begins b (jA parts f k rest m))=gath out (begins b (packs parts (f+1) k rest)):=by
  rw [packs_succ]
  rcases h with h | h
  · rw [h]
  · obtain ⟨more,e⟩:=packsTo_more (parts:=parts) (f:=f) (k:=k) (rest:=rest) hm
    rw [e,begins_cat]
    exact gath_stop h
open Classical in
noncomputable def vg (b:yLI) (parts:yLL):yLL×Int:=
  if VN b > 16 then ([],3) else if (packs parts parts.length 0 b).length > 2000 then ([],3) else (packs parts parts.length 0 b,0)
theorem gath_all {l:yLL}:(gath [] l).length > 2000↔l.length > 2000:=by unfold gath;rw [List.nil_append,List.length_take];omega
theorem gath_few {l:yLL} (h:¬ l.length > 2000):gath [] l=l:=by unfold gath;rw [List.nil_append];exact List.take_of_length_le qf
theorem packs_len {parts:yLL}:∀ {f k:Nat} {rest x:yLI},x∈packs parts f k rest→x.length=f
  | 0,k,rest,x,h=>by
    rw [packs] at h
    split at h
    · obtain rfl:=List.mem_singleton.1 h;rfl
    · simp at h
  | f+1,k,rest,x,h=>by
    rw [packs,List.mem_flatMap] at h
    obtain ⟨n,_,h⟩:=h
    obtain ⟨y,hy,rfl⟩:=List.mem_map.1 h
    rw [List.length_cons,packs_len hy]
def ahead (a b:yLI):Prop:=∃ i,i < a.length∧(∀ j,j < i→a[j]! =b[j]!)∧a[i]! < b[i]!
def SameTo (a b:yLI) (k:Nat):Prop:=∀ j,j < k→a[j]! =b[j]!
theorem SameTo.succ {a b:yLI} {k:Nat} (h:SameTo a b k) (h1:a[k]! =b[k]!):SameTo a b (k+1):=fun j hj=>by
  by_cases e:j=k
  · subst e;exact h1
  · exact h j qf
theorem ahead_yes {a b:yLI} {k:Nat} (h:SameTo a b k) (hk:k < a.length) (h1:a[k]! < b[k]!):ahead a b:=⟨k,hk,h,h1⟩
theorem ahead_no {a b:yLI} {k:Nat} (h:SameTo a b k) (h1:¬ a[k]! < b[k]!) (h2:a[k]! ≠b[k]!):¬ ahead a b:=by
  rintro ⟨i,hi,hs,hl⟩
  rcases Nat.lt_or_ge i k with hik | hik
  · rw [h i hik] at hl;omega
  · rcases Nat.lt_or_eq_of_le hik with hki | hki
    · exact h2 (hs k hki)
    · subst hki;exact h1 hl
theorem ahead_same {a b:yLI} (h:SameTo a b a.length):¬ ahead a b:=by
  rintro ⟨i,hi,_,hl⟩
  rw [h i hi] at hl;omega
theorem ahead_irr (a:yLI):¬ ahead a a:=ahead_same fun _ _=>rfl
theorem ahead_trans {a b c:yLI} (hab:a.length=b.length) (h1:ahead a b) (h2:ahead b c):ahead a c:=by
  obtain ⟨i,hi,hs,hl⟩:=h1
  obtain ⟨k,hk,ht,hm⟩:=h2
  rcases Nat.lt_or_ge i k with h | h
  · exact ⟨i,hi,fun j hj=>(hs j hj).trans (ht j qf),by rw [← ht i h];exact hl⟩
  · rcases Nat.lt_or_eq_of_le h with h' | h'
    · exact ⟨k,by omega,fun j hj=>(hs j qf).trans (ht j hj),by rw [hs k h'];exact hm⟩
    · subst h'
      exact ⟨k,hi,fun j hj=>(hs j hj).trans (ht j hj),by omega⟩
theorem ahead_tri {a b:yLI} (hl:a.length=b.length) (h1:¬ ahead a b) (h2:¬ ahead b a):a=b:=by
  have key:∀ k,k≤a.length→SameTo a b k:=by
    intro k
    induction k with
    | zero=>intro _ j hj;omega
    | succ k ih=>
      intro hk
      have hs:=ih qf
      refine hs.succ ?_
      apply Classical.byContradiction
      intro hne
      rcases Int.lt_or_gt_of_ne hne with h | h
      · exact h1 ⟨k,by omega,hs,h⟩
      · exact h2 ⟨k,by omega,fun j hj=>(hs j hj).symm,h⟩
  exact ext_get hl fun k hk=>key _ (Nat.le_refl _) k hk
def InOrder (l:yLL):Prop:=l.Pairwise fun a b=>¬ ahead b a
theorem order_one {n:Nat}:∀ {l m:yLL},(∀ x∈l,x.length=n)→l.Perm m→InOrder l→InOrder m→l=m
  | [],m,_,hp,_,_=>(List.Perm.nil_eq hp)
  | x :: l,m,hn,hp,hl,hm=>by
    cases m with
    | nil=>exact absurd hp.length_eq qm
    | cons y m=>
      have hl' :=List.pairwise_cons.1 hl
      have hm' :=List.pairwise_cons.1 hm
      have hy:y∈x :: l:=hp.symm.subset (List.mem_cons_self ..)
      have hx:x∈y :: m:=hp.subset (List.mem_cons_self ..)
      have e:x=y:=by
        rcases List.mem_cons.1 hx with h | h
        · exact h
        · rcases List.mem_cons.1 hy with h' | h'
          · exact h'.symm
          · exact ahead_tri ((hn x (List.mem_cons_self ..)).trans (hn y (List.mem_cons_of_mem _ h')).symm) (hm'.1 x h) (hl'.1 y h')
      subst e
      rw [order_one (fun z hz=>hn z (List.mem_cons_of_mem _ hz)) (List.Perm.cons_inv hp) hl'.2 hm'.2]
def swapAt (l:yLL) (k:Nat):yLL:=(l.set k (l[k - 1]!)).set (k - 1) (l[k]!)
def OrderTo (l:yLL) (k:Nat):Prop:=InOrder (l.take k)
theorem orderTo_iff {l:yLL} {k:Nat} (hk:k≤l.length):OrderTo l k↔∀ i j,i < j→j < k→¬ ahead (l[j]!) (l[i]!):=by
  unfold OrderTo InOrder
  rw [List.pairwise_iff_getElem]
  constructor
  · intro h i j hij hj
    have:=h i j (by rw [List.length_take];omega) (by rw [List.length_take];omega) hij
    rw [List.getElem_take,List.getElem_take] at this
    rwa [getElem!_pos l i qf,getElem!_pos l j qf]
  · intro h i j hi hj hij
    rw [List.length_take] at hi hj
    rw [List.getElem_take,List.getElem_take,← getElem!_pos l i qf,← getElem!_pos l j qf]
    exact h i j hij qf
theorem swap_len (l:yLL) (k:Nat):(swapAt l k).length=l.length:=by simp [swapAt]
theorem swap_get {l:yLL} {k p:Nat} (hk:0 < k) (hl:k < l.length):(swapAt l k)[p]! =if p=k - 1 then l[k]! else if p=k then l[k - 1]! else l[p]! :=by
  unfold swapAt
  rw [getset (by rw [List.length_set];omega),getset hl]
theorem swap_perm {l:yLL} {k:Nat} (hk:0 < k) (hl:k < l.length):(swapAt l k).Perm l:=by
  obtain ⟨j,rfl⟩:∃ j,k=j+1:=⟨k - 1,by omega⟩
  have e1:l=l.take j++(l[j]! :: l[j+1]! :: l.drop (j+2)):=by
    rw [getElem!_pos l j qf,getElem!_pos l (j+1) hl]
    conv=>lhs;rw [← List.take_append_drop j l]
    rw [List.drop_eq_getElem_cons (show j < l.length by omega),List.drop_eq_getElem_cons hl]
  have e2:swapAt l (j+1)=l.take j++(l[j+1]! :: l[j]! :: l.drop (j+2)):=by
    have hlen:(l.take j).length=j:=List.length_take_of_le qf
    refine ext_get (by rw [swap_len];simp;omega) fun p hp=>?_
    rw [swap_len] at hp
    rw [swap_get hk hl]
    have hp' :p < (l.take j++(l[j+1]! :: l[j]! :: l.drop (j+2))).length:=by simp;omega
    rw [getElem!_pos (l.take j++(l[j+1]! :: l[j]! :: l.drop (j+2))) p hp']
    by_cases h1:p < j
    · rw [if_neg qf,if_neg qf,List.getElem_append_left qf,List.getElem_take,getElem!_pos l p hp]
    · rw [List.getElem_append_right qf]
      simp only [hlen]
      by_cases h2:p=j
      · subst h2;simp
      · by_cases h3:p=j+1
        · subst h3;simp
        · rw [if_neg qf,if_neg qf]
          obtain ⟨q,rfl⟩:∃ q,p=j+2+q:=⟨p - (j+2),by omega⟩
          rw [getElem!_pos l _ hp]
          have:j+2+q - j=q+1+1:=by omega
          simp only [this,List.getElem_cons_succ,List.getElem_drop]
  rw [e2]
  conv=>rhs;rw [e1]
  exact List.Perm.append_left _ (List.Perm.swap ..)
def InsTo (l:yLL) (i k:Nat):Prop:=∀ a b,a < b→b≤i→b≠k→¬ ahead (l[b]!) (l[a]!)
theorem InsTo.start {l:yLL} {i:Nat} (h:∀ a b,a < b→b < i→¬ ahead (l[b]!) (l[a]!)):InsTo l i i:=fun a b hab hb hne=>h a b hab qf
theorem InsTo.down {l:yLL} {i k n:Nat} (h:InsTo l i k) (hn:∀ j,j < l.length→(l[j]!).length=n) (hk:0 < k) (hki:k≤i) (hi:i < l.length) (h1:ahead (l[k]!) (l[k - 1]!)):InsTo (swapAt l k) i (k - 1):=by
  intro a b hab hb hne
  have hlk:=hn k qf
  have hlk1:=hn (k - 1) qf
  rw [swap_get hk qf,swap_get hk qf,if_neg hne]
  by_cases hbk:b=k
  · subst hbk
    rw [if_pos rfl]
    by_cases ha:a=b - 1
    · rw [if_pos ha]
      intro h2
      exact ahead_irr _ (ahead_trans qf h1 h2)
    · rw [if_neg ha,if_neg qf]
      exact h a (b - 1) qf qf qf
  · rw [if_neg hbk]
    by_cases ha:a=k - 1
    · rw [if_pos ha];exact h k b qf hb hbk
    · rw [if_neg ha]
      by_cases hak:a=k
      · rw [if_pos hak];exact h (k - 1) b qf hb hbk
      · rw [if_neg hak];exact h a b hab hb hbk
theorem InsTo.stop {l:yLL} {i k n:Nat} (h:InsTo l i k) (hn:∀ j,j < l.length→(l[j]!).length=n) (hki:k≤i) (hi:i < l.length) (h1:k=0∨¬ ahead (l[k]!) (l[k - 1]!)):∀ a b,a < b→b < i+1→¬ ahead (l[b]!) (l[a]!):=by
  intro a b hab hb
  by_cases hbk:b=k
  · subst hbk
    have h1:¬ ahead (l[b]!) (l[b - 1]!):=h1.resolve_left qf
    by_cases ha:a=b - 1
    · subst ha;exact h1
    · intro h2
      have h3:=h a (b - 1) qf qf qf
      have hla:=hn a qf
      have hlb:=hn b qf
      have hlb1:=hn (b - 1) qf
      by_cases h4:ahead (l[a]!) (l[b - 1]!)
      · exact h1 (ahead_trans qf h2 h4)
      · have e:=ahead_tri qf h4 h3
        rw [e] at h2;exact h1 h2
  · exact h a b hab qf hbk
def PartsOk (K:Nat) (parts:yLL):Prop:=∀ i,i < parts.length→(parts[i]!).length=K∧(∀ q,q < K→0≤(parts[i]!)[q]! ∧(parts[i]!)[q]! ≤1000)∧∃ j,j < K∧0 < (parts[i]!)[j]!
def RestOk (K:Nat) (rest:yLI):Prop:=rest.length=K∧∀ q,q < K→0≤rest[q]! ∧rest[q]! ≤1000
def Yq (parts:yLL) (rest:yLI):Prop:=∃ K,K≤8∧PartsOk K parts∧RestOk K rest∧parts.length≤8

theorem times_bd {K:Nat} {parts:yLL} {rest:yLI} (hP:PartsOk K parts) (hR:RestOk K rest) {k:Nat} (hk:k < parts.length):0≤jm (parts[k]!) rest∧jm (parts[k]!) rest≤1000:=
  timesTo_bd (fun q hq=>(hR.2 q (by have:=(hP k hk).1;omega)).1) _ (Nat.le_refl _)
theorem take_get {K:Nat} {parts:yLL} {rest:yLI} (hP:PartsOk K parts) (hR:RestOk K rest) {k:Nat} (hk:k < parts.length) {n:Int} (h0:0≤n) (h1:n≤jm (parts[k]!) rest) {q:Nat} (hq:q < K):
    0≤rest[q]! + -n * (parts[k]!)[q]! ∧rest[q]! + -n * (parts[k]!)[q]! ≤rest[q]! :=by
  obtain ⟨hl,hb,_⟩:=hP k hk
  have a:=timesL_left (l:=parts[k]!) (m:=rest) (fun j hj=>(hb j qf).1) (fun j hj=>(hR.2 j qf).1) (k:=q) qf
  have b:=Int.mul_le_mul_of_nonneg_right h1 (hb q hq).1
  have c:=Int.mul_nonneg h0 (hb q hq).1
  have d: -n * (parts[k]!)[q]! = -(n * (parts[k]!)[q]!):=Int.neg_mul ..
  have e: -(jm (parts[k]!) rest) * (parts[k]!)[q]! = -(jm (parts[k]!) rest * (parts[k]!)[q]!):=Int.neg_mul ..
  omega
theorem RestOk.take {K:Nat} {parts:yLL} {rest:yLI} (hP:PartsOk K parts) (hR:RestOk K rest) {k:Nat} (hk:k < parts.length) {n:Int} (h0:0≤n) (h1:n≤jm (parts[k]!) rest):RestOk K (vY rest (parts[k]!) (-n)):=by
  refine ⟨by rw [plusL_len];exact hR.1,fun q hq=>?_⟩
  rw [plus_get (by have:=hR.1;omega)]
  have:=take_get hP hR hk h0 h1 hq
  have:=hR.2 q hq
  omega
theorem Yq.times {parts:yLL} {rest:yLI} (h:Yq parts rest) {k:Nat} (hk:k < parts.length):
    (parts[k]!).length≤rest.length∧(∀ q,q < (parts[k]!).length→0≤rest[q]! ∧rest[q]! ≤1000)∧(∃ j,j < (parts[k]!).length∧0 < (parts[k]!)[j]!)∧rest.length≤8∧0≤jm (parts[k]!) rest∧jm (parts[k]!) rest≤1000:=by
  obtain ⟨K,hK,hP,hR,hn⟩:=h
  obtain ⟨hl,hb,hj⟩:=hP k hk
  have ht:=times_bd hP hR hk
  refine ⟨by have:=hR.1;omega,fun q hq=>hR.2 q qf,by rw [hl];exact hj,by have:=hR.1;omega,ht⟩
theorem Yq.plus {parts:yLL} {rest:yLI} (h:Yq parts rest) {k:Nat} (hk:k < parts.length) {n:Int} (h0:0≤n) (h1:n≤jm (parts[k]!) rest):
    rest.length≤(parts[k]!).length∧Mid rest∧SmallT (parts[k]!) (-n)∧Yq parts (vY rest (parts[k]!) (-n)):=by
  obtain ⟨K,hK,hP,hR,hn⟩:=h
  obtain ⟨hl,hb,hj⟩:=hP k hk
  have ht:=times_bd hP hR hk
  refine ⟨by have:=hR.1;omega,⟨by have:=hR.1;omega,fun q hq=>by have:=hR.2 q (by have:=hR.1;omega);omega⟩,fun q hq=>?_,K,hK,hP,hR.take hP hk h0 h1,hn⟩
  have a:=hb q qf
  have b:=Int.mul_nonneg h0 a.1
  have c:=Int.mul_le_mul (show n≤1000 by omega) a.2 a.1 qf
  have d: -n * (parts[k]!)[q]! = -(n * (parts[k]!)[q]!):=Int.neg_mul ..
  omega
theorem Yq.small {parts:yLL} {rest:yLI} (h:Yq parts rest):rest.length≤8∧parts.length≤8:=by
  obtain ⟨K,hK,_,hR,hn⟩:=h
  exact ⟨by have:=hR.1;omega,hn⟩
theorem Yq.smallB {parts:yLL} {rest:yLI} (h:Yq parts rest):Small rest:=by
  obtain ⟨K,hK,_,hR,hn⟩:=h
  exact ⟨by have:=hR.1;omega,fun q hq=>by have:=hR.2 q (by have:=hR.1;omega);omega⟩

theorem pack_step {parts:yLL} {rest begin' :yLI} {out:yLL} {f n:Nat} (hf:begin'.length+f=parts.length) (hp:begin'.length < parts.length)
    (h:(gath out (begins begin' (jA parts (f - 1) begin'.length rest n))).length≤2000):
    gath (gath out (begins begin' (jA parts (f - 1) begin'.length rest n))) (begins (begin' ++[(n:Int)]) (packs parts (parts.length - (begin' ++[(n:Int)]).length) (begin' ++[(n:Int)]).length (vY rest (parts[begin'.length]!) (-(n:Int)))))=
      gath out (begins begin' (jA parts (f - 1) begin'.length rest (n+1))):=by
  rw [← gath_step h,List.length_append,List.length_cons,List.length_nil,show parts.length - (begin'.length+(0+1))=f - 1 by omega]
theorem pack_start {parts:yLL} {rest begin' :yLI} {out:yLL} {f:Nat} (h:out.length≤2000):out=gath out (begins begin' (jA parts f begin'.length rest 0)):=by
  rw [packsTo_zero];exact (gath_nil qf).symm
theorem pack_full {parts:yLL} {rest begin' :yLI} {out:yLL} (hl:begin'.length=parts.length) (h:FullOk parts rest) (ho:out.length≤2000):
    gath out (begins begin' (packs parts (parts.length - begin'.length) begin'.length rest))=out++[begin']:=by
  rw [show parts.length - begin'.length=0 by omega,packs_full h,begins_one,gath_one ho]
theorem pack_none {parts:yLL} {rest begin' :yLI} {out:yLL} (hl:begin'.length=parts.length) (h:¬ FullOk parts rest) (ho:out.length≤2000):
    gath out (begins begin' (packs parts (parts.length - begin'.length) begin'.length rest))=out:=by
  rw [show parts.length - begin'.length=0 by omega,packs_none h];exact gath_nil qf
theorem pack_end {parts:yLL} {rest begin' :yLI} {out:yLL} {f n:Nat} (hf:begin'.length+f=parts.length) (hp:begin'.length < parts.length) (hn:(n:Int)≤jm (parts[begin'.length]!) rest+1)
    (h0:0≤jm (parts[begin'.length]!) rest) (h:¬ (n:Int)≤jm (parts[begin'.length]!) rest∨¬ ((gath out (begins begin' (jA parts (f - 1) begin'.length rest n))).length:Int)≤2000):
    gath out (begins begin' (packs parts (parts.length - begin'.length) begin'.length rest))=gath out (begins begin' (jA parts (f - 1) begin'.length rest n)):=by
  obtain ⟨f,rfl⟩:∃ g,f=g+1:=⟨f - 1,by omega⟩
  rw [show parts.length - begin'.length=f+1 by omega]
  rw [show f+1 - 1=f from rfl] at h ⊢
  exact (gath_end qf (by rcases h with h | h;(left;omega);(right;omega))).symm
theorem all_a {b:yLI} {parts:yLL} (h:VN b > 16):vg b parts=([],3):=by rw [vg,if_pos h]
theorem all_b {b:yLI} {parts:yLL} (h:¬ VN b > 16) (h1:((gath ([]:yLL) (begins ([]:yLI) (packs parts (parts.length - ([]:yLI).length) ([]:yLI).length b))).length:Int) > 2000):vg b parts=([],3):=by
  replace h1:(gath [] (begins [] (packs parts (parts.length - 0) 0 b))).length > 2000:=by have:((gath [] (begins [] (packs parts (parts.length - 0) 0 b))).length:Int) > 2000:=h1;omega
  rw [begins_nil] at h1
  have h2:(packs parts parts.length 0 b).length > 2000:=gath_all.1 h1
  rw [vg,if_neg h,if_pos h2]
theorem all_0 {b:yLI} {parts:yLL} (h:¬ VN b > 16) (h1:¬ ((gath ([]:yLL) (begins ([]:yLI) (packs parts (parts.length - ([]:yLI).length) ([]:yLI).length b))).length:Int) > 2000):
    vg b parts=(gath ([]:yLL) (begins ([]:yLI) (packs parts (parts.length - ([]:yLI).length) ([]:yLI).length b)),0):=by
  show vg b parts=(gath [] (begins [] (packs parts (parts.length - 0) 0 b)),0)
  replace h1:¬ (gath [] (begins [] (packs parts (parts.length - 0) 0 b))).length > 2000:=fun h=>h1 (by have:((gath [] (begins [] (packs parts (parts.length - 0) 0 b))).length:Int) > 2000:=qf;exact this)
  rw [begins_nil] at h1 ⊢
  have h2:¬ (packs parts parts.length 0 b).length > 2000:=fun h=>h1 (gath_all.2 h)
  rw [vg,if_neg h,if_neg h2,show parts.length - 0=parts.length from rfl,gath_few h2]

theorem fmap_le {α β:Type} {c:Nat} (g:α→List β):∀ (l:List α),(∀ x∈l,(g x).length≤c)→(l.flatMap g).length≤l.length * c
  | [],_=>by simp
  | x :: l,h=>by
    have h1:=h x (List.mem_cons_self ..)
    have h2:=fmap_le g l fun y hy=>h y (List.mem_cons_of_mem _ hy)
    rw [List.flatMap_cons,List.length_append,List.length_cons,Nat.add_mul,Nat.one_mul]
    omega
theorem within_more {K:Nat} {parts:yLL} {rest:yLI} (hP:PartsOk K parts) (hR:RestOk K rest) {k:Nat} (hk:k < parts.length) {n:Int} (h0:0≤n) (h1:n < jm (parts[k]!) rest):
    within (parts[k]!) (vY rest (parts[k]!) (-n))=true:=by
  rw [within_iff]
  intro q hq
  obtain ⟨hl,hb,_⟩:=hP k hk
  rw [plus_get (by have:=hR.1;omega)]
  have a:=(take_get hP hR hk (show 0≤n+1 by omega) qf (q:=q) qf).1
  have d: -n * (parts[k]!)[q]! = -(n * (parts[k]!)[q]!):=Int.neg_mul ..
  have e: -(n+1) * (parts[k]!)[q]! = -((n+1) * (parts[k]!)[q]!):=Int.neg_mul ..
  have g:(n+1) * (parts[k]!)[q]! =n * (parts[k]!)[q]! +(parts[k]!)[q]! :=by rw [Int.add_mul,Int.one_mul]
  omega
theorem within_none {K:Nat} {parts:yLL} {rest:yLI} (hP:PartsOk K parts) (hR:RestOk K rest) {k:Nat} (hk:k < parts.length) (hb:jm (parts[k]!) rest < 1000):
    within (parts[k]!) (vY rest (parts[k]!) (-(jm (parts[k]!) rest)))=false:=by
  rw [Bool.eq_false_iff]
  intro hw
  rw [within_iff] at hw
  obtain ⟨hl,hbb,_⟩:=hP k hk
  have key:∀ j,j≤(parts[k]!).length→jm (parts[k]!) rest+1≤yR (parts[k]!) rest j:=by
    intro j
    induction j with
    | zero=>intro _;rw [yR];omega
    | succ j ih=>
      intro hj
      have hi:=ih qf
      rw [yR]
      split
      · next hpos=>
        have h1:=hw j qf
        rw [plus_get (by have:=hR.1;omega)] at h1
        have e: -(jm (parts[k]!) rest) * (parts[k]!)[j]! = -(jm (parts[k]!) rest * (parts[k]!)[j]!):=Int.neg_mul ..
        have g:(jm (parts[k]!) rest+1) * (parts[k]!)[j]! =jm (parts[k]!) rest * (parts[k]!)[j]! +(parts[k]!)[j]! :=by rw [Int.add_mul,Int.one_mul]
        have:=(Int.le_ediv_iff_mul_le hpos).2 (show (jm (parts[k]!) rest+1) * (parts[k]!)[j]! ≤rest[j]! by omega)
        omega
      · exact hi
  have:=key _ (Nat.le_refl _)
  unfold jm at this
  omega
theorem within_less {K:Nat} {l m m' :yLI} (hl:l.length=K) (h:within l m=false) (hle:∀ q,q < K→m'[q]! ≤m[q]!):within l m' =false:=by
  rw [Bool.eq_false_iff] at h ⊢
  intro hw
  rw [within_iff] at hw
  exact h (within_iff.2 fun q hq=>Int.le_trans (hw q hq) (hle q qf))
def Few (K:Nat) (rest:yLI):Prop:=∀ q,q < K→rest[q]! ≤16
theorem Few.take {K:Nat} {parts:yLL} {rest:yLI} (hF:Few K rest) (hP:PartsOk K parts) (hR:RestOk K rest) {k:Nat} (hk:k < parts.length) {n:Int} (h0:0≤n) (h1:n≤jm (parts[k]!) rest):Few K (vY rest (parts[k]!) (-n)):=fun q hq=>by
  rw [plus_get (by have:=hR.1;omega)]
  have:=take_get hP hR hk h0 h1 hq
  have:=hF q hq
  omega
theorem times_few {K:Nat} {parts:yLL} {rest:yLI} (hF:Few K rest) (hP:PartsOk K parts) (hR:RestOk K rest) {k:Nat} (hk:k < parts.length):jm (parts[k]!) rest≤16:=by
  obtain ⟨hl,hb,j,hj,hpos⟩:=hP k hk
  have h1:=timesTo_le (l:=parts[k]!) (m:=rest) (k:=(parts[k]!).length) (j:=j) qf hpos
  have h2:rest[j]! / (parts[k]!)[j]! ≤16:=by
    exact Int.le_trans (Int.ediv_le_self _ (hR.2 j hj).1) (hF j hj)
  unfold jm
  omega
theorem packs_ne {K:Nat} {parts:yLL} (hP:PartsOk K parts):∀ (f k:Nat) (rest:yLI),k+f=parts.length→RestOk K rest→Few K rest→FullTo parts rest k→packs parts f k rest≠[]
  | 0,k,rest,hk,hR,hF,hT=>by
    rw [packs_full (fun i hi=>hT i qf)];simp
  | f+1,k,rest,hk,hR,hF,hT=>by
    have hb:=times_bd hP hR (k:=k) qf
    have h16:=times_few hF hP hR (k:=k) qf
    have h1:=packs_ne hP f (k+1) (vY rest (parts[k]!) (-(jm (parts[k]!) rest))) qf (hR.take hP qf hb.1 (Int.le_refl _)) (hF.take hP hR qf hb.1 (Int.le_refl _)) (by
      refine FullTo.succ (fun i hi=>?_) (within_none hP hR qf qf)
      refine within_less (K:=K) (hP i qf).1 (hT i hi) fun q hq=>?_
      rw [plus_get (by have:=hR.1;omega)]
      exact (take_get hP hR qf hb.1 (Int.le_refl _) hq).2)
    obtain ⟨x,hx⟩:=List.exists_mem_of_ne_nil _ h1
    refine List.ne_nil_of_mem (a:=jm (parts[k]!) rest :: x) ?_
    rw [packs,List.mem_flatMap]
    have e:(((jm (parts[k]!) rest).toNat:Nat):Int)=jm (parts[k]!) rest:=by omega
    refine ⟨(jm (parts[k]!) rest).toNat,List.mem_range.2 qf,List.mem_map.2 ⟨x,?_,by rw [e]⟩⟩
    rw [e];exact hx
theorem packs_few {K:Nat} {parts:yLL} (hP:PartsOk K parts):∀ (f k:Nat) (rest:yLI),k+(f+1)=parts.length→RestOk K rest→Few K rest→(packs parts (f+1) k rest).length≤17 ^ f
  | 0,k,rest,hk,hR,hF=>by
    have hb:=times_bd hP hR (k:=k) qf
    rw [packs_succ,packsTo_succ,List.length_append,List.length_map]
    have h1:jA parts 0 k rest (jm (parts[k]!) rest).toNat=[]:=by
      rw [jA,List.flatMap_eq_nil_iff]
      intro n hn
      rw [List.mem_range] at hn
      rw [packs_none (fun h=>?_),List.map_nil]
      have h2:=within_more hP hR (k:=k) qf (n:=(n:Int)) qf qf
      rw [h k qf] at h2
      cases h2
    rw [h1,List.length_nil,Nat.zero_add,packs]
    split <;> simp
  | f+1,k,rest,hk,hR,hF=>by
    have hb:=times_bd hP hR (k:=k) qf
    have h16:=times_few hF hP hR (k:=k) qf
    rw [packs]
    refine Nat.le_trans (fmap_le (c:=17 ^ f) _ _ fun n hn=>?_) ?_
    · rw [List.mem_range] at hn
      rw [List.length_map]
      exact packs_few hP f (k+1) _ qf (hR.take hP qf qf qf) (hF.take hP hR qf qf qf)
    · rw [List.length_range,Nat.pow_succ,Nat.mul_comm]
      exact Nat.mul_le_mul_left _ qf
theorem sum_few {K:Nat} {rest:yLI} (hR:RestOk K rest) (h:VN rest≤16):Few K rest:=by
  have key:∀ n,n≤rest.length→0≤sumTo rest n∧∀ q,q < n→rest[q]! ≤sumTo rest n:=by
    intro n
    induction n with
    | zero=>intro _;exact ⟨by simp [sumTo],fun q hq=>by omega⟩
    | succ n ih=>
      intro hn
      have hi:=ih qf
      have hr:=hR.2 n (by have:=hR.1;omega)
      rw [sumTo]
      refine ⟨by omega,fun q hq=>?_⟩
      by_cases e:q=n
      · subst e;omega
      · have:=hi.2 q qf;omega
  intro q hq
  have:=(key rest.length (Nat.le_refl _)).2 q (by have:=hR.1;omega)
  unfold VN at h
  omega
end
end Go.Proofs.YtgjnaocffdhnbaaGreat
