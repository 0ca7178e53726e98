/- Walks and laws, printed by program and by hand: what each function comes to, for all arguments, part 3. -/
import Derived.Test.YtgjnaocffdhnbaaGreatA2
import Derived.Shelf.SlSortCmp.Whole1
import Derived.Ground.SlsfProg
import Derived.Shelf.SlicesE.Reverse
import Derived.Shelf.SlGeneric
import Derived.Ground.SlgnProg
import Derived.Test.YtgjnaocffdhnbaaGreatRows
import Derived.ProofKit
import Derived.OpenShut
import Derived.Carry
import Derived.BigQuiet
import Derived.Lib.SmallJoins
namespace Go.Proofs.YtgjnaocffdhnbaaGreat
set_option linter.unusedVariables false
set_option linter.unusedSimpArgs false
open Go.Proofs.YtgjnaocffdhnbaaGreat.Tot (tot)
open Go.Proofs.YtgjnaocffdhnbaaGreat.Mark (cnt mrk mkd mkd_mark cnt_mark)
section

inductive Rch (R:yLL):Nat→Nat→Prop
  | refl (j:Nat):Rch R j j
  | step {j i:Nat} (k:Nat):k < (R[j]!).length→Rch R (((R[j]!)[k]!).toNat) i→Rch R j i
theorem Rch.one {R:yLL} {j i:Nat} (h:Rch R j i) {k:Nat} (hk:k < (R[i]!).length):Rch R j (((R[i]!)[k]!).toNat):=by
  induction h with
  | refl j=>exact .step k hk (.refl _)
  | step q hq _ ih=>exact .step q hq (ih hk)
theorem Rch.not {R:yLL} {i k:Nat} (hk:k < (R[i]!).length) (h:Rch R (((R[i]!)[k]!).toNat) i):¬ Halts R i:=
  not_halt (p:=fun j=>Rch R j i) (fun j hj=>by
    cases hj with
    | refl=>exact ⟨k,hk,h⟩
    | step q hq h1=>exact ⟨q,hq,h1⟩) (.refl i)
theorem not_go {R:yLL} {i k:Nat} (hk:k < (R[i]!).length) (h:¬ Halts R (((R[i]!)[k]!).toNat)):¬ Halts R i:=fun hi=>h (hi.go hk)
def RowsIn (R:yLL):Prop:=R.length≤300∧∀ j,j < R.length→(R[j]!).length≤300∧∀ k,k < (R[j]!).length→0≤(R[j]!)[k]! ∧((R[j]!)[k]!).toNat < R.length
structure VisI (R:yLL) (M D:yLI):Prop where
  ml:M.length=R.length
  dl:D.length=R.length
  mr:∀ j,j < R.length→M[j]! =0∨M[j]! =1∨M[j]! =2
  fi:∀ j,j < R.length→M[j]! =2→Fi R j (D[j]!)
  nz:∀ j,j < R.length→M[j]! =0→D[j]! =0
  bd:∀ j,j < R.length→0≤D[j]! ∧D[j]! ≤M.count 2∧(M[j]! =2→D[j]! +1≤M.count 2)
structure VisEnd (R:yLL) (M D M' D' :yLI) (i:Nat):Prop where
  vi:VisI R M' D'
  me:M'[i]! =2
  kp:∀ j:Nat,M[j]! ≠0→M'[j]! =M[j]! ∧D'[j]! =D[j]!
  op:∀ j:Nat,M'[j]! =1→M[j]! =1
  c0:M'.count 0≤M.count 0
  c2:M.count 2≤M'.count 2
structure VisL (R:yLL) (M D M' D' :yLI) (i k:Nat):Prop where
  vi:VisI R M' D'
  m0:M[i]! =0
  me:M'[i]! =1
  kp:∀ j:Nat,M[j]! ≠0→M'[j]! =M[j]! ∧D'[j]! =D[j]!
  op:∀ j:Nat,M'[j]! =1→M[j]! =1∨j=i
  dn:∀ q:Nat,q < k→M'[((R[i]!)[q]!).toNat]! =2
  mx:D'[i]! =mxF (fun j=>D'[j]!) (R[i]!) k
  c0:M'.count 0 < M.count 0
  c2:M.count 2≤M'.count 2
theorem count_setI {l:yLI} {a b c:Int}:∀ {i:Nat},i < l.length→l[i]! =b→b≠a→((l.set i a).count c:Int)=l.count c+(if a=c then 1 else 0) - (if b=c then 1 else 0):=by
  induction l with
  | nil=>intro i h;simp at h
  | cons x l ih=>
    intro i h h1 hab
    cases i with
    | zero=>simp at h1;subst h1;rw [List.set_cons_zero,List.count_cons,List.count_cons];simp only [beq_iff_eq];split <;> split <;> omega
    | succ i=>
      have:=ih (i:=i) (by simpa using h) (by simpa using h1) hab
      rw [List.set_cons_succ,List.count_cons,List.count_cons];omega
theorem setAt0 {l:yLI} {i j:Nat} {a:Int}:(l.set i a)[j]! =if i=j∧j < l.length then a else l[j]! :=by
  by_cases h:j < l.length
  · rw [setAt1 h];simp [h]
  · rw [if_neg qf,getElem!_neg _ j (by simpa using h),getElem!_neg _ j (by simpa using h)]
theorem VisI.start (R:yLL):VisI R (List.replicate R.length 0) (List.replicate R.length 0):=
  ⟨by simp,by simp,fun j hj=>by rw [repAt1 hj];omega,fun j hj h=>by rw [repAt1 hj] at h;exact absurd h qj,fun j hj _=>repAt1 hj,fun j hj=>by rw [repAt1 hj];exact ⟨by omega,by omega,fun h=>absurd h qj⟩⟩
theorem VisL.start {R:yLL} {M D:yLI} (h:VisI R M D) {i:Nat} (hi:i < R.length) (h0:M[i]! =0):VisL R M D (M.set i 1) D i 0:=by
  have hm:=h.ml
  have c2:=count_setI (c:=2) (a:=1) (show i < M.length by omega) h0 qj
  have c0:=count_setI (c:=0) (a:=1) (show i < M.length by omega) h0 qj
  simp only [Int.reduceEq,if_false,if_true] at c0 c2
  refine ⟨⟨by simp [h.ml],h.dl,fun j hj=>?_,fun j hj hx=>?_,fun j hj hx=>?_,fun j hj=>?_⟩,h0,by rw [setAt0,if_pos ⟨rfl,by omega⟩],fun j hj=>?_,fun j hj=>?_,fun q hq=>by omega,h.nz i hi h0,by omega,by omega⟩
  · rw [setAt0];split
    · omega
    · exact h.mr j hj
  · rw [setAt0] at hx;split at hx
    · omega
    · exact h.fi j hj hx
  · rw [setAt0] at hx;split at hx
    · omega
    · exact h.nz j hj hx
  · have hb:=h.bd j hj
    rw [setAt0];split
    · exact ⟨hb.1,by omega,fun hx=>absurd hx qj⟩
    · exact ⟨hb.1,by omega,fun hx=>by have:=hb.2.2 hx;omega⟩
  · rw [setAt0,if_neg (by rintro ⟨rfl,_⟩;exact hj h0)];exact ⟨rfl,rfl⟩
  · rw [setAt0] at hj;split at hj
    · exact .inr qf
    · exact .inl hj
theorem VisL.open' {R:yLL} {M D M' D' :yLI} {i k:Nat} (h:VisL R M D M' D' i k) (hk:k < (R[i]!).length) (hr:∀ j,M[j]! =1→Rch R j i):∀ j,M'[j]! =1→Rch R j (((R[i]!)[k]!).toNat):=fun j hj=>by
  rcases h.op j hj with h1 | rfl
  · exact (hr j h1).one hk
  · exact (Rch.refl j).one hk
theorem VisL.cyc {R:yLL} {M D M' D' :yLI} {i k:Nat} (h:VisL R M D M' D' i k) (hk:k < (R[i]!).length) (hr:∀ j,M[j]! =1→Rch R j i) (h1:M'[((R[i]!)[k]!).toNat]! =1):¬ Halts R i:=by
  refine Rch.not hk ?_
  rcases h.op _ h1 with h2 | h2
  · exact hr _ h2
  · rw [h2];exact .refl i
theorem VisL.go {R:yLL} {M D M' D' :yLI} {i k:Nat} (h:VisL R M D M' D' i k) (hk:k < (R[i]!).length) (hi:i < R.length) (hR:RowsIn R) (h1:M'[((R[i]!)[k]!).toNat]! =2):VisL R M D M' (D'.set i (max (D'[i]!) (D'[((R[i]!)[k]!).toNat]! +1))) i (k+1):=by
  have hv:=h.vi
  have hk1:=((hR.2 i hi).2 k hk).2
  have hne:i≠((R[i]!)[k]!).toNat:=fun e=>by have:=h.me;rw [e,h1] at this;exact absurd this qj
  have hb:=hv.bd i hi
  have hb1:=hv.bd _ hk1
  have hb2:=hb1.2.2 h1
  have hs:∀ j,j≠i→(D'.set i (max (D'[i]!) (D'[((R[i]!)[k]!).toNat]! +1)))[j]! =D'[j]! :=fun j hj=>by rw [setAt0,if_neg qf]
  have hme:(D'.set i (max (D'[i]!) (D'[((R[i]!)[k]!).toNat]! +1)))[i]! =max (D'[i]!) (D'[((R[i]!)[k]!).toNat]! +1):=by rw [setAt0,if_pos ⟨rfl,by rw [hv.dl];exact hi⟩]
  have hdn:∀ q,q < k+1→M'[((R[i]!)[q]!).toNat]! =2:=fun q hq=>by
    by_cases e:q=k
    · subst e;exact h1
    · exact h.dn q qf
  refine ⟨⟨hv.ml,by simp [hv.dl],hv.mr,fun j hj hx=>?_,fun j hj hx=>?_,fun j hj=>?_⟩,h.m0,h.me,fun j hj=>?_,h.op,hdn,?_,h.c0,h.c2⟩
  · rw [hs j (fun e=>by subst e;rw [h.me] at hx;exact absurd hx qj)];exact hv.fi j hj hx
  · rw [hs j (fun e=>by subst e;rw [h.me] at hx;exact absurd hx qj)];exact hv.nz j hj hx
  · by_cases e:j=i
    · subst e;rw [hme];exact ⟨by omega,by omega,fun hx=>by rw [h.me] at hx;exact absurd hx qj⟩
    · rw [hs j e];exact hv.bd j hj
  · have h2:=h.kp j hj
    by_cases e:j=i
    · subst e;exact absurd h.m0 hj
    · rw [hs j e];exact h2
  · rw [hme,mxF,hs _ (Ne.symm hne)]
    rw [mxF_congr (g' :=fun j=>D'[j]!) k fun q hq=>hs _ (fun e=>by have:=h.dn q hq;rw [e,h.me] at this;exact absurd this qj)]
    rw [← h.mx]
theorem VisL.sub {R:yLL} {M D M' D' M2 D2:yLI} {i k j' :Nat} (h:VisL R M D M' D' i k) (e:VisEnd R M' D' M2 D2 j'):VisL R M D M2 D2 i k:=by
  have hi:=e.kp i (by rw [h.me];decide)
  have hq:∀ q,q < k→M2[((R[i]!)[q]!).toNat]! =2∧D2[((R[i]!)[q]!).toNat]! =D'[((R[i]!)[q]!).toNat]! :=fun q hq=>by
    have h1:=h.dn q hq
    obtain ⟨a,b⟩:=e.kp _ (show M'[((R[i]!)[q]!).toNat]! ≠0 by rw [h1];decide)
    exact ⟨a.trans h1,b⟩
  refine ⟨e.vi,h.m0,hi.1.trans h.me,fun j hj=>?_,fun j hj=>h.op j (e.op j hj),fun q hk=>(hq q hk).1,?_,by have:=e.c0;have:=h.c0;omega,by have:=e.c2;have:=h.c2;omega⟩
  · obtain ⟨a,b⟩:=h.kp j hj
    obtain ⟨c,d⟩:=e.kp j (by rw [a];exact hj)
    exact ⟨c.trans a,d.trans b⟩
  · rw [hi.2,h.mx];exact mxF_congr k fun q hk=>(hq q hk).2.symm
theorem VisL.fin {R:yLL} {M D M' D' :yLI} {i k:Nat} (h:VisL R M D M' D' i k) (hi:i < R.length) (hk:k=(R[i]!).length):VisEnd R M D (M'.set i 2) D' i∧Halts R i:=by
  subst hk
  have hv:=h.vi
  have hl:=hv.ml
  have hf:Fi R i (D'[i]!):=by
    rw [h.mx];exact fi_step fun q hq=>by
      have h1:=h.dn q hq
      have:((R[i]!)[q]!).toNat < R.length:=by
        rcases Nat.lt_or_ge ((R[i]!)[q]!).toNat R.length with a | a
        · exact a
        · rw [getElem!_neg _ _ qf] at h1;exact absurd h1 qj
      exact hv.fi _ this h1
  have c2:=count_setI (c:=2) (a:=2) (show i < M'.length by omega) h.me qj
  have c0:=count_setI (c:=0) (a:=2) (show i < M'.length by omega) h.me qj
  simp only [Int.reduceEq,if_false,if_true] at c0 c2
  refine ⟨⟨⟨by simp [hl],hv.dl,fun j hj=>?_,fun j hj hx=>?_,fun j hj hx=>?_,fun j hj=>?_⟩,by rw [setAt0,if_pos ⟨rfl,by omega⟩],fun j hj=>?_,fun j hj=>?_,by have:=h.c0;omega,by have:=h.c2;omega⟩,hf.halts⟩
  · rw [setAt0];split
    · omega
    · exact hv.mr j hj
  · by_cases e:j=i
    · subst e;exact hf
    · rw [setAt0,if_neg qf] at hx;exact hv.fi j hj hx
  · by_cases e:j=i
    · subst e;rw [setAt0,if_pos ⟨rfl,by omega⟩] at hx;exact absurd hx qj
    · rw [setAt0,if_neg qf] at hx;exact hv.nz j hj hx
  · have hb:=hv.bd j hj
    exact ⟨hb.1,by omega,fun hx=>by
      by_cases e:j=i
      · omega
      · rw [setAt0,if_neg qf] at hx;have:=hb.2.2 hx;omega⟩
  · rw [setAt0,if_neg (by rintro ⟨rfl,_⟩;exact hj h.m0)];exact h.kp j hj
  · rw [setAt0] at hj;split at hj
    · omega
    · rename_i hx;rcases h.op j hj with h1 | h1
      · exact h1
      · omega
theorem GrOk.rowsIn {S:List qM} {R:yLL} (h:GrOk S R) (hl:R.length=S.length) (h3:R.length≤300):RowsIn R:=
  ⟨h3,fun j hj=>⟨h.lens j hj,fun k hk=>by have:=h.rows j hj k hk;omega⟩⟩
theorem VisI.top {R:yLL} {M D:yLI} (h:VisI R M D) (hR:RowsIn R) {j:Nat} (hj:j < R.length):0≤D[j]! ∧D[j]! ≤300:=by
  have h1:=h.bd j hj
  have h2:=List.count_le_length (a:=2) (l:=M)
  have h3:=h.ml
  have h4:=hR.1
  omega
theorem rep0 {n j:Nat} (h:(List.replicate n (0:Int))[j]! =1):False:=by
  by_cases hj:j < n
  · rw [repAt1 hj] at h;exact absurd h qj
  · rw [getElem!_neg _ j (by simpa using hj)] at h;exact absurd h qj
theorem rep_cnt {n:Nat} (h:n≤300):(List.replicate n (0:Int)).count 0≤300:=Nat.le_trans List.count_le_length (by simpa using h)
theorem St.rowel_StateD {W0 w:World} {ps:List Prv} {Γ:List Fact} (H:St W0 w ps Γ) (k:Nat) {b c:Nat} {e:TypeId} {nn:Nat} {xs:List Value} (hp:ps[k]? =some (.row (.slice (some ⟨b,0,none⟩) nn c) e 3 nn xs)) (j:Nat) {fr:Bool} {F:yLN} {l:List qM}
    (hf:Γ[j]? =some (zk fr F xs l)) {iv:Int} (i:Nat) (h:iv.toNat=i) (h1:i < nn):
    ∃ (aA:yOA) (cA:Nat) (FA:yLN) (aB:yOA) (cB:Nat) (FB:yLN) (aO:yOA) (cO:Nat) (FO:yLN),
      (∀ (q:Nat) (v:Value),([.slice aA ((l[i]!).qB.length) cA,.slice aB ((l[i]!).qE.length) cB,.slice aO ((l[i]!).qC.length) cO]:List Value)[q]? =some v→xs[0+iv.toNat * 3+q]? =some v)∧
      St W0 w ps (isF fr FA (.slice aA ((l[i]!).qB.length) cA) ((l[i]!).qB) :: isF fr FB (.slice aB ((l[i]!).qE.length) cB) ((l[i]!).qE) :: isF fr FO (.slice aO ((l[i]!).qC.length) cO) ((l[i]!).qC) :: Γ):=by
  obtain ⟨cs,G,hc,hr,hsub,hfr,v1,v2,hv,hv1⟩:=St.rowElem (α:=qM) H k hp j hf qj h h1
  obtain ⟨vA,vB,vO,FA,FB,FO,rfl,hFF,hA,hB,hO⟩:=id hr
  obtain ⟨aA,cA,rfl⟩:=slice_form hA
  obtain ⟨aB,cB,rfl⟩:=slice_form hB
  obtain ⟨aO,cO,rfl⟩:=slice_form hO
  refine ⟨aA,cA,FA,aB,cB,FB,aO,cO,FO,fun q v hq=>?_,?_⟩
  · have hv1:v1.length=i * 3:=hv1
    have hlt:q < 3:=by
      rcases Nat.lt_or_ge q 3 with h | h
      · exact h
      · rw [List.getElem?_eq_none (by simpa using h)] at hq;cases hq
    rw [hv,List.append_assoc,Nat.zero_add,h,← hv1,List.getElem?_append_right qf,Nat.add_sub_cancel_left,List.getElem?_append_left (by simpa using hlt)]
    exact hq
  · have s3:=H.jD j hf (isF fr FO (.slice aO ((l[i]!).qC.length) cO) ((l[i]!).qC)) ⟨hO,fun e=>(hfr e).sub (by rw [hFF];intro x hx;simp [hx])⟩ (fun x hx=>hsub x (by rw [hFF];have hx:x∈FO:=hx;simp [hx]))
    have s2:=s3.jD (j+1) hf (isF fr FB (.slice aB ((l[i]!).qE.length) cB) ((l[i]!).qE)) ⟨hB,fun e=>(hfr e).sub (by rw [hFF];intro x hx;simp [hx])⟩ (fun x hx=>hsub x (by rw [hFF];have hx:x∈FB:=hx;simp [hx]))
    exact s2.jD (j+2) hf (isF fr FA (.slice aA ((l[i]!).qB.length) cA) ((l[i]!).qB)) ⟨hA,fun e=>(hfr e).sub (by rw [hFF];intro x hx;simp [hx])⟩ (fun x hx=>hsub x (by rw [hFF];have hx:x∈FA:=hx;simp [hx]))
end
section
open Go.RowKit
section
variable {α : Type} [qP α]
theorem reps_perm {w:World} (h1:qP.size α=1):∀ {z z' :List (Value×α)},z.Perm z' →∀ {F:yLN},reps w F (z.map Prod.fst) (z.map Prod.snd)→∃ F',F'.Perm F∧reps w F' (z'.map Prod.fst) (z'.map Prod.snd):=by
  intro z z' hp
  have one:∀ {c:List Value} {G:yLN} {x:α},qP.rep w G c x→∃ v,c=[v]:=fun h=>List.length_eq_one_iff.1 ((qP.len h).trans h1)
  induction hp with
  | nil=>intro F h;exact ⟨F,.refl _,h⟩
  | cons x _ ih=>
    rintro F ⟨F1,F2,c1,c2,rfl,hv,hx,hr⟩
    obtain ⟨v,rfl⟩:=one hx
    obtain ⟨rfl,rfl⟩:=List.cons.inj hv
    obtain ⟨F',hF,hr'⟩:=ih hr
    exact ⟨F1++F',hF.append_left F1,F1,F',[x.1],_,rfl,rfl,hx,hr'⟩
  | swap x y l=>
    rintro F ⟨F1,F2,c1,c2,rfl,hv,hx,F3,F4,c3,c4,rfl,hv2,hy,hr⟩
    obtain ⟨v,rfl⟩:=one hx
    obtain ⟨u,rfl⟩:=one hy
    subst hv2
    obtain ⟨e1,e2⟩:=List.cons.inj hv
    obtain ⟨e3,e4⟩:=List.cons.inj e2
    subst e1 e3 e4
    refine ⟨F3++(F1++F4),?_,F3,F1++F4,[x.1],y.1 :: _,rfl,rfl,hy,F1,F4,[y.1],_,rfl,rfl,hx,hr⟩
    rw [← List.append_assoc,← List.append_assoc]
    exact List.perm_append_comm.append_right F4
  | trans _ _ ih1 ih2=>
    intro F h
    obtain ⟨F1,h1,h2⟩:=ih1 h
    obtain ⟨F2,h3,h4⟩:=ih2 h2
    exact ⟨F2,h3.trans h1,h4⟩
end
theorem swapZ {α:Type}:∀ {l:List α} {i:Nat} {a b:α},l[i]? =some a→l[i+1]? =some b→l.Perm ((l.set (i+1) a).set i b)
  | [],_,_,_,h,_=>by simp at h
  | x :: l,0,a,b,h,h1=>by
    cases l with
    | nil=>simp at h1
    | cons y l=>
      simp only [List.getElem?_cons_zero,Option.some.injEq] at h
      simp only [List.getElem?_cons_succ,List.getElem?_cons_zero,Option.some.injEq,Nat.zero_add] at h1
      subst h h1
      exact List.Perm.swap ..
  | x :: l,i+1,a,b,h,h1=>by
    simp only [List.getElem?_cons_succ] at h h1
    exact (swapZ h h1).cons x
theorem zip_at {α β:Type}:∀ {xs:List α} {l:List β} {i:Nat} {a:α} {b:β},xs[i]? =some a→l[i]? =some b→(xs.zip l)[i]? =some (a,b):=by
  intro xs l i a b h h1
  rw [List.getElem?_zip_eq_some]
  exact ⟨h,h1⟩
theorem zip_fst {α β:Type}:∀ {xs:List α} {l:List β},xs.length=l.length→(xs.zip l).map Prod.fst=xs:=by
  intro xs l h;exact List.map_fst_zip qf
theorem zip_snd {α β:Type}:∀ {xs:List α} {l:List β},xs.length=l.length→(xs.zip l).map Prod.snd=l:=by
  intro xs l h;exact List.map_snd_zip qf
section
variable {W0 w : World} {ps : List Prv} {Γ : List Fact}
theorem St.rowElemX {α:Type} [qP α] (H:St W0 w ps Γ) (k:Nat) {b c:Nat} {e:TypeId} {nn:Nat} {xs:List Value} (hp:ps[k]? =some (.row (.slice (some ⟨b,0,none⟩) nn c) e 1 nn xs)) (j:Nat) {fr:Bool} {F:yLN} {l:List (List α)}
    (hf:Γ[j]? =some (zk fr F xs l)) {iv:Int} (i:Nat) (h:iv.toNat=i) (h1:i < nn):
    ∃ (a:yOA) (c' :Nat) (G:yLN),(∀ x∈G,x∈F)∧w.cell? ⟨b,0+iv.toNat * 1,none⟩=some (.slice a (l[i]!).length c')∧xs[0+iv.toNat * 1]? =some (.slice a (l[i]!).length c')∧xs[iv.toNat]? =some (.slice a (l[i]!).length c')∧St W0 w ps (isF fr G (.slice a (l[i]!).length c') (l[i]!) :: Γ):=by
  obtain ⟨cs,G,hc,hr,hsub,hfr,v1,v2,hx,hv⟩:=H.rowElem k hp j hf Nat.one_pos h h1
  obtain ⟨a,c',rfl,hx'⟩:=id hr
  have hxi:xs[i]? =some (.slice a (l[i]!).length c'):=by
    have hl1:v1.length=i:=by rw [hv];exact Nat.mul_one _
    rw [hx,List.append_assoc,List.getElem?_append_right qf]
    simp [hl1]
  exact ⟨a,c',G,hsub,by simpa [qP.size] using hc 0 _ rfl,by rw [show 0+iv.toNat * 1=i by omega];exact hxi,by rw [h];exact hxi,H.jD j hf _ ⟨hr,hfr⟩ hsub⟩
theorem St.swapR (H:St W0 w ps Γ) (j:Nat) {fr:Bool} {F:yLN} {xs:List Value} {l:yLL} (hf:Γ[j]? =some (zk fr F xs l)) {k i:Nat} (hk:0 < k) (hkl:k < l.length) (hi:i=k - 1) {v0 v1:Value} (h0:xs[i]? =some v0) (h1:xs[k]? =some v1):
    ∃ F',F'.Perm F∧St W0 w ps (zk fr F' ((xs.set k v0).set i v1) (swapAt l k) :: Γ):=by
  obtain ⟨hr,hfr⟩:=H.get j hf
  obtain ⟨i,rfl⟩:∃ i,k=i+1:=⟨k - 1,by omega⟩
  rw [show i+1 - 1=i from rfl] at hi
  subst hi
  have hl:xs.length=l.length:=by have:=reps_len hr;simpa [qP.size] using this
  have e0:l[i]? =some (l[i]!):=by rw [getElem!_pos l i qf];exact List.getElem?_eq_getElem qf
  have e1:l[i+1]? =some (l[i+1]!):=by rw [getElem!_pos l (i+1) hkl];exact List.getElem?_eq_getElem hkl
  have hp:=swapZ (zip_at h0 e0) (zip_at h1 e1)
  have hr' :reps w F ((xs.zip l).map Prod.fst) ((xs.zip l).map Prod.snd):=by
    rw [zip_fst hl,zip_snd hl]
    exact hr
  obtain ⟨F',hF,h2⟩:=reps_perm rfl hp hr'
  refine ⟨F',hF,H.jD j hf _ ⟨?_,fun e x hx=>hfr e x (hF.subset hx)⟩ fun x hx=>hF.subset hx⟩
  rw [List.map_set,List.map_set,List.map_set,List.map_set,zip_fst hl,zip_snd hl] at h2
  exact h2
theorem Fresh.perm {B:Nat} {L:List yLN} {F F' :yLN} (N:Fresh B (F :: L)) (h:F'.Perm F):Fresh B (F' :: L):=N.less (fun b hb=>h.subset hb) fun hn=>h.nodup_iff.2 hn
end
section
variable {P : Program} {n : Nat} {ρ : Env} {w : World}
theorem ret3 {fn:Func} {R:Ending→World→Prop} {t u z:Nat} (v x y:Value) (hr:fn.results=#[.tmp t,.tmp u,.tmp z]) (hv:ev n ρ (.tmp t)=v) (hx:ev n ρ (.tmp u)=x) (hy:ev n ρ (.tmp z)=y) (h:R (.returned (.tuple #[v,x,y])) w):bodyPost P fn R .ret (mk n ρ) w:=by
  refine bodyPost_ret (results_tmp3 hr _ _ _) rfl ?_
  have e:=congrFun (Q8 n ρ) (.tmp t)
  have e' :=congrFun (Q8 n ρ) (.tmp u)
  have e'' :=congrFun (Q8 n ρ) (.tmp z)
  simp only [Act.eval] at e e' e''
  rw [e,hv,e',hx,e'',hy]
  exact h
end
end
section
open Go.RowKit Go.Shelf Go.Lib Go.Sort
def cmpL:yLI→yLI→Int
  | [],[]=>0
  | [],_ :: _=> -1
  | _ :: _,[]=>1
  | x :: a,y :: b=>if x < y then -1 else if y < x then 1 else cmpL a b
theorem cmpL_refl:∀ a,cmpL a a=0
  | []=>rfl
  | x :: a=>by rw [cmpL,if_neg (Int.lt_irrefl x),if_neg (Int.lt_irrefl x),cmpL_refl a]
theorem cmpL_trans:∀ {a b c:yLI},cmpL a b < 0→cmpL b c < 0→cmpL a c < 0
  | [],[],_,h,_=>by simp [cmpL] at h
  | [],_ :: _,[],_,h=>by simp [cmpL] at h
  | [],_ :: _,_ :: _,_,_=>by simp [cmpL]
  | _ :: _,[],_,h,_=>by simp [cmpL] at h
  | _ :: _,_ :: _,[],_,h=>by simp [cmpL] at h
  | x :: a,y :: b,z :: c,h1,h2=>by
    rw [cmpL] at h1 h2 ⊢
    by_cases e1:x < y
    · by_cases e2:y < z
      · rw [if_pos qf];omega
      · rw [if_neg e2] at h2
        by_cases e3:z < y
        · rw [if_pos e3] at h2;omega
        · rw [if_pos qf];omega
    · rw [if_neg e1] at h1
      by_cases e2:y < x
      · rw [if_pos e2] at h1;omega
      · rw [if_neg e2] at h1
        by_cases e3:y < z
        · rw [if_pos qf];omega
        · rw [if_neg e3] at h2
          by_cases e4:z < y
          · rw [if_pos e4] at h2;omega
          · rw [if_neg e4] at h2
            rw [if_neg qf,if_neg qf]
            exact cmpL_trans h1 h2
theorem cmpL_ntrans:∀ {a b c:yLI},¬ cmpL a b < 0→¬ cmpL b c < 0→¬ cmpL a c < 0
  | [],[],[],_,_=>by simp [cmpL]
  | _ :: _,_,[],_,_=>by simp [cmpL]
  | [],_ :: _,_,h,_=>by simp [cmpL] at h
  | _,[],_ :: _,_,h=>by simp [cmpL] at h
  | x :: a,y :: b,z :: c,h1,h2=>by
    rw [cmpL] at h1 h2 ⊢
    by_cases e1:x < y
    · rw [if_pos e1] at h1;omega
    · rw [if_neg e1] at h1
      by_cases e2:y < z
      · rw [if_pos e2] at h2;omega
      · rw [if_neg e2] at h2
        rw [if_neg qf]
        by_cases e3:z < x
        · rw [if_pos e3];omega
        · rw [if_neg e3]
          have ey:¬ y < x:=by omega
          have ez:¬ z < y:=by omega
          rw [if_neg ey] at h1
          rw [if_neg ez] at h2
          exact cmpL_ntrans h1 h2
theorem drop_cons {l:yLI} {i:Nat} (h:i < l.length):l.drop i=l[i]! :: l.drop (i+1):=by
  rw [getElem!_pos l i h];exact (List.drop_eq_getElem_cons h)
theorem cmp_a {a b:yLI} {i:Nat} (h:i < a.length) (h1:b.length≤i):cmpL (a.drop i) (b.drop i)=1:=by rw [drop_cons h,List.drop_eq_nil_of_le h1,cmpL]
theorem cmp_b {a b:yLI} {i:Nat} (h:a.length≤i) (h1:i < b.length):cmpL (a.drop i) (b.drop i)= -1:=by rw [drop_cons h1,List.drop_eq_nil_of_le h,cmpL]
theorem cmp_c {a b:yLI} {i:Nat} (h:a.length≤i) (h1:b.length≤i):cmpL (a.drop i) (b.drop i)=0:=by rw [List.drop_eq_nil_of_le h,List.drop_eq_nil_of_le h1,cmpL]
theorem cmp_d {a b:yLI} {i:Nat} (h:i < a.length) (h1:i < b.length) (h2:a[i]! < b[i]!):cmpL (a.drop i) (b.drop i)= -1:=by rw [drop_cons h,drop_cons h1,cmpL,if_pos h2]
theorem cmp_e {a b:yLI} {i:Nat} (h:i < a.length) (h1:i < b.length) (h2:a[i]! > b[i]!):cmpL (a.drop i) (b.drop i)=1:=by rw [drop_cons h,drop_cons h1,cmpL,if_neg qf,if_pos h2]
theorem cmp_f {a b:yLI} {i:Nat} (h:i < a.length) (h1:i < b.length) (h2:¬ a[i]! < b[i]!) (h3:¬ a[i]! > b[i]!):cmpL (a.drop i) (b.drop i)=cmpL (a.drop (i+1)) (b.drop (i+1)):=by rw [drop_cons h,drop_cons h1,cmpL,if_neg h2,if_neg h3]
theorem cmpL_ahead:∀ {a b:yLI},a.length=b.length→(cmpL a b < 0↔ahead a b)
  | [],[],_=>⟨fun h=>by simp [cmpL] at h,fun ⟨i,h,_⟩=>by simp at h⟩
  | x :: a,[],h=>by simp at h
  | [],y :: b,h=>by simp at h
  | x :: a,y :: b,h=>by
    have ih:=cmpL_ahead (a:=a) (b:=b) (by simpa using h)
    rw [cmpL]
    constructor
    · intro h1
      by_cases e:x < y
      · exact ⟨0,by simp,fun j hj=>by omega,by simpa using e⟩
      · rw [if_neg e] at h1
        by_cases e2:y < x
        · rw [if_pos e2] at h1;omega
        · rw [if_neg e2] at h1
          obtain ⟨i,h2,h3,h4⟩:=ih.1 h1
          refine ⟨i+1,by simp;omega,fun j hj=>?_,by simpa using h4⟩
          cases j with
          | zero=>simp;omega
          | succ j=>simpa using h3 j qf
    · rintro ⟨i,h2,h3,h4⟩
      cases i with
      | zero=>rw [if_pos (by simpa using h4)];omega
      | succ i=>
        have h0:=h3 0 qf
        simp only [List.getElem!_cons_zero] at h0
        rw [if_neg qf,if_neg qf]
        exact ih.2 ⟨i,by simpa using h2,fun j hj=>by simpa using h3 (j+1) qf,by simpa using h4⟩

section
variable {W0 w : World} {ps : List Prv} {Γ : List Fact}
theorem sw_block {α:Type} [Inhabited α] {enc:α→Value} {blk m:Nat} {d:Array α} {os:Array Obj} {k:Nat} (hk:k < w.heap.size) (hne:k≠blk):(sortWorld enc w blk 0 m d os).heap[k]? =w.heap[k]? :=by
  unfold sortWorld putRow mapBlock grow
  show ((Sort.ahead w m).heap.modify blk _++os)[k]? =_
  have hs:((Sort.ahead w m).heap.modify blk (onCells (putCells enc 0 d))).size=w.heap.size:=by rw [Array.size_modify];rfl
  rw [Array.getElem?_append_left (by rw [hs];exact hk),Array.getElem?_modify,if_neg (Ne.symm hne)]
  rfl
theorem sw_row {α:Type} [Inhabited α] {enc:α→Value} {blk m:Nat} {d:Array α} {os:Array Obj} {cur:Array Value} {e:TypeId} (h:w.heap[blk]? =some (.cells cur e (0,0))):(sortWorld enc w blk 0 m d os).heap[blk]? =some (.cells (putCells enc 0 d cur) e (0,0)):=by
  have hk:blk < w.heap.size:=(Array.getElem?_eq_some_iff.1 h).1
  unfold sortWorld putRow mapBlock grow
  show ((Sort.ahead w m).heap.modify blk _++os)[blk]? =_
  have hs:((Sort.ahead w m).heap.modify blk (onCells (putCells enc 0 d))).size=w.heap.size:=by rw [Array.size_modify];rfl
  rw [Array.getElem?_append_left (by rw [hs];exact hk),Array.getElem?_modify,if_pos rfl]
  show (w.heap[blk]?).map _=_
  rw [h]
  rfl
theorem sortRow {P:Program} {ρ:Ren} (L:SlLaysF.n6 P ρ) {g:Nat} (eg:∀ args w,(callFunc g args).run P w=.ok (.enter g args) w)
    (cmp:∀ (W:World) (x y:yLI) (a:yOA) (c:Nat) (F:yLN) (a' :yOA) (c' :Nat) (F' :yLN),qP.rep W F [.slice a x.length c] x→qP.rep W F' [.slice a' y.length c'] y→
      Calls P g #[.slice a x.length c,.slice a' y.length c'] W fun e w' =>e=.returned (.int .i64 (cmpL x y))∧w' =W)
    (H:St W0 w ps Γ) (k:Nat) {b c:Nat} {e:TypeId} {nn:Nat} {xs:List Value} (hp:ps[k]? =some (.row (.slice (some ⟨b,0,none⟩) nn c) e 1 nn xs)) (j:Nat) {fr:Bool} {F:yLN} {l:yLL} (hf:Γ[j]? =some (zk fr F xs l)) (h0:0 < l.length) (hsz:l.length < 4611686018427387904):
    Calls P (ρ.f 6) #[.slice (some ⟨b,0,none⟩) nn c,.func (.func g) #[] #[]] w fun e' w' =>∃ v,e' =.returned v∧∃ xs' F' l',v=.tuple #[]∧F'.Perm F∧l.Perm l' ∧(∀ i j,i < j→j < l'.length→¬ cmpL (l'[j]!) (l'[i]!) < 0)∧
      St W0 w' (ps.set k (.row (.slice (some ⟨b,0,none⟩) nn c) e 1 nn xs')) (zk fr F' xs' l' :: Γ):=by
  have ho:=(H.has _ (List.mem_of_getElem? hp):w.ownsRow W0.heap.size e 1 _ nn xs)
  obtain ⟨hr,hfr⟩:=H.get j hf
  have hxl:xs.length=l.length:=by have:=reps_len hr;simpa [qP.size] using this
  have hnn:nn=l.length:=by have:=ho.1;omega
  subst hnn
  obtain ⟨hl,h | ⟨g',cap,cur,hv,hB,hg,hn,hm,hcs,ht⟩⟩:=ho
  · simp at h
  simp only [Value.slice.injEq,Option.some.injEq,Addr.mk.injEq,and_true] at hv
  obtain ⟨rfl,_,rfl⟩:=hv
  have hF:=(H.facts _ (List.mem_of_getElem? hf)).2
  have hbF:∀ x∈F,x≠b:=fun x hx e' =>(hF x hx).2 k (by simp [jV,hp,Prv.blk,Value.ownBlock,e'])
  let enc:Nat→Value:=fun i=>xs[i % l.length]!
  let cf:Nat→Nat→Int:=fun i j=>cmpL (l[i % l.length]!) (l[j % l.length]!)
  have hmod:∀ i,i % l.length < l.length:=fun i=>Nat.mod_lt _ h0
  have hrep:∀ i,∃ a c' G,(∀ x∈G,x∈F)∧enc i=.slice a (l[i % l.length]!).length c' ∧qP.rep w G [.slice a (l[i % l.length]!).length c'] (l[i % l.length]!):=fun i=>by
    obtain ⟨F1,Fk,F2,v1,cs,v2,hFe,hxe,hl1,hl2,hu,_,_⟩:=reps_get hr (i % l.length) (hmod i)
    obtain ⟨a,c',rfl,hx⟩:=id hu
    have hl1' :v1.length=i % l.length:=by rw [hl1];exact Nat.mul_one _
    refine ⟨a,c',Fk,fun x hx=>by rw [hFe];simp [hx],?_,?_⟩
    · show xs[i % l.length]! =_
      rw [getElem!_pos l _ (hmod i),getElem!_pos xs _ (by rw [hxl];exact hmod i)]
      have:xs[i % l.length]? =some (.slice a (l[i % l.length]'(hmod i)).length c'):=by
        refine (congrArg (fun z:List Value=>z[i % l.length]?) hxe).trans ?_
        show (v1++[_]++v2)[i % l.length]? =_
        rw [List.append_assoc,List.getElem?_append_right qf]
        simp [hl1']
      exact (List.getElem?_eq_some_iff.1 this).2
    · rw [getElem!_pos l _ (hmod i)];exact hu
  have hO:OneCell enc:=fun i=>by obtain ⟨a,c',G,_,he,_⟩:=hrep i;show Value.oneCell' (enc i)=true;rw [he];rfl
  have hS:SWO (ltOf cf):=by
    refine ⟨fun x=>?_,fun x y z h1 h2=>?_,fun x y z h1 h2=>?_⟩ <;> unfold ltOf at *
    · show decide (cmpL _ _ < 0)=false
      rw [cmpL_refl];rfl
    · exact decide_eq_true (cmpL_trans (of_decide_eq_true h1) (of_decide_eq_true h2))
    · exact decide_eq_false (cmpL_ntrans (of_decide_eq_false h1) (of_decide_eq_false h2))
  let d:Array Nat:=Array.range l.length
  have hds:d.size=l.length:=Array.size_range
  have hdi:∀ i,i < l.length→d[i]! =i:=fun i hi=>by rw [getElem!_pos d i (by rw [hds];exact hi)];exact Array.getElem_range _
  have hcx:∀ i,i < l.length→cur[i]? =some (enc i):=fun i hi=>by
    have h1:xs[i]? =some (enc i):=by
      show xs[i]? =some (xs[i % l.length]!)
      rw [Nat.mod_eq_of_lt hi,getElem!_pos xs i qf]
      exact List.getElem?_eq_getElem qf
    rw [← ht,List.getElem?_take,if_pos qf] at h1
    simpa using h1
  have hH:Holds enc w b 0 d:=fun i hi=>by
    have hi' :i < l.length:=by rw [hds] at hi;exact hi
    rw [hdi i hi',Nat.zero_add]
    constructor
    · rw [World.cell?,hg];exact hcx i hi'
    · rw [World.frozen?,hg];simp
  have hcmp:CmpLays1 P g #[] enc cf b 0 d.size w:=fun m os dk hs x y=>by
    obtain ⟨a,c1,G,hG,he,hx⟩:=hrep x
    obtain ⟨a2,c2,G2,hG2,he2,hy⟩:=hrep y
    have st:∀ z∈F,(sortWorld enc w b 0 m dk os).heap[z]? =w.heap[z]? :=fun z hz=>sw_block (hF z hz).1 (hbF z hz)
    rw [he,he2]
    refine (cmp _ _ _ a c1 G a2 c2 G2 (qP.stay hx fun z hz=>st z (hG z hz)) (qP.stay hy fun z hz=>st z (hG2 z hz))).mono fun e' w' h=>⟨h.1,0,#[],?_⟩
    rw [grow_empty];exact h.2
  have hblk:b < w.heap.size:=(Array.getElem?_eq_some_iff.1 hg).1
  have hc:=Any.slices_SortFunc L enc hO cf hS g #[] b 0 c d w eg hcmp hH hblk (by rw [hds];exact hsz)
  rw [hds] at hc
  refine hc.mono fun e' w' ⟨he,d',n,os,hpm,hso,hw⟩=>⟨_,he,?_⟩
  have hd' :d'.size=l.length:=hpm.1.trans hds
  have hperm:d'.toList.Perm (List.range l.length):=by
    have:=hpm.2.2
    rw [Array.extract_eq_self_of_le qf,Array.extract_eq_self_of_le qf] at this
    simpa [d] using this
  have hlt:∀ x∈d'.toList,x < l.length:=fun x hx=>List.mem_range.1 (hperm.subset hx)
  -- the pairs
  have hz:(xs.zip l).Perm (d'.toList.map fun i=>(xs[i]!,l[i]!)):=by
    have e1:xs.zip l=(List.range l.length).map fun i=>(xs[i]!,l[i]!):=by
      refine List.ext_getElem (by simp [hxl]) fun i h1 h2=>?_
      have hi:i < l.length:=by simpa using h2
      rw [List.getElem_zip,List.getElem_map,List.getElem_range,getElem!_pos xs i qf,getElem!_pos l i hi]
    rw [e1]
    exact (hperm.map _).symm
  have hr' :reps w F ((xs.zip l).map Prod.fst) ((xs.zip l).map Prod.snd):=by rw [zip_fst hxl,zip_snd hxl];exact hr
  obtain ⟨F',hF',hr2⟩:=reps_perm rfl hz hr'
  rw [List.map_map,List.map_map] at hr2
  refine ⟨d'.toList.map fun i=>xs[i]!,F',d'.toList.map fun i=>l[i]!,rfl,hF',?_,?_,?_⟩
  · have:=hz.map Prod.snd
    rw [zip_snd hxl,List.map_map] at this
    exact this
  · intro i j hij hj
    rw [List.length_map,Array.length_toList,hd'] at hj
    have hge:∀ q,q < l.length→(d'.toList.map fun i=>l[i]!)[q]! =l[d'[q]! % l.length]! :=fun q hq=>by
      rw [getElem!_pos _ q (by simp [hd',hq]),List.getElem_map,Array.getElem_toList]
      have:d'[q]! =d'[q]:=getElem!_pos d' q qf
      rw [this,Nat.mod_eq_of_lt (hlt _ qm)]
    rw [hge i qf,hge j hj]
    exact of_decide_eq_false (hso i j (Nat.zero_le _) hij hj)
  · subst hw
    have hcells:∀ q,q < l.length→(putCells enc 0 d' cur)[q]? =some (xs[d'[q]!]!):=fun q hq=>by
      unfold putCells
      rw [Array.getElem?_mapIdx]
      have hcq:=hcx q hq
      rw [hcq]
      simp only [Option.map_some,Nat.zero_le,true_and,Nat.zero_add,hd',if_pos hq,Nat.sub_zero]
      show some (xs[d'[q]! % l.length]!)=_
      have:d'[q]! =d'[q]:=getElem!_pos d' q qf
      rw [this,Nat.mod_eq_of_lt (hlt _ qm)]
    have hown:(sortWorld enc w b 0 n d' os).ownsRow W0.heap.size e 1 (.slice (some ⟨b,0,none⟩) l.length c) l.length (d'.toList.map fun i=>xs[i]!):=by
      refine ⟨by simp [hd'],Or.inr ⟨b,c,putCells enc 0 d' cur,rfl,hB,sw_row hg,hn,hm,by unfold putCells;rw [Array.size_mapIdx];exact hcs,?_⟩⟩
      rw [Nat.mul_one]
      refine List.ext_getElem? fun q=>?_
      rw [List.getElem?_take]
      split
      · next hq=>
        rw [Array.getElem?_toList,hcells q hq,List.getElem?_map,Array.getElem?_toList]
        have:d'[q]! =d'[q]:=getElem!_pos d' q qf
        rw [this,Array.getElem?_eq_getElem qf]
        rfl
      · next hq=>rw [List.getElem?_eq_none (by simp;omega)]
    have hsize:w.heap.size≤(sortWorld enc w b 0 n d' os).heap.size:=by
      unfold sortWorld putRow mapBlock grow
      show _≤((Sort.ahead w n).heap.modify b _++os).size
      rw [Array.size_append,Array.size_modify]
      exact Nat.le_add_right _ _
    have H1:=H.change k hp (w' :=sortWorld enc w b 0 n d' os) (p' :=.row (.slice (some ⟨b,0,none⟩) l.length c) e 1 l.length (d'.toList.map fun i=>xs[i]!)) rfl rfl rfl hsize (fun i hi hne=>sw_block hi (fun e2=>hne (by subst e2;rfl))) hown (Or.inl rfl)
    refine H1.add _ ⟨?_,fun e2 x hx=>?_⟩ fun x hx=>?_
    · exact reps_stay hr2 fun z hz=>sw_block (hF z (hF'.subset hz)).1 (hbF z (hF'.subset hz))
    · have h2:=hfr e2 x (hF'.subset hx)
      obtain ⟨o1,o2,ho⟩:=h2
      exact ⟨o1,o2,(sw_block (hF x (hF'.subset hx)).1 (hbF x (hF'.subset hx))).trans ho⟩
    · refine ⟨Nat.lt_of_lt_of_le (hF x (hF'.subset hx)).1 hsize,fun i hi=>?_⟩
      have h3:=(hF x (hF'.subset hx)).2
      by_cases e3:i=k
      · subst e3
        have:(ps.set i (Prv.row (.slice (some ⟨b,0,none⟩) l.length c) e 1 l.length (d'.toList.map fun i=>xs[i]!)))[i]? =some (Prv.row (.slice (some ⟨b,0,none⟩) l.length c) e 1 l.length (d'.toList.map fun i=>xs[i]!)):=set_at hp
        simp only [jV,this,Option.bind_some,Prv.blk,Value.ownBlock,Option.some.injEq] at hi
        exact hbF x (hF'.subset hx) hi.symm
      · have:jV (ps.set k (Prv.row (.slice (some ⟨b,0,none⟩) l.length c) e 1 l.length (d'.toList.map fun i=>xs[i]!))) i=jV ps i:=by unfold jV;rw [List.getElem?_set_ne (Ne.symm e3)]
        rw [this] at hi
        exact h3 i hi
end
end
section
open Go.RowKit
set_option linter.unusedVariables false
set_option linter.unusedSimpArgs false
set_option maxRecDepth 100000
set_option maxHeartbeats 4000000
structure GraphD where
  zt:List qM
  fNext:yLL
  deriving DecidableEq
instance:Inhabited GraphD:=⟨⟨[],[]⟩⟩
instance:Tot GraphD:=⟨fun x=>tot x.zt+tot x.fNext⟩
instance:qP GraphD where
  size:=2
  rep:=fun w F cs x=>∃ (vStates vNext:Value) (FStates FNext:yLN),cs=[vStates,vNext]∧F=FStates++FNext∧qP.rep w FStates [vStates] x.zt∧qP.rep w FNext [vNext] x.fNext
  len:=by rintro w F cs x ⟨vStates,vNext,FStates,FNext,rfl,_,hStates,hNext⟩;rfl
  one:=by
    rintro w F cs x ⟨vStates,vNext,FStates,FNext,rfl,rfl,hStates,hNext⟩ u hu
    simp only [List.mem_cons,List.not_mem_nil,or_false] at hu
    rcases hu with rfl | rfl <;> first | rfl | exact one_of ql
  stay:=by
    rintro w w' F cs x ⟨vStates,vNext,FStates,FNext,rfl,rfl,hStates,hNext⟩ hs
    exact ⟨_,_,_,_,rfl,rfl,qP.stay hStates fun b hb=>hs b (by simp [hb]),qP.stay hNext fun b hb=>hs b (by simp [hb])⟩
  lt:=by
    rintro w F cs x ⟨vStates,vNext,FStates,FNext,rfl,rfl,hStates,hNext⟩ b hb
    simp only [List.mem_append] at hb
    rcases hb with (hb | hb)
    · exact qP.lt hStates b hb
    · exact qP.lt hNext b hb
end
section

theorem nextTo_pos {s:qL} {t:qM} {cs:yLL}:∀ {k:Nat},0 < k→0 < (jG s t cs k).length
  | 0,h=>by omega
  | k+1,_=>by
    rw [jG]
    split
    · next h=>exact List.length_pos_of_mem h
    · simp
open Classical in
theorem next_pos {s:qL} {t:qM} {cs:yLL} (h0:0 < cs.length) (hc:(yX s t cs).2=0):0 < (yX s t cs).1.length:=by
  by_cases h:NoBad s t cs cs.length
  · rw [next_ok h];exact nextTo_pos h0
  · exfalso
    obtain ⟨k,hk,hb⟩:∃ k,k < cs.length∧CodeBad s t cs k:=Classical.byContradiction fun hx=>h fun k hk hb=>hx ⟨k,hk,hb⟩
    obtain ⟨m,h1,h2,h3⟩:=least_of (g:=fun k=>decide (CodeBad s t cs k)) k (decide_eq_true hb)
    have h2:CodeBad s t cs m:=of_decide_eq_true h2
    rw [next_bad (fun j hj=>of_decide_eq_false (h3 j hj)) qf h2] at hc
    exact h2 hc
theorem cho_pos {s:qL} {t:qM} (hs:jZ s) (ht:zK s t) (h:(zX s t).2=0):0 < (zX s t).1.length:=by
  by_cases h1:GoodP s t s.qw.length
  · by_cases h2:QG (xC s t s.qw.length) (xC s t s.qw.length).length > 300
    · rw [cho_3 (.inr h2)] at h;exact absurd h qj
    · have hp:0 < QG (xC s t s.qw.length) (xC s t s.qw.length).length:=
        Nat.lt_of_lt_of_le Nat.one_pos (prod_mono (packsL_ne hs ht (by have:=ht.2.1;omega) h1) (Nat.zero_le _) (Nat.le_refl _))
      unfold zX
      rw [if_neg (fun h' =>h' h1),if_neg h2]
      show 0 < (inOrder _).length
      unfold inOrder
      split
      · next h=>rw [← (Classical.choose_spec h).1.length_eq,QV];exact hp
      · rw [QV];exact hp
  · rw [cho_3 (.inl h1)] at h;exact absurd h qj
theorem succ_halt {s:qL} {t:qM} (hs:jZ s) (ht:zK s t) (h:(qX s t).2=0):(qX s t).1.length=0↔Halted s t:=by
  constructor
  · intro h1
    refine Classical.byContradiction fun hh=>?_
    by_cases h2:(zX s t).2=0
    · rw [succ_0 hh h2] at h h1
      have:=next_pos (cho_pos hs ht h2) h
      omega
    · rw [succ_c h2] at h;exact h2 h
  · intro hh;rw [succ_h hh];rfl
theorem addSt_get {S nx:List qM} {j:Nat} (hj:j < S.length):∀ k,(zU S nx k).1[j]! =S[j]!
  | 0=>rfl
  | k+1=>by
    have ih:=addSt_get (nx:=nx) hj k
    have hl:=(addSt_len (S:=S) (nx:=nx) k).1
    rw [zU]
    split
    · show ((zU S nx k).1++[_])[j]! =_
      rw [getElem!_pos _ j (by simp;omega),List.getElem_append_left qf,← getElem!_pos _ j qf];exact ih
    · exact ih
structure GrAll (s:qL) (S:List qM) (R:yLL):Prop where
  ok:GrOk S R
  len:R.length=S.length
  pos:0 < S.length
  le:S.length≤300
  st:∀ u∈S,zK s u
  ht:∀ j,j < R.length→((R[j]!).length=0↔Halted s (S[j]!))
theorem grGo_all {s:qL} (hs:jZ s):∀ (f i:Nat) (S:List qM) (R:yLL),f+i=302→R.length=i→i≤S.length→0 < S.length→S.length≤300→(∀ u∈S,zK s u)→GrOk S R→
    (∀ j,j < R.length→((R[j]!).length=0↔Halted s (S[j]!)))→(grGo s f i S R).2=0→GrAll s (grGo s f i S R).1.1 (grGo s f i S R).1.2
  | f,i,S,R,hf,hR,hi,hp,hl,ha,hk,hh,h=>by
    by_cases hx:S.length≤i
    · rw [gr_end hx];show GrAll s S R;exact ⟨hk,by omega,hp,hl,ha,hh⟩
    · by_cases hc:(qX s (S[i]!)).2=0
      · by_cases hm:(zU S (qX s (S[i]!)).1 (qX s (S[i]!)).1.length).1.length > 300
        · rw [gr_many qf qf hc rfl hm] at h;exact absurd h qj
        · obtain ⟨f,rfl⟩:∃ g,f=g+1:=⟨f - 1,by omega⟩
          have e:=gr_go (R:=R) (show 0 < f+1 by omega) (show i < S.length by omega) hc rfl hm
          rw [show f+1 - 1=f from rfl] at e
          rw [e] at h ⊢
          obtain ⟨l1,l2,l3⟩:=addSt_len (S:=S) (nx:=(qX s (S[i]!)).1) (qX s (S[i]!)).1.length
          have hsi:zK s (S[i]!):=ha _ (by rw [getElem!_pos S i qf];exact List.getElem_mem _)
          refine grGo_all hs f (i+1) _ _ qf (by simp;omega) qf qf qf (addSt_mem ha succ_ok _ (Nat.le_refl _)) (hk.next qf (succ_len s _)) (fun j hj=>?_) h
          rw [List.length_append,List.length_singleton] at hj
          rw [addSt_get qf]
          by_cases ej:j=i
          · subst ej
            rw [getElem!_pos _ j (by simp;omega),List.getElem_append_right qf]
            simp only [hR,Nat.sub_self,List.getElem_cons_zero,l3]
            exact succ_halt hs hsi hc
          · rw [getElem!_pos _ j (by simp;omega),List.getElem_append_left qf,← getElem!_pos R j qf]
            exact hh j qf
      · rw [gr_code qf qf hc] at h;exact absurd h hc
theorem gr_all {s:qL} {t:qM} (hs:jZ s) (ht:zK s t) (h:(grRes s t).2=0):GrAll s (grRes s t).1.1 (grRes s t).1.2:=
  grGo_all hs 302 0 [t] [] rfl rfl (Nat.zero_le _) qm qm (fun u hu=>by obtain rfl:=List.mem_singleton.1 hu;exact ht) (GrOk.start t) (fun j hj=>by simp at hj) h

open Classical in
noncomputable def Xa (s:qL) (t:qM):(List qM×yLL)×Int:=if jZ s∧zK s t then grRes s t else (([],[]),1)
noncomputable def exG (s:qL) (t:qM):GraphD:=⟨(Xa s t).1.1,(Xa s t).1.2⟩
theorem ex_1 {s:qL} {t:qM} (h:¬ (jZ s∧zK s t)):Xa s t=(([],[]),1):=by rw [Xa,if_neg h]
theorem ex_0 {s:qL} {t:qM} (h:jZ s∧zK s t) {x:(List qM×yLL)×Int} (hx:grRes s t=x):Xa s t=x:=by rw [Xa,if_pos h,hx]
theorem exG_of {s:qL} {t:qM} {S:List qM} {R:yLL} {c:Int} (h:Xa s t=((S,R),c)):exG s t=⟨S,R⟩∧(Xa s t).2=c:=by rw [exG,h];exact ⟨rfl,rfl⟩
theorem ex_valid {s:qL} {t:qM} (h:(Xa s t).2=0):jZ s∧zK s t:=Classical.byContradiction fun hx=>by rw [ex_1 hx] at h;exact absurd h qj
theorem ex_all {s:qL} {t:qM} (h:(Xa s t).2=0):GrAll s (exG s t).zt (exG s t).fNext:=by
  have hv:=ex_valid h
  have e:=ex_0 hv rfl
  rw [e] at h
  have:=gr_all hv.1 hv.2 h
  rw [← e] at this;exact this

noncomputable def endsL (s:qL) (S:List qM) (k:Nat):List qM:=(S.take k).filter fun u=>dec (Halted s u)
theorem ends_yes {s:qL} {S:List qM} {k:Nat} (hk:k < S.length) (h:Halted s (S[k]!)):endsL s S k++[S[k]!]=endsL s S (k+1):=by
  unfold endsL
  rw [← take_snoc hk,List.filter_append,List.filter_cons_of_pos (by simpa using jP h),List.filter_nil]
theorem ends_no {s:qL} {S:List qM} {k:Nat} (hk:k < S.length) (h:¬ Halted s (S[k]!)):endsL s S k=endsL s S (k+1):=by
  unfold endsL
  rw [← take_snoc hk,List.filter_append,List.filter_cons_of_neg (by rw [xn h];decide),List.filter_nil,List.append_nil]
theorem ends_len (s:qL) (S:List qM) (k:Nat):(endsL s S k).length≤S.length:=Nat.le_trans (List.length_filter_le _ _) (by rw [List.length_take];omega)
def idxL (R:yLL) (k:Nat):yLI:=((List.range k).filter fun i=>decide ((R[i]!).length=0)).map fun (i:Nat)=>(i:Int)
theorem idx_yes {R:yLL} {k:Nat} (h:(R[k]!).length=0):idxL R k++[(k:Int)]=idxL R (k+1):=by
  unfold idxL
  rw [List.range_succ,List.filter_append,List.filter_cons_of_pos (by simpa using h),List.filter_nil,List.map_append];rfl
theorem idx_no {R:yLL} {k:Nat} (h:¬ (R[k]!).length=0):idxL R k=idxL R (k+1):=by
  unfold idxL
  rw [List.range_succ,List.filter_append,List.filter_cons_of_neg (by simpa using h),List.filter_nil,List.append_nil]
theorem idx_len (R:yLL) (k:Nat):(idxL R k).length≤k:=by
  unfold idxL;rw [List.length_map];exact Nat.le_trans (List.length_filter_le _ _) qm
theorem idx_ends {s:qL} {S:List qM} {R:yLL} (h:GrAll s S R):∀ k,k≤R.length→(idxL R k).map (fun i=>S[i.toNat]!)=endsL s S k
  | 0,_=>rfl
  | k+1,hk=>by
    have ih:=idx_ends h k qf
    have hl:=h.len
    by_cases e:(R[k]!).length=0
    · rw [← idx_yes e,List.map_append,ih,← ends_yes qf ((h.ht k qf).1 e)];rfl
    · rw [← idx_no e,ih,ends_no qf (fun hh=>e ((h.ht k qf).2 hh))]
theorem map_snoc! {α β:Type} [Inhabited α] {f:α→β} {l:List α} {q:Nat} (h:q < l.length):(l.take q).map f++[f (l[q]!)]=(l.take (q+1)).map f:=by
  rw [← take_snoc h,List.map_append];rfl
open Classical in
noncomputable def Q9 (s:qL) (t:qM):Bool×Int:=if (Xa s t).2=0 then (if Halts (exG s t).fNext 0 then decide ((endsL s (exG s t).zt (exG s t).zt.length).length=1) else false,0) else (false,(Xa s t).2)
theorem ic_c {s:qL} {t:qM} (h:(Xa s t).2≠0):Q9 s t=(false,(Xa s t).2):=by rw [Q9,if_neg h]
theorem ic_n {s:qL} {t:qM} (h:(Xa s t).2=0) (h1:¬ Halts (exG s t).fNext 0):Q9 s t=(false,0):=by rw [Q9,if_pos h,if_neg h1]
theorem ic_y {s:qL} {t:qM} (h:(Xa s t).2=0) (h1:Halts (exG s t).fNext 0) {i:Nat} (hi:i=(exG s t).zt.length):Q9 s t=(decide ((endsL s (exG s t).zt i).length=1),0):=by rw [Q9,if_pos h,if_pos h1,hi]
theorem ic_i {s:qL} {t:qM} (h:(Xa s t).2=0) (h1:Halts (exG s t).fNext 0) {i:Nat} (hi:i=(exG s t).fNext.length):Q9 s t=(decide ((idxL (exG s t).fNext i).length=1),0):=by
  have ga:=ex_all h
  rw [ic_y h h1 rfl,hi]
  have e:=congrArg List.length (idx_ends ga _ (Nat.le_refl _))
  rw [List.length_map,ga.len] at e
  rw [← e,ga.len]
theorem dec_one {n m:Nat} (h:n=m):((decide (m=1),(0:Int)):Bool×Int)=(((n:Int) == 1),0):=by
  subst h
  refine Prod.ext ?_ rfl
  show decide (n=1)=((n:Int) == 1)
  rw [Bool.eq_iff_iff];simp;omega
theorem snoc_lt {α:Type} [Inhabited α] {l:List α} {x:α} {q:Nat} (h:q < l.length):(l++[x])[q]! =l[q]! :=by
  rw [getElem!_pos _ q (by simp;omega),getElem!_pos _ q h,List.getElem_append_left]
theorem snoc_eq {α:Type} [Inhabited α] {l:List α} {x:α}:(l++[x])[l.length]! =x:=by
  rw [getElem!_pos _ l.length qm];simp
def InTo (R:yLL) (i j q:Nat):Prop:=∃ k,k < q∧((R[i]!)[k]!).toNat=j
def InRow (R:yLL) (i j:Nat):Prop:=InTo R i j (R[i]!).length
def FromGe (R:yLL) (lo j i:Nat):Prop:=lo≤i∧i < R.length∧InRow R i j∧∀ i',lo≤i' →i' < i→¬ InRow R i' j
open Classical in
noncomputable def frm (R:yLL) (j:Nat):Nat:=if h:∃ i,FromGe R 0 j i then h.choose else 0
theorem FromGe.same {R:yLL} {lo j i i' :Nat} (h:FromGe R lo j i) (h' :FromGe R lo j i'):i=i' :=by
  rcases Nat.lt_trichotomy i i' with h1 | h1 | h1
  · exact absurd h.2.2.1 (h'.2.2.2 i h.1 h1)
  · exact h1
  · exact absurd h'.2.2.1 (h.2.2.2 i' h'.1 h1)
theorem frm_of {R:yLL} {j i:Nat} (h:FromGe R 0 j i):frm R j=i:=by
  have hx:∃ i,FromGe R 0 j i:=⟨i,h⟩
  rw [frm,dif_pos hx];exact hx.choose_spec.same h
open Classical in
theorem frm_ok {S:List qM} {R:yLL} (h:GrOk S R) {j:Nat} (h0:0 < j) (hj:j < S.length):FromGe R 0 j (frm R j)∧frm R j < j:=by
  obtain ⟨i,h1,h2,k,hk,he⟩:=h.from' j h0 hj
  obtain ⟨m,a,b,c⟩:=least_of (g:=fun i=>decide (InRow R i j)) i (decide_eq_true ⟨k,hk,by omega⟩)
  have hf:FromGe R 0 j m:=⟨Nat.zero_le _,by omega,of_decide_eq_true b,fun i' _ hi' =>of_decide_eq_false (c i' hi')⟩
  rw [frm_of hf];exact ⟨hf,by omega⟩
def FGe (R:yLL) (F:yLI) (lo:Nat):Prop:=∀ j,j < F.length→∀ i,FromGe R lo j i→F[j]! =(i:Int)
def FMid (R:yLL) (F:yLI) (i q:Nat):Prop:=∀ j,j < F.length→(InTo R i j q→F[j]! =(i:Int))∧(¬ InTo R i j q→∀ i',FromGe R (i+1) j i' →F[j]! =(i' :Int))
theorem FGe.start {R:yLL} {F:yLI} {lo:Nat} (h:R.length≤lo):FGe R F lo:=fun j _ i hi=>by have:=hi.1;have:=hi.2.1;omega
theorem FMid.start {R:yLL} {F:yLI} {i:Nat} (h:FGe R F (i+1)):FMid R F i 0:=fun j hj=>⟨fun ⟨k,hk,_⟩=>by omega,fun _=>h j hj⟩
theorem FMid.step {R:yLL} {F:yLI} {i q:Nat} (h:FMid R F i q) {c:Nat} (hc:((R[i]!)[q]!).toNat=c):FMid R (F.set c (i:Int)) i (q+1):=fun j hj=>by
  subst hc
  rw [List.length_set] at hj
  obtain ⟨a,b⟩:=h j hj
  have hg:(F.set ((R[i]!)[q]!).toNat (i:Int))[j]! =if ((R[i]!)[q]!).toNat=j∧j < F.length then (i:Int) else F[j]! :=setAt0
  rw [hg]
  by_cases e:((R[i]!)[q]!).toNat=j
  · rw [if_pos ⟨e,hj⟩];exact ⟨fun _=>rfl,fun hn=>absurd ⟨q,by omega,e⟩ hn⟩
  · rw [if_neg (fun hx=>e hx.1)]
    have hi:InTo R i j (q+1)↔InTo R i j q:=⟨fun ⟨k,hk,he⟩=>⟨k,by
      by_cases ek:k=q
      · subst ek;exact absurd he e
      · omega,he⟩,fun ⟨k,hk,he⟩=>⟨k,by omega,he⟩⟩
    rw [hi];exact ⟨a,b⟩
theorem FMid.fin {R:yLL} {F:yLI} {i q:Nat} (h:FMid R F i q) (hq:q=(R[i]!).length) (hi:i < R.length):FGe R F i:=fun j hj i' hf=>by
  subst hq
  obtain ⟨a,b⟩:=h j hj
  by_cases e:InRow R i j
  · rw [a e,hf.same ⟨Nat.le_refl _,hi,e,fun i'' h1 h2=>by omega⟩]
  · refine b e i' ⟨?_,hf.2.1,hf.2.2.1,fun i'' h1 h2=>hf.2.2.2 i'' qf h2⟩
    rcases Nat.lt_or_ge i i' with h1 | h1
    · omega
    · have:i=i' :=by have:=hf.1;omega
      subst this;exact absurd hf.2.2.1 e
theorem FGe.at' {S:List qM} {R:yLL} {F:yLI} (h:FGe R F 0) (g:GrOk S R) {j:Nat} (h0:0 < j) (hj:j < S.length) (hl:F.length=S.length):F[j]! =(frm R j:Int):=h j qf _ (frm_ok g h0 hj).1
structure FromOk (S:List qM) (R:yLL) (F:yLI):Prop where
  len:F.length=S.length
  fst:F[0]! = -1
  all:∀ j,0 < j→j < S.length→0≤F[j]! ∧FromGe R 0 j (F[j]!).toNat
theorem FromOk.start (t:qM):FromOk [t] [] [-1]:=⟨rfl,rfl,fun j h1 h2=>by simp at h2;omega⟩
theorem FromOk.next {S:List qM} {R:yLL} {F:yLI} (h:FromOk S R F) (g:GrOk S R) {nx:List qM} {k i:Nat} (hp:0 < S.length) (hi:i=R.length):FromOk (zU S nx k).1 (R++[(zU S nx k).2]) (F++List.replicate ((zU S nx k).1.length - S.length) (i:Int)):=by
  subst hi
  obtain ⟨h1,h2⟩:=addSt_rows (S:=S) (nx:=nx) k
  obtain ⟨l1,l2,l3⟩:=addSt_len (S:=S) (nx:=nx) k
  have hl:=h.len
  have hold:∀ j,j < S.length→(F++List.replicate ((zU S nx k).1.length - S.length) (R.length:Int))[j]! =F[j]! :=fun j hj=>by
    rw [getElem!_pos _ j (by simp;omega),getElem!_pos _ j qf,List.getElem_append_left]
  have hrow:∀ i j,i < R.length→(InRow (R++[(zU S nx k).2]) i j↔InRow R i j):=fun i j hi=>by
    unfold InRow InTo;rw [snoc_lt hi]
  refine ⟨by simp;omega,by rw [hold 0 hp];exact h.fst,fun j hj0 hj=>?_⟩
  by_cases e:j < S.length
  · rw [hold j e]
    obtain ⟨a,b,c,d,f⟩:=h.all j hj0 e
    exact ⟨a,b,by rw [List.length_append,List.length_singleton];omega,(hrow _ _ c).2 d,fun i' h3 h4 hx=>f i' h3 h4 ((hrow _ _ qf).1 hx)⟩
  · have hv:(F++List.replicate ((zU S nx k).1.length - S.length) (R.length:Int))[j]! =(R.length:Int):=by
      rw [getElem!_pos _ j (by simp;omega),List.getElem_append_right qf,List.getElem_replicate]
    rw [hv,Int.toNat_natCast]
    refine ⟨by omega,Nat.zero_le _,by simp,?_,fun i' _ h4 hx=>?_⟩
    · obtain ⟨q,hq,he⟩:=h2 j qf hj
      unfold InRow;rw [snoc_eq];exact ⟨q,by omega,by rw [snoc_eq,he];omega⟩
    · obtain ⟨q,hq,he⟩:=(hrow _ _ h4).1 hx
      have:=(g.rows i' h4 q hq).2
      omega
theorem FromOk.at' {S:List qM} {R:yLL} {F:yLI} (h:FromOk S R F) {j:Nat} (hj:j < S.length):(0≤F[j]! ↔0 < j)∧(0 < j→F[j]! =(frm R j:Int)):=by
  by_cases e:j=0
  · subst e;rw [h.fst];exact ⟨by omega,by omega⟩
  · obtain ⟨a,b⟩:=h.all j qf hj
    rw [frm_of b];exact ⟨by omega,by omega⟩
end
section
open Go.RowKit
def cellsF (B:yLN) (v:Value) (xs:List Value):Fact where
  F:=B
  φ:=fun w=>xs=[]∨∃ b o m c,v=.slice (some ⟨b,o,none⟩) m c∧B=[b]∧vw w b o xs
  stay:=by
    rintro w w' (h | ⟨b,o,m,c,h1,h2,h3⟩) hs
    · exact Or.inl h
    · exact Or.inr ⟨b,o,m,c,h1,h2,cellsAt_stay h3 (hs b (by simp [h2]))⟩

section
variable {W0 w : World} {ps : List Prv} {Γ : List Fact} {L : List yLN}
theorem St.pool {α:Type} [qP α] (H:St W0 w ps Γ) (i:Nat) {F:yLN} {v:Value} {l:List α} (hf:Γ[i]? =some (isF true F v l)) (N:Fresh W0.heap.size (F :: L)):
    ∃ (xs:List Value) (B P:yLN),Fresh W0.heap.size (P :: L)∧St W0 w ps (zk true P (xs.drop (0 * qP.size α)) (l.drop 0) :: cellsF B v xs :: Γ):=by
  obtain ⟨⟨a,cap,hc,_,h⟩,hfr⟩:=H.get i hf
  simp only [List.cons.injEq,and_true] at hc
  rcases h with ⟨hl,hF⟩ | ⟨b,o,F',vs,ha,hF,_,hr,hcl⟩
  · refine ⟨[],[],[],N.less qm qm,?_⟩
    subst hl
    exact (H.add (cellsF [] v []) (Or.inl rfl) (by simp [cellsF])).add _ ⟨by simp [reps],fun _=>vM.nil _⟩ (by simp [zk])
  · refine ⟨vs,[b],F',N.less (fun x hx=>by rw [hF];simp [hx]) (fun hn=>by rw [hF] at hn;exact (List.nodup_cons.1 hn).2),?_⟩
    have h1:=H.jD i hf (cellsF [b] v vs) (Or.inr ⟨b,o,l.length,cap,by rw [hc,ha],rfl,hcl⟩) (fun x hx=>by have hx:x∈[b]:=hx;show x∈F;rw [hF];simp at hx;simp [hx])
    refine h1.jD (i+1) hf (zk true F' (vs.drop (0 * qP.size α)) (l.drop 0)) ⟨?_,fun _=>(hfr rfl).sub fun x hx=>by rw [hF];simp [hx]⟩ fun x hx=>by have hx:x∈F' :=hx;show x∈F;rw [hF];simp [hx]
    rw [Nat.zero_mul];exact hr
theorem St.drain {α:Type} [qP α] [Inhabited α] (H:St W0 w ps Γ) (j:Nat) {B:yLN} {b o m c:Nat} {xs:List Value} (hx:Γ[j]? =some (cellsF B (.slice (some ⟨b,o,none⟩) m c) xs)) (i:Nat) {P:yLN} {l:List α} {k0:Nat}
    (hf:Γ[i]? =some (zk true P (xs.drop (k0 * qP.size α)) (l.drop k0))) (N:Fresh W0.heap.size (P :: L)) (hz:0 < qP.size α) (k:Nat) (h0:k0≤k) (hk:k < l.length):
    ∃ cs G P',vw w b (o+k * qP.size α) cs∧qP.rep w G cs (l[k]!)∧vM w G∧(∀ x∈G,x∈P)∧b∈B∧Fresh W0.heap.size (G :: P' :: L)∧(∀ x∈P',x∈P)∧reps w P' (xs.drop ((k+1) * qP.size α)) (l.drop (k+1))∧vM w P' :=by
  obtain ⟨d,rfl⟩:∃ d,k=k0+d:=⟨k - k0,by omega⟩
  obtain ⟨hr,hfr⟩:=H.get i hf
  obtain ⟨F1,Fk,F2,v1,cs,v2,hP,hv,hv1,hcs,hrep,_,h2⟩:=reps_get hr d (by rw [List.length_drop];omega)
  have hlen:=congrArg List.length hv
  simp only [List.length_append,List.length_drop] at hlen
  have e1:(k0+d+1) * qP.size α=k0 * qP.size α+(d * qP.size α+qP.size α):=by rw [Nat.add_mul,Nat.add_mul,Nat.one_mul];omega
  have e2:(k0+d) * qP.size α=k0 * qP.size α+d * qP.size α:=Nat.add_mul ..
  have hxs:xs.take (k0 * qP.size α)++v1++cs++v2=xs:=by rw [List.append_assoc,List.append_assoc,← List.append_assoc v1,← hv,List.take_append_drop]
  have hgl:(l.drop k0)[d]'(by rw [List.length_drop];omega)=l[k0+d]! :=by rw [List.getElem_drop,getElem!_pos l _ hk]
  rw [hgl] at hrep
  obtain ⟨m',c',hB,hcl⟩:∃ m' c' :Nat,B=[b]∧vw w b o xs:=by
    rcases H.get j hx with h | ⟨b',o',m',c',h1,h2',h3⟩
    · rw [h] at hlen;simp at hlen;omega
    · simp only [Value.slice.injEq,Option.some.injEq,Addr.mk.injEq,and_true] at h1
      obtain ⟨⟨rfl,rfl⟩,_⟩:=h1
      exact ⟨m',c',h2',h3⟩
  have hd:(l.drop k0).drop (d+1)=l.drop (k0+d+1):=by rw [List.drop_drop];congr 1
  rw [hd] at h2
  have hv2:xs.drop ((k0+d+1) * qP.size α)=v2:=by
    rw [e1,← List.drop_drop,hv,List.drop_append,List.drop_of_length_le (by simp only [List.length_append];omega),List.nil_append]
    simp only [List.length_append]
    rw [show d * qP.size α+qP.size α - (v1.length+cs.length)=0 by omega];rfl
  have hndP:P.Nodup:=N.nd P qm
  have hsub:∀ x∈Fk++F2,x∈P:=fun x hx=>by
    rw [hP,List.append_assoc];exact List.mem_append_right _ hx
  refine ⟨cs,Fk,F2,?_,hrep,(hfr rfl).sub fun x hx=>hsub x (by simp [hx]),fun x hx=>hsub x (by simp [hx]),by simp [hB],(N.less hsub fun hn=>?_).split,fun x hx=>hsub x (by simp [hx]),by rw [hv2];exact h2,(hfr rfl).sub fun x hx=>hsub x (by simp [hx])⟩
  · rw [← hxs] at hcl
    have:=cells_mid hcl
    rw [List.length_append,hv1,List.length_take_of_le qf,← e2] at this
    exact this
  · rw [hP,List.append_assoc] at hn;exact (List.nodup_append.1 hn).2.1

theorem St.drain_StateD (H:St W0 w ps Γ) (j:Nat) {B:yLN} {b o m c:Nat} {xs:List Value} (hx:Γ[j]? =some (cellsF B (.slice (some ⟨b,o,none⟩) m c) xs)) (i:Nat) {P:yLN} {l:List qM} {k0:Nat}
    (hf:Γ[i]? =some (zk true P (xs.drop (k0 * 3)) (l.drop k0))) (N:Fresh W0.heap.size (P :: L)) (iv:Int) (k:Nat) (hi:iv.toNat=k) (h0:k0≤k) (hk:k < l.length):
    ∃ (aA:yOA) (cA:Nat) (FA:yLN) (aB:yOA) (cB:Nat) (FB:yLN) (aO:yOA) (cO:Nat) (FO P' :yLN),Fresh W0.heap.size (FA :: FB :: FO :: P' :: L)∧
      St W0 w ps (isF true FA (.slice aA ((l[k]!).qB.length) cA) ((l[k]!).qB) :: isF true FB (.slice aB ((l[k]!).qE.length) cB) ((l[k]!).qE) :: isF true FO (.slice aO ((l[k]!).qC.length) cO) ((l[k]!).qC) ::
        atF b (o+iv.toNat * 3) [.slice aA ((l[k]!).qB.length) cA,.slice aB ((l[k]!).qE.length) cB,.slice aO ((l[k]!).qC.length) cO] :: zk true P' (xs.drop ((k+1) * 3)) (l.drop (k+1)) :: Γ):=by
  subst hi
  obtain ⟨cs,G,P',hc,hr,hfr,hsub,hB,N',hs2,h2,hf2⟩:=St.drain (α:=qM) H j hx i hf N (show 0 < 3 by decide) iv.toNat h0 hk
  obtain ⟨vA,vB,vO,FA,FB,FO,rfl,hFF,hA,hBb,hO⟩:=id hr
  obtain ⟨aA,cA,rfl⟩:=slice_form hA
  obtain ⟨aB,cB,rfl⟩:=slice_form hBb
  obtain ⟨aO,cO,rfl⟩:=slice_form hO
  subst hFF
  have s1:=H.jD i hf (zk true P' (xs.drop ((iv.toNat+1) * 3)) (l.drop (iv.toNat+1))) ⟨h2,fun _=>hf2⟩ hs2
  have s2:=s1.jD (j+1) hx (atF b (o+iv.toNat * 3) [.slice aA _ cA,.slice aB _ cB,.slice aO _ cO]) hc (fun x hx=>by have hx:x∈[b]:=hx;simp at hx;subst hx;exact hB)
  have s3:=s2.jD (i+2) hf (isF true FO _ ((l[iv.toNat]!).qC)) ⟨hO,fun _=>hfr.sub fun x hx=>by simp [hx]⟩ (fun x hx=>hsub x (by have hx:x∈FO:=hx;simp [hx]))
  have s4:=s3.jD (i+3) hf (isF true FB _ ((l[iv.toNat]!).qE)) ⟨hBb,fun _=>hfr.sub fun x hx=>by simp [hx]⟩ (fun x hx=>hsub x (by have hx:x∈FB:=hx;simp [hx]))
  exact ⟨aA,cA,FA,aB,cB,FB,aO,cO,FO,P',N'.split.split,s4.jD (i+4) hf (isF true FA _ ((l[iv.toNat]!).qB)) ⟨hA,fun _=>hfr.sub fun x hx=>by simp [hx]⟩ (fun x hx=>hsub x (by have hx:x∈FA:=hx;simp [hx]))⟩
end
end
section
open Go.RowKit Go.Shelf Go.Lib Go.Sort
section
variable {W0 w : World} {ps : List Prv} {Γ : List Fact}
end
end
section
open Go.ChangeShapes Go.WideShapes Go.ChangeAt Go.RowKit Go.Joins
set_option linter.unusedVariables false
set_option linter.unusedSimpArgs false
def Reads (P:Program) (t:TypeId) (α:Type) [qP α]:Prop:=
  ∀ {H:Type} {enc:TypeId×Value→H} {w:World} {spare:Nat→Bool} {held:Bool} {fuel:Nat} {cs:List Value} {x:DataW H×List MemPlace},
    DataW.trod enc P w 0 spare held fuel t cs=some x→∃ F,∃ y:α,qP.rep w F cs y

theorem QU {P:Program} {t:TypeId} (hu:P.underlying t=some (.int .i64)):Reads P t Int:=fun h=>by
  obtain ⟨n,rfl,_⟩:=DataW.trod_int hu h
  exact ⟨[],n,rfl,rfl⟩
theorem reads_bool {P:Program} {t:TypeId} (hu:P.underlying t=some .bool):Reads P t Bool:=fun h=>by
  obtain ⟨b,rfl,_⟩:=DataW.trod_bool hu h
  exact ⟨[],b,rfl,rfl⟩

theorem cell_spot {w:World} {a:Addr} {v:Value} (h:w.cell? a=some v):a.spot=none:=by
  unfold World.cell? at h
  split at h
  · split at h
    · cases h
    · rename_i hs;simpa using hs
  · cases h

theorem yZ {α:Type} [qP α] {P:Program} {t e:TypeId} (hu:P.underlying t=some (.slice e)) (hc:P.cellsOf e=qP.size α) (hz:0 < qP.size α) (he:Reads P e α):Reads P t (List α):=by
  intro H enc w spare held fuel cs x h
  rcases DataW.trod_slice hu h with ⟨rfl,_⟩ | ⟨a,len,cap,elems,rest,n,_,rfl,_,_,hlc,hcm,hel,hget,_⟩
  · exact ⟨[],[],none,0,rfl,by simp,Or.inl ⟨rfl,rfl⟩⟩
  · have hm:cap≤9223372036854775807:=by unfold maxLen at hcm;omega
    rcases Nat.eq_zero_or_pos len with h0 | h0
    · subst h0
      exact ⟨[],[],some a,cap,rfl,by simp,Or.inl ⟨rfl,rfl⟩⟩
    · have hone:∀ i,i < len→∃ ci Fi,∃ y:α,w.cells? 0 (a.add (i * qP.size α)) (qP.size α)=some ci∧qP.rep w Fi ci y:=by
        intro i hi
        have hg:=hget i hi
        rw [hc] at hg
        have hs:elems[i]? =some (elems[i]'(by omega)):=List.getElem?_eq_getElem qf
        rw [hs] at hg
        obtain ⟨ci,h1,h2⟩:=Option.bind_eq_some_iff.1 hg
        obtain ⟨Fi,y,hr⟩:=he h2
        exact ⟨ci,Fi,y,h1,hr⟩
      have hsp:a.spot=none:=by
        obtain ⟨ci,Fi,y,h1,_⟩:=hone 0 h0
        obtain ⟨_,hl,hcell⟩:=World.cells?_some h1
        have:=hcell 0 hz
        rw [List.getElem?_eq_getElem (show 0 < ci.length by omega)] at this
        have:=cell_spot this
        simpa [Addr.add] using this
      obtain ⟨b,off,sp⟩:=a
      simp only at hsp
      subst hsp
      have hadd:∀ i j:Nat,((⟨b,off,none⟩:Addr).add (i * qP.size α)).add j=⟨b,off+i * qP.size α+j,none⟩:=fun i j=>by simp [Addr.add_mid]
      have hall:∀ m,m≤len→∃ F vs,∃ l:List α,l.length=m∧reps w F vs l∧vw w b off vs:=by
        intro m
        induction m with
        | zero=>exact fun _=>⟨[],[],[],rfl,⟨rfl,rfl⟩,fun i v hv=>by simp at hv⟩
        | succ m ih=>
          intro hm'
          obtain ⟨F,vs,l,hl,hr,hcl⟩:=ih qf
          obtain ⟨ci,Fi,y,h1,h2⟩:=hone m qf
          obtain ⟨_,hcl2,hcell⟩:=World.cells?_some h1
          refine ⟨F++Fi,vs++ci,l++[y],by simp [hl],Qy hr (reps_one h2),fun i v hv=>?_⟩
          have hvl:=reps_len hr
          rw [hl] at hvl
          rcases Nat.lt_or_ge i vs.length with hi | hi
          · rw [List.getElem?_append_left hi] at hv
            exact hcl i v hv
          · rw [List.getElem?_append_right hi] at hv
            have hi2:i - vs.length < ci.length:=by
              rcases Nat.lt_or_ge (i - vs.length) ci.length with h | h
              · exact h
              · simp [h] at hv
            have:=hcell (i - vs.length) qf
            rw [hadd,hv] at this
            rw [← this]
            congr 1
            rw [show off+i=off+m * qP.size α+(i - vs.length) by omega]
      obtain ⟨F,vs,l,hl,hr,hcl⟩:=hall len (Nat.le_refl _)
      have hb:b < w.heap.size:=by
        have h1:0 < vs.length:=by rw [reps_len hr,hl];exact Nat.mul_pos h0 hz
        exact World.block_lt_of_cell? w _ (hcl 0 _ (List.getElem?_eq_getElem h1))
      subst hl
      exact ⟨b :: F,l,some ⟨b,off,none⟩,cap,rfl,⟨by omega,hlc⟩,Or.inr ⟨b,off,F,vs,rfl,rfl,hb,hr,hcl⟩⟩

theorem jC {n:Nat} {cs:List Value} (h:cs.length=n+1):∃ c cs',cs=c :: cs' ∧cs'.length=n:=by
  cases cs with
  | nil=>simp at h
  | cons c cs=>exact ⟨c,cs,rfl,by simpa using h⟩
theorem jS {P:Program} {H:Type} {enc:TypeId×Value→H} {w:World} {spare:Nat→Bool} {held:Bool} {fuel:Nat} {t:TypeId} {fs:Array Field} {cs:List Value} {x:DataW H×List MemPlace} (hu:P.underlying t=some (.struct fs))
    (h:DataW.trod enc P w 0 spare held fuel t cs=some x) (i off:Nat) {f:Field} (hf:fs[i]? =some f) (ho:f.offset=off) {α:Type} [qP α] (hr:Reads P f.type α) (h1:qP.size α=1) (hc:P.cellsOf f.type=1):
    ∃ F,∃ y:α,∃ v,cs[off]? =some v∧qP.rep w F [v] y:=by
  obtain ⟨xs,n,_,_,hl,hxl,hall⟩:=DataW.trod_struct hu h
  have hi:i < xs.length:=by
    rw [hxl]
    exact (Array.getElem?_eq_some_iff.1 hf).1
  have hg:=hall i f hf
  rw [List.getElem?_eq_getElem hi,hc,ho] at hg
  obtain ⟨F,y,hy⟩:=hr hg
  have hlen:=qP.len hy
  rw [h1] at hlen
  obtain ⟨v,cs',e,hl'⟩:=jC hlen
  obtain rfl:=List.eq_nil_of_length_eq_zero hl'
  rw [e] at hy
  refine ⟨F,y,v,?_,hy⟩
  have:(List.take 1 (List.drop off cs))[0]? =some v:=by rw [e];rfl
  simpa using this
theorem arg_struct {P:Program} {α:Type} [qP α] {H:Type} {enc:TypeId×Value→H} {w:World} {spare:Nat→Bool} {held:Bool} {b0:Nat} {t:TypeId} {fs:Array Field} {v:Value} {d:DataW H} {p:List MemPlace} (hu:P.underlying t=some (.struct fs)) (hr:Reads P t α)
    (hv:Value.okWide P w .any b0 t v) (h:DataW.Trod enc P w 0 spare held t v d p):∃ (cs:List Value) (F:yLN) (x:α),v=.agg cs.toArray∧qP.rep w F cs x:=by
  obtain ⟨cs,rfl,_⟩:=okWide_struct hu hv
  obtain ⟨fuel,hf⟩:=h
  obtain ⟨F,x,hx⟩:=hr hf
  exact ⟨cs.toList,F,x,by simp,hx⟩
theorem slice_is {α:Type} [qP α] {w:World} {F:yLN} {v:Value} {l:List α} (h:qP.rep w F [v] l):∃ a c,v=.slice a l.length c∧qP.rep w F [.slice a l.length c] l:=by
  obtain ⟨a,c,hc,_⟩:=id h
  simp only [List.cons.injEq,and_true] at hc
  exact ⟨a,c,hc,hc▸h⟩
section
variable {H : Type} {enc : TypeId × Value → H} {P : Program}

theorem trodAll_below (hl:laidOutB P=true) {W W' :World} (hb:Below W.heap.size W W'):
    ∀ (ts:List TypeId) (vs:List Value) (ds:List (DataW H)) (ps:List MemPlace),(∀ t∈ts,P.readableRec t=true∧t < P.types.size)→
      DataW.TrodAll enc P W 0 (fun _=>true) true ts vs ds ps→(∀ x∈ps,x.block < W.heap.size)→
      DataW.TrodAll enc P W' 0 (fun b=>decide (b < W.heap.size)) true ts vs ds ps
  | [],vs,ds,ps,_,h,_=>by
    obtain ⟨rfl,rfl,rfl⟩:=trodAll_nil h
    exact trodAll_mk0
  | t :: ts,vs,ds,ps,hr,h,hp=>by
    obtain ⟨v,vs',d,ds',p,q,rfl,rfl,rfl,h0,h1⟩:=trodAll_cons h
    have ht:=hr t (List.mem_cons_self ..)
    exact trodAll_cons_mk (Below.trod hl ht.1 ht.2 h0 hb (fun x hx=>hp x (List.mem_append_left _ hx)))
      (trodAll_below hl hb ts vs' ds' q (fun t' ht' =>hr t' (List.mem_cons_of_mem _ ht')) h1 (fun x hx=>hp x (List.mem_append_right _ hx)))

theorem post_law {f:Func} {s:ChangeSpec} {W W' :World} {args:Array Value} {tb:TypeId} {ds gs:List (DataW H)} {before:List MemPlace}
    (hW:DataW.Whole enc P f.params.toList s.vars false W args.toList ds gs before) (hv:s.vars=[])
    (hs:s.fn H (ds++[])={ results:=[.lit (.bool true)],args:=ds }) (hr:f.resultTypes=#[tb]) (hu:P.underlying tb=some .bool)
    (hl:laidOutB P=true) (hts:∀ t∈f.params.toList,P.readableRec t=true∧t < P.types.size) (hb:Below W.heap.size W W'):
    s.post enc P f false true false false W args (.bool true) W' :=by
  have hW' :=hW
  obtain ⟨p,q,hA,hV,rfl,hz,hn⟩:=hW
  rw [hv] at hV
  obtain ⟨rfl,rfl⟩:=trodVars_none hV
  have hlt:∀ x∈p++[],x.block < W.heap.size:=fun x hx=>hW'.lt x hx
  refine ⟨ds,[],p++[],[],p,[],hW',?_,?_,?_,World.keptBut_mono (fun x hx=>⟨hx,Or.inr (Or.inl (by simpa using hx))⟩) (hb.frame (·∈p++[])),fun h=>by cases h⟩
  · rw [hs,hr]
    simp only [Value.resultList]
    exact trodAll_mk1 (shut_bool hu true)
  · rw [hs]
    exact trodAll_below hl hb _ _ _ _ hts hA (fun x hx=>hlt x (by simpa using hx))
  · rw [hv,hs]
    exact rfl
end
end
section
open Go.Proofs.Tryz
open Go.RowKit
set_option linter.unusedVariables false
set_option linter.unusedSimpArgs false
set_option maxRecDepth 100000
set_option maxHeartbeats 4000000
variable {cl bs os qy qH yu yz yw yx QN jT bt ot qO qZ qI : Nat}
theorem l01Bag_ok (w:World) (l:yLI) {al:yOA} {Fl:yLN} (hl:qP.rep w Fl [.slice al l.length cl] l):Calls Tryz.prog 150 #[.slice al l.length cl] w (Ret (fun v w' =>v=.bool (dec (X4 l))) w):=by
 refine en func150 ntmps150 ?_
 have H:=(St.start w).arg hl
 have nhl:=qN hl
 clear hl
 refine zcr (sp (.bool false) (zjcc (sp (yI 0) (zjn (qY ?_)))))
 refine zB (fun m' ρ w1=>∃ (xN:Env) (k:Nat),ρ=upd (upd xN 0 (.slice al l.length cl)) 3 (yI k)∧(k≤l.length)∧(Counts l k)∧m' =l.length - k∧St w w1 [] [sF false Fl al cl l]) (l.length - 0) ⟨_,0,uE2,qf,(by exact Counts.zero l),rfl,H⟩ ?_
 clear H
 rintro m' ρ w2 ⟨xN,k,rfl,i0,i1,rfl,H⟩
 refine zcc (sps [yI k,.slice al l.length cl] (oN rfl (sp (.bool (decide ((k:Int) < l.length))) (zjn (cD rfl (fun h3=>?_) (fun h3=>?_))))))
 ·skip
  refine qV (t_n (xU (qY (zcr (sps [.slice al l.length cl,yI k] ?_)))))
  obtain ⟨b4,o5,rfl⟩:=H.addr 0 rfl qf
  refine oI rfl rfl (oL rfl (H.jy 0 rfl k qf qf) (sw (oq (l00In_ok w2 (l[k]!) 0 1000) H fun w6 H=>sp (.bool (!(inR (l[k]!) 0 1000))) (zjn (xF (!(inR (l[k]!) 0 1000)) rfl (fun h8=>?_) (fun h8=>?_))))))
  ·skip
   replace h8:=xq h8
   replace h8:=XB h8
   refine zcr (sp (.bool false) (zjr (zr5 (ret1 (.bool false) rfl rfl ⟨_,rfl,?_,H.base⟩))))
   rw [xn (fun h=>‹¬ (0≤l[k]! ∧l[k]! ≤1000)› (h.1 k qf))]
  replace h8:=xk h8
  replace h8:=QY.1 h8
  refine qV (b_n (t_n (xX (sp (yI k) (sw (zD k 1 rfl rfl qf (sp (yI (k+1)) (xY (xg (m' :=l.length - (k+1)) qf ⟨_,k+1,uE2,?_,?_,rfl,H⟩)))))))))
  · omega
  · exact i1.succ ‹_›
 refine zx4 (zcr (sp (.slice al l.length cl) (oN rfl (sw (oq (l00In_ok w2 l.length 1 8) H fun w9 H=>sp (.bool (inR l.length 1 8)) (zjr (ret1 (.bool (inR l.length 1 8)) rfl rfl ⟨_,rfl,?_,H.base⟩)))))))
 obtain rfl:k=l.length:=by omega
 refine congrArg Value.bool (dec_eq ?_)
 rw [QY]
 exact ⟨fun h=>⟨i1,by omega,by omega⟩,fun h=>by have:=h.2;omega⟩

theorem QI (w:World) (s:qL) (b:yLI) {qA:yOA} {qW:yLN} {qK:yOA} {xy:yLN} {ab:yOA} {cb:Nat} {Fb:yLN} (hs:vw w bs os (yS s qA qy qK qH)) (xf:qP.rep w qW [.slice qA s.qw.length qy] s.qw) (xG:qP.rep w xy [.slice qK s.qx.length qH] s.qx) (hb:qP.rep w Fb [.slice ab b.length cb] b):Calls Tryz.prog 122 #[pp bs os,.slice ab b.length cb] w (Ret (fun v w' =>v=.bool (dec (zY s.xB b))) w):=by
 refine en func122 ntmps122 ?_
 have H:=((((St.start w).arg hb).arg xG).arg xf).XU hs
 have ve:=qN xf
 have jh:=qN xG
 have nhb:=qN hb
 clear hs xf xG hb
 refine zcr (sp (.bool false) (zjc (sp (.slice ab b.length cb) (sw (oq (l01Bag_ok _ b (H.get 3 rfl).1) H fun w1 H=>sp (.bool (dec (X4 b))) ?_)))))
 cases h3:(dec (X4 b))
 ·skip
  replace h3:=zV h3
  refine xZ [8,9,10,11,12,13,14] (sps [.bool false,.bool false] (zjr (ret1 (.bool false) rfl rfl ⟨_,rfl,?_,H.base⟩)))
  rw [xn (fun h=>‹¬ X4 b› h.1)]
 replace h3:=Qb h3
 refine qQ 7 rfl rfl (sp (.slice ab b.length cb) (qQ 7 rfl rfl (oN rfl (qQ 7 rfl rfl (sp (pp bs os) (qQ 7 rfl rfl (sp (pp bs os) (qQ 7 rfl rfl (oF rfl (qQ 7 rfl rfl (oL rfl (H.xR 0 rfl 0 rfl) (qQ 7 rfl rfl (sps [.bool ((b.length:Int) == s.xB),.bool ((b.length:Int) == s.xB),.bool ((b.length:Int) == s.xB)] (zjr (ret1 (.bool ((b.length:Int) == s.xB)) rfl rfl ⟨_,rfl,(congrArg Value.bool (dec_eq ?_)),H.base⟩)))))))))))))))
 rw [beq_iff_eq]
 exact ⟨fun h=>⟨‹_›,h⟩,fun h=>h.2⟩

theorem l02Frame_ok (w:World) (s:qL) {qA:yOA} {qW:yLN} {qK:yOA} {xy:yLN} (hs:vw w bs os (yS s qA qy qK qH)) (xf:qP.rep w qW [.slice qA s.qw.length qy] s.qw) (xG:qP.rep w xy [.slice qK s.qx.length qH] s.qx):Calls Tryz.prog 133 #[pp bs os] w (Ret (fun v w' =>v=.bool (dec (yO s))) w):=by
 refine en func133 ntmps133 ?_
 have H:=(((St.start w).arg xG).arg xf).XU hs
 have ve:=qN xf
 have jh:=qN xG
 clear hs xf xG
 refine zcr (sp (.bool false) (zjcc (sps [pp bs os,pp bs os] (oF rfl (oL rfl (H.xR 0 rfl 0 rfl) (sw (oq (l00In_ok w s.xB 1 8) H fun w1 H=>sps [.bool (!(inR s.xB 1 8)),.bool (!(inR s.xB 1 8))] ?_)))))))
 cases h3:(!(inR s.xB 1 8))
 ·skip
  replace h3:=xk h3
  replace h3:=QY.1 h3
  refine qQ 10 rfl rfl (sp (pp bs os) (qQ 10 rfl rfl (sp (pp bs os) (qQ 10 rfl rfl (oF rfl (qQ 10 rfl rfl (oL rfl (H.xR 0 rfl 1 rfl) (qQ 10 rfl rfl (oN rfl (qQ 10 rfl rfl (sw (oq (l00In_ok w1 s.qw.length 1 6) H fun w4 H=>qQ 10 rfl rfl (sps [.bool (!(inR s.qw.length 1 6)),.bool (!(inR s.qw.length 1 6)),.bool (!(inR s.qw.length 1 6))] ?_)))))))))))))
  cases h6:(!(inR s.qw.length 1 6))
  ·skip
   replace h6:=xk h6
   replace h6:=QY.1 h6
   refine qQ 19 rfl rfl (sp (pp bs os) (qQ 19 rfl rfl (sp (pp bs os) (qQ 19 rfl rfl (oF rfl (qQ 19 rfl rfl (oL rfl (H.xR 0 rfl 1 rfl) (qQ 19 rfl rfl ?_))))))))
   obtain ⟨b7,o8,rfl⟩:=H.addr 1 rfl qf
   refine oI rfl rfl (qQ 19 rfl rfl (oL rfl (H.jy 1 rfl 0 qf qf) (qQ 19 rfl rfl (sps [.bool ((s.qw[0]! :Int) != (-1)),.bool ((s.qw[0]! :Int) != (-1))] (zjn (xF ((s.qw[0]! :Int) != (-1)) rfl (fun h9=>?_) (fun h9=>?_)))))))
   ·skip
    replace h9:=bne_iff_ne.1 h9
    refine zcr (sp (.bool false) (zjr (t_r (ret1 (.bool false) rfl rfl ⟨_,rfl,?_,H.base⟩))))
    rw [xn (fun h=>by obtain ⟨h1,h2,h3,h4⟩:=h;first | omega | (have:=h4 k qf qf;omega))]
   replace h9:=xA h9
   refine qV (t_n (zcc (sp (yI 1) (zjn (qY ?_)))))
   refine zB (fun m' ρ w10=>∃ (xN:Env) (k:Nat),ρ=upd (upd xN 0 (pp bs os)) 3 (yI k)∧(k≤s.qw.length)∧(1≤k)∧(FrameTo s k)∧m' =s.qw.length - k∧St w w10 [] [atF bs os [yI s.xB,.slice (aa b7 o8) s.qw.length qy,.slice qK s.qx.length qH],sF false qW (aa b7 o8) qy s.qw,sF false xy qK qH s.qx]) (s.qw.length - 1) ⟨_,1,uE2,qf,qf,(by exact FrameTo.one s),rfl,H⟩ ?_
   clear H
   rintro m' ρ w11 ⟨xN,k,rfl,i0,i2,i1,rfl,H⟩
   refine zcc (sps [yI k,pp bs os,pp bs os] (oF rfl (oL rfl (H.xR 0 rfl 1 rfl) (oN rfl (sp (.bool (decide ((k:Int) < s.qw.length))) (zjn (cD rfl (fun h12=>?_) (fun h12=>?_))))))))
   ·skip
    refine qV (t_n (xU (qY (zcr (sps [pp bs os,pp bs os] (oF rfl (oL rfl (H.xR 0 rfl 1 rfl) (sp (yI k) (oI rfl rfl (oL rfl (H.jy 1 rfl k qf qf) (sp (yI k) (sw (o_sub k 1 rfl rfl qf (sw (oq (l00In_ok w11 (s.qw[k]!) 0 (k - 1)) H fun w13 H=>sp (.bool (!(inR (s.qw[k]!) 0 (k - 1)))) (zjn (xF (!(inR (s.qw[k]!) 0 (k - 1))) rfl (fun h15=>?_) (fun h15=>?_))))))))))))))))))
    ·skip
     replace h15:=xq h15
     replace h15:=XB h15
     refine zcr (sp (.bool false) (zjr (zr5 (ret1 (.bool false) rfl rfl ⟨_,rfl,?_,H.base⟩))))
     rw [xn (fun h=>by obtain ⟨h1,h2,h3,h4⟩:=h;first | omega | (have:=h4 k qf qf;omega))]
    replace h15:=xk h15
    replace h15:=QY.1 h15
    refine qV (b_n (t_n (xX (sp (yI k) (sw (zD k 1 rfl rfl qf (sp (yI (k+1)) (xY (xg (m' :=s.qw.length - (k+1)) qf ⟨_,k+1,uE2,?_,?_,?_,rfl,H⟩)))))))))
    · omega
    · omega
    · exact i1.succ ‹_›
   refine zx4 (zcr (sp (.bool true) (zjr (ret1 (.bool true) rfl rfl ⟨_,rfl,?_,H.base⟩))))
   obtain rfl:k=s.qw.length:=by omega
   rw [jP ⟨by omega,by omega,by omega,i1⟩]
  replace h6:=xq h6
  replace h6:=XB h6
  refine xZ [20,21,22,23,24,25,26] (sp (.bool true) (zjn (xF true rfl (fun _=>zcr (sp (.bool false) (zjr (t_r (ret1 (.bool false) rfl rfl ⟨_,rfl,?_,H.base⟩))))) (fun h=>absurd h qj))))
  rw [xn (fun h=>by obtain ⟨h1,h2,h3,h4⟩:=h;first | omega | (have:=h4 k qf qf;omega))]
 replace h3:=xq h3
 replace h3:=XB h3
 refine xZ [11,12,13,14,15,16,17] (sps [.bool true,.bool true] (xZ [20,21,22,23,24,25,26] (sp (.bool true) (zjn (xF true rfl (fun _=>zcr (sp (.bool false) (zjr (t_r (ret1 (.bool false) rfl rfl ⟨_,rfl,?_,H.base⟩))))) (fun h=>absurd h qj))))))
 rw [xn (fun h=>by obtain ⟨h1,h2,h3,h4⟩:=h;first | omega | (have:=h4 k qf qf;omega))]

theorem l02In_ok (w:World) (s:qL) (c:Int) (other:Int) {qA:yOA} {qW:yLN} {qK:yOA} {xy:yLN} (hs:vw w bs os (yS s qA qy qK qH)) (xf:qP.rep w qW [.slice qA s.qw.length qy] s.qw) (xG:qP.rep w xy [.slice qK s.qx.length qH] s.qx) (p0:yO s) (p1:CellIn s c):Calls Tryz.prog 170 #[pp bs os,yI c,yI other] w (Ret (fun v w' =>v=.bool (dec (Lies s.qw other c))) w):=by
 refine en func170 ntmps170 ?_
 have H:=(((St.start w).arg xG).arg xf).XU hs
 have ve:=qN xf
 have jh:=qN xG
 clear hs xf xG
 refine zcr (sp (.bool false) (zjn (xU (qY ?_))))
 refine zB (fun m' ρ w1=>∃ (xN:Env) (y:Int),ρ=upd (upd (upd xN 0 (pp bs os)) 1 (yI y)) 2 (yI other)∧(0≤y∧y≤(s.qw.length:Int) - 1)∧(Lies s.qw other c↔Lies s.qw other y)∧m' =y.toNat∧St w w1 [] [atF bs os (yS s qA qy qK qH),sF false qW qA qy s.qw,sF false xy qK qH s.qx]) (c.toNat) ⟨_,c,uE3,(by exact p1),(by exact Iff.rfl),rfl,H⟩ ?_
 clear H
 rintro m' ρ w2 ⟨xN,y,rfl,i0,i1,rfl,H⟩
 have up:=fun h=>p0.up (c:=y) h i0.2
 refine zcc (sps [yI y,.bool (decide ((y:Int) > 0))] (zjn (cD rfl (fun h3=>?_) (fun h3=>?_))))
 ·skip
  refine qV (t_n (qY (zcr (sps [pp bs os,pp bs os] (oF rfl (oL rfl (H.xR 0 rfl 1 rfl) (sp (yI y) ?_)))))))
  obtain ⟨b4,o5,rfl⟩:=H.addr 1 rfl qf
  refine oI rfl rfl (oL rfl (H.jy 1 rfl y qf qf) (sp (yI (s.qw[y.toNat]!)) (zjc (sps [yI (s.qw[y.toNat]!),yI other,.bool ((s.qw[y.toNat]! :Int) == other)] (zjn (cE rfl (fun h6=>?_) (fun h6=>?_)))))))
  ·skip
   refine zcr (sp (.bool true) (zjr (b_r (t_r (b_r (t_r (ret1 (.bool true) rfl rfl ⟨_,rfl,?_,H.base⟩)))))))
   rw [jP (i1.2 (.here qf ‹_›))]
  refine qV (b_n ?_)
  have up1:=up qf
  refine xg (m' :=(s.qw[y.toNat]!).toNat) qf ⟨_,(s.qw[y.toNat]!),uE3,?_,?_,rfl,H⟩
  · have:=up qf;omega
  · exact i1.trans (lies_iff.trans ⟨fun h=>h.2.resolve_left ‹_›,fun h=>⟨by omega,.inr h⟩⟩)
 refine zx4 (zcr (sp (.bool false) (zjr (ret1 (.bool false) rfl rfl ⟨_,rfl,?_,H.base⟩))))
 rw [xn (fun h=>by have:=(lies_iff.1 (i1.1 h)).1;omega)]

theorem l02Rule_ok (w:World) (s:qL) (r:QF) {qA:yOA} {qW:yLN} {qK:yOA} {xy:yLN} {br or:Nat} {yB:yOA} {Vo:yLN} {yE:yOA} {Vr:yLN} {yC:yOA} {Vp:yLN} {yD:yOA} {Vq:yLN} {QO:yOA} {FrOut:yLN} {jW:yOA} {FrInto:yLN} (hs:vw w bs os (yS s qA qy qK qH)) (xf:qP.rep w qW [.slice qA s.qw.length qy] s.qw) (xG:qP.rep w xy [.slice qK s.qx.length qH] s.qx) (hr:vw w br or [yI r.qG,yI r.zM,.slice yB r.xE.length yu,.slice yE r.xM.length yz,.slice yC r.xO.length yw,.slice yD r.xW.length yx,.slice QO r.vC.length QN,.slice jW r.qU.length jT,.bool r.zG]) (hrNeed:qP.rep w Vo [.slice yB r.xE.length yu] r.xE) (hrHave:qP.rep w Vr [.slice yE r.xM.length yz] r.xM) (hrLack:qP.rep w Vp [.slice yC r.xO.length yw] r.xO) (hrHere:qP.rep w Vq [.slice yD r.xW.length yx] r.xW) (hrOut:qP.rep w FrOut [.slice QO r.vC.length QN] r.vC) (hrInto:qP.rep w FrInto [.slice jW r.qU.length jT] r.qU) (p0:yO s):Calls Tryz.prog 134 #[pp bs os,pp br or] w (Ret (fun v w' =>v=.bool (dec (RuleOk s r))) w):=by
 refine en func134 ntmps134 ?_
 have H:=((((((((((St.start w).arg hrInto).arg hrOut).arg hrHere).arg hrLack).arg hrHave).arg hrNeed).XU hr).arg xG).arg xf).XU hs
 have ve:=qN xf
 have jh:=qN xG
 have nhrNeed:=qN hrNeed
 have nhrHave:=qN hrHave
 have nhrLack:=qN hrLack
 have nhrHere:=qN hrHere
 have nhrOut:=qN hrOut
 have nhrInto:=qN hrInto
 clear hs xf xG hr hrNeed hrHave hrLack hrHere hrOut hrInto
 refine zcr (sp (.bool false) (zjn (xU (xU ?_))))
 refine ja rfl H fun H=>rtp 0 (pp br or) H ?_
 refine rtp 1 (pp br or) H ?_
 refine tF 2 rfl rfl H ?_
 refine tL 3 rfl rfl (fun _ h=>h.xR 3 rfl 0 rfl) H ?_
 refine rtp 4 (pp bs os) H ?_
 refine rtp 5 (pp bs os) H ?_
 refine tF 6 rfl rfl H ?_
 refine tL 7 rfl rfl (fun _ h=>h.xR 0 rfl 1 rfl) H ?_
 refine tN 8 rfl rfl H ?_
 refine rt 9 (yI (s.qw.length - 1)) (y_sub s.qw.length 1 rfl rfl qf) H ?_
 refine ro 10 rfl (oq (l00In_ok w.drew r.qG 0 (s.qw.length - 1)) H fun w2 H=>⟨H,(rtp 11 (.bool (!(inR r.qG 0 (s.qw.length - 1)))) H ?_)⟩)
 refine rtp 12 (.bool (!(inR r.qG 0 (s.qw.length - 1)))) H ?_
 cases h4:(!(inR r.qG 0 (s.qw.length - 1)))
 ·skip
  replace h4:=xk h4
  replace h4:=QY.1 h4
  refine rgp 13 (pp br or) 19 H ?_
  refine rgp 14 (pp br or) 19 H ?_
  refine gF 15 rfl rfl H ?_
  refine gL 16 rfl rfl (fun _ h=>h.xR 3 rfl 1 rfl) H ?_
  refine vS [17] qh qm (r_opG rfl (e:=19) rfl rfl (oq (l00In_ok w2 r.zM 0 9) H fun w5 H=>⟨H,(rgp 18 (.bool (!(inR r.zM 0 9))) 19 H ?_)⟩) vT)
  refine rtp 19 (.bool (!(inR r.zM 0 9))) H ?_
  refine rtp 20 (.bool (!(inR r.zM 0 9))) H ?_
  cases h7:(!(inR r.zM 0 9))
  ·skip
   replace h7:=xk h7
   replace h7:=QY.1 h7
   refine rgp 21 (pp br or) 27 H ?_
   refine rgp 22 (pp br or) 27 H ?_
   refine gF 23 rfl rfl H ?_
   refine gL 24 rfl rfl (fun _ h=>h.xR 3 rfl 8 rfl) H ?_
   refine rgp 25 (.bool r.zG) 27 H ?_
   cases h8:(r.zG)
   ·skip
    rw [h8] at H
    refine zS [26,27,28,29,30] 5 (H) (rgp 31 (.bool false) 27 H ?_)
    refine rtp 32 (.bool false) H ?_
    refine rtp 33 (.bool false) H ?_
    refine rgp 34 (pp br or) 40 H ?_
    refine rgp 35 (pp br or) 40 H ?_
    refine gF 36 rfl rfl H ?_
    refine gL 37 rfl rfl (fun _ h=>h.xR 3 rfl 7 rfl) H ?_
    refine gN 38 rfl rfl H ?_
    refine rgp 39 (.bool (decide ((r.qU.length:Int) > 3))) 40 H ?_
    refine rtp 40 (.bool (decide ((r.qU.length:Int) > 3))) H ?_
    refine xH qh (t_n (cD rfl (fun h9=>?_) (fun h9=>?_)))
    ·skip
     refine zcr (sp (.bool false) (zjr (t_r (ret1 (.bool false) rfl rfl ⟨_,rfl,?_,H.base⟩))))
     rw [xn (fun h=>by obtain ⟨h1,h2,h3,h4,h5,h6,h7,h8,h9,h10,h11⟩:=h;first | contradiction | omega | exact h3 ⟨‹_›,‹_›⟩ | (obtain ⟨q1,q2,q3,q4,q5⟩:=h11 k qf;first | contradiction | omega | (have:=q5 qf;omega)))]
    refine qV (t_n (zcc (sps [pp bs os,pp br or,pp br or] (oF rfl (oL rfl (H.xR 3 rfl 2 rfl) (sw (oq (QI _ s r.xE (qF (H.get 0 rfl) 0 3) (H.get 1 rfl).1 (H.get 2 rfl).1 (H.get 4 rfl).1) H fun w10 H=>sps [.bool (!(dec (zY s.xB r.xE))),.bool (!(dec (zY s.xB r.xE)))] ?_)))))))
    cases h12:(!(dec (zY s.xB r.xE)))
    ·skip
     replace h12:=xk h12
     replace h12:=Qb h12
     refine qQ 55 rfl rfl (sp (pp bs os) (qQ 55 rfl rfl (sp (pp br or) (qQ 55 rfl rfl (sp (pp br or) (qQ 55 rfl rfl (oF rfl (qQ 55 rfl rfl (oL rfl (H.xR 3 rfl 3 rfl) (qQ 55 rfl rfl (sw (oq (QI _ s r.xM (qF (H.get 0 rfl) 0 3) (H.get 1 rfl).1 (H.get 2 rfl).1 (H.get 5 rfl).1) H fun w13 H=>qQ 55 rfl rfl (sps [.bool (!(dec (zY s.xB r.xM))),.bool (!(dec (zY s.xB r.xM))),.bool (!(dec (zY s.xB r.xM)))] ?_)))))))))))))
     cases h15:(!(dec (zY s.xB r.xM)))
     ·skip
      replace h15:=xk h15
      replace h15:=Qb h15
      refine qQ 64 rfl rfl (sp (pp bs os) (qQ 64 rfl rfl (sp (pp br or) (qQ 64 rfl rfl (sp (pp br or) (qQ 64 rfl rfl (oF rfl (qQ 64 rfl rfl (oL rfl (H.xR 3 rfl 4 rfl) (qQ 64 rfl rfl (sw (oq (QI _ s r.xO (qF (H.get 0 rfl) 0 3) (H.get 1 rfl).1 (H.get 2 rfl).1 (H.get 6 rfl).1) H fun w16 H=>qQ 64 rfl rfl (sps [.bool (!(dec (zY s.xB r.xO))),.bool (!(dec (zY s.xB r.xO))),.bool (!(dec (zY s.xB r.xO)))] ?_)))))))))))))
      cases h18:(!(dec (zY s.xB r.xO)))
      ·skip
       replace h18:=xk h18
       replace h18:=Qb h18
       refine qQ 73 rfl rfl (sp (pp bs os) (qQ 73 rfl rfl (sp (pp br or) (qQ 73 rfl rfl (sp (pp br or) (qQ 73 rfl rfl (oF rfl (qQ 73 rfl rfl (oL rfl (H.xR 3 rfl 5 rfl) (qQ 73 rfl rfl (sw (oq (QI _ s r.xW (qF (H.get 0 rfl) 0 3) (H.get 1 rfl).1 (H.get 2 rfl).1 (H.get 7 rfl).1) H fun w19 H=>qQ 73 rfl rfl (sps [.bool (!(dec (zY s.xB r.xW))),.bool (!(dec (zY s.xB r.xW))),.bool (!(dec (zY s.xB r.xW)))] ?_)))))))))))))
       cases h21:(!(dec (zY s.xB r.xW)))
       ·skip
        replace h21:=xk h21
        replace h21:=Qb h21
        refine qQ 82 rfl rfl (sp (pp bs os) (qQ 82 rfl rfl (sp (pp br or) (qQ 82 rfl rfl (sp (pp br or) (qQ 82 rfl rfl (oF rfl (qQ 82 rfl rfl (oL rfl (H.xR 3 rfl 6 rfl) (qQ 82 rfl rfl (sw (oq (QI _ s r.vC (qF (H.get 0 rfl) 0 3) (H.get 1 rfl).1 (H.get 2 rfl).1 (H.get 8 rfl).1) H fun w22 H=>qQ 82 rfl rfl (sps [.bool (!(dec (zY s.xB r.vC))),.bool (!(dec (zY s.xB r.vC))),.bool (!(dec (zY s.xB r.vC)))] ?_)))))))))))))
        cases h24:(!(dec (zY s.xB r.vC)))
        ·skip
         replace h24:=xk h24
         replace h24:=Qb h24
         refine qQ 91 rfl rfl (sp (pp br or) (qQ 91 rfl rfl (sp (pp br or) (qQ 91 rfl rfl (oF rfl (qQ 91 rfl rfl (oL rfl (H.xR 3 rfl 2 rfl) (qQ 91 rfl rfl (sw (oq (VI _ r.xE (H.get 4 rfl).1 (by first | assumption | exact vF ql | exact yV ql)) H fun w25 H=>qQ 91 rfl rfl (sps [.bool ((X0 r.xE:Int) == 0),.bool ((X0 r.xE:Int) == 0)] (zjn (cE rfl (fun h27=>?_) (fun h27=>?_))))))))))))))
         ·skip
          refine zcr (sp (.bool false) (zjr (t_r (ret1 (.bool false) rfl rfl ⟨_,rfl,?_,H.base⟩))))
          rw [xn (fun h=>by obtain ⟨h1,h2,h3,h4,h5,h6,h7,h8,h9,h10,h11⟩:=h;first | contradiction | omega | exact h3 ⟨‹_›,‹_›⟩ | (obtain ⟨q1,q2,q3,q4,q5⟩:=h11 k qf;first | contradiction | omega | (have:=q5 qf;omega)))]
         refine qV (t_n (zcc (sp (yI 0) (zjn (qY ?_)))))
         refine zB (fun m' ρ w28=>∃ (xN:Env) (k:Nat),ρ=upd (upd (upd xN 0 (pp bs os)) 1 (pp br or)) 5 (yI k)∧(k≤r.qU.length)∧(IntosTo s r k)∧m' =r.qU.length - k∧St w w28 [] [atF bs os (yS s qA qy qK qH),sF false qW qA qy s.qw,sF false xy qK qH s.qx,atF br or [yI r.qG,yI r.zM,.slice yB r.xE.length yu,.slice yE r.xM.length yz,.slice yC r.xO.length yw,.slice yD r.xW.length yx,.slice QO r.vC.length QN,.slice jW r.qU.length jT,.bool false],sF false Vo yB yu r.xE,sF false Vr yE yz r.xM,sF false Vp yC yw r.xO,sF false Vq yD yx r.xW,sF false FrOut QO QN r.vC,sF false FrInto jW jT r.qU]) (r.qU.length - 0) ⟨_,0,uE3,qf,(by exact fun j hj=>by omega),rfl,H⟩ ?_
         clear H
         rintro m' ρ w29 ⟨xN,k,rfl,i0,i1,rfl,H⟩
         refine zcc (sps [yI k,pp br or,pp br or] (oF rfl (oL rfl (H.xR 3 rfl 7 rfl) (oN rfl (sp (.bool (decide ((k:Int) < r.qU.length))) (zjn (cD rfl (fun h30=>?_) (fun h30=>?_))))))))
         ·skip
          refine qV (t_n (xU (qY (zcr (sps [pp br or,pp br or] (oF rfl (oL rfl (H.xR 3 rfl 7 rfl) (sp (yI k) ?_))))))))
          obtain ⟨b31,o32,rfl⟩:=H.addr 9 rfl qf
          obtain ⟨ae33Bag,ce33Bag,Fe33Bag,H⟩:=H.jJ 9 rfl k k qf qf qf
          refine oI rfl rfl (sp (pp b31 (o32+(k:Int).toNat * 2)) (zjn (xU (xU ?_))))
          refine ja rfl H fun H=>rtp 0 (pp b31 (o32+(k:Int).toNat * 2)) H ?_
          refine rtp 1 (pp b31 (o32+(k:Int).toNat * 2)) H ?_
          refine tF 2 rfl rfl H ?_
          refine tL 3 rfl rfl (fun _ h=>h.xR 1 rfl 0 rfl) H ?_
          refine rtp 4 (pp bs os) H ?_
          refine rtp 5 (pp bs os) H ?_
          refine tF 6 rfl rfl H ?_
          refine tL 7 rfl rfl (fun _ h=>h.xR 2 rfl 1 rfl) H ?_
          refine tN 8 rfl rfl H ?_
          refine rt 9 (yI (s.qw.length - 1)) (y_sub s.qw.length 1 rfl rfl qf) H ?_
          refine ro 10 rfl (oq (l00In_ok w29.drew ((r.qU[k]!).qG) 0 (s.qw.length - 1)) H fun w35 H=>⟨H,(rtp 11 (.bool (!(inR ((r.qU[k]!).qG) 0 (s.qw.length - 1)))) H ?_)⟩)
          refine rtp 12 (.bool (!(inR ((r.qU[k]!).qG) 0 (s.qw.length - 1)))) H ?_
          cases h37:(!(inR ((r.qU[k]!).qG) 0 (s.qw.length - 1)))
          ·skip
           replace h37:=xk h37
           replace h37:=QY.1 h37
           refine rgp 13 (pp bs os) 126 H ?_
           refine rgp 14 (pp b31 (o32+(k:Int).toNat * 2)) 126 H ?_
           refine rgp 15 (pp b31 (o32+(k:Int).toNat * 2)) 126 H ?_
           refine gF 16 rfl rfl H ?_
           refine gL 17 rfl rfl (fun _ h=>h.xR 1 rfl 0 rfl) H ?_
           refine rgp 18 (pp br or) 126 H ?_
           refine rgp 19 (pp br or) 126 H ?_
           refine gF 20 rfl rfl H ?_
           refine gL 21 rfl rfl (fun _ h=>h.xR 5 rfl 0 rfl) H ?_
           refine vS [22] qh qm (r_opG rfl (e:=126) rfl rfl (oq (l02In_ok _ s ((r.qU[k]!).qG) r.qG (qF (H.get 2 rfl) 0 3) (H.get 3 rfl).1 (H.get 4 rfl).1 ql ql) H fun w38 H=>⟨H,(rgp 23 (.bool (!(dec (Lies s.qw r.qG ((r.qU[k]!).qG))))) 126 H ?_)⟩) vT)
           refine rtp 24 (.bool (!(dec (Lies s.qw r.qG ((r.qU[k]!).qG))))) H ?_
           refine rtp 25 (.bool (!(dec (Lies s.qw r.qG ((r.qU[k]!).qG))))) H ?_
           cases h40:(!(dec (Lies s.qw r.qG ((r.qU[k]!).qG))))
           ·skip
            replace h40:=xk h40
            replace h40:=Qb h40
            refine rgp 26 (pp bs os) 139 H ?_
            refine rgp 27 (pp b31 (o32+(k:Int).toNat * 2)) 139 H ?_
            refine rgp 28 (pp b31 (o32+(k:Int).toNat * 2)) 139 H ?_
            refine gF 29 rfl rfl H ?_
            refine gL 30 rfl rfl (fun _ h=>h.xR 1 rfl 1 rfl) H ?_
            refine vS [31] qh qm (r_opG rfl (e:=139) rfl rfl (oq (QI _ s ((r.qU[k]!).jE) (qF (H.get 2 rfl) 0 3) (H.get 3 rfl).1 (H.get 4 rfl).1 (H.get 0 rfl).1) H fun w41 H=>⟨H,(rgp 32 (.bool (!(dec (zY s.xB ((r.qU[k]!).jE))))) 139 H ?_)⟩) vT)
            refine rtp 33 (.bool (!(dec (zY s.xB ((r.qU[k]!).jE))))) H ?_
            refine rtp 34 (.bool (!(dec (zY s.xB ((r.qU[k]!).jE))))) H ?_
            cases h43:(!(dec (zY s.xB ((r.qU[k]!).jE))))
            ·skip
             replace h43:=xk h43
             replace h43:=Qb h43
             refine rgp 35 (pp b31 (o32+(k:Int).toNat * 2)) 148 H ?_
             refine rgp 36 (pp b31 (o32+(k:Int).toNat * 2)) 148 H ?_
             refine gF 37 rfl rfl H ?_
             refine gL 38 rfl rfl (fun _ h=>h.xR 1 rfl 1 rfl) H ?_
             refine vS [39] qh qm (r_opG rfl (e:=148) rfl rfl (oq (VI _ ((r.qU[k]!).jE) (H.get 0 rfl).1 (by first | assumption | exact vF ql | exact yV ql)) H fun w44 H=>⟨H,(rgp 40 (.bool ((X0 ((r.qU[k]!).jE):Int) == 0)) 148 H ?_)⟩) vT)
             refine rtp 41 (.bool ((X0 ((r.qU[k]!).jE):Int) == 0)) H ?_
             refine xH qh (t_n (cE rfl (fun h46=>?_) (fun h46=>?_)))
             ·skip
              refine zcr (sp (.bool false) (zjr (t_r (zr5 (ret1 (.bool false) rfl rfl ⟨_,rfl,?_,H.base⟩)))))
              rw [xn (fun h=>by obtain ⟨h1,h2,h3,h4,h5,h6,h7,h8,h9,h10,h11⟩:=h;first | contradiction | omega | exact h3 ⟨‹_›,‹_›⟩ | (obtain ⟨q1,q2,q3,q4,q5⟩:=h11 k qf;first | contradiction | omega | (have:=q5 qf;omega)))]
             refine qV (t_n (xU ?_))
             refine ja rfl H fun H=>rtp 0 (yI k) H ?_
             refine rtp 1 (.bool (decide ((k:Int) > 0))) H ?_
             refine rtp 2 (.bool (decide ((k:Int) > 0))) H ?_
             cases h48:(decide ((k:Int) > 0))
             ·skip
              replace h48:=of_decide_eq_false h48
              refine zS [3,4,5,6,7,8,9,10,11,12,13,14,15,16] 14 (H) (rtp 17 (.bool false) H ?_)
              refine xH qh (t_n (xF false rfl (fun h=>absurd h qj) (fun _=>qV (b_n (t_n (xX (sp (yI k) (sw (zD k 1 rfl rfl qf (sp (yI (k+1)) (xY (xg (m' :=r.qU.length - (k+1)) qf ⟨_,k+1,uE3,?_,?_,rfl,H.sel _ (.refl _) _ qm⟩))))))))))))
              · omega
              · exact i1.succ ⟨‹_›,‹_›,‹_›,‹_›,fun hk=>by omega⟩
             replace h48:=of_decide_eq_true h48
             refine rgp 3 (pp br or) 158 H ?_
             refine rgp 4 (pp br or) 158 H ?_
             refine gF 5 rfl rfl H ?_
             refine gL 6 rfl rfl (fun _ h=>h.xR 5 rfl 7 rfl) H ?_
             refine rgp 7 (yI k) 158 H ?_
             refine rg 8 (yI (k - 1)) 158 (y_sub k 1 rfl rfl qf) H ?_
             obtain ⟨ae49Bag,ce49Bag,Fe49Bag,H⟩:=H.jJ 11 rfl (k - 1) (k - 1) qf qf qf
             refine gI 9 rfl rfl rfl (H.sel _ (.refl _) _ (fun _ h=>List.mem_cons_of_mem _ (List.mem_cons_of_mem _ (h)))) ?_
             refine gF 10 rfl rfl (H.sel _ (.refl _) _ (fun _ h=>List.mem_cons_of_mem _ (List.mem_cons_of_mem _ (h)))) ?_
             refine rgp 12 (pp b31 (o32+(k:Int).toNat * 2)) 158 (H.sel _ (.refl _) _ (fun _ h=>List.mem_cons_of_mem _ (List.mem_cons_of_mem _ (h)))) ?_
             refine rgp 13 (pp b31 (o32+(k:Int).toNat * 2)) 158 (H.sel _ (.refl _) _ (fun _ h=>List.mem_cons_of_mem _ (List.mem_cons_of_mem _ (h)))) ?_
             refine gF 14 rfl rfl (H.sel _ (.refl _) _ (fun _ h=>List.mem_cons_of_mem _ (List.mem_cons_of_mem _ (h)))) ?_
             refine gL 15 rfl rfl (fun _ h=>h.xR 1 rfl 0 rfl) (H.sel _ (.refl _) _ (fun _ h=>List.mem_cons_of_mem _ (List.mem_cons_of_mem _ (h)))) ?_
             refine vS [11] qh qm (r_opG rfl (e:=158) rfl rfl (zF (yI ((r.qU[k - 1]!).qG)) isAgg2 rfl (H.xR 1 rfl 0 rfl) (⟨H.dF 2,(rgp 16 (.bool (decide (((r.qU[k - 1]!).qG:Int)≥((r.qU[k]!).qG)))) 158 (H.sel _ (.refl _) _ (fun _ h=>List.mem_cons_of_mem _ (List.mem_cons_of_mem _ (h)))) ?_)⟩)) vT)
             refine rtp 17 (.bool (decide (((r.qU[k - 1]!).qG:Int)≥((r.qU[k]!).qG)))) (H.sel _ (.refl _) _ (fun _ h=>List.mem_cons_of_mem _ (List.mem_cons_of_mem _ (h)))) ?_
             refine xH qh (t_n (cD rfl (fun h50=>?_) (fun h50=>?_)))
             ·skip
              refine zcr (sp (.bool false) (zjr (zr5 (ret1 (.bool false) rfl rfl ⟨_,rfl,?_,H.base⟩))))
              rw [xn (fun h=>by obtain ⟨h1,h2,h3,h4,h5,h6,h7,h8,h9,h10,h11⟩:=h;first | contradiction | omega | exact h3 ⟨‹_›,‹_›⟩ | (obtain ⟨q1,q2,q3,q4,q5⟩:=h11 k qf;first | contradiction | omega | (have:=q5 qf;omega)))]
             refine qV (b_n (t_n (xX (sp (yI k) (sw (zD k 1 rfl rfl qf (sp (yI (k+1)) (xY (xg (m' :=r.qU.length - (k+1)) qf ⟨_,k+1,uE3,?_,?_,rfl,H.sel _ (.refl _) _ qm⟩)))))))))
             · omega
             · exact i1.succ ⟨‹_›,‹_›,‹_›,‹_›,fun hk=>by omega⟩
            replace h43:=xq h43
            replace h43:=zV h43
            refine zS [35,36,37,38,39,40] 6 (H) (rtp 41 (.bool true) H ?_)
            refine xH qh (t_n (xF true rfl (fun _=>zcr (sp (.bool false) (zjr (t_r (zr5 (ret1 (.bool false) rfl rfl ⟨_,rfl,?_,H.base⟩)))))) (fun h=>absurd h qj)))
            rw [xn (fun h=>by obtain ⟨h1,h2,h3,h4,h5,h6,h7,h8,h9,h10,h11⟩:=h;first | contradiction | omega | exact h3 ⟨‹_›,‹_›⟩ | (obtain ⟨q1,q2,q3,q4,q5⟩:=h11 k qf;first | contradiction | omega | (have:=q5 qf;omega)))]
           replace h40:=xq h40
           replace h40:=zV h40
           refine zS [26,27,28,29,30,31,32] 7 (H) (rtp 33 (.bool true) H ?_)
           refine rtp 34 (.bool true) H ?_
           refine zS [35,36,37,38,39,40] 6 (H) (rtp 41 (.bool true) H ?_)
           refine xH qh (t_n (xF true rfl (fun _=>zcr (sp (.bool false) (zjr (t_r (zr5 (ret1 (.bool false) rfl rfl ⟨_,rfl,?_,H.base⟩)))))) (fun h=>absurd h qj)))
           rw [xn (fun h=>by obtain ⟨h1,h2,h3,h4,h5,h6,h7,h8,h9,h10,h11⟩:=h;first | contradiction | omega | exact h3 ⟨‹_›,‹_›⟩ | (obtain ⟨q1,q2,q3,q4,q5⟩:=h11 k qf;first | contradiction | omega | (have:=q5 qf;omega)))]
          replace h37:=xq h37
          replace h37:=XB h37
          refine zS [13,14,15,16,17,18,19,20,21,22,23] 11 (H) (rtp 24 (.bool true) H ?_)
          refine rtp 25 (.bool true) H ?_
          refine zS [26,27,28,29,30,31,32] 7 (H) (rtp 33 (.bool true) H ?_)
          refine rtp 34 (.bool true) H ?_
          refine zS [35,36,37,38,39,40] 6 (H) (rtp 41 (.bool true) H ?_)
          refine xH qh (t_n (xF true rfl (fun _=>zcr (sp (.bool false) (zjr (t_r (zr5 (ret1 (.bool false) rfl rfl ⟨_,rfl,?_,H.base⟩)))))) (fun h=>absurd h qj)))
          rw [xn (fun h=>by obtain ⟨h1,h2,h3,h4,h5,h6,h7,h8,h9,h10,h11⟩:=h;first | contradiction | omega | exact h3 ⟨‹_›,‹_›⟩ | (obtain ⟨q1,q2,q3,q4,q5⟩:=h11 k qf;first | contradiction | omega | (have:=q5 qf;omega)))]
         refine zx4 (zcr (sp (.bool true) (zjr (ret1 (.bool true) rfl rfl ⟨_,rfl,?_,H.base⟩))))
         obtain rfl:k=r.qU.length:=by omega
         rw [jP ⟨by assumption,by omega,by simp_all,by omega,by assumption,by assumption,by assumption,by assumption,by assumption,by assumption,i1⟩]
        replace h24:=xq h24
        replace h24:=zV h24
        refine xZ [92,93,94,95,96,97] (sp (.bool true) (zjn (xF true rfl (fun _=>zcr (sp (.bool false) (zjr (t_r (ret1 (.bool false) rfl rfl ⟨_,rfl,?_,H.base⟩))))) (fun h=>absurd h qj))))
        rw [xn (fun h=>by obtain ⟨h1,h2,h3,h4,h5,h6,h7,h8,h9,h10,h11⟩:=h;first | contradiction | omega | exact h3 ⟨‹_›,‹_›⟩ | (obtain ⟨q1,q2,q3,q4,q5⟩:=h11 k qf;first | contradiction | omega | (have:=q5 qf;omega)))]
       replace h21:=xq h21
       replace h21:=zV h21
       refine xZ [83,84,85,86,87,88,89] (sps [.bool true,.bool true] (xZ [92,93,94,95,96,97] (sp (.bool true) (zjn (xF true rfl (fun _=>zcr (sp (.bool false) (zjr (t_r (ret1 (.bool false) rfl rfl ⟨_,rfl,?_,H.base⟩))))) (fun h=>absurd h qj))))))
       rw [xn (fun h=>by obtain ⟨h1,h2,h3,h4,h5,h6,h7,h8,h9,h10,h11⟩:=h;first | contradiction | omega | exact h3 ⟨‹_›,‹_›⟩ | (obtain ⟨q1,q2,q3,q4,q5⟩:=h11 k qf;first | contradiction | omega | (have:=q5 qf;omega)))]
      replace h18:=xq h18
      replace h18:=zV h18
      refine xZ [74,75,76,77,78,79,80] (sps [.bool true,.bool true] (xZ [83,84,85,86,87,88,89] (sps [.bool true,.bool true] (xZ [92,93,94,95,96,97] (sp (.bool true) (zjn (xF true rfl (fun _=>zcr (sp (.bool false) (zjr (t_r (ret1 (.bool false) rfl rfl ⟨_,rfl,?_,H.base⟩))))) (fun h=>absurd h qj))))))))
      rw [xn (fun h=>by obtain ⟨h1,h2,h3,h4,h5,h6,h7,h8,h9,h10,h11⟩:=h;first | contradiction | omega | exact h3 ⟨‹_›,‹_›⟩ | (obtain ⟨q1,q2,q3,q4,q5⟩:=h11 k qf;first | contradiction | omega | (have:=q5 qf;omega)))]
     replace h15:=xq h15
     replace h15:=zV h15
     refine xZ [65,66,67,68,69,70,71] (sps [.bool true,.bool true] (xZ [74,75,76,77,78,79,80] (sps [.bool true,.bool true] (xZ [83,84,85,86,87,88,89] (sps [.bool true,.bool true] (xZ [92,93,94,95,96,97] (sp (.bool true) (zjn (xF true rfl (fun _=>zcr (sp (.bool false) (zjr (t_r (ret1 (.bool false) rfl rfl ⟨_,rfl,?_,H.base⟩))))) (fun h=>absurd h qj))))))))))
     rw [xn (fun h=>by obtain ⟨h1,h2,h3,h4,h5,h6,h7,h8,h9,h10,h11⟩:=h;first | contradiction | omega | exact h3 ⟨‹_›,‹_›⟩ | (obtain ⟨q1,q2,q3,q4,q5⟩:=h11 k qf;first | contradiction | omega | (have:=q5 qf;omega)))]
    replace h12:=xq h12
    replace h12:=zV h12
    refine xZ [56,57,58,59,60,61,62] (sps [.bool true,.bool true] (xZ [65,66,67,68,69,70,71] (sps [.bool true,.bool true] (xZ [74,75,76,77,78,79,80] (sps [.bool true,.bool true] (xZ [83,84,85,86,87,88,89] (sps [.bool true,.bool true] (xZ [92,93,94,95,96,97] (sp (.bool true) (zjn (xF true rfl (fun _=>zcr (sp (.bool false) (zjr (t_r (ret1 (.bool false) rfl rfl ⟨_,rfl,?_,H.base⟩))))) (fun h=>absurd h qj))))))))))))
    rw [xn (fun h=>by obtain ⟨h1,h2,h3,h4,h5,h6,h7,h8,h9,h10,h11⟩:=h;first | contradiction | omega | exact h3 ⟨‹_›,‹_›⟩ | (obtain ⟨q1,q2,q3,q4,q5⟩:=h11 k qf;first | contradiction | omega | (have:=q5 qf;omega)))]
   rw [h8] at H
   refine rgp 26 (pp br or) 32 H ?_
   refine rgp 27 (pp br or) 32 H ?_
   refine gF 28 rfl rfl H ?_
   refine gL 29 rfl rfl (fun _ h=>h.xR 3 rfl 0 rfl) H ?_
   refine rgp 30 (.bool ((r.qG:Int) == 0)) 32 H ?_
   refine rgp 31 (.bool ((r.qG:Int) == 0)) 27 H ?_
   refine rtp 32 (.bool ((r.qG:Int) == 0)) H ?_
   refine rtp 33 (.bool ((r.qG:Int) == 0)) H ?_
   cases h51:((r.qG:Int) == 0)
   ·skip
    replace h51:=ne_of_beq_false h51
    refine rgp 34 (pp br or) 40 H ?_
    refine rgp 35 (pp br or) 40 H ?_
    refine gF 36 rfl rfl H ?_
    refine gL 37 rfl rfl (fun _ h=>h.xR 3 rfl 7 rfl) H ?_
    refine gN 38 rfl rfl H ?_
    refine rgp 39 (.bool (decide ((r.qU.length:Int) > 3))) 40 H ?_
    refine rtp 40 (.bool (decide ((r.qU.length:Int) > 3))) H ?_
    refine xH qh (t_n (cD rfl (fun h52=>?_) (fun h52=>?_)))
    ·skip
     refine zcr (sp (.bool false) (zjr (t_r (ret1 (.bool false) rfl rfl ⟨_,rfl,?_,H.base⟩))))
     rw [xn (fun h=>by obtain ⟨h1,h2,h3,h4,h5,h6,h7,h8,h9,h10,h11⟩:=h;first | contradiction | omega | exact h3 ⟨‹_›,‹_›⟩ | (obtain ⟨q1,q2,q3,q4,q5⟩:=h11 k qf;first | contradiction | omega | (have:=q5 qf;omega)))]
    refine qV (t_n (zcc (sps [pp bs os,pp br or,pp br or] (oF rfl (oL rfl (H.xR 3 rfl 2 rfl) (sw (oq (QI _ s r.xE (qF (H.get 0 rfl) 0 3) (H.get 1 rfl).1 (H.get 2 rfl).1 (H.get 4 rfl).1) H fun w53 H=>sps [.bool (!(dec (zY s.xB r.xE))),.bool (!(dec (zY s.xB r.xE)))] ?_)))))))
    cases h55:(!(dec (zY s.xB r.xE)))
    ·skip
     replace h55:=xk h55
     replace h55:=Qb h55
     refine qQ 55 rfl rfl (sp (pp bs os) (qQ 55 rfl rfl (sp (pp br or) (qQ 55 rfl rfl (sp (pp br or) (qQ 55 rfl rfl (oF rfl (qQ 55 rfl rfl (oL rfl (H.xR 3 rfl 3 rfl) (qQ 55 rfl rfl (sw (oq (QI _ s r.xM (qF (H.get 0 rfl) 0 3) (H.get 1 rfl).1 (H.get 2 rfl).1 (H.get 5 rfl).1) H fun w56 H=>qQ 55 rfl rfl (sps [.bool (!(dec (zY s.xB r.xM))),.bool (!(dec (zY s.xB r.xM))),.bool (!(dec (zY s.xB r.xM)))] ?_)))))))))))))
     cases h58:(!(dec (zY s.xB r.xM)))
     ·skip
      replace h58:=xk h58
      replace h58:=Qb h58
      refine qQ 64 rfl rfl (sp (pp bs os) (qQ 64 rfl rfl (sp (pp br or) (qQ 64 rfl rfl (sp (pp br or) (qQ 64 rfl rfl (oF rfl (qQ 64 rfl rfl (oL rfl (H.xR 3 rfl 4 rfl) (qQ 64 rfl rfl (sw (oq (QI _ s r.xO (qF (H.get 0 rfl) 0 3) (H.get 1 rfl).1 (H.get 2 rfl).1 (H.get 6 rfl).1) H fun w59 H=>qQ 64 rfl rfl (sps [.bool (!(dec (zY s.xB r.xO))),.bool (!(dec (zY s.xB r.xO))),.bool (!(dec (zY s.xB r.xO)))] ?_)))))))))))))
      cases h61:(!(dec (zY s.xB r.xO)))
      ·skip
       replace h61:=xk h61
       replace h61:=Qb h61
       refine qQ 73 rfl rfl (sp (pp bs os) (qQ 73 rfl rfl (sp (pp br or) (qQ 73 rfl rfl (sp (pp br or) (qQ 73 rfl rfl (oF rfl (qQ 73 rfl rfl (oL rfl (H.xR 3 rfl 5 rfl) (qQ 73 rfl rfl (sw (oq (QI _ s r.xW (qF (H.get 0 rfl) 0 3) (H.get 1 rfl).1 (H.get 2 rfl).1 (H.get 7 rfl).1) H fun w62 H=>qQ 73 rfl rfl (sps [.bool (!(dec (zY s.xB r.xW))),.bool (!(dec (zY s.xB r.xW))),.bool (!(dec (zY s.xB r.xW)))] ?_)))))))))))))
       cases h64:(!(dec (zY s.xB r.xW)))
       ·skip
        replace h64:=xk h64
        replace h64:=Qb h64
        refine qQ 82 rfl rfl (sp (pp bs os) (qQ 82 rfl rfl (sp (pp br or) (qQ 82 rfl rfl (sp (pp br or) (qQ 82 rfl rfl (oF rfl (qQ 82 rfl rfl (oL rfl (H.xR 3 rfl 6 rfl) (qQ 82 rfl rfl (sw (oq (QI _ s r.vC (qF (H.get 0 rfl) 0 3) (H.get 1 rfl).1 (H.get 2 rfl).1 (H.get 8 rfl).1) H fun w65 H=>qQ 82 rfl rfl (sps [.bool (!(dec (zY s.xB r.vC))),.bool (!(dec (zY s.xB r.vC))),.bool (!(dec (zY s.xB r.vC)))] ?_)))))))))))))
        cases h67:(!(dec (zY s.xB r.vC)))
        ·skip
         replace h67:=xk h67
         replace h67:=Qb h67
         refine qQ 91 rfl rfl (sp (pp br or) (qQ 91 rfl rfl (sp (pp br or) (qQ 91 rfl rfl (oF rfl (qQ 91 rfl rfl (oL rfl (H.xR 3 rfl 2 rfl) (qQ 91 rfl rfl (sw (oq (VI _ r.xE (H.get 4 rfl).1 (by first | assumption | exact vF ql | exact yV ql)) H fun w68 H=>qQ 91 rfl rfl (sps [.bool ((X0 r.xE:Int) == 0),.bool ((X0 r.xE:Int) == 0)] (zjn (cE rfl (fun h70=>?_) (fun h70=>?_))))))))))))))
         ·skip
          refine zcr (sp (.bool false) (zjr (t_r (ret1 (.bool false) rfl rfl ⟨_,rfl,?_,H.base⟩))))
          rw [xn (fun h=>by obtain ⟨h1,h2,h3,h4,h5,h6,h7,h8,h9,h10,h11⟩:=h;first | contradiction | omega | exact h3 ⟨‹_›,‹_›⟩ | (obtain ⟨q1,q2,q3,q4,q5⟩:=h11 k qf;first | contradiction | omega | (have:=q5 qf;omega)))]
         refine qV (t_n (zcc (sp (yI 0) (zjn (qY ?_)))))
         refine zB (fun m' ρ w71=>∃ (xN:Env) (k:Nat),ρ=upd (upd (upd xN 0 (pp bs os)) 1 (pp br or)) 5 (yI k)∧(k≤r.qU.length)∧(IntosTo s r k)∧m' =r.qU.length - k∧St w w71 [] [atF bs os (yS s qA qy qK qH),sF false qW qA qy s.qw,sF false xy qK qH s.qx,atF br or [yI r.qG,yI r.zM,.slice yB r.xE.length yu,.slice yE r.xM.length yz,.slice yC r.xO.length yw,.slice yD r.xW.length yx,.slice QO r.vC.length QN,.slice jW r.qU.length jT,.bool true],sF false Vo yB yu r.xE,sF false Vr yE yz r.xM,sF false Vp yC yw r.xO,sF false Vq yD yx r.xW,sF false FrOut QO QN r.vC,sF false FrInto jW jT r.qU]) (r.qU.length - 0) ⟨_,0,uE3,qf,(by exact fun j hj=>by omega),rfl,H⟩ ?_
         clear H
         rintro m' ρ w72 ⟨xN,k,rfl,i0,i1,rfl,H⟩
         refine zcc (sps [yI k,pp br or,pp br or] (oF rfl (oL rfl (H.xR 3 rfl 7 rfl) (oN rfl (sp (.bool (decide ((k:Int) < r.qU.length))) (zjn (cD rfl (fun h73=>?_) (fun h73=>?_))))))))
         ·skip
          refine qV (t_n (xU (qY (zcr (sps [pp br or,pp br or] (oF rfl (oL rfl (H.xR 3 rfl 7 rfl) (sp (yI k) ?_))))))))
          obtain ⟨b74,o75,rfl⟩:=H.addr 9 rfl qf
          obtain ⟨ae76Bag,ce76Bag,Fe76Bag,H⟩:=H.jJ 9 rfl k k qf qf qf
          refine oI rfl rfl (sp (pp b74 (o75+(k:Int).toNat * 2)) (zjn (xU (xU ?_))))
          refine ja rfl H fun H=>rtp 0 (pp b74 (o75+(k:Int).toNat * 2)) H ?_
          refine rtp 1 (pp b74 (o75+(k:Int).toNat * 2)) H ?_
          refine tF 2 rfl rfl H ?_
          refine tL 3 rfl rfl (fun _ h=>h.xR 1 rfl 0 rfl) H ?_
          refine rtp 4 (pp bs os) H ?_
          refine rtp 5 (pp bs os) H ?_
          refine tF 6 rfl rfl H ?_
          refine tL 7 rfl rfl (fun _ h=>h.xR 2 rfl 1 rfl) H ?_
          refine tN 8 rfl rfl H ?_
          refine rt 9 (yI (s.qw.length - 1)) (y_sub s.qw.length 1 rfl rfl qf) H ?_
          refine ro 10 rfl (oq (l00In_ok w72.drew ((r.qU[k]!).qG) 0 (s.qw.length - 1)) H fun w78 H=>⟨H,(rtp 11 (.bool (!(inR ((r.qU[k]!).qG) 0 (s.qw.length - 1)))) H ?_)⟩)
          refine rtp 12 (.bool (!(inR ((r.qU[k]!).qG) 0 (s.qw.length - 1)))) H ?_
          cases h80:(!(inR ((r.qU[k]!).qG) 0 (s.qw.length - 1)))
          ·skip
           replace h80:=xk h80
           replace h80:=QY.1 h80
           refine rgp 13 (pp bs os) 126 H ?_
           refine rgp 14 (pp b74 (o75+(k:Int).toNat * 2)) 126 H ?_
           refine rgp 15 (pp b74 (o75+(k:Int).toNat * 2)) 126 H ?_
           refine gF 16 rfl rfl H ?_
           refine gL 17 rfl rfl (fun _ h=>h.xR 1 rfl 0 rfl) H ?_
           refine rgp 18 (pp br or) 126 H ?_
           refine rgp 19 (pp br or) 126 H ?_
           refine gF 20 rfl rfl H ?_
           refine gL 21 rfl rfl (fun _ h=>h.xR 5 rfl 0 rfl) H ?_
           refine vS [22] qh qm (r_opG rfl (e:=126) rfl rfl (oq (l02In_ok _ s ((r.qU[k]!).qG) r.qG (qF (H.get 2 rfl) 0 3) (H.get 3 rfl).1 (H.get 4 rfl).1 ql ql) H fun w81 H=>⟨H,(rgp 23 (.bool (!(dec (Lies s.qw r.qG ((r.qU[k]!).qG))))) 126 H ?_)⟩) vT)
           refine rtp 24 (.bool (!(dec (Lies s.qw r.qG ((r.qU[k]!).qG))))) H ?_
           refine rtp 25 (.bool (!(dec (Lies s.qw r.qG ((r.qU[k]!).qG))))) H ?_
           cases h83:(!(dec (Lies s.qw r.qG ((r.qU[k]!).qG))))
           ·skip
            replace h83:=xk h83
            replace h83:=Qb h83
            refine rgp 26 (pp bs os) 139 H ?_
            refine rgp 27 (pp b74 (o75+(k:Int).toNat * 2)) 139 H ?_
            refine rgp 28 (pp b74 (o75+(k:Int).toNat * 2)) 139 H ?_
            refine gF 29 rfl rfl H ?_
            refine gL 30 rfl rfl (fun _ h=>h.xR 1 rfl 1 rfl) H ?_
            refine vS [31] qh qm (r_opG rfl (e:=139) rfl rfl (oq (QI _ s ((r.qU[k]!).jE) (qF (H.get 2 rfl) 0 3) (H.get 3 rfl).1 (H.get 4 rfl).1 (H.get 0 rfl).1) H fun w84 H=>⟨H,(rgp 32 (.bool (!(dec (zY s.xB ((r.qU[k]!).jE))))) 139 H ?_)⟩) vT)
            refine rtp 33 (.bool (!(dec (zY s.xB ((r.qU[k]!).jE))))) H ?_
            refine rtp 34 (.bool (!(dec (zY s.xB ((r.qU[k]!).jE))))) H ?_
            cases h86:(!(dec (zY s.xB ((r.qU[k]!).jE))))
            ·skip
             replace h86:=xk h86
             replace h86:=Qb h86
             refine rgp 35 (pp b74 (o75+(k:Int).toNat * 2)) 148 H ?_
             refine rgp 36 (pp b74 (o75+(k:Int).toNat * 2)) 148 H ?_
             refine gF 37 rfl rfl H ?_
             refine gL 38 rfl rfl (fun _ h=>h.xR 1 rfl 1 rfl) H ?_
             refine vS [39] qh qm (r_opG rfl (e:=148) rfl rfl (oq (VI _ ((r.qU[k]!).jE) (H.get 0 rfl).1 (by first | assumption | exact vF ql | exact yV ql)) H fun w87 H=>⟨H,(rgp 40 (.bool ((X0 ((r.qU[k]!).jE):Int) == 0)) 148 H ?_)⟩) vT)
             refine rtp 41 (.bool ((X0 ((r.qU[k]!).jE):Int) == 0)) H ?_
             refine xH qh (t_n (cE rfl (fun h89=>?_) (fun h89=>?_)))
             ·skip
              refine zcr (sp (.bool false) (zjr (t_r (zr5 (ret1 (.bool false) rfl rfl ⟨_,rfl,?_,H.base⟩)))))
              rw [xn (fun h=>by obtain ⟨h1,h2,h3,h4,h5,h6,h7,h8,h9,h10,h11⟩:=h;first | contradiction | omega | exact h3 ⟨‹_›,‹_›⟩ | (obtain ⟨q1,q2,q3,q4,q5⟩:=h11 k qf;first | contradiction | omega | (have:=q5 qf;omega)))]
             refine qV (t_n (xU ?_))
             refine ja rfl H fun H=>rtp 0 (yI k) H ?_
             refine rtp 1 (.bool (decide ((k:Int) > 0))) H ?_
             refine rtp 2 (.bool (decide ((k:Int) > 0))) H ?_
             cases h91:(decide ((k:Int) > 0))
             ·skip
              replace h91:=of_decide_eq_false h91
              refine zS [3,4,5,6,7,8,9,10,11,12,13,14,15,16] 14 (H) (rtp 17 (.bool false) H ?_)
              refine xH qh (t_n (xF false rfl (fun h=>absurd h qj) (fun _=>qV (b_n (t_n (xX (sp (yI k) (sw (zD k 1 rfl rfl qf (sp (yI (k+1)) (xY (xg (m' :=r.qU.length - (k+1)) qf ⟨_,k+1,uE3,?_,?_,rfl,H.sel _ (.refl _) _ qm⟩))))))))))))
              · omega
              · exact i1.succ ⟨‹_›,‹_›,‹_›,‹_›,fun hk=>by omega⟩
             replace h91:=of_decide_eq_true h91
             refine rgp 3 (pp br or) 158 H ?_
             refine rgp 4 (pp br or) 158 H ?_
             refine gF 5 rfl rfl H ?_
             refine gL 6 rfl rfl (fun _ h=>h.xR 5 rfl 7 rfl) H ?_
             refine rgp 7 (yI k) 158 H ?_
             refine rg 8 (yI (k - 1)) 158 (y_sub k 1 rfl rfl qf) H ?_
             obtain ⟨ae92Bag,ce92Bag,Fe92Bag,H⟩:=H.jJ 11 rfl (k - 1) (k - 1) qf qf qf
             refine gI 9 rfl rfl rfl (H.sel _ (.refl _) _ (fun _ h=>List.mem_cons_of_mem _ (List.mem_cons_of_mem _ (h)))) ?_
             refine gF 10 rfl rfl (H.sel _ (.refl _) _ (fun _ h=>List.mem_cons_of_mem _ (List.mem_cons_of_mem _ (h)))) ?_
             refine rgp 12 (pp b74 (o75+(k:Int).toNat * 2)) 158 (H.sel _ (.refl _) _ (fun _ h=>List.mem_cons_of_mem _ (List.mem_cons_of_mem _ (h)))) ?_
             refine rgp 13 (pp b74 (o75+(k:Int).toNat * 2)) 158 (H.sel _ (.refl _) _ (fun _ h=>List.mem_cons_of_mem _ (List.mem_cons_of_mem _ (h)))) ?_
             refine gF 14 rfl rfl (H.sel _ (.refl _) _ (fun _ h=>List.mem_cons_of_mem _ (List.mem_cons_of_mem _ (h)))) ?_
             refine gL 15 rfl rfl (fun _ h=>h.xR 1 rfl 0 rfl) (H.sel _ (.refl _) _ (fun _ h=>List.mem_cons_of_mem _ (List.mem_cons_of_mem _ (h)))) ?_
             refine vS [11] qh qm (r_opG rfl (e:=158) rfl rfl (zF (yI ((r.qU[k - 1]!).qG)) isAgg2 rfl (H.xR 1 rfl 0 rfl) (⟨H.dF 2,(rgp 16 (.bool (decide (((r.qU[k - 1]!).qG:Int)≥((r.qU[k]!).qG)))) 158 (H.sel _ (.refl _) _ (fun _ h=>List.mem_cons_of_mem _ (List.mem_cons_of_mem _ (h)))) ?_)⟩)) vT)
             refine rtp 17 (.bool (decide (((r.qU[k - 1]!).qG:Int)≥((r.qU[k]!).qG)))) (H.sel _ (.refl _) _ (fun _ h=>List.mem_cons_of_mem _ (List.mem_cons_of_mem _ (h)))) ?_
             refine xH qh (t_n (cD rfl (fun h93=>?_) (fun h93=>?_)))
             ·skip
              refine zcr (sp (.bool false) (zjr (zr5 (ret1 (.bool false) rfl rfl ⟨_,rfl,?_,H.base⟩))))
              rw [xn (fun h=>by obtain ⟨h1,h2,h3,h4,h5,h6,h7,h8,h9,h10,h11⟩:=h;first | contradiction | omega | exact h3 ⟨‹_›,‹_›⟩ | (obtain ⟨q1,q2,q3,q4,q5⟩:=h11 k qf;first | contradiction | omega | (have:=q5 qf;omega)))]
             refine qV (b_n (t_n (xX (sp (yI k) (sw (zD k 1 rfl rfl qf (sp (yI (k+1)) (xY (xg (m' :=r.qU.length - (k+1)) qf ⟨_,k+1,uE3,?_,?_,rfl,H.sel _ (.refl _) _ qm⟩)))))))))
             · omega
             · exact i1.succ ⟨‹_›,‹_›,‹_›,‹_›,fun hk=>by omega⟩
            replace h86:=xq h86
            replace h86:=zV h86
            refine zS [35,36,37,38,39,40] 6 (H) (rtp 41 (.bool true) H ?_)
            refine xH qh (t_n (xF true rfl (fun _=>zcr (sp (.bool false) (zjr (t_r (zr5 (ret1 (.bool false) rfl rfl ⟨_,rfl,?_,H.base⟩)))))) (fun h=>absurd h qj)))
            rw [xn (fun h=>by obtain ⟨h1,h2,h3,h4,h5,h6,h7,h8,h9,h10,h11⟩:=h;first | contradiction | omega | exact h3 ⟨‹_›,‹_›⟩ | (obtain ⟨q1,q2,q3,q4,q5⟩:=h11 k qf;first | contradiction | omega | (have:=q5 qf;omega)))]
           replace h83:=xq h83
           replace h83:=zV h83
           refine zS [26,27,28,29,30,31,32] 7 (H) (rtp 33 (.bool true) H ?_)
           refine rtp 34 (.bool true) H ?_
           refine zS [35,36,37,38,39,40] 6 (H) (rtp 41 (.bool true) H ?_)
           refine xH qh (t_n (xF true rfl (fun _=>zcr (sp (.bool false) (zjr (t_r (zr5 (ret1 (.bool false) rfl rfl ⟨_,rfl,?_,H.base⟩)))))) (fun h=>absurd h qj)))
           rw [xn (fun h=>by obtain ⟨h1,h2,h3,h4,h5,h6,h7,h8,h9,h10,h11⟩:=h;first | contradiction | omega | exact h3 ⟨‹_›,‹_›⟩ | (obtain ⟨q1,q2,q3,q4,q5⟩:=h11 k qf;first | contradiction | omega | (have:=q5 qf;omega)))]
          replace h80:=xq h80
          replace h80:=XB h80
          refine zS [13,14,15,16,17,18,19,20,21,22,23] 11 (H) (rtp 24 (.bool true) H ?_)
          refine rtp 25 (.bool true) H ?_
          refine zS [26,27,28,29,30,31,32] 7 (H) (rtp 33 (.bool true) H ?_)
          refine rtp 34 (.bool true) H ?_
          refine zS [35,36,37,38,39,40] 6 (H) (rtp 41 (.bool true) H ?_)
          refine xH qh (t_n (xF true rfl (fun _=>zcr (sp (.bool false) (zjr (t_r (zr5 (ret1 (.bool false) rfl rfl ⟨_,rfl,?_,H.base⟩)))))) (fun h=>absurd h qj)))
          rw [xn (fun h=>by obtain ⟨h1,h2,h3,h4,h5,h6,h7,h8,h9,h10,h11⟩:=h;first | contradiction | omega | exact h3 ⟨‹_›,‹_›⟩ | (obtain ⟨q1,q2,q3,q4,q5⟩:=h11 k qf;first | contradiction | omega | (have:=q5 qf;omega)))]
         refine zx4 (zcr (sp (.bool true) (zjr (ret1 (.bool true) rfl rfl ⟨_,rfl,?_,H.base⟩))))
         obtain rfl:k=r.qU.length:=by omega
         rw [jP ⟨by assumption,by omega,by simp_all,by omega,by assumption,by assumption,by assumption,by assumption,by assumption,by assumption,i1⟩]
        replace h67:=xq h67
        replace h67:=zV h67
        refine xZ [92,93,94,95,96,97] (sp (.bool true) (zjn (xF true rfl (fun _=>zcr (sp (.bool false) (zjr (t_r (ret1 (.bool false) rfl rfl ⟨_,rfl,?_,H.base⟩))))) (fun h=>absurd h qj))))
        rw [xn (fun h=>by obtain ⟨h1,h2,h3,h4,h5,h6,h7,h8,h9,h10,h11⟩:=h;first | contradiction | omega | exact h3 ⟨‹_›,‹_›⟩ | (obtain ⟨q1,q2,q3,q4,q5⟩:=h11 k qf;first | contradiction | omega | (have:=q5 qf;omega)))]
       replace h64:=xq h64
       replace h64:=zV h64
       refine xZ [83,84,85,86,87,88,89] (sps [.bool true,.bool true] (xZ [92,93,94,95,96,97] (sp (.bool true) (zjn (xF true rfl (fun _=>zcr (sp (.bool false) (zjr (t_r (ret1 (.bool false) rfl rfl ⟨_,rfl,?_,H.base⟩))))) (fun h=>absurd h qj))))))
       rw [xn (fun h=>by obtain ⟨h1,h2,h3,h4,h5,h6,h7,h8,h9,h10,h11⟩:=h;first | contradiction | omega | exact h3 ⟨‹_›,‹_›⟩ | (obtain ⟨q1,q2,q3,q4,q5⟩:=h11 k qf;first | contradiction | omega | (have:=q5 qf;omega)))]
      replace h61:=xq h61
      replace h61:=zV h61
      refine xZ [74,75,76,77,78,79,80] (sps [.bool true,.bool true] (xZ [83,84,85,86,87,88,89] (sps [.bool true,.bool true] (xZ [92,93,94,95,96,97] (sp (.bool true) (zjn (xF true rfl (fun _=>zcr (sp (.bool false) (zjr (t_r (ret1 (.bool false) rfl rfl ⟨_,rfl,?_,H.base⟩))))) (fun h=>absurd h qj))))))))
      rw [xn (fun h=>by obtain ⟨h1,h2,h3,h4,h5,h6,h7,h8,h9,h10,h11⟩:=h;first | contradiction | omega | exact h3 ⟨‹_›,‹_›⟩ | (obtain ⟨q1,q2,q3,q4,q5⟩:=h11 k qf;first | contradiction | omega | (have:=q5 qf;omega)))]
     replace h58:=xq h58
     replace h58:=zV h58
     refine xZ [65,66,67,68,69,70,71] (sps [.bool true,.bool true] (xZ [74,75,76,77,78,79,80] (sps [.bool true,.bool true] (xZ [83,84,85,86,87,88,89] (sps [.bool true,.bool true] (xZ [92,93,94,95,96,97] (sp (.bool true) (zjn (xF true rfl (fun _=>zcr (sp (.bool false) (zjr (t_r (ret1 (.bool false) rfl rfl ⟨_,rfl,?_,H.base⟩))))) (fun h=>absurd h qj))))))))))
     rw [xn (fun h=>by obtain ⟨h1,h2,h3,h4,h5,h6,h7,h8,h9,h10,h11⟩:=h;first | contradiction | omega | exact h3 ⟨‹_›,‹_›⟩ | (obtain ⟨q1,q2,q3,q4,q5⟩:=h11 k qf;first | contradiction | omega | (have:=q5 qf;omega)))]
    replace h55:=xq h55
    replace h55:=zV h55
    refine xZ [56,57,58,59,60,61,62] (sps [.bool true,.bool true] (xZ [65,66,67,68,69,70,71] (sps [.bool true,.bool true] (xZ [74,75,76,77,78,79,80] (sps [.bool true,.bool true] (xZ [83,84,85,86,87,88,89] (sps [.bool true,.bool true] (xZ [92,93,94,95,96,97] (sp (.bool true) (zjn (xF true rfl (fun _=>zcr (sp (.bool false) (zjr (t_r (ret1 (.bool false) rfl rfl ⟨_,rfl,?_,H.base⟩))))) (fun h=>absurd h qj))))))))))))
    rw [xn (fun h=>by obtain ⟨h1,h2,h3,h4,h5,h6,h7,h8,h9,h10,h11⟩:=h;first | contradiction | omega | exact h3 ⟨‹_›,‹_›⟩ | (obtain ⟨q1,q2,q3,q4,q5⟩:=h11 k qf;first | contradiction | omega | (have:=q5 qf;omega)))]
   replace h51:=eq_of_beq h51
   refine zS [34,35,36,37,38,39] 6 (H) (rtp 40 (.bool true) H ?_)
   refine xH qh (t_n (xF true rfl (fun _=>zcr (sp (.bool false) (zjr (t_r (ret1 (.bool false) rfl rfl ⟨_,rfl,?_,H.base⟩))))) (fun h=>absurd h qj)))
   rw [xn (fun h=>by obtain ⟨h1,h2,h3,h4,h5,h6,h7,h8,h9,h10,h11⟩:=h;first | contradiction | omega | exact h3 ⟨‹_›,‹_›⟩ | (obtain ⟨q1,q2,q3,q4,q5⟩:=h11 k qf;first | contradiction | omega | (have:=q5 qf;omega)))]
  replace h7:=xq h7
  replace h7:=XB h7
  refine zS [21,22,23,24,25,26,27,28,29,30,31] 11 (H) (rtp 32 (.bool true) H ?_)
  refine rtp 33 (.bool true) H ?_
  refine zS [34,35,36,37,38,39] 6 (H) (rtp 40 (.bool true) H ?_)
  refine xH qh (t_n (xF true rfl (fun _=>zcr (sp (.bool false) (zjr (t_r (ret1 (.bool false) rfl rfl ⟨_,rfl,?_,H.base⟩))))) (fun h=>absurd h qj)))
  rw [xn (fun h=>by obtain ⟨h1,h2,h3,h4,h5,h6,h7,h8,h9,h10,h11⟩:=h;first | contradiction | omega | exact h3 ⟨‹_›,‹_›⟩ | (obtain ⟨q1,q2,q3,q4,q5⟩:=h11 k qf;first | contradiction | omega | (have:=q5 qf;omega)))]
 replace h4:=xq h4
 replace h4:=XB h4
 refine zS [13,14,15,16,17,18] 6 (H) (rtp 19 (.bool true) H ?_)
 refine rtp 20 (.bool true) H ?_
 refine zS [21,22,23,24,25,26,27,28,29,30,31] 11 (H) (rtp 32 (.bool true) H ?_)
 refine rtp 33 (.bool true) H ?_
 refine zS [34,35,36,37,38,39] 6 (H) (rtp 40 (.bool true) H ?_)
 refine xH qh (t_n (xF true rfl (fun _=>zcr (sp (.bool false) (zjr (t_r (ret1 (.bool false) rfl rfl ⟨_,rfl,?_,H.base⟩))))) (fun h=>absurd h qj)))
 rw [xn (fun h=>by obtain ⟨h1,h2,h3,h4,h5,h6,h7,h8,h9,h10,h11⟩:=h;first | contradiction | omega | exact h3 ⟨‹_›,‹_›⟩ | (obtain ⟨q1,q2,q3,q4,q5⟩:=h11 k qf;first | contradiction | omega | (have:=q5 qf;omega)))]

theorem l02State_ok (w:World) (s:qL) (t:qM) {qA:yOA} {qW:yLN} {qK:yOA} {xy:yLN} {qR:yOA} {xJ:yLN} {xh:yOA} {zn:yLN} {qJ:yOA} {xw:yLN} (hs:vw w bs os (yS s qA qy qK qH)) (xf:qP.rep w qW [.slice qA s.qw.length qy] s.qw) (xG:qP.rep w xy [.slice qK s.qx.length qH] s.qx) (ht:vw w bt ot (yT t qR qO xh qZ qJ qI)) (zh:qP.rep w xJ [.slice qR t.qB.length qO] t.qB) (zJ:qP.rep w zn [.slice xh t.qE.length qZ] t.qE) (xK:qP.rep w xw [.slice qJ t.qC.length qI] t.qC) (p0:yO s):Calls Tryz.prog 87 #[pp bs os,pp bt ot] w (Ret (fun v w' =>v=.bool (dec (zK s t))) w):=by
 refine en func87 ntmps87 ?_
 have H:=(((((((St.start w).arg xK).arg zJ).arg zh).XU ht).arg xG).arg xf).XU hs
 have ve:=qN xf
 have jh:=qN xG
 have yM:=qN zh
 have Qr:=qN zJ
 have jF:=qN xK
 clear hs xf xG ht zh zJ xK
 have p1:=p0.2.1
 refine zcr (sp (.bool false) (zjn (xU (xU ?_))))
 refine ja rfl H fun H=>rtp 0 (pp bt ot) H ?_
 refine rtp 1 (pp bt ot) H ?_
 refine tF 2 rfl rfl H ?_
 refine tL 3 rfl rfl (fun _ h=>h.xR 3 rfl 0 rfl) H ?_
 refine tN 4 rfl rfl H ?_
 refine rtp 5 (pp bs os) H ?_
 refine rtp 6 (pp bs os) H ?_
 refine tF 7 rfl rfl H ?_
 refine tL 8 rfl rfl (fun _ h=>h.xR 0 rfl 1 rfl) H ?_
 refine tN 9 rfl rfl H ?_
 refine rtp 10 (.bool ((t.qB.length:Int) != s.qw.length)) H ?_
 refine rtp 11 (.bool ((t.qB.length:Int) != s.qw.length)) H ?_
 cases h2:((t.qB.length:Int) != s.qw.length)
 ·skip
  replace h2:=xA h2
  refine rgp 12 (pp bt ot) 17 H ?_
  refine rgp 13 (pp bt ot) 17 H ?_
  refine gF 14 rfl rfl H ?_
  refine gL 15 rfl rfl (fun _ h=>h.xR 3 rfl 1 rfl) H ?_
  refine gN 16 rfl rfl H ?_
  refine rgp 17 (pp bs os) 17 H ?_
  refine rgp 18 (pp bs os) 17 H ?_
  refine gF 19 rfl rfl H ?_
  refine gL 20 rfl rfl (fun _ h=>h.xR 0 rfl 1 rfl) H ?_
  refine gN 21 rfl rfl H ?_
  refine rgp 22 (.bool ((t.qE.length:Int) != s.qw.length)) 17 H ?_
  refine rtp 23 (.bool ((t.qE.length:Int) != s.qw.length)) H ?_
  refine rtp 24 (.bool ((t.qE.length:Int) != s.qw.length)) H ?_
  cases h3:((t.qE.length:Int) != s.qw.length)
  ·skip
   replace h3:=xA h3
   refine rgp 25 (pp bt ot) 30 H ?_
   refine rgp 26 (pp bt ot) 30 H ?_
   refine gF 27 rfl rfl H ?_
   refine gL 28 rfl rfl (fun _ h=>h.xR 3 rfl 0 rfl) H ?_
   obtain ⟨b4,o5,rfl⟩:=H.addr 4 rfl qf
   refine gI 29 rfl rfl rfl H ?_
   refine gL 30 rfl rfl (fun _ h=>h.Xp 4 rfl 0 qf qf) H ?_
   refine rgp 31 (.bool (!(t.qB[0]!))) 30 H ?_
   refine rtp 32 (.bool (!(t.qB[0]!))) H ?_
   refine rtp 33 (.bool (!(t.qB[0]!))) H ?_
   cases h6:(!(t.qB[0]!))
   ·skip
    replace h6:=xk h6
    refine rgp 34 (pp bs os) 39 H ?_
    refine rgp 35 (pp bt ot) 39 H ?_
    refine rgp 36 (pp bt ot) 39 H ?_
    refine gF 37 rfl rfl H ?_
    refine gL 38 rfl rfl (fun _ h=>h.xR 3 rfl 2 rfl) H ?_
    refine vS [39] qh qm (r_opG rfl (e:=39) rfl rfl (oq (QI _ s t.qC (qF (H.get 0 rfl) 0 3) (H.get 1 rfl).1 (H.get 2 rfl).1 (H.get 6 rfl).1) H fun w7 H=>⟨H,(rgp 40 (.bool (!(dec (zY s.xB t.qC)))) 39 H ?_)⟩) vT)
    refine rtp 41 (.bool (!(dec (zY s.xB t.qC)))) H ?_
    refine xH qh (t_n (cQ rfl (fun h9=>?_) (fun h9=>?_)))
    ·skip
     refine zcr (sp (.bool false) (zjr (t_r (ret1 (.bool false) rfl rfl ⟨_,rfl,?_,H.base⟩))))
     rw [xn (fun h=>by obtain ⟨h1,h2,h3,h4,h5⟩:=h;first | contradiction | omega | (simp_all;done) | (obtain ⟨q1,q2⟩:=h5 k qf;first | contradiction | (have:=q2 ql;omega)))]
    refine qV (t_n (zcc (sp (yI 0) (zjn (qY ?_)))))
    refine zB (fun m' ρ w10=>∃ (xN:Env) (k:Nat),ρ=upd (upd (upd xN 0 (pp bs os)) 1 (pp bt ot)) 5 (yI k)∧(k≤t.qE.length)∧(BagsTo s t k)∧m' =t.qE.length - k∧St w w10 [] [atF bs os (yS s qA qy qK qH),sF false qW qA qy s.qw,sF false xy qK qH s.qx,atF bt ot [.slice (aa b4 o5) t.qB.length qO,.slice xh t.qE.length qZ,.slice qJ t.qC.length qI],sF false xJ (aa b4 o5) qO t.qB,sF false zn xh qZ t.qE,sF false xw qJ qI t.qC]) (t.qE.length - 0) ⟨_,0,uE3,qf,(by exact fun j hj=>by omega),rfl,H⟩ ?_
    clear H
    rintro m' ρ w11 ⟨xN,k,rfl,i0,i1,rfl,H⟩
    refine zcc (sps [yI k,pp bt ot,pp bt ot] (oF rfl (oL rfl (H.xR 3 rfl 1 rfl) (oN rfl (sp (.bool (decide ((k:Int) < t.qE.length))) (zjn (cD rfl (fun h12=>?_) (fun h12=>?_))))))))
    ·skip
     refine qV (t_n (xU (qY (zcr (sps [pp bs os,pp bt ot,pp bt ot] (oF rfl (oL rfl (H.xR 3 rfl 1 rfl) (sp (yI k) ?_))))))))
     obtain ⟨b13,o14,rfl⟩:=H.addr 5 rfl qf
     obtain ⟨ae15,ce15,Fe15,H⟩:=H.vH 5 rfl k k qf qf qf
     refine oI rfl rfl (oL rfl (H.xR 1 rfl 0 rfl) (sw (oq (QI _ s (t.qE[k]!) (qF (H.get 2 rfl) 0 3) (H.get 3 rfl).1 (H.get 4 rfl).1 (H.get 0 rfl).1) H fun w16 H=>sps [.bool (!(dec (zY s.xB (t.qE[k]!)))),.bool (!(dec (zY s.xB (t.qE[k]!))))] ?_)))
     cases h18:(!(dec (zY s.xB (t.qE[k]!))))
     ·skip
      replace h18:=xk h18
      replace h18:=Qb h18
      refine qQ 67 rfl rfl (sp (pp bt ot) (qQ 67 rfl rfl (sp (pp bt ot) (qQ 67 rfl rfl (oF rfl (qQ 67 rfl rfl (oL rfl (H.xR 5 rfl 0 rfl) (qQ 67 rfl rfl (sp (yI k) (qQ 67 rfl rfl (oI rfl rfl (qQ 67 rfl rfl (oL rfl (H.Xp 6 rfl k qf qf) (qQ 67 rfl rfl (sp (.bool (!(t.qB[k]!))) (qQ 67 rfl rfl (sp (.bool (!(t.qB[k]!))) ?_)))))))))))))))))
      cases h19:(!(t.qB[k]!))
      ·skip
       replace h19:=xk h19
       refine xZ [77,78,79,80,81,82,83,84,85] (qQ 67 rfl rfl (sps [.bool false,.bool false] (zjn (xF false rfl (fun h=>absurd h qj) (fun _=>qV (b_n (t_n (xX (sp (yI k) (sw (zD k 1 rfl rfl qf (sp (yI (k+1)) (xY (xg (m' :=t.qE.length - (k+1)) qf ⟨_,k+1,uE3,?_,?_,rfl,H.sel _ (.refl _) _ qm⟩))))))))))))))
       · omega
       · exact i1.succ ‹_› (fun hk=>by first | omega | simp_all)
      replace h19:=xq h19
      refine qQ 76 rfl rfl (sp (pp bt ot) (qQ 76 rfl rfl (sp (pp bt ot) (qQ 76 rfl rfl (oF rfl (qQ 76 rfl rfl (oL rfl (H.xR 5 rfl 1 rfl) (qQ 76 rfl rfl (sp (yI k) (qQ 76 rfl rfl (oI rfl rfl (qQ 76 rfl rfl (oL rfl (H.xR 1 rfl 0 rfl) (qQ 76 rfl rfl (sw (oq (VI _ (t.qE[k]!) (H.get 0 rfl).1 (by first | assumption | exact vF ql | exact yV ql)) H fun w20 H=>qQ 76 rfl rfl (sp (.bool (decide ((X0 (t.qE[k]!):Int) > 0))) (qQ 67 rfl rfl ?_))))))))))))))))))
      refine sps [.bool (decide ((X0 (t.qE[k]!):Int) > 0)),.bool (decide ((X0 (t.qE[k]!):Int) > 0))] (zjn (cD rfl (fun h22=>?_) (fun h22=>?_)))
      ·skip
       refine zcr (sp (.bool false) (zjr (zr5 (ret1 (.bool false) rfl rfl ⟨_,rfl,?_,H.base⟩))))
       rw [xn (fun h=>by obtain ⟨h1,h2,h3,h4,h5⟩:=h;first | contradiction | omega | (simp_all;done) | (obtain ⟨q1,q2⟩:=h5 k qf;first | contradiction | (have:=q2 ql;omega)))]
      refine qV (b_n (t_n (xX (sp (yI k) (sw (zD k 1 rfl rfl qf (sp (yI (k+1)) (xY (xg (m' :=t.qE.length - (k+1)) qf ⟨_,k+1,uE3,?_,?_,rfl,H.sel _ (.refl _) _ qm⟩)))))))))
      · omega
      · exact i1.succ ‹_› (fun hk=>by first | omega | simp_all)
     replace h18:=xq h18
     replace h18:=zV h18
     refine xZ [68,69,70,71,72,73,74,75,76,77,78,79,80,81,82,83,84,85,86] (sp (.bool true) (zjn (xF true rfl (fun _=>zcr (sp (.bool false) (zjr (zr5 (ret1 (.bool false) rfl rfl ⟨_,rfl,?_,H.base⟩))))) (fun h=>absurd h qj))))
     rw [xn (fun h=>by obtain ⟨h1,h2,h3,h4,h5⟩:=h;first | contradiction | omega | (simp_all;done) | (obtain ⟨q1,q2⟩:=h5 k qf;first | contradiction | (have:=q2 ql;omega)))]
    refine zx4 (zcr (sp (.bool true) (zjr (ret1 (.bool true) rfl rfl ⟨_,rfl,?_,H.base⟩))))
    obtain rfl:k=t.qE.length:=by omega
    rw [jP ⟨by omega,by omega,by first | assumption | simp_all,by assumption,i1⟩]
   replace h6:=xq h6
   refine zS [34,35,36,37,38,39,40] 7 (H) (rtp 41 (.bool true) H ?_)
   refine xH qh (t_n (xF true rfl (fun _=>zcr (sp (.bool false) (zjr (t_r (ret1 (.bool false) rfl rfl ⟨_,rfl,?_,H.base⟩))))) (fun h=>absurd h qj)))
   rw [xn (fun h=>by obtain ⟨h1,h2,h3,h4,h5⟩:=h;first | contradiction | omega | (simp_all;done) | (obtain ⟨q1,q2⟩:=h5 k qf;first | contradiction | (have:=q2 ql;omega)))]
  replace h3:=bne_iff_ne.1 h3
  refine zS [25,26,27,28,29,30,31] 7 (H) (rtp 32 (.bool true) H ?_)
  refine rtp 33 (.bool true) H ?_
  refine zS [34,35,36,37,38,39,40] 7 (H) (rtp 41 (.bool true) H ?_)
  refine xH qh (t_n (xF true rfl (fun _=>zcr (sp (.bool false) (zjr (t_r (ret1 (.bool false) rfl rfl ⟨_,rfl,?_,H.base⟩))))) (fun h=>absurd h qj)))
  rw [xn (fun h=>by obtain ⟨h1,h2,h3,h4,h5⟩:=h;first | contradiction | omega | (simp_all;done) | (obtain ⟨q1,q2⟩:=h5 k qf;first | contradiction | (have:=q2 ql;omega)))]
 replace h2:=bne_iff_ne.1 h2
 refine zS [12,13,14,15,16,17,18,19,20,21,22] 11 (H) (rtp 23 (.bool true) H ?_)
 refine rtp 24 (.bool true) H ?_
 refine zS [25,26,27,28,29,30,31] 7 (H) (rtp 32 (.bool true) H ?_)
 refine rtp 33 (.bool true) H ?_
 refine zS [34,35,36,37,38,39,40] 7 (H) (rtp 41 (.bool true) H ?_)
 refine xH qh (t_n (xF true rfl (fun _=>zcr (sp (.bool false) (zjr (t_r (ret1 (.bool false) rfl rfl ⟨_,rfl,?_,H.base⟩))))) (fun h=>absurd h qj)))
 rw [xn (fun h=>by obtain ⟨h1,h2,h3,h4,h5⟩:=h;first | contradiction | omega | (simp_all;done) | (obtain ⟨q1,q2⟩:=h5 k qf;first | contradiction | (have:=q2 ql;omega)))]

theorem l02Parent_ok (w:World) (s:qL) (t:qM) (c:Int) {qA:yOA} {qW:yLN} {qK:yOA} {xy:yLN} {qR:yOA} {xJ:yLN} {xh:yOA} {zn:yLN} {qJ:yOA} {xw:yLN} (hs:vw w bs os (yS s qA qy qK qH)) (xf:qP.rep w qW [.slice qA s.qw.length qy] s.qw) (xG:qP.rep w xy [.slice qK s.qx.length qH] s.qx) (ht:vw w bt ot (yT t qR qO xh qZ qJ qI)) (zh:qP.rep w xJ [.slice qR t.qB.length qO] t.qB) (zJ:qP.rep w zn [.slice xh t.qE.length qZ] t.qE) (xK:qP.rep w xw [.slice qJ t.qC.length qI] t.qC) (p0:yO s) (p1:CellIn s c) (p2:t.qB.length=s.qw.length):Calls Tryz.prog 182 #[pp bs os,pp bt ot,yI c] w (Ret (fun v w' =>v=yI (xx s t c)) w):=by
 refine en func182 ntmps182 ?_
 have H:=(((((((St.start w).arg xK).arg zJ).arg zh).XU ht).arg xG).arg xf).XU hs
 have ve:=qN xf
 have jh:=qN xG
 have yM:=qN zh
 have Qr:=qN zJ
 have jF:=qN xK
 clear hs xf xG ht zh zJ xK
 have p3:=p0.step p1.1 p1.2
 refine zcr (sp (yI 0) (zjc (sps [pp bs os,pp bs os] (oF rfl (oL rfl (H.xR 0 rfl 1 rfl) (sp (yI c) ?_))))))
 obtain ⟨b1,o2,rfl⟩:=H.addr 1 rfl qf
 refine oI rfl rfl (oL rfl (H.jy 1 rfl c qf qf) (sp (yI (s.qw[c.toNat]!)) (zjn (xU (qY ?_)))))
 refine zB (fun m' ρ w3=>∃ (xN:Env) (y:Int) (n:Nat),ρ=upd (upd (upd (upd xN 0 (pp bs os)) 1 (pp bt ot)) 6 (yI 0)) 7 (yI y)∧(-1≤y∧y≤(s.qw.length:Int) - 1)∧(y < n)∧(xx s t c=climb s.qw t.qB n y)∧m' =(y+1).toNat∧St w w3 [] [atF bs os [yI s.xB,.slice (aa b1 o2) s.qw.length qy,.slice qK s.qx.length qH],sF false qW (aa b1 o2) qy s.qw,sF false xy qK qH s.qx,atF bt ot (yT t qR qO xh qZ qJ qI),sF false xJ qR qO t.qB,sF false zn xh qZ t.qE,sF false xw qJ qI t.qC]) (((s.qw[c.toNat]!)+1).toNat) ⟨_,s.qw[c.toNat]!,s.qw.length,uE4,qf,qf,(by rfl),rfl,H⟩ ?_
 clear H
 rintro m' ρ w4 ⟨xN,y,n,rfl,i0,i1,i2,rfl,H⟩
 have up:=fun h=>p0.step (c:=y) h i0.2
 refine zcc (sps [yI y,.bool (decide ((y:Int)≥0)),.bool (decide ((y:Int)≥0))] ?_)
 cases h5:(decide ((y:Int)≥0))
 ·skip
  replace h5:=of_decide_eq_false h5
  refine xZ [18,19,20,21,22,23,24,25] (sp (.bool false) (zjn (xF false rfl (fun h=>absurd h qj) (fun _=>zx4 (zcr (sps [yI y,yI y] (zjr (ret1 (yI y) rfl rfl ⟨_,rfl,?_,H.base⟩))))))))
  rw [i2,climb_end (by first | omega | simp_all)]
 replace h5:=of_decide_eq_true h5
 refine qQ 17 rfl rfl (sp (pp bt ot) (qQ 17 rfl rfl (sp (pp bt ot) (qQ 17 rfl rfl (oF rfl (qQ 17 rfl rfl (oL rfl (H.xR 3 rfl 0 rfl) (qQ 17 rfl rfl (sp (yI y) (qQ 17 rfl rfl ?_))))))))))
 obtain ⟨b6,o7,rfl⟩:=H.addr 4 rfl qf
 refine oI rfl rfl (qQ 17 rfl rfl (oL rfl (H.Xp 4 rfl y qf qf) (qQ 17 rfl rfl (sps [.bool (!(t.qB[y.toNat]!)),.bool (!(t.qB[y.toNat]!))] (zjn (xF (!(t.qB[y.toNat]!)) rfl (fun h8=>?_) (fun h8=>?_)))))))
 ·skip
  replace h8:=xq h8
  refine qV (t_n (qY (xX (sps [pp bs os,pp bs os] (oF rfl (oL rfl (H.xR 0 rfl 1 rfl) (sp (yI y) (oI rfl rfl (oL rfl (H.jy 1 rfl y qf qf) (sp (yI (s.qw[y.toNat]!)) (xY (b_n ?_))))))))))))
  have up1:=up qf
  refine xg (m' :=((s.qw[y.toNat]!)+1).toNat) qf ⟨_,(s.qw[y.toNat]!),n - 1,uE4,?_,?_,?_,rfl,H⟩
  · omega
  · omega
  · exact i2.trans (climb_go qf qf ‹_›)
 replace h8:=xk h8
 refine zx4 (zcr (sps [yI y,yI y] (zjr (ret1 (yI y) rfl rfl ⟨_,rfl,?_,H.base⟩))))
 rw [i2,climb_end (by first | omega | simp_all)]

theorem l02Ok_ok (w:World) (s:qL) {qA:yOA} {qW:yLN} {qK:yOA} {xy:yLN} (hs:vw w bs os (yS s qA qy qK qH)) (xf:qP.rep w qW [.slice qA s.qw.length qy] s.qw) (xG:qP.rep w xy [.slice qK s.qx.length qH] s.qx):Calls Tryz.prog 98 #[pp bs os] w (Ret (fun v w' =>v=.bool (dec (jZ s))) w):=by
 refine en func98 ntmps98 ?_
 have H:=(((St.start w).arg xG).arg xf).XU hs
 have ve:=qN xf
 have jh:=qN xG
 clear hs xf xG
 have p1:=fun h:yO s=>h.2.1
 refine zcr (sp (.bool false) (zjcc (sp (pp bs os) (sw (oq (l02Frame_ok _ s (qF (H.get 0 rfl) 0 3) (H.get 1 rfl).1 (H.get 2 rfl).1) H fun w1 H=>sps [.bool (!(dec (yO s))),.bool (!(dec (yO s)))] ?_)))))
 cases h3:(!(dec (yO s)))
 ·skip
  replace h3:=xk h3
  replace h3:=Qb h3
  refine qQ 8 rfl rfl (sp (pp bs os) (qQ 8 rfl rfl (sp (pp bs os) (qQ 8 rfl rfl (oF rfl (qQ 8 rfl rfl (oL rfl (H.xR 0 rfl 2 rfl) (qQ 8 rfl rfl (oN rfl (qQ 8 rfl rfl (sps [.bool (decide ((s.qx.length:Int) > 16)),.bool (decide ((s.qx.length:Int) > 16))] (zjn (cD rfl (fun h4=>?_) (fun h4=>?_))))))))))))))
  ·skip
   refine zcr (sp (.bool false) (zjr (t_r (ret1 (.bool false) rfl rfl ⟨_,rfl,?_,H.base⟩))))
   rw [xn (fun h=>by obtain ⟨h1,h2,h3⟩:=h;first | contradiction | omega | (obtain ⟨q1,q2⟩:=h3 k qf;first | contradiction | (have:=VK (k:=k+1) q;omega)))]
  have p2:=p1 ql
  refine qV (t_n (zcr (sps [pp bs os,pp bs os] (oF rfl (oL rfl (H.xR 0 rfl 1 rfl) (oN rfl (sw (o_make1 H underlying22 ti2 rfl s.qw.length rfl rfl qf qf fun b5 w6 H=>?_))))))))
  replace H:St _ _ [.box b5 (List.replicate s.qw.length (yI 0)) 2] _:=H
  refine sp (.slice (aa b5 0) s.qw.length s.qw.length) (zjcc (sp (yI 0) (zjn (qY ?_))))
  rw [ints_zero,counts_zero] at H
  refine zB (fun m' ρ w7=>∃ (xN:Env) (k:Nat),ρ=upd (upd (upd xN 0 (pp bs os)) 3 (.slice (aa b5 0) s.qw.length s.qw.length)) 4 (yI k)∧(k≤s.qx.length)∧(RulesTo s k)∧m' =s.qx.length - k∧St w w7 [.box b5 ((counts s k).map (Value.int .i64)) 2] [atF bs os (yS s qA qy qK qH),sF false qW qA qy s.qw,sF false xy qK qH s.qx]) (s.qx.length - 0) ⟨_,0,uE3,qf,(by exact fun j hj=>by omega),rfl,H⟩ ?_
  clear H
  rintro m' ρ w8 ⟨xN,k,rfl,i0,i1,rfl,H⟩
  refine zcc (sps [yI k,pp bs os,pp bs os] (oF rfl (oL rfl (H.xR 0 rfl 2 rfl) (oN rfl (sp (.bool (decide ((k:Int) < s.qx.length))) (zjn (cD rfl (fun h9=>?_) (fun h9=>?_))))))))
  ·skip
   refine qV (t_n (xU (qY (zcc (sps [pp bs os,pp bs os,pp bs os] (oF rfl (oL rfl (H.xR 0 rfl 2 rfl) (sp (yI k) ?_))))))))
   obtain ⟨b10,o11,rfl⟩:=H.addr 2 rfl qf
   obtain ⟨ae12Need,ce12Need,Fe12Need,ae12Have,ce12Have,Fe12Have,ae12Lack,ce12Lack,Fe12Lack,ae12Here,ce12Here,Fe12Here,ae12Out,ce12Out,Fe12Out,ae12Into,ce12Into,Fe12Into,H⟩:=H.yc 2 rfl k k qf qf qf
   refine oI rfl rfl (sw (oq (l02Rule_ok _ s (s.qx[k]!) (qF (H.get 7 rfl) 0 3) (H.get 8 rfl).1 (H.get 9 rfl).1 (qF (H.get 6 rfl) 0 9) (H.get 0 rfl).1 (H.get 1 rfl).1 (H.get 2 rfl).1 (H.get 3 rfl).1 (H.get 4 rfl).1 (H.get 5 rfl).1 ql) H fun w13 H=>sp (.bool (!(dec (RuleOk s (s.qx[k]!))))) (zjn (cQ rfl (fun h15=>?_) (fun h15=>?_)))))
   ·skip
    refine zcr (sp (.bool false) (zjr (t_r (zr5 (ret1 (.bool false) rfl rfl ⟨_,rfl,?_,H.base⟩)))))
    rw [xn (fun h=>by obtain ⟨h1,h2,h3⟩:=h;first | contradiction | omega | (obtain ⟨q1,q2⟩:=h3 k qf;first | contradiction | (have:=VK (k:=k+1) q;omega)))]
   have q:=(h15).1
   refine qV (t_n (zcr (sps [.slice (aa b5 0) s.qw.length s.qw.length,pp bs os,pp bs os] (oF rfl (oL rfl (H.xR 7 rfl 2 rfl) (sp (yI k) (oI rfl rfl (oF rfl (oL rfl (H.xR 6 rfl 0 rfl) (oI rfl rfl (oL rfl (H.cell 0 rfl (ints_get (by rw [counts_len];omega))) (sw (zD ((counts s k)[((s.qx[k]!).qG:Int).toNat]!) 1 rfl rfl (by (first | omega | (rw [VK q];have:=ofCell_bd s.qx (s.qx[k]!).qG k;omega))) (oI rfl rfl ?_))))))))))))))
   refine sw (yR H 0 rfl (yI (((counts s k)[((s.qx[k]!).qG:Int).toNat]!)+1)) sizeOf2 rfl rfl rfl (ints_lt (by rw [counts_len];omega)) fun w16 H=>?_)
   rw [ints_set] at H
   rw [counts_succ q] at H
   replace H:St _ _ [.box b5 ((counts s (k+1)).map (Value.int .i64)) 2] _:=H
   refine zjc (sps [.slice (aa b5 0) s.qw.length s.qw.length,pp bs os,pp bs os] (oF rfl (oL rfl (H.xR 7 rfl 2 rfl) (sp (yI k) (oI rfl rfl (oF rfl (oL rfl (H.xR 6 rfl 0 rfl) (oI rfl rfl (oL rfl (H.cell 0 rfl (ints_get (by rw [counts_len];omega))) (sp (.bool (decide (((counts s (k+1))[((s.qx[k]!).qG:Int).toNat]! :Int) > 8))) (zjn (cD rfl (fun h17=>?_) (fun h17=>?_)))))))))))))
   ·skip
    refine zcr (sp (.bool false) (zjr (zr5 (ret1 (.bool false) rfl rfl ⟨_,rfl,?_,H.base⟩))))
    rw [xn (fun h=>by obtain ⟨h1,h2,h3⟩:=h;first | contradiction | omega | (obtain ⟨q1,q2⟩:=h3 k qf;first | contradiction | (have:=VK (k:=k+1) q;omega)))]
   refine qV (b_n (t_n (xX (sp (yI k) (sw (zD k 1 rfl rfl (by (first | omega | (rw [VK q];have:=ofCell_bd s.qx (s.qx[k]!).qG k;omega))) (sp (yI (k+1)) (xY (xg (m' :=s.qx.length - (k+1)) qf ⟨_,k+1,uE3,?_,?_,rfl,H.sel _ (.refl _) _ qm⟩)))))))))
   · omega
   · exact i1.succ ‹_› (by have:=VK (k:=k+1) q;omega)
  refine zx4 (zcr (sp (.bool true) (zjr (ret1 (.bool true) rfl rfl ⟨_,rfl,?_,H.base⟩))))
  obtain rfl:k=s.qx.length:=by omega
  rw [jP ⟨by assumption,by omega,i1⟩]
 replace h3:=xq h3
 replace h3:=zV h3
 refine xZ [9,10,11,12,13,14] (sp (.bool true) (zjn (xF true rfl (fun _=>zcr (sp (.bool false) (zjr (t_r (ret1 (.bool false) rfl rfl ⟨_,rfl,?_,H.base⟩))))) (fun h=>absurd h qj))))
 rw [xn (fun h=>by obtain ⟨h1,h2,h3⟩:=h;first | contradiction | omega | (obtain ⟨q1,q2⟩:=h3 k qf;first | contradiction | (have:=VK (k:=k+1) q;omega)))]
theorem cloneB_ok (w:World) (l:List Bool) {al:yOA} {Fl:yLN} (hl:qP.rep w Fl [.slice al l.length cl] l) (p0:l.length≤1000000):Calls Tryz.prog 115 #[.slice al l.length cl] w (Ret (fun v w' =>∃ (ra:yOA) (rn:Nat) (rc:Nat),v=.slice ra rn rc∧Fresh w.heap.size []∧St w w' [rr ra rn rc 4 1 (l.map (Value.bool))] []) w):=by
 refine en func115 ntmps115 ?_
 have H:=(St.start w).arg hl
 have nhl:=qN hl
 clear hl
 have N:=Fresh.nil w.heap.size
 refine zcr (sp yN (zjcc (sp (.slice al l.length cl) (sw (o_eqnil underlying26 al l.length cl rfl (zjn (xF (al.isNone) rfl (fun h1=>?_) (fun h1=>?_))))))))
 ·skip
  refine zcr (sp yN (zjr (t_r ?_)))
  replace H:=H.nilRowB 4
  refine ret1 yN rfl rfl ⟨_,rfl,?_,H.base⟩
  obtain rfl:=H.nilOf 0 rfl ‹_›
  exact ⟨none,0,0,rfl,N,H.pick [0] []⟩
 refine qV (t_n (zcr (sw (vU H underlying26 ti4 fun b2 w3 H=>sp (.slice al l.length cl) ?_))))
 replace H:=H.boxRowB 0 [] 0
 refine sw (o_appendFR H 0 rfl 0 rfl underlying26 ti4 rfl qj rfl rfl qp qf fun a4 c5 w6 us7 G8 H hG9=>?_)
 obtain ⟨_,rfl⟩:=reps_bools (H.get 0 rfl).1
 replace H:=H.sub _ fun f hf=>List.mem_cons_of_mem _ hf
 rw [catB] at H
 refine sp (.slice a4 (0+l.length) c5) (zjr (ret1 (.slice a4 (0+l.length) c5) rfl rfl ⟨_,rfl,(⟨a4,0+l.length,c5,rfl,N,H.pick [0] []⟩),H.base⟩))

theorem l02Own_ok (w:World) (t:qM) {qR:yOA} {xJ:yLN} {xh:yOA} {zn:yLN} {qJ:yOA} {xw:yLN} (ht:vw w bt ot (yT t qR qO xh qZ qJ qI)) (zh:qP.rep w xJ [.slice qR t.qB.length qO] t.qB) (zJ:qP.rep w zn [.slice xh t.qE.length qZ] t.qE) (xK:qP.rep w xw [.slice qJ t.qC.length qI] t.qC) (p0:t.qB.length≤1000000) (p1:t.qC.length≤1000000) (p2:t.qE.length≤1000000) (p3:∀ k,k < t.qE.length→(t.qE[k]!).length≤1000000):Calls Tryz.prog 76 #[pp bt ot] w (Ret (fun v w' =>∃ (raAlive:yOA) (rnAlive:Nat) (rcAlive:Nat) (raBags:yOA) (rnBags:Nat) (rcBags:Nat) (rxBags:List Value) (rFBags:yLN) (raAround:yOA) (rnAround:Nat) (rcAround:Nat),v=.agg #[.slice raAlive rnAlive rcAlive,.slice raBags rnBags rcBags,.slice raAround rnAround rcAround]∧Fresh w.heap.size [rFBags]∧St w w' [rr raAlive rnAlive rcAlive 4 1 (t.qB.map (Value.bool)),rr raBags rnBags rcBags 22 1 rxBags,rr raAround rnAround rcAround 2 1 (t.qC.map (Value.int .i64))] [zk true rFBags rxBags t.qE]) w):=by
 refine en func76 ntmps76 ?_
 have H:=((((St.start w).arg xK).arg zJ).arg zh).XU ht
 have yM:=qN zh
 have Qr:=qN zJ
 have jF:=qN xK
 clear ht zh zJ xK
 have N:=Fresh.nil w.heap.size
 refine zcr (sw (xI H ti38 [yN,yN,yN] fun b1 w2 H=>zjn (xU ?_)))
 refine c_cut (fun ρ w8=>∃ (xN:Env) (b3:Nat) (a4:yOA) (c5:Nat) (a6:yOA) (c7:Nat),ρ=upd (upd (upd xN 0 (pp bt ot)) 2 (pp b1 0)) 3 (pp b3 0)∧Fresh w.heap.size []∧St w w8 [.box b3 [.slice a4 (0+t.qB.length) c5,yN,.slice a6 t.qC.length c7] 38,rr a6 t.qC.length c7 2 1 (t.qC.map (Value.int .i64)),rr a4 (0+t.qB.length) c5 4 1 ((([]:List Bool)++t.qB).map (Value.bool)),.box b1 [yN,yN,yN] 38] [atF bt ot (yT t qR qO xh qZ qJ qI),sF false xJ qR qO t.qB,sF false zn xh qZ t.qE,sF false xw qJ qI t.qC]) ?_ ?_
 ·skip
  refine ja rfl H fun H=>rtp 1 (pp bt ot) H ?_
  refine rtp 2 (pp bt ot) H ?_
  refine tF 3 rfl rfl H ?_
  refine tL 4 rfl rfl (fun _ h=>h.xR 0 rfl 0 rfl) H ?_
  refine rtp 6 (pp bt ot) H ?_
  refine rtp 7 (pp bt ot) H ?_
  refine tF 8 rfl rfl H ?_
  refine tL 9 rfl rfl (fun _ h=>h.xR 0 rfl 2 rfl) H ?_
  refine vS [0,12] qh qm (jA rfl ?_ (jA rfl ?_ vT))
  ·skip
   refine vU H underlying26 ti4 fun b10 w11 H=>⟨H.pick [1] [0,1,2,3],(vS [5,12] qh qm (jA rfl ?_ (jA rfl ?_ vT)))⟩
   ·skip
    replace H:=H.boxRowB 0 [] 0
    refine o_appendFR H 0 rfl 1 rfl underlying26 ti4 rfl qj rfl rfl qp qf fun a12 c13 w14 us15 G16 H hG17=>?_
    obtain ⟨_,rfl⟩:=reps_bools (H.get 0 rfl).1
    replace H:=H.sub _ fun f hf=>List.mem_cons_of_mem _ hf
    rw [catB] at H
    refine ⟨H.pick [1] [0,1,2,3],(vS [10,12] qh qm (jA rfl ?_ (jA rfl ?_ vT)))⟩
    ·skip
     have sz18:=H.base.size
     refine oc (Xg _ t.qC (H.get 3 rfl).1 qg) ?_
     rintro v23 w21 r23 x22
     replace H:=H.zC x22 r23
     obtain ⟨a24,c25,rfl,hc26,hm27⟩:=H.ji 0 rfl
     refine ⟨H.pick [2] [0,1,2,3],(vS [11,12] qh qm (jA rfl ?_ (jA rfl ?_ vT)))⟩
     ·skip
      refine jk [.slice a12 (0+t.qB.length) c13,yN,.slice a24 t.qC.length c25] [(0,.slice a12 (0+t.qB.length) c13),(2,.slice a24 t.qC.length c25)] (⟨H.pick [2] [0,1,2,3],(ro 12 rfl (xI H ti38 [yN,yN,yN] fun b28 w29 H=>⟨H.pick [3] [0,1,2,3],(ro 13 rfl (zy H 0 [.slice a12 (0+t.qB.length) c13,yN,.slice a24 t.qC.length c25] sizeOf38 fun w30 H=>⟨H.pick [3] [0,1,2,3],(xH qh ((meet ⟨_,b28,a12,c13,a24,c25,uE3,N,H⟩)))⟩))⟩))⟩)
     refine xI H ti38 [yN,yN,yN] fun b31 w32 H=>⟨H.pick [3] [0,1,2,3],(ro 11 rfl (jk [.slice a12 (0+t.qB.length) c13,yN,.slice a24 t.qC.length c25] [(0,.slice a12 (0+t.qB.length) c13),(2,.slice a24 t.qC.length c25)] (⟨H.pick [3] [0,1,2,3],(ro 13 rfl (zy H 0 [.slice a12 (0+t.qB.length) c13,yN,.slice a24 t.qC.length c25] sizeOf38 fun w33 H=>⟨H.pick [3] [0,1,2,3],(xH qh ((meet ⟨_,b31,a12,c13,a24,c25,uE3,N,H⟩)))⟩))⟩)))⟩
    refine xI H ti38 [yN,yN,yN] fun b34 w35 H=>⟨H.pick [2] [0,1,2,3],(ro 10 rfl ?_)⟩
    have sz36:=H.base.size
    refine oc (Xg _ t.qC (H.get 3 rfl).1 qg) ?_
    rintro v41 w39 r41 x40
    replace H:=H.zC x40 r41
    obtain ⟨a42,c43,rfl,hc44,hm45⟩:=H.ji 0 rfl
    refine ⟨H.pick [3] [0,1,2,3],(ro 11 rfl (jk [.slice a12 (0+t.qB.length) c13,yN,.slice a42 t.qC.length c43] [(0,.slice a12 (0+t.qB.length) c13),(2,.slice a42 t.qC.length c43)] (⟨H.pick [3] [0,1,2,3],(ro 13 rfl (zy H 1 [.slice a12 (0+t.qB.length) c13,yN,.slice a42 t.qC.length c43] sizeOf38 fun w46 H=>⟨H.pick [3] [0,1,2,3],(xH qh ((meet ⟨_,b34,a12,c13,a42,c43,uE3,N,H.pick [1,0,2,3] [0,1,2,3]⟩)))⟩))⟩)))⟩
   refine xI H ti38 [yN,yN,yN] fun b47 w48 H=>⟨H.pick [2] [0,1,2,3],(ro 5 rfl ?_)⟩
   replace H:=H.boxRowB 1 [] 0
   refine o_appendFR H 1 rfl 1 rfl underlying26 ti4 rfl qj rfl rfl qp qf fun a49 c50 w51 us52 G53 H hG54=>?_
   obtain ⟨_,rfl⟩:=reps_bools (H.get 0 rfl).1
   replace H:=H.sub _ fun f hf=>List.mem_cons_of_mem _ hf
   rw [catB] at H
   refine ⟨H.pick [2] [0,1,2,3],(ro 10 rfl ?_)⟩
   have sz55:=H.base.size
   refine oc (Xg _ t.qC (H.get 3 rfl).1 qg) ?_
   rintro v60 w58 r60 x59
   replace H:=H.zC x59 r60
   obtain ⟨a61,c62,rfl,hc63,hm64⟩:=H.ji 0 rfl
   refine ⟨H.pick [3] [0,1,2,3],(ro 11 rfl (jk [.slice a49 (0+t.qB.length) c50,yN,.slice a61 t.qC.length c62] [(0,.slice a49 (0+t.qB.length) c50),(2,.slice a61 t.qC.length c62)] (⟨H.pick [3] [0,1,2,3],(ro 13 rfl (zy H 1 [.slice a49 (0+t.qB.length) c50,yN,.slice a61 t.qC.length c62] sizeOf38 fun w65 H=>⟨H.pick [3] [0,1,2,3],(xH qh ((meet ⟨_,b47,a49,c50,a61,c62,uE3,N,H.pick [1,0,2,3] [0,1,2,3]⟩)))⟩))⟩)))⟩
  refine xI H ti38 [yN,yN,yN] fun b66 w67 H=>⟨H.pick [1] [0,1,2,3],(ro 0 rfl (vU H underlying26 ti4 fun b68 w69 H=>⟨H.pick [2] [0,1,2,3],(ro 5 rfl ?_)⟩))⟩
  replace H:=H.boxRowB 0 [] 0
  refine o_appendFR H 0 rfl 1 rfl underlying26 ti4 rfl qj rfl rfl qp qf fun a70 c71 w72 us73 G74 H hG75=>?_
  obtain ⟨_,rfl⟩:=reps_bools (H.get 0 rfl).1
  replace H:=H.sub _ fun f hf=>List.mem_cons_of_mem _ hf
  rw [catB] at H
  refine ⟨H.pick [2] [0,1,2,3],(ro 10 rfl ?_)⟩
  have sz76:=H.base.size
  refine oc (Xg _ t.qC (H.get 3 rfl).1 qg) ?_
  rintro v81 w79 r81 x80
  replace H:=H.zC x80 r81
  obtain ⟨a82,c83,rfl,hc84,hm85⟩:=H.ji 0 rfl
  refine ⟨H.pick [3] [0,1,2,3],(ro 11 rfl (jk [.slice a70 (0+t.qB.length) c71,yN,.slice a82 t.qC.length c83] [(0,.slice a70 (0+t.qB.length) c71),(2,.slice a82 t.qC.length c83)] (⟨H.pick [3] [0,1,2,3],(ro 13 rfl (zy H 2 [.slice a70 (0+t.qB.length) c71,yN,.slice a82 t.qC.length c83] sizeOf38 fun w86 H=>⟨H.pick [3] [0,1,2,3],(xH qh ((meet ⟨_,b66,a70,c71,a82,c83,uE3,N,H.pick [2,0,1,3] [0,1,2,3]⟩)))⟩))⟩)))⟩
 clear H N
 rintro ρ w87 ⟨xN,b3,a4,c5,a6,c7,rfl,N,H⟩
 refine t_n (zcc (sp (yI 0) (zjn (qY ?_))))
 replace H:=H.nilRow 22 1
 replace H:=H.vN (α:=yLI)
 refine zB (fun m' ρ w88=>∃ (xN:Env) (c:Nat) (jL:yOA) (vg:Nat) (jK:Nat) (out_Bags:yLL) (zN:List Value) (zf:yLN),ρ=upd (upd (upd (upd xN 0 (pp bt ot)) 2 (pp b1 0)) 3 (pp b3 0)) 4 (yI c)∧out_Bags=t.qE.take c∧((c:Int)≤t.qE.length)∧m' =(t.qE.length - (c:Int)).toNat∧Fresh w.heap.size [zf]∧St w w88 [rr jL vg jK 22 1 zN,.box b3 [.slice a4 (0+t.qB.length) c5,.slice jL vg jK,.slice a6 t.qC.length c7] 38,rr a6 t.qC.length c7 2 1 (t.qC.map (Value.int .i64)),rr a4 (0+t.qB.length) c5 4 1 ((([]:List Bool)++t.qB).map (Value.bool)),.box b1 [yN,yN,yN] 38] [zk true zf zN out_Bags,atF bt ot (yT t qR qO xh qZ qJ qI),sF false xJ qR qO t.qB,sF false zn xh qZ t.qE,sF false xw qJ qI t.qC]) ((t.qE.length - (0:Int)).toNat) ⟨_,0,none,0,0,([]:yLL),[],[],uE4,(by rfl),qf,rfl,N.emp,H⟩ ?_
 clear H N
 rintro m' ρ w89 ⟨xN,c,jL,vg,jK,out_Bags,zN,zf,rfl,rfl,i0,rfl,N,H⟩
 have VB:=H.zo (α:=yLI) 0 rfl 0 rfl qj
 have p4:=p3 c
 rw [List.length_take_of_le qf] at VB
 refine zcc (sps [yI c,pp bt ot,pp bt ot] (oF rfl (oL rfl (H.xR 1 rfl 1 rfl) (oN rfl (sp (.bool (decide ((c:Int) < t.qE.length))) (zjn (cD rfl (fun h90=>?_) (fun h90=>?_))))))))
 ·skip
  refine qV (t_n (xU (qY ?_)))
  obtain ⟨b91,o92,rfl⟩:=H.addr 3 rfl qf
  refine c_cut (fun ρ w102=>∃ (xN:Env) (a94:yOA) (c95:Nat) (a96:yOA) (c97:Nat) (G98:yLN) (F99:yLN) (a100:yOA) (c101:Nat),ρ=upd (upd (upd (upd xN 0 (pp bt ot)) 2 (pp b1 0)) 3 (pp b3 0)) 4 (yI c)∧Fresh w.heap.size [(zf++G98)]∧St w w102 [rr a94 (vg+1) c95 22 1 (zN++[.slice a96 ((t.qE[c]!).length) c97]),.box b3 [.slice a4 (0+t.qB.length) c5,.slice a94 (vg+1) c95,.slice a6 t.qC.length c7] 38,rr a6 t.qC.length c7 2 1 (t.qC.map (Value.int .i64)),rr a4 (0+t.qB.length) c5 4 1 ((([]:List Bool)++t.qB).map (Value.bool)),.box b1 [yN,yN,yN] 38] [zk true (zf++G98) (zN++[.slice a96 ((t.qE[c]!).length) c97]) ((t.qE.take c)++[(t.qE[c]!)]),sF true G98 a96 c97 (t.qE[c]!),sF false F99 a100 c101 (t.qE[c]!),atF b91 (o92+(c:Int).toNat * 1) [.slice a100 ((t.qE[c]!).length) c101],atF bt ot [.slice qR t.qB.length qO,.slice (aa b91 o92) t.qE.length qZ,.slice qJ t.qC.length qI],sF false xJ qR qO t.qB,sF false zn (aa b91 o92) qZ t.qE,sF false xw qJ qI t.qC]) ?_ ?_
  ·skip
   refine yY rfl H [2,3,4] fun H=>?_
   have S:=H.jY [2,3,4] [0,1,2,3,4]
   refine tF 0 rfl rfl S ?_
   refine rtp 2 (pp bt ot) S ?_
   refine rtp 3 (pp bt ot) S ?_
   refine tF 4 rfl rfl S ?_
   refine tL 5 rfl rfl (fun _ h=>h.xR 1 rfl 1 rfl) S ?_
   refine rtp 6 (yI c) S ?_
   obtain ⟨ae104,ce104,Fe104,H⟩:=H.vH 3 rfl c c qf qf qf
   refine tI 7 rfl rfl rfl (H.pick [2,3,4] [2,3,4,5,6]) ?_
   refine vS [1,8] qh qm (jA rfl ?_ (jA rfl ?_ vT))
   ·skip
    refine zF (.slice jL vg jK) isAgg27 rfl (H.cell 1 rfl rfl) (⟨H.pick [2,3,4] [2,3,4,5,6],(ro 8 rfl (zF (.slice ae104 ((t.qE[c]!).length) ce104) isAgg22 rfl (H.xR 1 rfl 0 rfl) (⟨H.pick [2,3,4] [2,3,4,5,6],(ro 9 rfl ?_)⟩)))⟩)
    have sz105:=H.base.size
    have lt106:=H.ltN (L:=[zf]) [2]
    refine oc (Xg _ (t.qE[c]!) (H.get 0 rfl).1 qg) ?_
    rintro v110 w108 r110 x109
    replace H:=H.zC x109 r110
    obtain ⟨a111,c112,rfl,hc113,hm114⟩:=H.ji 0 rfl
    refine ⟨H.pick [3,4,5] [2,3,4,5,6],(ro 10 rfl (zI H underlying27 ti22 [.slice a111 ((t.qE[c]!).length) c112] fun b115 w116 H=>⟨H.pick [4,5,6] [2,3,4,5,6],(ro 11 rfl ?_)⟩))⟩
    obtain ⟨G120,N,hn121,H⟩:=H.vP 1 rfl N (H.yg [2])
    refine zO H 2 rfl 0 rfl underlying27 ti22 rfl qj rfl rfl rfl (by simp [Value.oneCell',Value.cells]) qp qf fun a117 c118 w119 H=>?_
    replace H:=H.yj 3 rfl 0 rfl
    replace N:Fresh w.heap.size [(zf++G120)]:=(N.pick [1,0]).join
    refine ⟨H.pick [4,5,6] [4,5,6,7,8],(tF 12 rfl rfl (H.pick [4,5,6] [4,5,6,7,8]) ?_)⟩
    refine ro 13 rfl (xP H 3 [.slice a4 (0+t.qB.length) c5,.slice a117 (vg+1) c118,.slice a6 t.qC.length c7] sizeOf27 fun w122 H=>⟨H.pick [4,5,6] [4,5,6,7,8],(xH qh ((meet ⟨_,a117,c118,a111,c112,G120,Fe104,ae104,ce104,uE4,N,H.pick [2,3,4,5,6] [0,1,2,3,5,6,7,8]⟩)))⟩)
   refine zF (.slice ae104 ((t.qE[c]!).length) ce104) isAgg22 rfl (H.xR 1 rfl 0 rfl) (⟨H.pick [2,3,4] [2,3,4,5,6],(vS [1,9] qh qm (jA rfl ?_ (jA rfl ?_ vT)))⟩)
   ·skip
    refine zF (.slice jL vg jK) isAgg27 rfl (H.cell 1 rfl rfl) (⟨H.pick [2,3,4] [2,3,4,5,6],(ro 9 rfl ?_)⟩)
    have sz123:=H.base.size
    have lt124:=H.ltN (L:=[zf]) [2]
    refine oc (Xg _ (t.qE[c]!) (H.get 0 rfl).1 qg) ?_
    rintro v128 w126 r128 x127
    replace H:=H.zC x127 r128
    obtain ⟨a129,c130,rfl,hc131,hm132⟩:=H.ji 0 rfl
    refine ⟨H.pick [3,4,5] [2,3,4,5,6],(ro 10 rfl (zI H underlying27 ti22 [.slice a129 ((t.qE[c]!).length) c130] fun b133 w134 H=>⟨H.pick [4,5,6] [2,3,4,5,6],(ro 11 rfl ?_)⟩))⟩
    obtain ⟨G138,N,hn139,H⟩:=H.vP 1 rfl N (H.yg [2])
    refine zO H 2 rfl 0 rfl underlying27 ti22 rfl qj rfl rfl rfl (by simp [Value.oneCell',Value.cells]) qp qf fun a135 c136 w137 H=>?_
    replace H:=H.yj 3 rfl 0 rfl
    replace N:Fresh w.heap.size [(zf++G138)]:=(N.pick [1,0]).join
    refine ⟨H.pick [4,5,6] [4,5,6,7,8],(tF 12 rfl rfl (H.pick [4,5,6] [4,5,6,7,8]) ?_)⟩
    refine ro 13 rfl (xP H 3 [.slice a4 (0+t.qB.length) c5,.slice a135 (vg+1) c136,.slice a6 t.qC.length c7] sizeOf27 fun w140 H=>⟨H.pick [4,5,6] [4,5,6,7,8],(xH qh ((meet ⟨_,a135,c136,a129,c130,G138,Fe104,ae104,ce104,uE4,N,H.pick [2,3,4,5,6] [0,1,2,3,5,6,7,8]⟩)))⟩)
   have sz141:=H.base.size
   have lt142:=H.ltN (L:=[zf]) [2]
   refine oc (Xg _ (t.qE[c]!) (H.get 0 rfl).1 qg) ?_
   rintro v146 w144 r146 x145
   replace H:=H.zC x145 r146
   obtain ⟨a147,c148,rfl,hc149,hm150⟩:=H.ji 0 rfl
   refine ⟨H.pick [3,4,5] [2,3,4,5,6],(vS [1,10] qh qm (jA rfl ?_ (jA rfl ?_ vT)))⟩
   ·skip
    refine zF (.slice jL vg jK) isAgg27 rfl (H.cell 2 rfl rfl) (⟨H.pick [3,4,5] [2,3,4,5,6],(ro 10 rfl (zI H underlying27 ti22 [.slice a147 ((t.qE[c]!).length) c148] fun b151 w152 H=>⟨H.pick [4,5,6] [2,3,4,5,6],(ro 11 rfl ?_)⟩))⟩)
    obtain ⟨G156,N,hn157,H⟩:=H.vP 1 rfl N (H.yg [2])
    refine zO H 2 rfl 0 rfl underlying27 ti22 rfl qj rfl rfl rfl (by simp [Value.oneCell',Value.cells]) qp qf fun a153 c154 w155 H=>?_
    replace H:=H.yj 3 rfl 0 rfl
    replace N:Fresh w.heap.size [(zf++G156)]:=(N.pick [1,0]).join
    refine ⟨H.pick [4,5,6] [4,5,6,7,8],(tF 12 rfl rfl (H.pick [4,5,6] [4,5,6,7,8]) ?_)⟩
    refine ro 13 rfl (xP H 3 [.slice a4 (0+t.qB.length) c5,.slice a153 (vg+1) c154,.slice a6 t.qC.length c7] sizeOf27 fun w158 H=>⟨H.pick [4,5,6] [4,5,6,7,8],(xH qh ((meet ⟨_,a153,c154,a147,c148,G156,Fe104,ae104,ce104,uE4,N,H.pick [2,3,4,5,6] [0,1,2,3,5,6,7,8]⟩)))⟩)
   refine zI H underlying27 ti22 [.slice a147 ((t.qE[c]!).length) c148] fun b159 w160 H=>⟨H.pick [4,5,6] [2,3,4,5,6],(ro 1 rfl (zF (.slice jL vg jK) isAgg27 rfl (H.cell 3 rfl rfl) (⟨H.pick [4,5,6] [2,3,4,5,6],(ro 11 rfl ?_)⟩)))⟩
   obtain ⟨G164,N,hn165,H⟩:=H.vP 1 rfl N (H.yg [2])
   refine zO H 2 rfl 0 rfl underlying27 ti22 rfl qj rfl rfl rfl (by simp [Value.oneCell',Value.cells]) qp qf fun a161 c162 w163 H=>?_
   replace H:=H.yj 3 rfl 0 rfl
   replace N:Fresh w.heap.size [(zf++G164)]:=(N.pick [1,0]).join
   refine ⟨H.pick [4,5,6] [4,5,6,7,8],(tF 12 rfl rfl (H.pick [4,5,6] [4,5,6,7,8]) ?_)⟩
   refine ro 13 rfl (xP H 3 [.slice a4 (0+t.qB.length) c5,.slice a161 (vg+1) c162,.slice a6 t.qC.length c7] sizeOf27 fun w166 H=>⟨H.pick [4,5,6] [4,5,6,7,8],(xH qh ((meet ⟨_,a161,c162,a147,c148,G164,Fe104,ae104,ce104,uE4,N,H.pick [2,3,4,5,6] [0,1,2,3,5,6,7,8]⟩)))⟩)
  clear H N
  rintro ρ w167 ⟨xN,a94,c95,a96,c97,G98,F99,a100,c101,rfl,N,H⟩
  refine b_n (t_n (xX (sp (yI c) (sw (zD c 1 rfl rfl qf (sp (yI (c+1)) (xY (xg (m' :=(t.qE.length - ((c+1):Int)).toNat) qf ⟨_,c+1,a94,vg+1,c95,((t.qE.take c)++[(t.qE[c]!)]),zN++[.slice a96 ((t.qE[c]!).length) c97],(zf++G98),uE4,?_,?_,rfl,N,H.pick [0,1,2,3,4] [0,4,5,6,7]⟩))))))))
  · exact take_snoc qf
  · omega
 refine zx4 (zcr (sw (zl [.slice a4 (0+t.qB.length) c5,.slice jL vg jK,.slice a6 t.qC.length c7] isAgg38 sizeOf38 rfl (qF (H.cells 1 rfl) 0 3) (sw (zy H 4 [.slice a4 (0+t.qB.length) c5,.slice jL vg jK,.slice a6 t.qC.length c7] sizeOf38 fun w168 H=>zjr (retC H 4 rfl rfl isAgg38 sizeOf38 rfl ⟨_,rfl,?_,H.base⟩))))))
 obtain rfl:c=t.qE.length:=by omega
 rw [List.take_length] at H
 exact ⟨a4,0+t.qB.length,c5,jL,vg,jK,zN,zf,a6,t.qC.length,c7,rfl,N,H.pick [3,0,2] [0]⟩
theorem isShell_ok (w:World) (s:qL) {qA:yOA} {qW:yLN} {qK:yOA} {xy:yLN} (xf:qP.rep w qW [.slice qA s.qw.length qy] s.qw) (xG:qP.rep w xy [.slice qK s.qx.length qH] s.qx):Calls Tryz.prog 138 #[.agg #[yI s.xB,.slice qA s.qw.length qy,.slice qK s.qx.length qH]] w (Ret (fun v w' =>v=.bool (dec (yO s))) w):=by
 refine en func138 ntmps138 ?_
 have H:=((St.start w).arg xG).arg xf
 have ve:=qN xf
 have jh:=qN xG
 clear xf xG
 have N:=Fresh.nil w.heap.size
 refine zcr (sw (vz H (yS s qA qy qK qH) fun b1 w2 H=>sp (.bool false) (zjcc (oF rfl (oL rfl (H.cell 0 rfl rfl) (sw (oq (VJ w2 s.xB 1 8) H fun w3 H=>sps [.bool (!(inR s.xB 1 8)),.bool (!(inR s.xB 1 8))] ?_)))))))
 cases h5:(!(inR s.xB 1 8))
 ·skip
  replace h5:=xk h5
  replace h5:=QY.1 h5
  refine qQ 9 rfl rfl (oF rfl (qQ 9 rfl rfl (oL rfl (H.cell 0 rfl rfl) (qQ 9 rfl rfl (sw (oq (sizeI_ok _ s.qw (H.get 0 rfl).1) H fun w6 H=>qQ 9 rfl rfl (sw (oq (VJ w6 (s.qw.length:Int) 1 6) H fun w8 H=>qQ 9 rfl rfl (sps [.bool (!(inR (s.qw.length:Int) 1 6)),.bool (!(inR (s.qw.length:Int) 1 6)),.bool (!(inR (s.qw.length:Int) 1 6))] ?_)))))))))
  cases h10:(!(inR (s.qw.length:Int) 1 6))
  ·skip
   replace h10:=xk h10
   replace h10:=QY.1 h10
   refine qQ 16 rfl rfl (oF rfl (qQ 16 rfl rfl (oL rfl (H.cell 0 rfl rfl) (qQ 16 rfl rfl ?_))))
   obtain ⟨b11,o12,rfl⟩:=H.addr 0 rfl qf
   refine oI rfl rfl (qQ 16 rfl rfl (oL rfl (H.jy 0 rfl 0 qf qf) (qQ 16 rfl rfl (sps [.bool ((s.qw[0]! :Int) != (-1)),.bool ((s.qw[0]! :Int) != (-1))] (zjn (xF ((s.qw[0]! :Int) != (-1)) rfl (fun h14=>?_) (fun h14=>?_)))))))
   ·skip
    replace h14:=bne_iff_ne.1 h14
    refine zcr (sp (.bool false) (zjr (t_r (ret1 (.bool false) rfl rfl ⟨_,rfl,?_,H.base⟩))))
    rw [xn (fun h=>by obtain ⟨h1,h2,h3,h4⟩:=h;first | omega | (have:=h4 (c+1) qf qf;rw [← dg qf] at this;omega))]
   replace h14:=xA h14
   refine qV (t_n (zcc (oF rfl (oL rfl (H.cell 0 rfl rfl) (sw (o_tail H 0 rfl 1 underlying22 ti2 rfl qf fun a15 G16 hG17 H=>?_))))))
   have hl18:(s.qw.drop 1).length=s.qw.length - 1:=List.length_drop
   refine oN rfl (sp (yI 0) (zjn (qY ?_)))
   refine zB (fun m' ρ w19=>∃ (xN:Env) (c:Nat),ρ=upd (upd (upd xN 25 (.slice a15 ((s.qw.drop 1).length) (qy - 1))) 26 (yI ((s.qw.drop 1).length))) 27 (yI c)∧((c:Int)≤((s.qw.drop 1).length))∧(FrameTo s (c+1))∧m' =(((s.qw.drop 1).length) - (c:Int)).toNat∧Fresh w.heap.size []∧St w w19 [.box b1 [yI s.xB,.slice (aa b11 o12) s.qw.length qy,.slice qK s.qx.length qH] 36] [sF false G16 a15 (qy - 1) (s.qw.drop 1),sF false qW (aa b11 o12) qy s.qw,sF false xy qK qH s.qx]) ((((s.qw.drop 1).length) - (0:Int)).toNat) ⟨_,0,uE3,qf,(by exact FrameTo.one s),rfl,N,H⟩ ?_
   clear H N
   rintro m' ρ w20 ⟨xN,c,rfl,i0,i1,rfl,N,H⟩
   have dg:=drop_get (l:=s.qw) (k:=c)
   refine zcr (sp (.bool (decide ((c:Int) < ((s.qw.drop 1).length)))) (zjn (xU (cD rfl (fun h21=>?_) (fun h21=>?_)))))
   ·skip
    refine qV (t_n (xU (qY (zcr (sp (yI c) ?_)))))
    obtain ⟨b22,o23,rfl⟩:=H.addr 0 rfl qf
    refine oI rfl rfl (oL rfl (H.jy 0 rfl c qf qf) (sps [yI c,yI ((s.qw.drop 1)[c]!)] (zjc (sps [yI ((s.qw.drop 1)[c]!),yI c] (sw (oq (VJ w20 ((s.qw.drop 1)[c]!) 0 c) H fun w25 H=>sp (.bool (!(inR ((s.qw.drop 1)[c]!) 0 c))) (zjn (xF (!(inR ((s.qw.drop 1)[c]!) 0 c)) rfl (fun h27=>?_) (fun h27=>?_)))))))))
    ·skip
     replace h27:=xq h27
     replace h27:=XB h27
     refine zcr (sp (.bool false) (zjr (zr5 (ret1 (.bool false) rfl rfl ⟨_,rfl,?_,H.base⟩))))
     rw [xn (fun h=>by obtain ⟨h1,h2,h3,h4⟩:=h;first | omega | (have:=h4 (c+1) qf qf;rw [← dg qf] at this;omega))]
    replace h27:=xk h27
    replace h27:=QY.1 h27
    refine qV (b_n (t_n (xX (sw (zD c 1 rfl rfl qf (sp (yI (c+1)) (xY (xg (m' :=(((s.qw.drop 1).length) - ((c+1):Int)).toNat) qf ⟨_,c+1,uE3,?_,?_,rfl,N,H⟩))))))))
    · omega
    · exact i1.succ (by rw [← dg qf];omega)
   refine zx4 (zcr (sp (.bool true) (zjr (ret1 (.bool true) rfl rfl ⟨_,rfl,?_,H.base⟩))))
   rw [jP ⟨by omega,by omega,by omega,(show s.qw.length=c+1 by omega)▸i1⟩]
  replace h10:=xq h10
  replace h10:=XB h10
  refine xZ [17,18,19,20,21] (sp (.bool true) (zjn (xF true rfl (fun _=>zcr (sp (.bool false) (zjr (t_r (ret1 (.bool false) rfl rfl ⟨_,rfl,?_,H.base⟩))))) (fun h=>absurd h qj))))
  rw [xn (fun h=>by obtain ⟨h1,h2,h3,h4⟩:=h;first | omega | (have:=h4 (c+1) qf qf;rw [← dg qf] at this;omega))]
 replace h5:=xq h5
 replace h5:=XB h5
 refine xZ [10,11,12,13,14] (sps [.bool true,.bool true] (xZ [17,18,19,20,21] (sp (.bool true) (zjn (xF true rfl (fun _=>zcr (sp (.bool false) (zjr (t_r (ret1 (.bool false) rfl rfl ⟨_,rfl,?_,H.base⟩))))) (fun h=>absurd h qj))))))
 rw [xn (fun h=>by obtain ⟨h1,h2,h3,h4⟩:=h;first | omega | (have:=h4 (c+1) qf qf;rw [← dg qf] at this;omega))]

theorem isCell_ok (w:World) (s:qL) (c:Int) {qA:yOA} {qW:yLN} {qK:yOA} {xy:yLN} (xf:qP.rep w qW [.slice qA s.qw.length qy] s.qw) (xG:qP.rep w xy [.slice qK s.qx.length qH] s.qx):Calls Tryz.prog 173 #[.agg #[yI s.xB,.slice qA s.qw.length qy,.slice qK s.qx.length qH],yI c] w (Ret (fun v w' =>v=.bool (inR c 0 ((s.qw.length:Int) - 1))) w):=by
 refine en func173 ntmps173 ?_
 have H:=((St.start w).arg xG).arg xf
 have ve:=qN xf
 have jh:=qN xG
 clear xf xG
 have N:=Fresh.nil w.heap.size
 refine zcr (sw (vz H (yS s qA qy qK qH) fun b1 w2 H=>sp (.bool false) (zjc (sp (yI c) (oF rfl (oL rfl (H.cell 0 rfl rfl) (sw (oq (sizeI_ok _ s.qw (H.get 0 rfl).1) H fun w3 H=>sw (o_sub (s.qw.length:Int) 1 rfl rfl qf (sw (oq (VJ w3 c 0 ((s.qw.length:Int) - 1)) H fun w5 H=>sp (.bool (inR c 0 ((s.qw.length:Int) - 1))) (zjr (ret1 (.bool (inR c 0 ((s.qw.length:Int) - 1))) rfl rfl ⟨_,rfl,?_,H.base⟩)))))))))))))
 rfl

theorem lies_ok (w:World) (s:qL) (c:Int) (within:Int) {qA:yOA} {qW:yLN} {qK:yOA} {xy:yLN} (xf:qP.rep w qW [.slice qA s.qw.length qy] s.qw) (xG:qP.rep w xy [.slice qK s.qx.length qH] s.qx) (p0:yO s) (p1:CellIn s c):Calls Tryz.prog 174 #[.agg #[yI s.xB,.slice qA s.qw.length qy,.slice qK s.qx.length qH],yI c,yI within] w (Ret (fun v w' =>v=.bool (dec (Lies s.qw within c))) w):=by
 refine en func174 ntmps174 ?_
 have H:=((St.start w).arg xG).arg xf
 have ve:=qN xf
 have jh:=qN xG
 clear xf xG
 have N:=Fresh.nil w.heap.size
 have p2:=p0.step p1.1 p1.2
 refine zcr (sw (vz H (yS s qA qy qK qH) fun b1 w2 H=>sp (.bool false) (zjcc (oF rfl (oL rfl (H.cell 0 rfl rfl) (sp (yI c) ?_))))))
 obtain ⟨b3,o4,rfl⟩:=H.addr 0 rfl qf
 refine oI rfl rfl (oL rfl (H.jy 0 rfl c qf qf) (sp (yI (s.qw[c.toNat]!)) (zjn (qY ?_))))
 refine zB (fun m' ρ w6=>∃ (xN:Env) (c_1:Int),ρ=upd (upd (upd xN 1 (yI c_1)) 2 (yI within)) 3 (pp b1 0)∧(-1≤c_1∧c_1≤(s.qw.length:Int) - 1)∧(Lies s.qw within c↔0≤c_1∧(c_1=within∨Lies s.qw within c_1))∧m' =(c_1+1).toNat∧Fresh w.heap.size []∧St w w6 [.box b1 [yI s.xB,.slice (aa b3 o4) s.qw.length qy,.slice qK s.qx.length qH] 36] [sF false qW (aa b3 o4) qy s.qw,sF false xy qK qH s.qx]) (((s.qw[c.toNat]!)+1).toNat) ⟨_,s.qw[c.toNat]!,uE3,qf,(by exact lies_up p0 p1),rfl,N,H⟩ ?_
 clear H N
 rintro m' ρ w7 ⟨xN,c_1,rfl,i0,i1,rfl,N,H⟩
 have up:=fun h=>p0.step (c:=c_1) h i0.2
 refine zcc (sps [yI c_1,.bool (decide ((c_1:Int)≥0))] (zjn (cD rfl (fun h8=>?_) (fun h8=>?_))))
 ·skip
  refine qV (t_n (xU (qY (zcr (sps [yI c_1,yI within,.bool ((c_1:Int) == within)] (zjn (cE rfl (fun h9=>?_) (fun h9=>?_))))))))
  ·skip
   refine zcr (sp (.bool true) (zjr (zr5 (ret1 (.bool true) rfl rfl ⟨_,rfl,?_,H.base⟩))))
   rw [jP (i1.2 ⟨by omega,.inl ‹_›⟩)]
  refine qV (b_n (t_n (xX (oF rfl (oL rfl (H.cell 0 rfl rfl) (sp (yI c_1) (oI rfl rfl (oL rfl (H.jy 0 rfl c_1 qf qf) (sp (yI (s.qw[c_1.toNat]!)) (xY ?_))))))))))
  have up1:=up qf
  refine xg (m' :=((s.qw[c_1.toNat]!)+1).toNat) qf ⟨_,s.qw[c_1.toNat]!,uE3,?_,?_,rfl,N,H⟩
  · omega
  · exact i1.trans ⟨fun h=>(lies_up p0 ⟨by omega,by omega⟩).1 (h.2.resolve_left ‹_›),fun h=>⟨by omega,.inr ((lies_up p0 ⟨by omega,by omega⟩).2 h)⟩⟩
 refine zx4 (zcr (sp (.bool false) (zjr (ret1 (.bool false) rfl rfl ⟨_,rfl,?_,H.base⟩))))
 rw [xn (fun h=>by have:=(i1.1 h).1;omega)]

theorem isRule_ok (w:World) (s:qL) (r:QF) {qA:yOA} {qW:yLN} {qK:yOA} {xy:yLN} {yB:yOA} {Vo:yLN} {yE:yOA} {Vr:yLN} {yC:yOA} {Vp:yLN} {yD:yOA} {Vq:yLN} {QO:yOA} {FrOut:yLN} {jW:yOA} {FrInto:yLN} (xf:qP.rep w qW [.slice qA s.qw.length qy] s.qw) (xG:qP.rep w xy [.slice qK s.qx.length qH] s.qx) (hrNeed:qP.rep w Vo [.slice yB r.xE.length yu] r.xE) (hrHave:qP.rep w Vr [.slice yE r.xM.length yz] r.xM) (hrLack:qP.rep w Vp [.slice yC r.xO.length yw] r.xO) (hrHere:qP.rep w Vq [.slice yD r.xW.length yx] r.xW) (hrOut:qP.rep w FrOut [.slice QO r.vC.length QN] r.vC) (hrInto:qP.rep w FrInto [.slice jW r.qU.length jT] r.qU) (p0:yO s):Calls Tryz.prog 139 #[.agg #[yI s.xB,.slice qA s.qw.length qy,.slice qK s.qx.length qH],.agg #[yI r.qG,yI r.zM,.slice yB r.xE.length yu,.slice yE r.xM.length yz,.slice yC r.xO.length yw,.slice yD r.xW.length yx,.slice QO r.vC.length QN,.slice jW r.qU.length jT,.bool r.zG]] w (Ret (fun v w' =>v=.bool (dec (RuleOk s r))) w):=by
 refine en func139 ntmps139 ?_
 have H:=((((((((St.start w).arg hrInto).arg hrOut).arg hrHere).arg hrLack).arg hrHave).arg hrNeed).arg xG).arg xf
 have ve:=qN xf
 have jh:=qN xG
 have nhrNeed:=qN hrNeed
 have nhrHave:=qN hrHave
 have nhrLack:=qN hrLack
 have nhrHere:=qN hrHere
 have nhrOut:=qN hrOut
 have nhrInto:=qN hrInto
 clear xf xG hrNeed hrHave hrLack hrHere hrOut hrInto
 have N:=Fresh.nil w.heap.size
 refine zcr (sw (vz H (yS s qA qy qK qH) fun b1 w2 H=>sw (vz H [yI r.qG,yI r.zM,.slice yB r.xE.length yu,.slice yE r.xM.length yz,.slice yC r.xO.length yw,.slice yD r.xW.length yx,.slice QO r.vC.length QN,.slice jW r.qU.length jT,.bool r.zG] fun b3 w4 H=>sp (.bool false) (zjcc ?_))))
 refine sw (zl (yS s qA qy qK qH) isAgg36 sizeOf36 rfl (qF (H.cells 1 rfl) 0 3) (oF rfl (oL rfl (H.cell 0 rfl rfl) (sw (oq (isCell_ok _ s r.qG (H.get 0 rfl).1 (H.get 1 rfl).1) H fun w6 H=>sps [.bool (!(inR r.qG 0 ((s.qw.length:Int) - 1))),.bool (!(inR r.qG 0 ((s.qw.length:Int) - 1)))] ?_)))))
 cases h8:(!(inR r.qG 0 ((s.qw.length:Int) - 1)))
 ·skip
  replace h8:=xk h8
  replace h8:=QY.1 h8
  refine qQ 14 rfl rfl (oF rfl (qQ 14 rfl rfl (oL rfl (H.cell 0 rfl rfl) (qQ 14 rfl rfl (sw (oq (VJ w6 r.zM 0 9) H fun w9 H=>qQ 14 rfl rfl (sps [.bool (!(inR r.zM 0 9)),.bool (!(inR r.zM 0 9)),.bool (!(inR r.zM 0 9))] ?_)))))))
  cases h11:(!(inR r.zM 0 9))
  ·skip
   replace h11:=xk h11
   replace h11:=QY.1 h11
   refine qQ 20 rfl rfl (oF rfl (qQ 20 rfl rfl (oL rfl (H.cell 0 rfl rfl) (qQ 20 rfl rfl (sp (.bool r.zG) ?_)))))
   cases h12:(r.zG)
   ·skip
    rw [h12] at H
    refine xZ [24,25,26] (qQ 20 rfl rfl (sps [.bool false,.bool false,.bool false] (qQ 29 rfl rfl (oF rfl (qQ 29 rfl rfl (oL rfl (H.cell 0 rfl rfl) (qQ 29 rfl rfl (oN rfl (qQ 29 rfl rfl (sps [.bool (decide ((r.qU.length:Int) > 3)),.bool (decide ((r.qU.length:Int) > 3))] (zjn (cD rfl (fun h13=>?_) (fun h13=>?_)))))))))))))
    ·skip
     refine zcr (sp (.bool false) (zjr (t_r (ret1 (.bool false) rfl rfl ⟨_,rfl,?_,H.base⟩))))
     rw [xn (fun h=>by obtain ⟨h1,h2,h3,h4,h5,h6,h7,h8,h9,h10,h11⟩:=h;first | contradiction | omega | exact h3 ⟨‹_›,‹_›⟩ | (obtain ⟨q1,q2,q3,q4,q5⟩:=h11 i qf;first | contradiction | omega | (have:=q5 qf;omega)) | (refine absurd ?_ ‹¬ zY _ _›;rcases (show k=0∨k=1∨k=2∨k=3∨k=4 by omega) with e | e | e | e | e <;> subst e <;> assumption))]
    refine qV (t_n (zcc (oF rfl (oL rfl (H.cell 0 rfl rfl) (oF rfl (oL rfl (H.cell 0 rfl rfl) (oF rfl (oL rfl (H.cell 0 rfl rfl) (oF rfl (oL rfl (H.cell 0 rfl rfl) (oF rfl (oL rfl (H.cell 0 rfl rfl) (sw (o_buildF H underlying27 ti22 [.slice yB r.xE.length yu,.slice yE r.xM.length yz,.slice yC r.xO.length yw,.slice yD r.xW.length yx,.slice QO r.vC.length QN] rfl (by simp [Value.cells]) rfl qj qj fun b14 w15 H=>oN rfl (sp (yI 0) (zjn (qY ?_)))))))))))))))))
    replace H:=H.boxRow 0 rfl 1 5 rfl qj
    replace H:=H.vN (α:=yLI)
    replace H:=H.Vt false 7 rfl 0 rfl qm
    replace H:=H.Vt false 7 rfl 0 rfl qm
    replace H:=H.Vt false 7 rfl 0 rfl qm
    replace H:=H.Vt false 7 rfl 0 rfl qm
    replace H:=H.Vt false 7 rfl 0 rfl qm
    refine zB (fun m' ρ w16=>∃ (xN:Env) (k:Nat),ρ=upd (upd (upd (upd (upd xN 2 (pp b1 0)) 3 (pp b3 0)) 45 (.slice (aa b14 0) 5 5)) 46 (yI 5)) 47 (yI k)∧((k:Int)≤5)∧(∀ j,j < k→zY s.xB ([r.xE,r.xM,r.xO,r.xW,r.vC][j]!))∧m' =(5 - (k:Int)).toNat∧Fresh w.heap.size []∧St w w16 [rr (aa b14 0) 5 5 22 1 [.slice yB r.xE.length yu,.slice yE r.xM.length yz,.slice yC r.xO.length yw,.slice yD r.xW.length yx,.slice QO r.vC.length QN],.box b3 [yI r.qG,yI r.zM,.slice yB r.xE.length yu,.slice yE r.xM.length yz,.slice yC r.xO.length yw,.slice yD r.xW.length yx,.slice QO r.vC.length QN,.slice jW r.qU.length jT,.bool false] 121,.box b1 (yS s qA qy qK qH) 36] [zk false (Vo++(Vr++(Vp++(Vq++(FrOut++[]))))) [.slice yB r.xE.length yu,.slice yE r.xM.length yz,.slice yC r.xO.length yw,.slice yD r.xW.length yx,.slice QO r.vC.length QN] [r.xE,r.xM,r.xO,r.xW,r.vC],sF false qW qA qy s.qw,sF false xy qK qH s.qx,sF false Vo yB yu r.xE,sF false Vr yE yz r.xM,sF false Vp yC yw r.xO,sF false Vq yD yx r.xW,sF false FrOut QO QN r.vC,sF false FrInto jW jT r.qU]) ((5 - (0:Int)).toNat) ⟨_,0,uE5,qf,(by intro j hj;omega),rfl,N,H.pick [0,1,2] [0,6,7,8,9,10,11,12,13]⟩ ?_
    clear H N
    rintro m' ρ w17 ⟨xN,k,rfl,i0,i1,rfl,N,H⟩
    refine zcr (sp (.bool (decide ((k:Int) < 5))) (zjn (xU (cD rfl (fun h18=>?_) (fun h18=>?_)))))
    ·skip
     refine qV (t_n (xU (qY (zcr (oI rfl rfl ?_)))))
     obtain ⟨a19,c20,G21,s22,h23,H⟩:=H.jO 0 rfl 0 rfl (iv:=k) k qf qf
     refine oL rfl (h23) (sp (.slice a19 (([r.xE,r.xM,r.xO,r.xW,r.vC][k]!).length) c20) (zjc (oF rfl (oL rfl (H.cell 2 rfl rfl) (sp (.slice a19 (([r.xE,r.xM,r.xO,r.xW,r.vC][k]!).length) c20) (sw (oq (Vy _ s.xB ([r.xE,r.xM,r.xO,r.xW,r.vC][k]!) (H.get 0 rfl).1) H fun w24 H=>sp (.bool (!(dec (zY s.xB ([r.xE,r.xM,r.xO,r.xW,r.vC][k]!))))) (zjn (cQ rfl (fun h26=>?_) (fun h26=>?_))))))))))
     ·skip
      refine zcr (sp (.bool false) (zjr (zr5 (ret1 (.bool false) rfl rfl ⟨_,rfl,?_,H.base⟩))))
      rw [xn (fun h=>by obtain ⟨h1,h2,h3,h4,h5,h6,h7,h8,h9,h10,h11⟩:=h;first | contradiction | omega | exact h3 ⟨‹_›,‹_›⟩ | (obtain ⟨q1,q2,q3,q4,q5⟩:=h11 i qf;first | contradiction | omega | (have:=q5 qf;omega)) | (refine absurd ?_ ‹¬ zY _ _›;rcases (show k=0∨k=1∨k=2∨k=3∨k=4 by omega) with e | e | e | e | e <;> subst e <;> assumption))]
     refine qV (b_n (t_n (xX (sw (zD k 1 rfl rfl qf (sp (yI (k+1)) (xY (xg (m' :=(5 - ((k+1):Int)).toNat) qf ⟨_,k+1,uE5,?_,?_,rfl,N,H.pick [0,1,2] [1,2,3,4,5,6,7,8,9]⟩))))))))
     · omega
     · intro j hj;by_cases e:j=k;(subst e;assumption);exact i1 j qf
    refine zx4 (zcc (oF rfl (oL rfl (H.cell 1 rfl rfl) (oN rfl (sp (yI 0) (zjn (qY ?_)))))))
    have n1:zY s.xB r.xE:=i1 0 qf
    have n2:zY s.xB r.xM:=i1 1 qf
    have n3:zY s.xB r.xO:=i1 2 qf
    have n4:zY s.xB r.xW:=i1 3 qf
    have n5:zY s.xB r.vC:=i1 4 qf
    refine zB (fun m' ρ w27=>∃ (xN:Env) (i:Nat),ρ=upd (upd (upd (upd (upd xN 2 (pp b1 0)) 3 (pp b3 0)) 58 (.slice jW r.qU.length jT)) 59 (yI r.qU.length)) 60 (yI i)∧((i:Int)≤r.qU.length)∧(IntosTo s r i)∧m' =(r.qU.length - (i:Int)).toNat∧Fresh w.heap.size []∧St w w27 [rr (aa b14 0) 5 5 22 1 [.slice yB r.xE.length yu,.slice yE r.xM.length yz,.slice yC r.xO.length yw,.slice yD r.xW.length yx,.slice QO r.vC.length QN],.box b3 [yI r.qG,yI r.zM,.slice yB r.xE.length yu,.slice yE r.xM.length yz,.slice yC r.xO.length yw,.slice yD r.xW.length yx,.slice QO r.vC.length QN,.slice jW r.qU.length jT,.bool false] 121,.box b1 (yS s qA qy qK qH) 36] [zk false (Vo++(Vr++(Vp++(Vq++(FrOut++[]))))) [.slice yB r.xE.length yu,.slice yE r.xM.length yz,.slice yC r.xO.length yw,.slice yD r.xW.length yx,.slice QO r.vC.length QN] [r.xE,r.xM,r.xO,r.xW,r.vC],sF false qW qA qy s.qw,sF false xy qK qH s.qx,sF false Vo yB yu r.xE,sF false Vr yE yz r.xM,sF false Vp yC yw r.xO,sF false Vq yD yx r.xW,sF false FrOut QO QN r.vC,sF false FrInto jW jT r.qU]) ((r.qU.length - (0:Int)).toNat) ⟨_,0,uE5,qf,(by exact fun j hj=>by omega),rfl,N,H⟩ ?_
    clear H N
    rintro m' ρ w28 ⟨xN,i,rfl,i0,i2,rfl,N,H⟩
    refine zcr (sp (.bool (decide ((i:Int) < r.qU.length))) (zjn (xU (cD rfl (fun h29=>?_) (fun h29=>?_)))))
    ·skip
     refine qV (t_n (xU (qY (zcr (sp (yI i) ?_)))))
     obtain ⟨b30,o31,rfl⟩:=H.addr 8 rfl qf
     obtain ⟨ae33Bag,ce33Bag,Fe33Bag,H⟩:=H.jJ 8 rfl i i qf qf qf
     refine oI rfl rfl (sw (zl [yI ((r.qU[i]!).qG),.slice ae33Bag (((r.qU[i]!).jE).length) ce33Bag] isAgg164 sizeOf164 rfl (qF (H.get 1 rfl) 0 2) (sw (xI H ti164 [yI 0,yN] fun b34 w35 H=>sp (yI i) (sw (zy H 0 [yI ((r.qU[i]!).qG),.slice ae33Bag (((r.qU[i]!).jE).length) ce33Bag] sizeOf164 fun w36 H=>zjn (xU ?_)))))))
     refine ja rfl H fun H=>rt 0 (.agg #[yI s.xB,.slice qA s.qw.length qy,.slice qK s.qx.length qH]) (Qk (cs:=(yS s qA qy qK qH)) isAgg36 sizeOf36 rfl (fun _ h=>qF (h.cells 3 rfl) 0 3)) H ?_
     refine tF 1 rfl rfl H ?_
     refine tL 2 rfl rfl (fun _ h=>h.cell 0 rfl rfl) H ?_
     refine ro 3 rfl (oq (isCell_ok _ s ((r.qU[i]!).qG) (H.get 3 rfl).1 (H.get 4 rfl).1) H fun w39 H=>⟨H,(rtp 4 (.bool (!(inR ((r.qU[i]!).qG) 0 ((s.qw.length:Int) - 1)))) H ?_)⟩)
     refine rtp 5 (.bool (!(inR ((r.qU[i]!).qG) 0 ((s.qw.length:Int) - 1)))) H ?_
     cases h41:(!(inR ((r.qU[i]!).qG) 0 ((s.qw.length:Int) - 1)))
     ·skip
      replace h41:=xk h41
      replace h41:=QY.1 h41
      refine rg 6 (.agg #[yI s.xB,.slice qA s.qw.length qy,.slice qK s.qx.length qH]) 70 (Qk (cs:=(yS s qA qy qK qH)) isAgg36 sizeOf36 rfl (fun _ h=>qF (h.cells 3 rfl) 0 3)) H ?_
      refine gF 7 rfl rfl H ?_
      refine gL 8 rfl rfl (fun _ h=>h.cell 0 rfl rfl) H ?_
      refine gF 9 rfl rfl H ?_
      refine gL 10 rfl rfl (fun _ h=>h.cell 2 rfl rfl) H ?_
      refine vS [11] qh qm (r_opG rfl (e:=70) rfl rfl (oq (lies_ok _ s ((r.qU[i]!).qG) r.qG (H.get 3 rfl).1 (H.get 4 rfl).1 qg qg) H fun w43 H=>⟨H,(rgp 12 (.bool (!(dec (Lies s.qw r.qG ((r.qU[i]!).qG))))) 70 H ?_)⟩) vT)
      refine rtp 13 (.bool (!(dec (Lies s.qw r.qG ((r.qU[i]!).qG))))) H ?_
      refine rtp 14 (.bool (!(dec (Lies s.qw r.qG ((r.qU[i]!).qG))))) H ?_
      cases h45:(!(dec (Lies s.qw r.qG ((r.qU[i]!).qG))))
      ·skip
       replace h45:=xk h45
       replace h45:=Qb h45
       refine gF 15 rfl rfl H ?_
       refine gL 16 rfl rfl (fun _ h=>h.cell 3 rfl rfl) H ?_
       refine gF 17 rfl rfl H ?_
       refine gL 18 rfl rfl (fun _ h=>h.cell 0 rfl rfl) H ?_
       refine vS [19] qh qm (r_opG rfl (e:=79) rfl rfl (oq (Vy _ s.xB ((r.qU[i]!).jE) (H.get 0 rfl).1) H fun w46 H=>⟨H,(rgp 20 (.bool (!(dec (zY s.xB ((r.qU[i]!).jE))))) 79 H ?_)⟩) vT)
       refine rtp 21 (.bool (!(dec (zY s.xB ((r.qU[i]!).jE))))) H ?_
       refine rtp 22 (.bool (!(dec (zY s.xB ((r.qU[i]!).jE))))) H ?_
       cases h48:(!(dec (zY s.xB ((r.qU[i]!).jE))))
       ·skip
        replace h48:=xk h48
        replace h48:=Qb h48
        refine gF 23 rfl rfl H ?_
        refine gL 24 rfl rfl (fun _ h=>h.cell 0 rfl rfl) H ?_
        refine vS [25] qh qm (r_opG rfl (e:=87) rfl rfl ?_ vT)
        have sm:Small ((r.qU[i]!).jE):=vF (by first | assumption | exact i1 0 qf)
        refine oq (XT _ ((r.qU[i]!).jE) (H.get 0 rfl).1 (by first | assumption | exact vF ql | exact yV ql)) H fun w49 H=>⟨H,(rgp 26 (.bool ((X0 ((r.qU[i]!).jE):Int) == 0)) 87 H ?_)⟩
        refine rtp 27 (.bool ((X0 ((r.qU[i]!).jE):Int) == 0)) H ?_
        refine rtp 28 (.bool ((X0 ((r.qU[i]!).jE):Int) == 0)) H ?_
        cases h51:((X0 ((r.qU[i]!).jE):Int) == 0)
        ·skip
         replace h51:=ne_of_beq_false h51
         refine rgp 29 (yI i) 93 H ?_
         refine rgp 30 (.bool (decide ((i:Int) > 0))) 93 H ?_
         refine rgp 31 (.bool (decide ((i:Int) > 0))) 93 H ?_
         cases h52:(decide ((i:Int) > 0))
         ·skip
          replace h52:=of_decide_eq_false h52
          refine zS [32,33,34,35,36,37,38,39,40,41] 10 (H) (rgp 42 (.bool false) 93 H ?_)
          refine rtp 43 (.bool false) H ?_
          refine xH qh (t_n (xF false rfl (fun h=>absurd h qj) (fun _=>qV (b_n (t_n (xX (sw (zD i 1 rfl rfl qf (sp (yI (i+1)) (xY (xg (m' :=(r.qU.length - ((i+1):Int)).toNat) qf ⟨_,i+1,uE5,?_,?_,rfl,N,H.pick [1,2,3] [2,3,4,5,6,7,8,9,10]⟩)))))))))))
          · omega
          · exact i2.succ ⟨‹_›,‹_›,‹_›,‹_›,fun hk=>by omega⟩
         replace h52:=of_decide_eq_true h52
         refine gF 32 rfl rfl H ?_
         refine gL 33 rfl rfl (fun _ h=>h.cell 0 rfl rfl) H ?_
         refine gF 34 rfl rfl H ?_
         refine gL 35 rfl rfl (fun _ h=>h.cell 2 rfl rfl) H ?_
         refine rgp 36 (yI i) 96 H ?_
         refine rg 37 (yI (i - 1)) 96 (y_sub i 1 rfl rfl qf) H ?_
         obtain ⟨ae53Bag,ce53Bag,Fe53Bag,H⟩:=H.jJ 10 rfl (i - 1) (i - 1) qf qf qf
         have S:=H.jY [0,1,2,3] [2,3,4,5,6,7,8,9,10,11,12]
         refine gI 38 rfl rfl rfl S ?_
         refine gF 39 rfl rfl S ?_
         refine vS [40] qh qm (r_opG rfl (e:=96) rfl rfl (zF (yI ((r.qU[i - 1]!).qG)) isAgg2 rfl (H.xR 1 rfl 0 rfl) (⟨H.pick [0,1,2,3] [2,3,4,5,6,7,8,9,10,11,12],?_⟩)) vT)
         have S:=H.jY [0,1,2,3] [2,3,4,5,6,7,8,9,10,11,12]
         refine rgp 41 (.bool (decide (((r.qU[i]!).qG:Int)≤((r.qU[i - 1]!).qG)))) 96 S ?_
         refine rgp 42 (.bool (decide (((r.qU[i]!).qG:Int)≤((r.qU[i - 1]!).qG)))) 93 S ?_
         refine rtp 43 (.bool (decide (((r.qU[i]!).qG:Int)≤((r.qU[i - 1]!).qG)))) S ?_
         refine xH qh (t_n (cD rfl (fun h54=>?_) (fun h54=>?_)))
         ·skip
          refine zcr (sp (.bool false) (zjr (zr5 (ret1 (.bool false) rfl rfl ⟨_,rfl,?_,H.base⟩))))
          rw [xn (fun h=>by obtain ⟨h1,h2,h3,h4,h5,h6,h7,h8,h9,h10,h11⟩:=h;first | contradiction | omega | exact h3 ⟨‹_›,‹_›⟩ | (obtain ⟨q1,q2,q3,q4,q5⟩:=h11 i qf;first | contradiction | omega | (have:=q5 qf;omega)) | (refine absurd ?_ ‹¬ zY _ _›;rcases (show k=0∨k=1∨k=2∨k=3∨k=4 by omega) with e | e | e | e | e <;> subst e <;> assumption))]
         refine qV (b_n (t_n (xX (sw (zD i 1 rfl rfl qf (sp (yI (i+1)) (xY (xg (m' :=(r.qU.length - ((i+1):Int)).toNat) qf ⟨_,i+1,uE5,?_,?_,rfl,N,H.pick [1,2,3] [4,5,6,7,8,9,10,11,12]⟩))))))))
         · omega
         · exact i2.succ ⟨‹_›,‹_›,‹_›,‹_›,fun hk=>by omega⟩
        replace h51:=eq_of_beq h51
        refine zS [29,30,31,32,33,34,35,36,37,38,39,40,41,42] 14 (H) (rtp 43 (.bool true) H ?_)
        refine xH qh (t_n (xF true rfl (fun _=>zcr (sp (.bool false) (zjr (zr5 (ret1 (.bool false) rfl rfl ⟨_,rfl,?_,H.base⟩))))) (fun h=>absurd h qj)))
        rw [xn (fun h=>by obtain ⟨h1,h2,h3,h4,h5,h6,h7,h8,h9,h10,h11⟩:=h;first | contradiction | omega | exact h3 ⟨‹_›,‹_›⟩ | (obtain ⟨q1,q2,q3,q4,q5⟩:=h11 i qf;first | contradiction | omega | (have:=q5 qf;omega)) | (refine absurd ?_ ‹¬ zY _ _›;rcases (show k=0∨k=1∨k=2∨k=3∨k=4 by omega) with e | e | e | e | e <;> subst e <;> assumption))]
       replace h48:=xq h48
       replace h48:=zV h48
       refine zS [23,24,25,26] 4 (H) (rtp 27 (.bool true) H ?_)
       refine rtp 28 (.bool true) H ?_
       refine zS [29,30,31,32,33,34,35,36,37,38,39,40,41,42] 14 (H) (rtp 43 (.bool true) H ?_)
       refine xH qh (t_n (xF true rfl (fun _=>zcr (sp (.bool false) (zjr (zr5 (ret1 (.bool false) rfl rfl ⟨_,rfl,?_,H.base⟩))))) (fun h=>absurd h qj)))
       rw [xn (fun h=>by obtain ⟨h1,h2,h3,h4,h5,h6,h7,h8,h9,h10,h11⟩:=h;first | contradiction | omega | exact h3 ⟨‹_›,‹_›⟩ | (obtain ⟨q1,q2,q3,q4,q5⟩:=h11 i qf;first | contradiction | omega | (have:=q5 qf;omega)) | (refine absurd ?_ ‹¬ zY _ _›;rcases (show k=0∨k=1∨k=2∨k=3∨k=4 by omega) with e | e | e | e | e <;> subst e <;> assumption))]
      replace h45:=xq h45
      replace h45:=zV h45
      refine zS [15,16,17,18,19,20] 6 (H) (rtp 21 (.bool true) H ?_)
      refine rtp 22 (.bool true) H ?_
      refine zS [23,24,25,26] 4 (H) (rtp 27 (.bool true) H ?_)
      refine rtp 28 (.bool true) H ?_
      refine zS [29,30,31,32,33,34,35,36,37,38,39,40,41,42] 14 (H) (rtp 43 (.bool true) H ?_)
      refine xH qh (t_n (xF true rfl (fun _=>zcr (sp (.bool false) (zjr (zr5 (ret1 (.bool false) rfl rfl ⟨_,rfl,?_,H.base⟩))))) (fun h=>absurd h qj)))
      rw [xn (fun h=>by obtain ⟨h1,h2,h3,h4,h5,h6,h7,h8,h9,h10,h11⟩:=h;first | contradiction | omega | exact h3 ⟨‹_›,‹_›⟩ | (obtain ⟨q1,q2,q3,q4,q5⟩:=h11 i qf;first | contradiction | omega | (have:=q5 qf;omega)) | (refine absurd ?_ ‹¬ zY _ _›;rcases (show k=0∨k=1∨k=2∨k=3∨k=4 by omega) with e | e | e | e | e <;> subst e <;> assumption))]
     replace h41:=xq h41
     replace h41:=XB h41
     refine zS [6,7,8,9,10,11,12] 7 (H) (rtp 13 (.bool true) H ?_)
     refine rtp 14 (.bool true) H ?_
     refine zS [15,16,17,18,19,20] 6 (H) (rtp 21 (.bool true) H ?_)
     refine rtp 22 (.bool true) H ?_
     refine zS [23,24,25,26] 4 (H) (rtp 27 (.bool true) H ?_)
     refine rtp 28 (.bool true) H ?_
     refine zS [29,30,31,32,33,34,35,36,37,38,39,40,41,42] 14 (H) (rtp 43 (.bool true) H ?_)
     refine xH qh (t_n (xF true rfl (fun _=>zcr (sp (.bool false) (zjr (zr5 (ret1 (.bool false) rfl rfl ⟨_,rfl,?_,H.base⟩))))) (fun h=>absurd h qj)))
     rw [xn (fun h=>by obtain ⟨h1,h2,h3,h4,h5,h6,h7,h8,h9,h10,h11⟩:=h;first | contradiction | omega | exact h3 ⟨‹_›,‹_›⟩ | (obtain ⟨q1,q2,q3,q4,q5⟩:=h11 i qf;first | contradiction | omega | (have:=q5 qf;omega)) | (refine absurd ?_ ‹¬ zY _ _›;rcases (show k=0∨k=1∨k=2∨k=3∨k=4 by omega) with e | e | e | e | e <;> subst e <;> assumption))]
    refine zx4 (zcr (oF rfl (oL rfl (H.cell 1 rfl rfl) ?_)))
    have sm:Small r.xE:=vF (by first | assumption | exact i1 0 qf)
    refine sw (oq (XT _ r.xE (H.get 3 rfl).1 (by first | assumption | exact vF ql | exact yV ql)) H fun w55 H=>sps [.bool (decide ((X0 r.xE:Int) > 0)),.bool (decide ((X0 r.xE:Int) > 0))] (zjr (ret1 (.bool (decide ((X0 r.xE:Int) > 0))) rfl rfl ⟨_,rfl,(congrArg Value.bool (dec_eq ?_)),H.base⟩)))
    rw [decide_eq_true_iff]
    exact ⟨fun h=>⟨by omega,by omega,by simp_all,by omega,n1,n2,n3,n4,n5,by omega,(show i=r.qU.length by omega)▸i2⟩,fun h=>by have:=h.2.2.2.2.2.2.2.2.2.1;have:=sum_nonneg n1.1;omega⟩
   rw [h12] at H
   refine qQ 23 rfl rfl (oF rfl (qQ 23 rfl rfl (oL rfl (H.cell 0 rfl rfl) (qQ 23 rfl rfl (sp (.bool ((r.qG:Int) == 0)) (qQ 20 rfl rfl (sps [.bool ((r.qG:Int) == 0),.bool ((r.qG:Int) == 0),.bool ((r.qG:Int) == 0)] ?_)))))))
   cases h57:((r.qG:Int) == 0)
   ·skip
    replace h57:=ne_of_beq_false h57
    refine qQ 29 rfl rfl (oF rfl (qQ 29 rfl rfl (oL rfl (H.cell 0 rfl rfl) (qQ 29 rfl rfl (oN rfl (qQ 29 rfl rfl (sps [.bool (decide ((r.qU.length:Int) > 3)),.bool (decide ((r.qU.length:Int) > 3))] (zjn (cD rfl (fun h58=>?_) (fun h58=>?_))))))))))
    ·skip
     refine zcr (sp (.bool false) (zjr (t_r (ret1 (.bool false) rfl rfl ⟨_,rfl,?_,H.base⟩))))
     rw [xn (fun h=>by obtain ⟨h1,h2,h3,h4,h5,h6,h7,h8,h9,h10,h11⟩:=h;first | contradiction | omega | exact h3 ⟨‹_›,‹_›⟩ | (obtain ⟨q1,q2,q3,q4,q5⟩:=h11 i qf;first | contradiction | omega | (have:=q5 qf;omega)) | (refine absurd ?_ ‹¬ zY _ _›;rcases (show k=0∨k=1∨k=2∨k=3∨k=4 by omega) with e | e | e | e | e <;> subst e <;> assumption))]
    refine qV (t_n (zcc (oF rfl (oL rfl (H.cell 0 rfl rfl) (oF rfl (oL rfl (H.cell 0 rfl rfl) (oF rfl (oL rfl (H.cell 0 rfl rfl) (oF rfl (oL rfl (H.cell 0 rfl rfl) (oF rfl (oL rfl (H.cell 0 rfl rfl) (sw (o_buildF H underlying27 ti22 [.slice yB r.xE.length yu,.slice yE r.xM.length yz,.slice yC r.xO.length yw,.slice yD r.xW.length yx,.slice QO r.vC.length QN] rfl (by simp [Value.cells]) rfl qj qj fun b59 w60 H=>oN rfl (sp (yI 0) (zjn (qY ?_)))))))))))))))))
    replace H:=H.boxRow 0 rfl 1 5 rfl qj
    replace H:=H.vN (α:=yLI)
    replace H:=H.Vt false 7 rfl 0 rfl qm
    replace H:=H.Vt false 7 rfl 0 rfl qm
    replace H:=H.Vt false 7 rfl 0 rfl qm
    replace H:=H.Vt false 7 rfl 0 rfl qm
    replace H:=H.Vt false 7 rfl 0 rfl qm
    refine zB (fun m' ρ w61=>∃ (xN:Env) (k:Nat),ρ=upd (upd (upd (upd (upd xN 2 (pp b1 0)) 3 (pp b3 0)) 45 (.slice (aa b59 0) 5 5)) 46 (yI 5)) 47 (yI k)∧((k:Int)≤5)∧(∀ j,j < k→zY s.xB ([r.xE,r.xM,r.xO,r.xW,r.vC][j]!))∧m' =(5 - (k:Int)).toNat∧Fresh w.heap.size []∧St w w61 [rr (aa b59 0) 5 5 22 1 [.slice yB r.xE.length yu,.slice yE r.xM.length yz,.slice yC r.xO.length yw,.slice yD r.xW.length yx,.slice QO r.vC.length QN],.box b3 [yI r.qG,yI r.zM,.slice yB r.xE.length yu,.slice yE r.xM.length yz,.slice yC r.xO.length yw,.slice yD r.xW.length yx,.slice QO r.vC.length QN,.slice jW r.qU.length jT,.bool true] 121,.box b1 (yS s qA qy qK qH) 36] [zk false (Vo++(Vr++(Vp++(Vq++(FrOut++[]))))) [.slice yB r.xE.length yu,.slice yE r.xM.length yz,.slice yC r.xO.length yw,.slice yD r.xW.length yx,.slice QO r.vC.length QN] [r.xE,r.xM,r.xO,r.xW,r.vC],sF false qW qA qy s.qw,sF false xy qK qH s.qx,sF false Vo yB yu r.xE,sF false Vr yE yz r.xM,sF false Vp yC yw r.xO,sF false Vq yD yx r.xW,sF false FrOut QO QN r.vC,sF false FrInto jW jT r.qU]) ((5 - (0:Int)).toNat) ⟨_,0,uE5,qf,(by intro j hj;omega),rfl,N,H.pick [0,1,2] [0,6,7,8,9,10,11,12,13]⟩ ?_
    clear H N
    rintro m' ρ w62 ⟨xN,k,rfl,i0,i1,rfl,N,H⟩
    refine zcr (sp (.bool (decide ((k:Int) < 5))) (zjn (xU (cD rfl (fun h63=>?_) (fun h63=>?_)))))
    ·skip
     refine qV (t_n (xU (qY (zcr (oI rfl rfl ?_)))))
     obtain ⟨a64,c65,G66,s67,h68,H⟩:=H.jO 0 rfl 0 rfl (iv:=k) k qf qf
     refine oL rfl (h68) (sp (.slice a64 (([r.xE,r.xM,r.xO,r.xW,r.vC][k]!).length) c65) (zjc (oF rfl (oL rfl (H.cell 2 rfl rfl) (sp (.slice a64 (([r.xE,r.xM,r.xO,r.xW,r.vC][k]!).length) c65) (sw (oq (Vy _ s.xB ([r.xE,r.xM,r.xO,r.xW,r.vC][k]!) (H.get 0 rfl).1) H fun w69 H=>sp (.bool (!(dec (zY s.xB ([r.xE,r.xM,r.xO,r.xW,r.vC][k]!))))) (zjn (cQ rfl (fun h71=>?_) (fun h71=>?_))))))))))
     ·skip
      refine zcr (sp (.bool false) (zjr (zr5 (ret1 (.bool false) rfl rfl ⟨_,rfl,?_,H.base⟩))))
      rw [xn (fun h=>by obtain ⟨h1,h2,h3,h4,h5,h6,h7,h8,h9,h10,h11⟩:=h;first | contradiction | omega | exact h3 ⟨‹_›,‹_›⟩ | (obtain ⟨q1,q2,q3,q4,q5⟩:=h11 i qf;first | contradiction | omega | (have:=q5 qf;omega)) | (refine absurd ?_ ‹¬ zY _ _›;rcases (show k=0∨k=1∨k=2∨k=3∨k=4 by omega) with e | e | e | e | e <;> subst e <;> assumption))]
     refine qV (b_n (t_n (xX (sw (zD k 1 rfl rfl qf (sp (yI (k+1)) (xY (xg (m' :=(5 - ((k+1):Int)).toNat) qf ⟨_,k+1,uE5,?_,?_,rfl,N,H.pick [0,1,2] [1,2,3,4,5,6,7,8,9]⟩))))))))
     · omega
     · intro j hj;by_cases e:j=k;(subst e;assumption);exact i1 j qf
    refine zx4 (zcc (oF rfl (oL rfl (H.cell 1 rfl rfl) (oN rfl (sp (yI 0) (zjn (qY ?_)))))))
    have n1:zY s.xB r.xE:=i1 0 qf
    have n2:zY s.xB r.xM:=i1 1 qf
    have n3:zY s.xB r.xO:=i1 2 qf
    have n4:zY s.xB r.xW:=i1 3 qf
    have n5:zY s.xB r.vC:=i1 4 qf
    refine zB (fun m' ρ w72=>∃ (xN:Env) (i:Nat),ρ=upd (upd (upd (upd (upd xN 2 (pp b1 0)) 3 (pp b3 0)) 58 (.slice jW r.qU.length jT)) 59 (yI r.qU.length)) 60 (yI i)∧((i:Int)≤r.qU.length)∧(IntosTo s r i)∧m' =(r.qU.length - (i:Int)).toNat∧Fresh w.heap.size []∧St w w72 [rr (aa b59 0) 5 5 22 1 [.slice yB r.xE.length yu,.slice yE r.xM.length yz,.slice yC r.xO.length yw,.slice yD r.xW.length yx,.slice QO r.vC.length QN],.box b3 [yI r.qG,yI r.zM,.slice yB r.xE.length yu,.slice yE r.xM.length yz,.slice yC r.xO.length yw,.slice yD r.xW.length yx,.slice QO r.vC.length QN,.slice jW r.qU.length jT,.bool true] 121,.box b1 (yS s qA qy qK qH) 36] [zk false (Vo++(Vr++(Vp++(Vq++(FrOut++[]))))) [.slice yB r.xE.length yu,.slice yE r.xM.length yz,.slice yC r.xO.length yw,.slice yD r.xW.length yx,.slice QO r.vC.length QN] [r.xE,r.xM,r.xO,r.xW,r.vC],sF false qW qA qy s.qw,sF false xy qK qH s.qx,sF false Vo yB yu r.xE,sF false Vr yE yz r.xM,sF false Vp yC yw r.xO,sF false Vq yD yx r.xW,sF false FrOut QO QN r.vC,sF false FrInto jW jT r.qU]) ((r.qU.length - (0:Int)).toNat) ⟨_,0,uE5,qf,(by exact fun j hj=>by omega),rfl,N,H⟩ ?_
    clear H N
    rintro m' ρ w73 ⟨xN,i,rfl,i0,i2,rfl,N,H⟩
    refine zcr (sp (.bool (decide ((i:Int) < r.qU.length))) (zjn (xU (cD rfl (fun h74=>?_) (fun h74=>?_)))))
    ·skip
     refine qV (t_n (xU (qY (zcr (sp (yI i) ?_)))))
     obtain ⟨b75,o76,rfl⟩:=H.addr 8 rfl qf
     obtain ⟨ae78Bag,ce78Bag,Fe78Bag,H⟩:=H.jJ 8 rfl i i qf qf qf
     refine oI rfl rfl (sw (zl [yI ((r.qU[i]!).qG),.slice ae78Bag (((r.qU[i]!).jE).length) ce78Bag] isAgg164 sizeOf164 rfl (qF (H.get 1 rfl) 0 2) (sw (xI H ti164 [yI 0,yN] fun b79 w80 H=>sp (yI i) (sw (zy H 0 [yI ((r.qU[i]!).qG),.slice ae78Bag (((r.qU[i]!).jE).length) ce78Bag] sizeOf164 fun w81 H=>zjn (xU ?_)))))))
     refine ja rfl H fun H=>rt 0 (.agg #[yI s.xB,.slice qA s.qw.length qy,.slice qK s.qx.length qH]) (Qk (cs:=(yS s qA qy qK qH)) isAgg36 sizeOf36 rfl (fun _ h=>qF (h.cells 3 rfl) 0 3)) H ?_
     refine tF 1 rfl rfl H ?_
     refine tL 2 rfl rfl (fun _ h=>h.cell 0 rfl rfl) H ?_
     refine ro 3 rfl (oq (isCell_ok _ s ((r.qU[i]!).qG) (H.get 3 rfl).1 (H.get 4 rfl).1) H fun w84 H=>⟨H,(rtp 4 (.bool (!(inR ((r.qU[i]!).qG) 0 ((s.qw.length:Int) - 1)))) H ?_)⟩)
     refine rtp 5 (.bool (!(inR ((r.qU[i]!).qG) 0 ((s.qw.length:Int) - 1)))) H ?_
     cases h86:(!(inR ((r.qU[i]!).qG) 0 ((s.qw.length:Int) - 1)))
     ·skip
      replace h86:=xk h86
      replace h86:=QY.1 h86
      refine rg 6 (.agg #[yI s.xB,.slice qA s.qw.length qy,.slice qK s.qx.length qH]) 70 (Qk (cs:=(yS s qA qy qK qH)) isAgg36 sizeOf36 rfl (fun _ h=>qF (h.cells 3 rfl) 0 3)) H ?_
      refine gF 7 rfl rfl H ?_
      refine gL 8 rfl rfl (fun _ h=>h.cell 0 rfl rfl) H ?_
      refine gF 9 rfl rfl H ?_
      refine gL 10 rfl rfl (fun _ h=>h.cell 2 rfl rfl) H ?_
      refine vS [11] qh qm (r_opG rfl (e:=70) rfl rfl (oq (lies_ok _ s ((r.qU[i]!).qG) r.qG (H.get 3 rfl).1 (H.get 4 rfl).1 qg qg) H fun w88 H=>⟨H,(rgp 12 (.bool (!(dec (Lies s.qw r.qG ((r.qU[i]!).qG))))) 70 H ?_)⟩) vT)
      refine rtp 13 (.bool (!(dec (Lies s.qw r.qG ((r.qU[i]!).qG))))) H ?_
      refine rtp 14 (.bool (!(dec (Lies s.qw r.qG ((r.qU[i]!).qG))))) H ?_
      cases h90:(!(dec (Lies s.qw r.qG ((r.qU[i]!).qG))))
      ·skip
       replace h90:=xk h90
       replace h90:=Qb h90
       refine gF 15 rfl rfl H ?_
       refine gL 16 rfl rfl (fun _ h=>h.cell 3 rfl rfl) H ?_
       refine gF 17 rfl rfl H ?_
       refine gL 18 rfl rfl (fun _ h=>h.cell 0 rfl rfl) H ?_
       refine vS [19] qh qm (r_opG rfl (e:=79) rfl rfl (oq (Vy _ s.xB ((r.qU[i]!).jE) (H.get 0 rfl).1) H fun w91 H=>⟨H,(rgp 20 (.bool (!(dec (zY s.xB ((r.qU[i]!).jE))))) 79 H ?_)⟩) vT)
       refine rtp 21 (.bool (!(dec (zY s.xB ((r.qU[i]!).jE))))) H ?_
       refine rtp 22 (.bool (!(dec (zY s.xB ((r.qU[i]!).jE))))) H ?_
       cases h93:(!(dec (zY s.xB ((r.qU[i]!).jE))))
       ·skip
        replace h93:=xk h93
        replace h93:=Qb h93
        refine gF 23 rfl rfl H ?_
        refine gL 24 rfl rfl (fun _ h=>h.cell 0 rfl rfl) H ?_
        refine vS [25] qh qm (r_opG rfl (e:=87) rfl rfl ?_ vT)
        have sm:Small ((r.qU[i]!).jE):=vF (by first | assumption | exact i1 0 qf)
        refine oq (XT _ ((r.qU[i]!).jE) (H.get 0 rfl).1 (by first | assumption | exact vF ql | exact yV ql)) H fun w94 H=>⟨H,(rgp 26 (.bool ((X0 ((r.qU[i]!).jE):Int) == 0)) 87 H ?_)⟩
        refine rtp 27 (.bool ((X0 ((r.qU[i]!).jE):Int) == 0)) H ?_
        refine rtp 28 (.bool ((X0 ((r.qU[i]!).jE):Int) == 0)) H ?_
        cases h96:((X0 ((r.qU[i]!).jE):Int) == 0)
        ·skip
         replace h96:=ne_of_beq_false h96
         refine rgp 29 (yI i) 93 H ?_
         refine rgp 30 (.bool (decide ((i:Int) > 0))) 93 H ?_
         refine rgp 31 (.bool (decide ((i:Int) > 0))) 93 H ?_
         cases h97:(decide ((i:Int) > 0))
         ·skip
          replace h97:=of_decide_eq_false h97
          refine zS [32,33,34,35,36,37,38,39,40,41] 10 (H) (rgp 42 (.bool false) 93 H ?_)
          refine rtp 43 (.bool false) H ?_
          refine xH qh (t_n (xF false rfl (fun h=>absurd h qj) (fun _=>qV (b_n (t_n (xX (sw (zD i 1 rfl rfl qf (sp (yI (i+1)) (xY (xg (m' :=(r.qU.length - ((i+1):Int)).toNat) qf ⟨_,i+1,uE5,?_,?_,rfl,N,H.pick [1,2,3] [2,3,4,5,6,7,8,9,10]⟩)))))))))))
          · omega
          · exact i2.succ ⟨‹_›,‹_›,‹_›,‹_›,fun hk=>by omega⟩
         replace h97:=of_decide_eq_true h97
         refine gF 32 rfl rfl H ?_
         refine gL 33 rfl rfl (fun _ h=>h.cell 0 rfl rfl) H ?_
         refine gF 34 rfl rfl H ?_
         refine gL 35 rfl rfl (fun _ h=>h.cell 2 rfl rfl) H ?_
         refine rgp 36 (yI i) 96 H ?_
         refine rg 37 (yI (i - 1)) 96 (y_sub i 1 rfl rfl qf) H ?_
         obtain ⟨ae98Bag,ce98Bag,Fe98Bag,H⟩:=H.jJ 10 rfl (i - 1) (i - 1) qf qf qf
         have S:=H.jY [0,1,2,3] [2,3,4,5,6,7,8,9,10,11,12]
         refine gI 38 rfl rfl rfl S ?_
         refine gF 39 rfl rfl S ?_
         refine vS [40] qh qm (r_opG rfl (e:=96) rfl rfl (zF (yI ((r.qU[i - 1]!).qG)) isAgg2 rfl (H.xR 1 rfl 0 rfl) (⟨H.pick [0,1,2,3] [2,3,4,5,6,7,8,9,10,11,12],?_⟩)) vT)
         have S:=H.jY [0,1,2,3] [2,3,4,5,6,7,8,9,10,11,12]
         refine rgp 41 (.bool (decide (((r.qU[i]!).qG:Int)≤((r.qU[i - 1]!).qG)))) 96 S ?_
         refine rgp 42 (.bool (decide (((r.qU[i]!).qG:Int)≤((r.qU[i - 1]!).qG)))) 93 S ?_
         refine rtp 43 (.bool (decide (((r.qU[i]!).qG:Int)≤((r.qU[i - 1]!).qG)))) S ?_
         refine xH qh (t_n (cD rfl (fun h99=>?_) (fun h99=>?_)))
         ·skip
          refine zcr (sp (.bool false) (zjr (zr5 (ret1 (.bool false) rfl rfl ⟨_,rfl,?_,H.base⟩))))
          rw [xn (fun h=>by obtain ⟨h1,h2,h3,h4,h5,h6,h7,h8,h9,h10,h11⟩:=h;first | contradiction | omega | exact h3 ⟨‹_›,‹_›⟩ | (obtain ⟨q1,q2,q3,q4,q5⟩:=h11 i qf;first | contradiction | omega | (have:=q5 qf;omega)) | (refine absurd ?_ ‹¬ zY _ _›;rcases (show k=0∨k=1∨k=2∨k=3∨k=4 by omega) with e | e | e | e | e <;> subst e <;> assumption))]
         refine qV (b_n (t_n (xX (sw (zD i 1 rfl rfl qf (sp (yI (i+1)) (xY (xg (m' :=(r.qU.length - ((i+1):Int)).toNat) qf ⟨_,i+1,uE5,?_,?_,rfl,N,H.pick [1,2,3] [4,5,6,7,8,9,10,11,12]⟩))))))))
         · omega
         · exact i2.succ ⟨‹_›,‹_›,‹_›,‹_›,fun hk=>by omega⟩
        replace h96:=eq_of_beq h96
        refine zS [29,30,31,32,33,34,35,36,37,38,39,40,41,42] 14 (H) (rtp 43 (.bool true) H ?_)
        refine xH qh (t_n (xF true rfl (fun _=>zcr (sp (.bool false) (zjr (zr5 (ret1 (.bool false) rfl rfl ⟨_,rfl,?_,H.base⟩))))) (fun h=>absurd h qj)))
        rw [xn (fun h=>by obtain ⟨h1,h2,h3,h4,h5,h6,h7,h8,h9,h10,h11⟩:=h;first | contradiction | omega | exact h3 ⟨‹_›,‹_›⟩ | (obtain ⟨q1,q2,q3,q4,q5⟩:=h11 i qf;first | contradiction | omega | (have:=q5 qf;omega)) | (refine absurd ?_ ‹¬ zY _ _›;rcases (show k=0∨k=1∨k=2∨k=3∨k=4 by omega) with e | e | e | e | e <;> subst e <;> assumption))]
       replace h93:=xq h93
       replace h93:=zV h93
       refine zS [23,24,25,26] 4 (H) (rtp 27 (.bool true) H ?_)
       refine rtp 28 (.bool true) H ?_
       refine zS [29,30,31,32,33,34,35,36,37,38,39,40,41,42] 14 (H) (rtp 43 (.bool true) H ?_)
       refine xH qh (t_n (xF true rfl (fun _=>zcr (sp (.bool false) (zjr (zr5 (ret1 (.bool false) rfl rfl ⟨_,rfl,?_,H.base⟩))))) (fun h=>absurd h qj)))
       rw [xn (fun h=>by obtain ⟨h1,h2,h3,h4,h5,h6,h7,h8,h9,h10,h11⟩:=h;first | contradiction | omega | exact h3 ⟨‹_›,‹_›⟩ | (obtain ⟨q1,q2,q3,q4,q5⟩:=h11 i qf;first | contradiction | omega | (have:=q5 qf;omega)) | (refine absurd ?_ ‹¬ zY _ _›;rcases (show k=0∨k=1∨k=2∨k=3∨k=4 by omega) with e | e | e | e | e <;> subst e <;> assumption))]
      replace h90:=xq h90
      replace h90:=zV h90
      refine zS [15,16,17,18,19,20] 6 (H) (rtp 21 (.bool true) H ?_)
      refine rtp 22 (.bool true) H ?_
      refine zS [23,24,25,26] 4 (H) (rtp 27 (.bool true) H ?_)
      refine rtp 28 (.bool true) H ?_
      refine zS [29,30,31,32,33,34,35,36,37,38,39,40,41,42] 14 (H) (rtp 43 (.bool true) H ?_)
      refine xH qh (t_n (xF true rfl (fun _=>zcr (sp (.bool false) (zjr (zr5 (ret1 (.bool false) rfl rfl ⟨_,rfl,?_,H.base⟩))))) (fun h=>absurd h qj)))
      rw [xn (fun h=>by obtain ⟨h1,h2,h3,h4,h5,h6,h7,h8,h9,h10,h11⟩:=h;first | contradiction | omega | exact h3 ⟨‹_›,‹_›⟩ | (obtain ⟨q1,q2,q3,q4,q5⟩:=h11 i qf;first | contradiction | omega | (have:=q5 qf;omega)) | (refine absurd ?_ ‹¬ zY _ _›;rcases (show k=0∨k=1∨k=2∨k=3∨k=4 by omega) with e | e | e | e | e <;> subst e <;> assumption))]
     replace h86:=xq h86
     replace h86:=XB h86
     refine zS [6,7,8,9,10,11,12] 7 (H) (rtp 13 (.bool true) H ?_)
     refine rtp 14 (.bool true) H ?_
     refine zS [15,16,17,18,19,20] 6 (H) (rtp 21 (.bool true) H ?_)
     refine rtp 22 (.bool true) H ?_
     refine zS [23,24,25,26] 4 (H) (rtp 27 (.bool true) H ?_)
     refine rtp 28 (.bool true) H ?_
     refine zS [29,30,31,32,33,34,35,36,37,38,39,40,41,42] 14 (H) (rtp 43 (.bool true) H ?_)
     refine xH qh (t_n (xF true rfl (fun _=>zcr (sp (.bool false) (zjr (zr5 (ret1 (.bool false) rfl rfl ⟨_,rfl,?_,H.base⟩))))) (fun h=>absurd h qj)))
     rw [xn (fun h=>by obtain ⟨h1,h2,h3,h4,h5,h6,h7,h8,h9,h10,h11⟩:=h;first | contradiction | omega | exact h3 ⟨‹_›,‹_›⟩ | (obtain ⟨q1,q2,q3,q4,q5⟩:=h11 i qf;first | contradiction | omega | (have:=q5 qf;omega)) | (refine absurd ?_ ‹¬ zY _ _›;rcases (show k=0∨k=1∨k=2∨k=3∨k=4 by omega) with e | e | e | e | e <;> subst e <;> assumption))]
    refine zx4 (zcr (oF rfl (oL rfl (H.cell 1 rfl rfl) ?_)))
    have sm:Small r.xE:=vF (by first | assumption | exact i1 0 qf)
    refine sw (oq (XT _ r.xE (H.get 3 rfl).1 (by first | assumption | exact vF ql | exact yV ql)) H fun w100 H=>sps [.bool (decide ((X0 r.xE:Int) > 0)),.bool (decide ((X0 r.xE:Int) > 0))] (zjr (ret1 (.bool (decide ((X0 r.xE:Int) > 0))) rfl rfl ⟨_,rfl,(congrArg Value.bool (dec_eq ?_)),H.base⟩)))
    rw [decide_eq_true_iff]
    exact ⟨fun h=>⟨by omega,by omega,by simp_all,by omega,n1,n2,n3,n4,n5,by omega,(show i=r.qU.length by omega)▸i2⟩,fun h=>by have:=h.2.2.2.2.2.2.2.2.2.1;have:=sum_nonneg n1.1;omega⟩
   replace h57:=eq_of_beq h57
   refine xZ [30,31,32,33] (sp (.bool true) (zjn (xF true rfl (fun _=>zcr (sp (.bool false) (zjr (t_r (ret1 (.bool false) rfl rfl ⟨_,rfl,?_,H.base⟩))))) (fun h=>absurd h qj))))
   rw [xn (fun h=>by obtain ⟨h1,h2,h3,h4,h5,h6,h7,h8,h9,h10,h11⟩:=h;first | contradiction | omega | exact h3 ⟨‹_›,‹_›⟩ | (obtain ⟨q1,q2,q3,q4,q5⟩:=h11 i qf;first | contradiction | omega | (have:=q5 qf;omega)) | (refine absurd ?_ ‹¬ zY _ _›;rcases (show k=0∨k=1∨k=2∨k=3∨k=4 by omega) with e | e | e | e | e <;> subst e <;> assumption))]
  replace h11:=xq h11
  replace h11:=XB h11
  refine xZ [21,22,23,24,25,26,27] (sps [.bool true,.bool true] (xZ [30,31,32,33] (sp (.bool true) (zjn (xF true rfl (fun _=>zcr (sp (.bool false) (zjr (t_r (ret1 (.bool false) rfl rfl ⟨_,rfl,?_,H.base⟩))))) (fun h=>absurd h qj))))))
  rw [xn (fun h=>by obtain ⟨h1,h2,h3,h4,h5,h6,h7,h8,h9,h10,h11⟩:=h;first | contradiction | omega | exact h3 ⟨‹_›,‹_›⟩ | (obtain ⟨q1,q2,q3,q4,q5⟩:=h11 i qf;first | contradiction | omega | (have:=q5 qf;omega)) | (refine absurd ?_ ‹¬ zY _ _›;rcases (show k=0∨k=1∨k=2∨k=3∨k=4 by omega) with e | e | e | e | e <;> subst e <;> assumption))]
 replace h8:=xq h8
 replace h8:=XB h8
 refine xZ [15,16,17,18] (sps [.bool true,.bool true] (xZ [21,22,23,24,25,26,27] (sps [.bool true,.bool true] (xZ [30,31,32,33] (sp (.bool true) (zjn (xF true rfl (fun _=>zcr (sp (.bool false) (zjr (t_r (ret1 (.bool false) rfl rfl ⟨_,rfl,?_,H.base⟩))))) (fun h=>absurd h qj))))))))
 rw [xn (fun h=>by obtain ⟨h1,h2,h3,h4,h5,h6,h7,h8,h9,h10,h11⟩:=h;first | contradiction | omega | exact h3 ⟨‹_›,‹_›⟩ | (obtain ⟨q1,q2,q3,q4,q5⟩:=h11 i qf;first | contradiction | omega | (have:=q5 qf;omega)) | (refine absurd ?_ ‹¬ zY _ _›;rcases (show k=0∨k=1∨k=2∨k=3∨k=4 by omega) with e | e | e | e | e <;> subst e <;> assumption))]
theorem validSystem_ok (w:World) (s:qL) {qA:yOA} {qW:yLN} {qK:yOA} {xy:yLN} (xf:qP.rep w qW [.slice qA s.qw.length qy] s.qw) (xG:qP.rep w xy [.slice qK s.qx.length qH] s.qx):Calls Tryz.prog 104 #[.agg #[yI s.xB,.slice qA s.qw.length qy,.slice qK s.qx.length qH]] w (Ret (fun v w' =>v=.bool (dec (jZ s))) w):=by
 refine en func104 ntmps104 ?_
 have H:=((St.start w).arg xG).arg xf
 have ve:=qN xf
 have jh:=qN xG
 clear xf xG
 have N:=Fresh.nil w.heap.size
 have p1:=fun h:yO s=>h.2.1
 refine zcr (sw (vz H (yS s qA qy qK qH) fun b1 w2 H=>sp (.bool false) (zjcc (sw (zl (yS s qA qy qK qH) isAgg36 sizeOf36 rfl (qF (H.cells 0 rfl) 0 3) (sw (oq (isShell_ok _ s (H.get 0 rfl).1 (H.get 1 rfl).1) H fun w4 H=>sps [.bool (!(dec (yO s))),.bool (!(dec (yO s)))] ?_)))))))
 cases h6:(!(dec (yO s)))
 ·skip
  replace h6:=xk h6
  replace h6:=Qb h6
  refine qQ 9 rfl rfl (oF rfl (qQ 9 rfl rfl (oL rfl (H.cell 0 rfl rfl) (qQ 9 rfl rfl (oN rfl (qQ 9 rfl rfl (sps [.bool (decide ((s.qx.length:Int) > 16)),.bool (decide ((s.qx.length:Int) > 16))] (zjn (cD rfl (fun h7=>?_) (fun h7=>?_))))))))))
  ·skip
   refine zcr (sp (.bool false) (zjr (t_r (ret1 (.bool false) rfl rfl ⟨_,rfl,?_,H.base⟩))))
   rw [xn (fun h=>by obtain ⟨h1,h2,h3⟩:=h;first | contradiction | omega | (obtain ⟨r1,r2⟩:=h3 k qf;first | contradiction | (have:=VD (s:=s) (k:=k+1) q1 q2;omega)))]
  refine qV (t_n (zcr (sw (jk [yI 0,yI 0,yI 0,yI 0,yI 0,yI 0] [] (sw (xI H ti159 [yI 0,yI 0,yI 0,yI 0,yI 0,yI 0] fun b8 w9 H=>sw (zy H 0 [yI 0,yI 0,yI 0,yI 0,yI 0,yI 0] sizeOf159 fun w10 H=>zjcc (oF rfl (oL rfl (H.cell 1 rfl rfl) (oN rfl (sp (yI 0) (zjn (qY ?_)))))))))))))
  have p2:=p1 ‹_›
  refine zB (fun m' ρ w11=>∃ (xN:Env) (k:Nat) (many:yLI),ρ=upd (upd (upd (upd (upd xN 1 (pp b1 0)) 3 (pp b8 0)) 17 (.slice qK s.qx.length qH)) 18 (yI s.qx.length)) 19 (yI k)∧many=counts6 s k∧((k:Int)≤s.qx.length)∧(RulesTo s k)∧m' =(s.qx.length - (k:Int)).toNat∧Fresh w.heap.size []∧St w w11 [.box b8 (many.map (Value.int .i64)) 159,.box b1 (yS s qA qy qK qH) 36] [sF false qW qA qy s.qw,sF false xy qK qH s.qx]) ((s.qx.length - (0:Int)).toNat) ⟨_,0,[0,0,0,0,0,0],uE5,(by exact counts6_zero s),qf,(by exact fun j hj=>by omega),rfl,N,H⟩ ?_
  clear H N
  rintro m' ρ w12 ⟨xN,k,many,rfl,rfl,i0,i1,rfl,N,H⟩
  refine zcr (sp (.bool (decide ((k:Int) < s.qx.length))) (zjn (xU (cD rfl (fun h13=>?_) (fun h13=>?_)))))
  ·skip
   refine qV (t_n (xU (qY (zcr ?_))))
   obtain ⟨b14,o15,rfl⟩:=H.addr 1 rfl qf
   obtain ⟨ae17Need,ce17Need,Fe17Need,ae17Have,ce17Have,Fe17Have,ae17Lack,ce17Lack,Fe17Lack,ae17Here,ce17Here,Fe17Here,ae17Out,ce17Out,Fe17Out,ae17Into,ce17Into,Fe17Into,H⟩:=H.yc 1 rfl k k qf qf qf
   refine oI rfl rfl (sw (zl [yI ((s.qx[k]!).qG),yI ((s.qx[k]!).zM),.slice ae17Need (((s.qx[k]!).xE).length) ce17Need,.slice ae17Have (((s.qx[k]!).xM).length) ce17Have,.slice ae17Lack (((s.qx[k]!).xO).length) ce17Lack,.slice ae17Here (((s.qx[k]!).xW).length) ce17Here,.slice ae17Out (((s.qx[k]!).vC).length) ce17Out,.slice ae17Into (((s.qx[k]!).qU).length) ce17Into,.bool ((s.qx[k]!).zG)] isAgg121 sizeOf121 rfl (qF (H.get 6 rfl) 0 9) ?_))
   refine sw (xI H ti121 [yI 0,yI 0,yN,yN,yN,yN,yN,yN,.bool false] fun b18 w19 H=>sw (zy H 0 [yI ((s.qx[k]!).qG),yI ((s.qx[k]!).zM),.slice ae17Need (((s.qx[k]!).xE).length) ce17Need,.slice ae17Have (((s.qx[k]!).xM).length) ce17Have,.slice ae17Lack (((s.qx[k]!).xO).length) ce17Lack,.slice ae17Here (((s.qx[k]!).xW).length) ce17Here,.slice ae17Out (((s.qx[k]!).vC).length) ce17Out,.slice ae17Into (((s.qx[k]!).qU).length) ce17Into,.bool ((s.qx[k]!).zG)] sizeOf121 fun w20 H=>?_))
   refine zjcc (sw (zl [yI s.xB,.slice qA s.qw.length qy,.slice (aa b14 o15) s.qx.length qH] isAgg36 sizeOf36 rfl (qF (H.cells 2 rfl) 0 3) ?_))
   refine sw (zl [yI ((s.qx[k]!).qG),yI ((s.qx[k]!).zM),.slice ae17Need (((s.qx[k]!).xE).length) ce17Need,.slice ae17Have (((s.qx[k]!).xM).length) ce17Have,.slice ae17Lack (((s.qx[k]!).xO).length) ce17Lack,.slice ae17Here (((s.qx[k]!).xW).length) ce17Here,.slice ae17Out (((s.qx[k]!).vC).length) ce17Out,.slice ae17Into (((s.qx[k]!).qU).length) ce17Into,.bool ((s.qx[k]!).zG)] isAgg121 sizeOf121 rfl (qF (H.cells 0 rfl) 0 9) ?_)
   refine sw (oq (isRule_ok _ s (s.qx[k]!) (H.get 7 rfl).1 (H.get 8 rfl).1 (H.get 0 rfl).1 (H.get 1 rfl).1 (H.get 2 rfl).1 (H.get 3 rfl).1 (H.get 4 rfl).1 (H.get 5 rfl).1 qg) H fun w22 H=>?_)
   have q:=fun h:RuleOk s (s.qx[k]!)=>(show 0≤(s.qx[k]!).qG∧(s.qx[k]!).qG≤5 from ⟨h.1.1,by have:=h.1.2;omega⟩)
   refine sp (.bool (!(dec (RuleOk s (s.qx[k]!))))) (zjn (cQ rfl (fun h24=>?_) (fun h24=>?_)))
   ·skip
    refine zcr (sp (.bool false) (zjr (t_r (zr5 (ret1 (.bool false) rfl rfl ⟨_,rfl,?_,H.base⟩)))))
    rw [xn (fun h=>by obtain ⟨h1,h2,h3⟩:=h;first | contradiction | omega | (obtain ⟨r1,r2⟩:=h3 k qf;first | contradiction | (have:=VD (s:=s) (k:=k+1) q1 q2;omega)))]
   obtain ⟨q1,q2⟩:=q ‹_›
   have q3:=VD (s:=s) (k:=k) q1 q2
   have q4:=ofCell_bd s.qx (s.qx[k]!).qG k
   refine qV (t_n (zcr (oF rfl (oL rfl (H.cell 0 rfl rfl) (sw (o_idxArr ((s.qx[k]!).qG) underlying159 ti3 rfl rfl qf qf (oL rfl (H.cell 1 rfl (ints_at (iv:=(s.qx[k]!).qG) (i:=(((s.qx[k]!).qG).toNat)) qf (by simp only [List.length_set,List.length_cons,List.length_nil,counts6_len];omega))) (sw (zD ((counts6 s k)[((s.qx[k]!).qG).toNat]!) 1 rfl rfl qf (sw (o_idxArr ((s.qx[k]!).qG) underlying159 ti3 rfl rfl qf qf ?_)))))))))))
   refine sw (o_storeArr H 1 rfl (((counts6 s k)[((s.qx[k]!).qG).toNat]!)+1) sizeOf3 rfl rfl (i:=(((s.qx[k]!).qG).toNat)) qf (by simp only [List.length_set,List.length_cons,List.length_nil,counts6_len];omega) fun w25 H=>?_)
   rw [counts6_succ q1 q2] at H
   refine zjc (oF rfl (oL rfl (H.cell 0 rfl rfl) (sw (o_idxArr ((s.qx[k]!).qG) underlying159 ti3 rfl rfl qf qf (oL rfl (H.cell 1 rfl (ints_at (iv:=(s.qx[k]!).qG) (i:=(((s.qx[k]!).qG).toNat)) qf (by simp only [List.length_set,List.length_cons,List.length_nil,counts6_len];omega))) (sp (.bool (decide (((counts6 s (k+1))[((s.qx[k]!).qG).toNat]! :Int) > 8))) (zjn (cD rfl (fun h26=>?_) (fun h26=>?_)))))))))
   ·skip
    refine zcr (sp (.bool false) (zjr (zr5 (ret1 (.bool false) rfl rfl ⟨_,rfl,?_,H.base⟩))))
    rw [xn (fun h=>by obtain ⟨h1,h2,h3⟩:=h;first | contradiction | omega | (obtain ⟨r1,r2⟩:=h3 k qf;first | contradiction | (have:=VD (s:=s) (k:=k+1) q1 q2;omega)))]
   refine qV (b_n (t_n (xX (sw (zD k 1 rfl rfl qf (sp (yI (k+1)) (xY (xg (m' :=(s.qx.length - ((k+1):Int)).toNat) qf ⟨_,k+1,counts6 s (k+1),uE5,?_,?_,?_,rfl,N,H.pick [1,2] [7,8]⟩))))))))
   · rfl
   · omega
   · exact i1.succ ‹_› (by have:=VD (s:=s) (k:=k+1) q1 q2;omega)
  refine zx4 (zcr (sp (.bool true) (zjr (ret1 (.bool true) rfl rfl ⟨_,rfl,?_,H.base⟩))))
  rw [jP ⟨by assumption,by omega,(show s.qx.length=k by omega)▸i1⟩]
 replace h6:=xq h6
 replace h6:=zV h6
 refine xZ [10,11,12,13] (sp (.bool true) (zjn (xF true rfl (fun _=>zcr (sp (.bool false) (zjr (t_r (ret1 (.bool false) rfl rfl ⟨_,rfl,?_,H.base⟩))))) (fun h=>absurd h qj))))
 rw [xn (fun h=>by obtain ⟨h1,h2,h3⟩:=h;first | contradiction | omega | (obtain ⟨r1,r2⟩:=h3 k qf;first | contradiction | (have:=VD (s:=s) (k:=k+1) q1 q2;omega)))]

theorem validState_ok (w:World) (s:qL) (t:qM) {qA:yOA} {qW:yLN} {qK:yOA} {xy:yLN} {qR:yOA} {xJ:yLN} {xh:yOA} {zn:yLN} {qJ:yOA} {xw:yLN} (xf:qP.rep w qW [.slice qA s.qw.length qy] s.qw) (xG:qP.rep w xy [.slice qK s.qx.length qH] s.qx) (zh:qP.rep w xJ [.slice qR t.qB.length qO] t.qB) (zJ:qP.rep w zn [.slice xh t.qE.length qZ] t.qE) (xK:qP.rep w xw [.slice qJ t.qC.length qI] t.qC):Calls Tryz.prog 63 #[.agg #[yI s.xB,.slice qA s.qw.length qy,.slice qK s.qx.length qH],.agg #[.slice qR t.qB.length qO,.slice xh t.qE.length qZ,.slice qJ t.qC.length qI]] w (Ret (fun v w' =>v=.bool (dec (jZ s∧zK s t))) w):=by
 refine en func63 ntmps63 ?_
 have H:=(((((St.start w).arg xK).arg zJ).arg zh).arg xG).arg xf
 have ve:=qN xf
 have jh:=qN xG
 have yM:=qN zh
 have Qr:=qN zJ
 have jF:=qN xK
 clear xf xG zh zJ xK
 have N:=Fresh.nil w.heap.size
 refine zcr (sw (vz H (yS s qA qy qK qH) fun b1 w2 H=>sw (vz H (yT t qR qO xh qZ qJ qI) fun b3 w4 H=>sp (.bool false) (zjcc (sw (zl (yS s qA qy qK qH) isAgg36 sizeOf36 rfl (qF (H.cells 1 rfl) 0 3) (sw (oq (validSystem_ok _ s (H.get 0 rfl).1 (H.get 1 rfl).1) H fun w6 H=>sps [.bool (!(dec (jZ s))),.bool (!(dec (jZ s)))] ?_))))))))
 cases h8:(!(dec (jZ s)))
 ·skip
  replace h8:=xk h8
  replace h8:=Qb h8
  have z1:=(‹jZ s›:jZ s).1.2.1
  refine qQ 10 rfl rfl (oF rfl (qQ 10 rfl rfl (oL rfl (H.cell 0 rfl rfl) (qQ 10 rfl rfl (oN rfl (qQ 10 rfl rfl (oF rfl (qQ 10 rfl rfl (oL rfl (H.cell 1 rfl rfl) (qQ 10 rfl rfl (oN rfl (qQ 10 rfl rfl (sps [.bool ((t.qB.length:Int) != s.qw.length),.bool ((t.qB.length:Int) != s.qw.length),.bool ((t.qB.length:Int) != s.qw.length)] ?_)))))))))))))
  cases h9:((t.qB.length:Int) != s.qw.length)
  ·skip
   replace h9:=xA h9
   refine qQ 19 rfl rfl (oF rfl (qQ 19 rfl rfl (oL rfl (H.cell 0 rfl rfl) (qQ 19 rfl rfl (oN rfl (qQ 19 rfl rfl (oF rfl (qQ 19 rfl rfl (oL rfl (H.cell 1 rfl rfl) (qQ 19 rfl rfl (oN rfl (qQ 19 rfl rfl (sps [.bool ((t.qE.length:Int) != s.qw.length),.bool ((t.qE.length:Int) != s.qw.length),.bool ((t.qE.length:Int) != s.qw.length)] ?_)))))))))))))
   cases h10:((t.qE.length:Int) != s.qw.length)
   ·skip
    replace h10:=xA h10
    refine qQ 28 rfl rfl (oF rfl (qQ 28 rfl rfl (oL rfl (H.cell 0 rfl rfl) (qQ 28 rfl rfl ?_))))
    obtain ⟨b11,o12,rfl⟩:=H.addr 2 rfl qf
    refine oI rfl rfl (qQ 28 rfl rfl (oL rfl (H.Xp 2 rfl 0 qf qf) (qQ 28 rfl rfl (sps [.bool (!(t.qB[0]!)),.bool (!(t.qB[0]!)),.bool (!(t.qB[0]!))] ?_))))
    cases h14:(!(t.qB[0]!))
    ·skip
     replace h14:=xk h14
     refine qQ 35 rfl rfl (oF rfl (qQ 35 rfl rfl (oL rfl (H.cell 1 rfl rfl) (qQ 35 rfl rfl (oF rfl (qQ 35 rfl rfl (oL rfl (H.cell 0 rfl rfl) (qQ 35 rfl rfl (sw (oq (Vy _ s.xB t.qC (H.get 4 rfl).1) H fun w15 H=>qQ 35 rfl rfl (sps [.bool (!(dec (zY s.xB t.qC))),.bool (!(dec (zY s.xB t.qC)))] (zjn (cQ rfl (fun h17=>?_) (fun h17=>?_))))))))))))))
     ·skip
      refine zcr (sp (.bool false) (zjr (t_r (ret1 (.bool false) rfl rfl ⟨_,rfl,?_,H.base⟩))))
      rw [xn (fun h=>by obtain ⟨h0,h1,h2,h3,h4,h5⟩:=h;first | contradiction | omega | (simp_all;done) | (obtain ⟨q1,q2⟩:=h5 c qf;first | contradiction | (have:=q2 ql;omega)))]
     refine qV (t_n (zcc (oF rfl (oL rfl (H.cell 0 rfl rfl) (oN rfl (sp (yI 0) (zjn (qY ?_))))))))
     refine zB (fun m' ρ w18=>∃ (xN:Env) (c:Nat),ρ=upd (upd (upd (upd (upd xN 2 (pp b1 0)) 3 (pp b3 0)) 44 (.slice xh t.qE.length qZ)) 45 (yI t.qE.length)) 46 (yI c)∧((c:Int)≤t.qE.length)∧(BagsTo s t c)∧m' =(t.qE.length - (c:Int)).toNat∧Fresh w.heap.size []∧St w w18 [.box b3 [.slice (aa b11 o12) t.qB.length qO,.slice xh t.qE.length qZ,.slice qJ t.qC.length qI] 38,.box b1 (yS s qA qy qK qH) 36] [sF false qW qA qy s.qw,sF false xy qK qH s.qx,sF false xJ (aa b11 o12) qO t.qB,sF false zn xh qZ t.qE,sF false xw qJ qI t.qC]) ((t.qE.length - (0:Int)).toNat) ⟨_,0,uE5,qf,(by exact fun j hj=>by omega),rfl,N,H⟩ ?_
     clear H N
     rintro m' ρ w19 ⟨xN,c,rfl,i0,i1,rfl,N,H⟩
     refine zcr (sp (.bool (decide ((c:Int) < t.qE.length))) (zjn (xU (cD rfl (fun h20=>?_) (fun h20=>?_)))))
     ·skip
      refine qV (t_n (xU (qY (zcr (sp (yI c) ?_)))))
      obtain ⟨b21,o22,rfl⟩:=H.addr 3 rfl qf
      obtain ⟨ae24,ce24,Fe24,H⟩:=H.vH 3 rfl c c qf qf qf
      refine oI rfl rfl (oL rfl (H.xR 1 rfl 0 rfl) (sps [yI c,.slice ae24 ((t.qE[c]!).length) ce24] (zjc (oF rfl (oL rfl (H.cell 1 rfl rfl) (sp (.slice ae24 ((t.qE[c]!).length) ce24) (sw (oq (Vy _ s.xB (t.qE[c]!) (H.get 0 rfl).1) H fun w25 H=>sps [.bool (!(dec (zY s.xB (t.qE[c]!)))),.bool (!(dec (zY s.xB (t.qE[c]!))))] ?_))))))))
      cases h27:(!(dec (zY s.xB (t.qE[c]!))))
      ·skip
       replace h27:=xk h27
       replace h27:=Qb h27
       refine qQ 56 rfl rfl (oF rfl (qQ 56 rfl rfl (oL rfl (H.cell 0 rfl rfl) (qQ 56 rfl rfl (sp (yI c) (qQ 56 rfl rfl (oI rfl rfl (qQ 56 rfl rfl (oL rfl (H.Xp 4 rfl c qf qf) (qQ 56 rfl rfl (sp (.bool (!(t.qB[c]!))) (qQ 56 rfl rfl (sp (.bool (!(t.qB[c]!))) ?_)))))))))))))
       cases h28:(!(t.qB[c]!))
       ·skip
        replace h28:=xk h28
        refine xZ [64,65,66] (qQ 56 rfl rfl (sps [.bool false,.bool false] (zjn (xF false rfl (fun h=>absurd h qj) (fun _=>qV (b_n (t_n (xX (sw (zD c 1 rfl rfl qf (sp (yI (c+1)) (xY (xg (m' :=(t.qE.length - ((c+1):Int)).toNat) qf ⟨_,c+1,uE5,?_,?_,rfl,N,H.pick [0,1] [2,3,4,5,6]⟩)))))))))))))
        · omega
        · exact i1.succ ‹_› (fun hk=>by first | omega | simp_all)
       replace h28:=xq h28
       refine qQ 63 rfl rfl (sp (.slice ae24 ((t.qE[c]!).length) ce24) (qQ 63 rfl rfl (sw (oq (XT _ (t.qE[c]!) (H.get 0 rfl).1 (by first | assumption | exact vF ql | exact yV ql)) H fun w29 H=>qQ 63 rfl rfl (sp (.bool (decide ((X0 (t.qE[c]!):Int) > 0))) (qQ 56 rfl rfl (sps [.bool (decide ((X0 (t.qE[c]!):Int) > 0)),.bool (decide ((X0 (t.qE[c]!):Int) > 0))] (zjn (cD rfl (fun h31=>?_) (fun h31=>?_))))))))))
       ·skip
        refine zcr (sp (.bool false) (zjr (zr5 (ret1 (.bool false) rfl rfl ⟨_,rfl,?_,H.base⟩))))
        rw [xn (fun h=>by obtain ⟨h0,h1,h2,h3,h4,h5⟩:=h;first | contradiction | omega | (simp_all;done) | (obtain ⟨q1,q2⟩:=h5 c qf;first | contradiction | (have:=q2 ql;omega)))]
       refine qV (b_n (t_n (xX (sw (zD c 1 rfl rfl qf (sp (yI (c+1)) (xY (xg (m' :=(t.qE.length - ((c+1):Int)).toNat) qf ⟨_,c+1,uE5,?_,?_,rfl,N,H.pick [0,1] [2,3,4,5,6]⟩))))))))
       · omega
       · exact i1.succ ‹_› (fun hk=>by first | omega | simp_all)
      replace h27:=xq h27
      replace h27:=zV h27
      refine xZ [57,58,59,60,61,62,63,64,65,66,67] (sp (.bool true) (zjn (xF true rfl (fun _=>zcr (sp (.bool false) (zjr (zr5 (ret1 (.bool false) rfl rfl ⟨_,rfl,?_,H.base⟩))))) (fun h=>absurd h qj))))
      rw [xn (fun h=>by obtain ⟨h0,h1,h2,h3,h4,h5⟩:=h;first | contradiction | omega | (simp_all;done) | (obtain ⟨q1,q2⟩:=h5 c qf;first | contradiction | (have:=q2 ql;omega)))]
     refine zx4 (zcr (sp (.bool true) (zjr (ret1 (.bool true) rfl rfl ⟨_,rfl,?_,H.base⟩))))
     rw [jP ⟨by assumption,by omega,by omega,by first | assumption | simp_all,by assumption,(show t.qE.length=c by omega)▸i1⟩]
    replace h14:=xq h14
    refine xZ [36,37,38,39,40,41] (sp (.bool true) (zjn (xF true rfl (fun _=>zcr (sp (.bool false) (zjr (t_r (ret1 (.bool false) rfl rfl ⟨_,rfl,?_,H.base⟩))))) (fun h=>absurd h qj))))
    rw [xn (fun h=>by obtain ⟨h0,h1,h2,h3,h4,h5⟩:=h;first | contradiction | omega | (simp_all;done) | (obtain ⟨q1,q2⟩:=h5 c qf;first | contradiction | (have:=q2 ql;omega)))]
   replace h10:=bne_iff_ne.1 h10
   refine xZ [29,30,31,32,33] (sps [.bool true,.bool true] (xZ [36,37,38,39,40,41] (sp (.bool true) (zjn (xF true rfl (fun _=>zcr (sp (.bool false) (zjr (t_r (ret1 (.bool false) rfl rfl ⟨_,rfl,?_,H.base⟩))))) (fun h=>absurd h qj))))))
   rw [xn (fun h=>by obtain ⟨h0,h1,h2,h3,h4,h5⟩:=h;first | contradiction | omega | (simp_all;done) | (obtain ⟨q1,q2⟩:=h5 c qf;first | contradiction | (have:=q2 ql;omega)))]
  replace h9:=bne_iff_ne.1 h9
  refine xZ [20,21,22,23,24,25,26] (sps [.bool true,.bool true] (xZ [29,30,31,32,33] (sps [.bool true,.bool true] (xZ [36,37,38,39,40,41] (sp (.bool true) (zjn (xF true rfl (fun _=>zcr (sp (.bool false) (zjr (t_r (ret1 (.bool false) rfl rfl ⟨_,rfl,?_,H.base⟩))))) (fun h=>absurd h qj))))))))
  rw [xn (fun h=>by obtain ⟨h0,h1,h2,h3,h4,h5⟩:=h;first | contradiction | omega | (simp_all;done) | (obtain ⟨q1,q2⟩:=h5 c qf;first | contradiction | (have:=q2 ql;omega)))]
 replace h8:=xq h8
 replace h8:=zV h8
 refine xZ [11,12,13,14,15,16,17] (sps [.bool true,.bool true] (xZ [20,21,22,23,24,25,26] (sps [.bool true,.bool true] (xZ [29,30,31,32,33] (sps [.bool true,.bool true] (xZ [36,37,38,39,40,41] (sp (.bool true) (zjn (xF true rfl (fun _=>zcr (sp (.bool false) (zjr (t_r (ret1 (.bool false) rfl rfl ⟨_,rfl,?_,H.base⟩))))) (fun h=>absurd h qj))))))))))
 rw [xn (fun h=>by obtain ⟨h0,h1,h2,h3,h4,h5⟩:=h;first | contradiction | omega | (simp_all;done) | (obtain ⟨q1,q2⟩:=h5 c qf;first | contradiction | (have:=q2 ql;omega)))]

theorem parentNow_ok (w:World) (s:qL) (t:qM) (c:Int) {qA:yOA} {qW:yLN} {qK:yOA} {xy:yLN} {qR:yOA} {xJ:yLN} {xh:yOA} {zn:yLN} {qJ:yOA} {xw:yLN} (xf:qP.rep w qW [.slice qA s.qw.length qy] s.qw) (xG:qP.rep w xy [.slice qK s.qx.length qH] s.qx) (zh:qP.rep w xJ [.slice qR t.qB.length qO] t.qB) (zJ:qP.rep w zn [.slice xh t.qE.length qZ] t.qE) (xK:qP.rep w xw [.slice qJ t.qC.length qI] t.qC) (p0:yO s) (p1:CellIn s c) (p2:t.qB.length=s.qw.length):Calls Tryz.prog 188 #[.agg #[yI s.xB,.slice qA s.qw.length qy,.slice qK s.qx.length qH],.agg #[.slice qR t.qB.length qO,.slice xh t.qE.length qZ,.slice qJ t.qC.length qI],yI c] w (Ret (fun v w' =>v=yI (xx s t c)) w):=by
 refine en func188 ntmps188 ?_
 have H:=(((((St.start w).arg xK).arg zJ).arg zh).arg xG).arg xf
 have ve:=qN xf
 have jh:=qN xG
 have yM:=qN zh
 have Qr:=qN zJ
 have jF:=qN xK
 clear xf xG zh zJ xK
 have N:=Fresh.nil w.heap.size
 have p3:=p0.step p1.1 p1.2
 refine zcr (sw (vz H (yS s qA qy qK qH) fun b1 w2 H=>sw (vz H (yT t qR qO xh qZ qJ qI) fun b3 w4 H=>sp (yI 0) (zjc (oF rfl (oL rfl (H.cell 1 rfl rfl) (sp (yI c) ?_)))))))
 obtain ⟨b5,o6,rfl⟩:=H.addr 0 rfl qf
 refine oI rfl rfl (oL rfl (H.jy 0 rfl c qf qf) (sp (yI (s.qw[c.toNat]!)) (zjn (xU (qY ?_)))))
 refine zB (fun m' ρ w8=>∃ (xN:Env) (p:Int) (n:Nat),ρ=upd (upd (upd xN 3 (pp b1 0)) 4 (pp b3 0)) 7 (yI p)∧(-1≤p∧p≤(s.qw.length:Int) - 1)∧(p < n)∧(xx s t c=climb s.qw t.qB n p)∧m' =(p+1).toNat∧Fresh w.heap.size []∧St w w8 [.box b3 (yT t qR qO xh qZ qJ qI) 38,.box b1 [yI s.xB,.slice (aa b5 o6) s.qw.length qy,.slice qK s.qx.length qH] 36] [sF false qW (aa b5 o6) qy s.qw,sF false xy qK qH s.qx,sF false xJ qR qO t.qB,sF false zn xh qZ t.qE,sF false xw qJ qI t.qC]) (((s.qw[c.toNat]!)+1).toNat) ⟨_,s.qw[c.toNat]!,s.qw.length,uE3,qf,qf,(by rfl),rfl,N,H⟩ ?_
 clear H N
 rintro m' ρ w9 ⟨xN,p,n,rfl,i0,i1,i2,rfl,N,H⟩
 have up:=fun h=>p0.step (c:=p) h i0.2
 refine zcc (sps [yI p,.bool (decide ((p:Int)≥0)),.bool (decide ((p:Int)≥0))] ?_)
 cases h10:(decide ((p:Int)≥0))
 ·skip
  replace h10:=of_decide_eq_false h10
  refine xZ [16,17,18,19,20,21] (sp (.bool false) (zjn (xF false rfl (fun h=>absurd h qj) (fun _=>zx4 (zcr (sps [yI p,yI p] (zjr (ret1 (yI p) rfl rfl ⟨_,rfl,?_,H.base⟩))))))))
  rw [i2,climb_end (by first | omega | simp_all)]
 replace h10:=of_decide_eq_true h10
 refine qQ 15 rfl rfl (oF rfl (qQ 15 rfl rfl (oL rfl (H.cell 0 rfl rfl) (qQ 15 rfl rfl (sp (yI p) (qQ 15 rfl rfl ?_))))))
 obtain ⟨b11,o12,rfl⟩:=H.addr 2 rfl qf
 refine oI rfl rfl (qQ 15 rfl rfl (oL rfl (H.Xp 2 rfl p qf qf) (qQ 15 rfl rfl (sps [.bool (!(t.qB[p.toNat]!)),.bool (!(t.qB[p.toNat]!))] (zjn (xF (!(t.qB[p.toNat]!)) rfl (fun h14=>?_) (fun h14=>?_)))))))
 ·skip
  replace h14:=xq h14
  refine qV (t_n (qY (xX (oF rfl (oL rfl (H.cell 1 rfl rfl) (sp (yI p) (oI rfl rfl (oL rfl (H.jy 0 rfl p qf qf) (sp (yI (s.qw[p.toNat]!)) (xY (b_n ?_)))))))))))
  have up1:=up qf
  refine xg (m' :=((s.qw[p.toNat]!)+1).toNat) qf ⟨_,s.qw[p.toNat]!,n - 1,uE3,?_,?_,?_,rfl,N,H⟩
  · omega
  · omega
  · exact i2.trans (climb_go qf qf ‹_›)
 replace h14:=xk h14
 refine zx4 (zcr (sps [yI p,yI p] (zjr (ret1 (yI p) rfl rfl ⟨_,rfl,?_,H.base⟩))))
 rw [i2,climb_end (by first | omega | simp_all)]

theorem Vd (w:World) (t:qM) {qR:yOA} {xJ:yLN} {xh:yOA} {zn:yLN} {qJ:yOA} {xw:yLN} (zh:qP.rep w xJ [.slice qR t.qB.length qO] t.qB) (zJ:qP.rep w zn [.slice xh t.qE.length qZ] t.qE) (xK:qP.rep w xw [.slice qJ t.qC.length qI] t.qC) (p0:t.qB.length≤1000000) (p1:t.qC.length≤1000000) (p2:t.qE.length≤1000000) (p3:∀ j,j < t.qE.length→(t.qE[j]!).length≤1000000):Calls Tryz.prog 79 #[.agg #[.slice qR t.qB.length qO,.slice xh t.qE.length qZ,.slice qJ t.qC.length qI]] w (Ret (fun v w' =>∃ (raAlive:yOA) (rnAlive:Nat) (rcAlive:Nat) (raBags:yOA) (rnBags:Nat) (rcBags:Nat) (rxBags:List Value) (rFBags:yLN) (raAround:yOA) (rnAround:Nat) (rcAround:Nat),v=.agg #[.slice raAlive rnAlive rcAlive,.slice raBags rnBags rcBags,.slice raAround rnAround rcAround]∧Fresh w.heap.size [rFBags]∧St w w' [rr raAlive rnAlive rcAlive 4 1 (t.qB.map (Value.bool)),rr raBags rnBags rcBags 22 1 rxBags,rr raAround rnAround rcAround 2 1 (t.qC.map (Value.int .i64))] [zk true rFBags rxBags t.qE]) w):=by
 refine en func79 ntmps79 ?_
 have H:=(((St.start w).arg xK).arg zJ).arg zh
 have yM:=qN zh
 have Qr:=qN zJ
 have jF:=qN xK
 clear zh zJ xK
 have N:=Fresh.nil w.heap.size
 refine zcr (sw (vz H (yT t qR qO xh qZ qJ qI) fun b1 w2 H=>sw (xI H ti38 [yN,yN,yN] fun b3 w4 H=>zjn (xU ?_))))
 refine c_cut (fun ρ w10=>∃ (xN:Env) (b5:Nat) (ra6:yOA) (rc7:Nat) (a8:yOA) (c9:Nat),ρ=upd (upd (upd xN 1 (pp b1 0)) 2 (pp b3 0)) 3 (pp b5 0)∧Fresh w.heap.size []∧St w w10 [.box b5 [.slice ra6 t.qB.length rc7,yN,.slice a8 t.qC.length c9] 38,rr a8 t.qC.length c9 2 1 (t.qC.map (Value.int .i64)),rr ra6 t.qB.length rc7 4 1 (t.qB.map (Value.bool)),.box b3 [yN,yN,yN] 38,.box b1 (yT t qR qO xh qZ qJ qI) 38] [sF false xJ qR qO t.qB,sF false zn xh qZ t.qE,sF false xw qJ qI t.qC]) ?_ ?_
 ·skip
  refine ja rfl H fun H=>tF 0 rfl rfl H ?_
  refine tL 1 rfl rfl (fun _ h=>h.cell 1 rfl rfl) H ?_
  refine tF 3 rfl rfl H ?_
  refine tL 4 rfl rfl (fun _ h=>h.cell 1 rfl rfl) H ?_
  refine vS [2,7] qh qm (jA rfl ?_ (jA rfl ?_ vT))
  ·skip
   have sz15:=H.base.size
   refine oc (cloneB_ok _ t.qB (H.get 0 rfl).1 qg) ?_
   rintro _ w13 ⟨ra12,rn12,rc12,rfl,M,K⟩ _
   replace H:=H.merge K M
   obtain rfl:=H.rowNB 0 rfl
   refine ⟨H.pick [1,2] [0,1,2],(vS [5,7] qh qm (jA rfl ?_ (jA rfl ?_ vT)))⟩
   ·skip
    have sz18:=H.base.size
    refine oc (cloneI_ok _ t.qC (H.get 2 rfl).1 qg) ?_
    rintro v23 w21 r23 x22
    replace H:=H.zC x22 r23
    obtain ⟨a24,c25,rfl,hc26,hm27⟩:=H.ji 0 rfl
    refine ⟨H.pick [2,3] [0,1,2],(vS [6,7] qh qm (jA rfl ?_ (jA rfl ?_ vT)))⟩
    ·skip
     refine jk [.slice ra12 t.qB.length rc12,yN,.slice a24 t.qC.length c25] [(0,.slice ra12 t.qB.length rc12),(2,.slice a24 t.qC.length c25)] (⟨H.pick [2,3] [0,1,2],(ro 7 rfl (xI H ti38 [yN,yN,yN] fun b28 w29 H=>⟨H.pick [3,4] [0,1,2],(ro 8 rfl (zy H 0 [.slice ra12 t.qB.length rc12,yN,.slice a24 t.qC.length c25] sizeOf38 fun w30 H=>⟨H.pick [3,4] [0,1,2],(xH qh ((meet ⟨_,b28,ra12,rc12,a24,c25,uE3,N,H⟩)))⟩))⟩))⟩)
    refine xI H ti38 [yN,yN,yN] fun b31 w32 H=>⟨H.pick [3,4] [0,1,2],(ro 6 rfl (jk [.slice ra12 t.qB.length rc12,yN,.slice a24 t.qC.length c25] [(0,.slice ra12 t.qB.length rc12),(2,.slice a24 t.qC.length c25)] (⟨H.pick [3,4] [0,1,2],(ro 8 rfl (zy H 0 [.slice ra12 t.qB.length rc12,yN,.slice a24 t.qC.length c25] sizeOf38 fun w33 H=>⟨H.pick [3,4] [0,1,2],(xH qh ((meet ⟨_,b31,ra12,rc12,a24,c25,uE3,N,H⟩)))⟩))⟩)))⟩
   refine xI H ti38 [yN,yN,yN] fun b34 w35 H=>⟨H.pick [2,3] [0,1,2],(ro 5 rfl ?_)⟩
   have sz36:=H.base.size
   refine oc (cloneI_ok _ t.qC (H.get 2 rfl).1 qg) ?_
   rintro v41 w39 r41 x40
   replace H:=H.zC x40 r41
   obtain ⟨a42,c43,rfl,hc44,hm45⟩:=H.ji 0 rfl
   refine ⟨H.pick [3,4] [0,1,2],(ro 6 rfl (jk [.slice ra12 t.qB.length rc12,yN,.slice a42 t.qC.length c43] [(0,.slice ra12 t.qB.length rc12),(2,.slice a42 t.qC.length c43)] (⟨H.pick [3,4] [0,1,2],(ro 8 rfl (zy H 1 [.slice ra12 t.qB.length rc12,yN,.slice a42 t.qC.length c43] sizeOf38 fun w46 H=>⟨H.pick [3,4] [0,1,2],(xH qh ((meet ⟨_,b34,ra12,rc12,a42,c43,uE3,N,H.pick [1,0,2,3,4] [0,1,2]⟩)))⟩))⟩)))⟩
  refine xI H ti38 [yN,yN,yN] fun b47 w48 H=>⟨H.pick [1,2] [0,1,2],(ro 2 rfl ?_)⟩
  have sz52:=H.base.size
  refine oc (cloneB_ok _ t.qB (H.get 0 rfl).1 qg) ?_
  rintro _ w50 ⟨ra49,rn49,rc49,rfl,M,K⟩ _
  replace H:=H.merge K M
  obtain rfl:=H.rowNB 0 rfl
  refine ⟨H.pick [2,3] [0,1,2],(ro 5 rfl ?_)⟩
  have sz55:=H.base.size
  refine oc (cloneI_ok _ t.qC (H.get 2 rfl).1 qg) ?_
  rintro v60 w58 r60 x59
  replace H:=H.zC x59 r60
  obtain ⟨a61,c62,rfl,hc63,hm64⟩:=H.ji 0 rfl
  refine ⟨H.pick [3,4] [0,1,2],(ro 6 rfl (jk [.slice ra49 t.qB.length rc49,yN,.slice a61 t.qC.length c62] [(0,.slice ra49 t.qB.length rc49),(2,.slice a61 t.qC.length c62)] (⟨H.pick [3,4] [0,1,2],(ro 8 rfl (zy H 2 [.slice ra49 t.qB.length rc49,yN,.slice a61 t.qC.length c62] sizeOf38 fun w65 H=>⟨H.pick [3,4] [0,1,2],(xH qh ((meet ⟨_,b47,ra49,rc49,a61,c62,uE3,N,H.pick [2,0,1,3,4] [0,1,2]⟩)))⟩))⟩)))⟩
 clear H N
 rintro ρ w66 ⟨xN,b5,ra6,rc7,a8,c9,rfl,N,H⟩
 refine t_n (zcc (oF rfl (oL rfl (H.cell 4 rfl rfl) (oN rfl (sp (yI 0) (zjn (qY ?_)))))))
 replace H:=H.nilRow 22 1
 replace H:=H.vN (α:=yLI)
 refine zB (fun m' ρ w67=>∃ (xN:Env) (k:Nat) (jL:yOA) (vg:Nat) (jK:Nat) (out_Bags:yLL) (zN:List Value) (zf:yLN),ρ=upd (upd (upd (upd (upd xN 2 (pp b3 0)) 3 (pp b5 0)) 14 (.slice xh t.qE.length qZ)) 15 (yI t.qE.length)) 16 (yI k)∧out_Bags=t.qE.take k∧((k:Int)≤t.qE.length)∧m' =(t.qE.length - (k:Int)).toNat∧Fresh w.heap.size [zf]∧St w w67 [rr jL vg jK 22 1 zN,.box b5 [.slice ra6 t.qB.length rc7,.slice jL vg jK,.slice a8 t.qC.length c9] 38,rr a8 t.qC.length c9 2 1 (t.qC.map (Value.int .i64)),rr ra6 t.qB.length rc7 4 1 (t.qB.map (Value.bool)),.box b3 [yN,yN,yN] 38,.box b1 (yT t qR qO xh qZ qJ qI) 38] [zk true zf zN out_Bags,sF false xJ qR qO t.qB,sF false zn xh qZ t.qE,sF false xw qJ qI t.qC]) ((t.qE.length - (0:Int)).toNat) ⟨_,0,none,0,0,([]:yLL),[],[],uE5,(by rfl),qf,rfl,N.emp,H⟩ ?_
 clear H N
 rintro m' ρ w68 ⟨xN,k,jL,vg,jK,out_Bags,zN,zf,rfl,rfl,i0,rfl,N,H⟩
 have VB:=H.zo (α:=yLI) 0 rfl 0 rfl qj
 have p4:=p3 k
 rw [List.length_take_of_le qf] at VB
 refine zcr (sp (.bool (decide ((k:Int) < t.qE.length))) (zjn (xU (cD rfl (fun h69=>?_) (fun h69=>?_)))))
 ·skip
  refine qV (t_n (xU (qY (zcr ?_))))
  obtain ⟨b70,o71,rfl⟩:=H.addr 2 rfl qf
  obtain ⟨ae73,ce73,Fe73,H⟩:=H.vH 2 rfl k k qf qf qf
  refine oI rfl rfl (oL rfl (H.xR 1 rfl 0 rfl) (sp (.slice ae73 ((t.qE[k]!).length) ce73) (zjn ?_)))
  refine c_cut (fun ρ w79=>∃ (xN:Env) (a74:yOA) (c75:Nat) (a76:yOA) (c77:Nat) (G78:yLN),ρ=upd (upd (upd (upd (upd xN 2 (pp b3 0)) 3 (pp b5 0)) 14 (.slice (aa b70 o71) t.qE.length qZ)) 15 (yI t.qE.length)) 16 (yI k)∧Fresh w.heap.size [(zf++G78)]∧St w w79 [rr a74 (vg+1) c75 22 1 (zN++[.slice a76 ((t.qE[k]!).length) c77]),.box b5 [.slice ra6 t.qB.length rc7,.slice a74 (vg+1) c75,.slice a8 t.qC.length c9] 38,rr a8 t.qC.length c9 2 1 (t.qC.map (Value.int .i64)),rr ra6 t.qB.length rc7 4 1 (t.qB.map (Value.bool)),.box b3 [yN,yN,yN] 38,.box b1 [.slice qR t.qB.length qO,.slice (aa b70 o71) t.qE.length qZ,.slice qJ t.qC.length qI] 38] [zk true (zf++G78) (zN++[.slice a76 ((t.qE[k]!).length) c77]) ((t.qE.take k)++[(t.qE[k]!)]),sF true G78 a76 c77 (t.qE[k]!),sF false Fe73 ae73 ce73 (t.qE[k]!),atF b70 (o71+(k:Int).toNat * 1) [.slice ae73 ((t.qE[k]!).length) ce73],sF false xJ qR qO t.qB,sF false zn (aa b70 o71) qZ t.qE,sF false xw qJ qI t.qC]) ?_ ?_
  ·skip
   refine yY rfl H [2,3,4,5] fun H=>?_
   have S:=H.jY [2,3,4,5] [0,1,2,3,4,5]
   refine tF 0 rfl rfl S ?_
   refine rtp 2 (.slice ae73 ((t.qE[k]!).length) ce73) S ?_
   refine vS [1,3] qh qm (jA rfl ?_ (jA rfl ?_ vT))
   ·skip
    refine zF (.slice jL vg jK) isAgg27 rfl (H.cell 1 rfl rfl) (⟨H.pick [2,3,4,5] [0,1,2,3,4,5],(ro 3 rfl ?_)⟩)
    have sz81:=H.base.size
    have lt82:=H.ltN (L:=[zf]) [2]
    refine oc (cloneI_ok _ (t.qE[k]!) (H.get 0 rfl).1 qg) ?_
    rintro v86 w84 r86 x85
    replace H:=H.zC x85 r86
    obtain ⟨a87,c88,rfl,hc89,hm90⟩:=H.ji 0 rfl
    refine ⟨H.pick [3,4,5,6] [0,1,2,3,4,5],(ro 4 rfl (zI H underlying27 ti22 [.slice a87 ((t.qE[k]!).length) c88] fun b91 w92 H=>⟨H.pick [4,5,6,7] [0,1,2,3,4,5],(ro 5 rfl ?_)⟩))⟩
    obtain ⟨G96,N,hn97,H⟩:=H.vP 1 rfl N (H.yg [2])
    refine zO H 2 rfl 0 rfl underlying27 ti22 rfl qj rfl rfl rfl (by simp [Value.oneCell',Value.cells]) qp qf fun a93 c94 w95 H=>?_
    replace H:=H.yj 3 rfl 0 rfl
    replace N:Fresh w.heap.size [(zf++G96)]:=(N.pick [1,0]).join
    refine ⟨H.pick [4,5,6,7] [2,3,4,5,6,7],(tF 6 rfl rfl (H.pick [4,5,6,7] [2,3,4,5,6,7]) ?_)⟩
    refine ro 7 rfl (xP H 3 [.slice ra6 t.qB.length rc7,.slice a93 (vg+1) c94,.slice a8 t.qC.length c9] sizeOf27 fun w98 H=>⟨H.pick [4,5,6,7] [2,3,4,5,6,7],(xH qh ((meet ⟨_,a93,c94,a87,c88,G96,uE5,N,H.pick [2,3,4,5,6,7] [0,1,2,3,5,6,7]⟩)))⟩)
   have sz99:=H.base.size
   have lt100:=H.ltN (L:=[zf]) [2]
   refine oc (cloneI_ok _ (t.qE[k]!) (H.get 0 rfl).1 qg) ?_
   rintro v104 w102 r104 x103
   replace H:=H.zC x103 r104
   obtain ⟨a105,c106,rfl,hc107,hm108⟩:=H.ji 0 rfl
   refine ⟨H.pick [3,4,5,6] [0,1,2,3,4,5],(vS [1,4] qh qm (jA rfl ?_ (jA rfl ?_ vT)))⟩
   ·skip
    refine zF (.slice jL vg jK) isAgg27 rfl (H.cell 2 rfl rfl) (⟨H.pick [3,4,5,6] [0,1,2,3,4,5],(ro 4 rfl (zI H underlying27 ti22 [.slice a105 ((t.qE[k]!).length) c106] fun b109 w110 H=>⟨H.pick [4,5,6,7] [0,1,2,3,4,5],(ro 5 rfl ?_)⟩))⟩)
    obtain ⟨G114,N,hn115,H⟩:=H.vP 1 rfl N (H.yg [2])
    refine zO H 2 rfl 0 rfl underlying27 ti22 rfl qj rfl rfl rfl (by simp [Value.oneCell',Value.cells]) qp qf fun a111 c112 w113 H=>?_
    replace H:=H.yj 3 rfl 0 rfl
    replace N:Fresh w.heap.size [(zf++G114)]:=(N.pick [1,0]).join
    refine ⟨H.pick [4,5,6,7] [2,3,4,5,6,7],(tF 6 rfl rfl (H.pick [4,5,6,7] [2,3,4,5,6,7]) ?_)⟩
    refine ro 7 rfl (xP H 3 [.slice ra6 t.qB.length rc7,.slice a111 (vg+1) c112,.slice a8 t.qC.length c9] sizeOf27 fun w116 H=>⟨H.pick [4,5,6,7] [2,3,4,5,6,7],(xH qh ((meet ⟨_,a111,c112,a105,c106,G114,uE5,N,H.pick [2,3,4,5,6,7] [0,1,2,3,5,6,7]⟩)))⟩)
   refine zI H underlying27 ti22 [.slice a105 ((t.qE[k]!).length) c106] fun b117 w118 H=>⟨H.pick [4,5,6,7] [0,1,2,3,4,5],(ro 1 rfl (zF (.slice jL vg jK) isAgg27 rfl (H.cell 3 rfl rfl) (⟨H.pick [4,5,6,7] [0,1,2,3,4,5],(ro 5 rfl ?_)⟩)))⟩
   obtain ⟨G122,N,hn123,H⟩:=H.vP 1 rfl N (H.yg [2])
   refine zO H 2 rfl 0 rfl underlying27 ti22 rfl qj rfl rfl rfl (by simp [Value.oneCell',Value.cells]) qp qf fun a119 c120 w121 H=>?_
   replace H:=H.yj 3 rfl 0 rfl
   replace N:Fresh w.heap.size [(zf++G122)]:=(N.pick [1,0]).join
   refine ⟨H.pick [4,5,6,7] [2,3,4,5,6,7],(tF 6 rfl rfl (H.pick [4,5,6,7] [2,3,4,5,6,7]) ?_)⟩
   refine ro 7 rfl (xP H 3 [.slice ra6 t.qB.length rc7,.slice a119 (vg+1) c120,.slice a8 t.qC.length c9] sizeOf27 fun w124 H=>⟨H.pick [4,5,6,7] [2,3,4,5,6,7],(xH qh ((meet ⟨_,a119,c120,a105,c106,G122,uE5,N,H.pick [2,3,4,5,6,7] [0,1,2,3,5,6,7]⟩)))⟩)
  clear H N
  rintro ρ w125 ⟨xN,a74,c75,a76,c77,G78,rfl,N,H⟩
  refine b_n (t_n (xX (sw (zD k 1 rfl rfl qf (sp (yI (k+1)) (xY (xg (m' :=(t.qE.length - ((k+1):Int)).toNat) qf ⟨_,k+1,a74,vg+1,c75,((t.qE.take k)++[(t.qE[k]!)]),zN++[.slice a76 ((t.qE[k]!).length) c77],(zf++G78),uE5,?_,?_,rfl,N,H.pick [0,1,2,3,4,5] [0,4,5,6]⟩)))))))
  · exact take_snoc qf
  · omega
 refine zx4 (zcr (sw (zl [.slice ra6 t.qB.length rc7,.slice jL vg jK,.slice a8 t.qC.length c9] isAgg38 sizeOf38 rfl (qF (H.cells 1 rfl) 0 3) (sw (zy H 4 [.slice ra6 t.qB.length rc7,.slice jL vg jK,.slice a8 t.qC.length c9] sizeOf38 fun w126 H=>zjr (retC H 4 rfl rfl isAgg38 sizeOf38 rfl ⟨_,rfl,?_,H.base⟩))))))
 obtain rfl:k=t.qE.length:=by omega
 rw [List.take_length] at H
 exact ⟨ra6,t.qB.length,rc7,jL,vg,jK,zN,zf,a8,t.qC.length,c9,rfl,N,H.pick [3,0,2] [0]⟩
end
end Go.Proofs.YtgjnaocffdhnbaaGreat
