/- Walks and laws, printed by program and by hand: what each function comes to, for all arguments, part 2. -/
import Derived.Test.YtcpnclokildllaaA1
namespace Go.Proofs.Ytcpnclokildllaa
set_option linter.unusedVariables false
set_option linter.unusedSimpArgs false
open Go.Proofs.Ytcpnclokildllaa.Tot (tot)
open Go.Proofs.Ytcpnclokildllaa.Mark (cnt mrk mkd mkd_mark cnt_mark)
section
open Go.RowKit
set_option linter.unusedVariables false
set_option linter.unusedSimpArgs false
section
variable {P : Program} {ops : Array Oper} {Q : Exit → Act → World → Prop} {n : Nat} {ρ : Env} {W0 w : World} {rest : List Oper} {ps : List Prv} {Γ : List Fact}
  {d:Nat} {ty:TypeId} {pos:String} {af:Array Edge} {K:Env→World→Prop}
end

theorem reps_part {α:Type} [qH α] [Inhabited α] {w:World} {F G:yLN} {X:List Value} {l:List α} {v:Value} {f:α} (i q:Nat) (hi:i < l.length) (hq:q < qH.size α)
    (hr:∀ Fk ck,qH.rep w Fk ck (l[i]!)→∃ F',qH.rep w F' (ck.set q v) f∧∀ b∈F',b∈Fk∨b∈G) (h:reps w F X l):
    ∃ F',reps w F' (X.set (i * qH.size α+q) v) (l.set i f)∧∀ b∈F',b∈F∨b∈G:=by
  obtain ⟨F1,Fk,F2,v1,cs,v2,hF,hv,hl1,hlc,h1,h2,h3⟩:=reps_get h i hi
  obtain ⟨F',hr',hs⟩:=hr Fk cs (by rw [getElem!_pos l i hi];exact h1)
  refine ⟨F1++F' ++F2,?_,fun b hb=>?_⟩
  · rw [hv,← hl1,List.append_assoc v1,List.set_append_right _ _ qc,Nat.add_sub_cancel_left,List.set_append_left _ _ qc,List.set_eq_take_append_cons_drop (l:=l),if_pos hi,← List.append_assoc]
    have:=jK (jK h2 (reps_one hr')) h3
    simpa using this
  · simp only [List.mem_append] at hb
    rw [hF]
    rcases hb with (hb | hb) | hb
    · exact .inl (by simp [hb])
    · rcases hs b hb with h | h
      · exact .inl (by simp [h])
      · exact .inr h
    · exact .inl (by simp [hb])
section
variable {W0 w : World} {ps : List Prv} {Γ : List Fact}
theorem St.part {β:Type} [qH β] (H:St W0 w ps Γ) (j:Nat) {fr:Bool} {F:yLN} {X:List Value} {l:List zM} (hf:Γ[j]? =some (qM fr F X l)) (m:Nat) {fr' :Bool} {G:yLN} {v:Value} {z:β} (hg:Γ[m]? =some (isF fr' G v z))
    {iv:Int} (i:Nat) (hi:iv.toNat=i) (h1:i < l.length) (q:Nat) (hq:q < 9) (f:zM) (hr:∀ Fk ck,qH.rep w Fk ck (l[i]!)→∃ F',qH.rep w F' (ck.set q v) f∧∀ b∈F',b∈Fk∨b∈G):
    ∃ F',St W0 w ps (qM false F' (X.set (0+iv.toNat * 9+q) v) (l.set i f) :: Γ):=by
  subst hi
  obtain ⟨F',h2,h3⟩:=reps_part (α:=zM) iv.toNat q h1 hq hr (H.get j hf).1
  refine ⟨F',H.add _ ⟨by rw [Nat.zero_add];exact h2,by simp⟩ fun b hb=>?_⟩
  rcases h3 b hb with h | h
  · exact (H.facts _ (List.mem_of_getElem? hf)).2 b h
  · exact (H.facts _ (List.mem_of_getElem? hg)).2 b h
end

theorem jc.here {kk:Int} {par:yLI} {l:List zM} {i:Nat} {b:yLI} (h:jc kk par l) (hi:i < l.length) (hb:xQ kk 2 b):jc kk par (l.set i { l[i]! with zB:=b }):=
  h.set (let r:=h i hi;⟨r.cell,r.rank,r.melts,r.need,r.hav,r.lack,hb,r.out,r.many,r.into⟩)
theorem jc.out {kk:Int} {par:yLI} {l:List zM} {i:Nat} {b:yLI} (h:jc kk par l) (hi:i < l.length) (hb:xQ kk 2 b):jc kk par (l.set i { l[i]! with jL:=b }):=
  h.set (let r:=h i hi;⟨r.cell,r.rank,r.melts,r.need,r.hav,r.lack,r.here,hb,r.many,r.into⟩)
theorem jc.into {kk:Int} {par:yLI} {l:List zM} {i:Nat} (h:jc kk par l) (hi:i < l.length):jc kk par (l.set i { l[i]! with xe:=[]}):=
  h.set (let r:=h i hi;⟨r.cell,r.rank,r.melts,r.need,r.hav,r.lack,r.here,r.out,by simp,IntoDr.nil _ _ _ _⟩)
theorem SysDr.with {kk:Int} {par:yLI} {rules rules' :List zM} (h:SysDr kk par rules) (h1:rules'.length≤5) (h2:jc kk par rules'):SysDr kk par rules' :=⟨h.kinds,h.cells,h.skin,h.up,h1,h2⟩
def HereTo (kk:Int) (k:Nat) (l:yLI):Prop:=xQ kk 2 l∧∀ j,j < l.length→k≤j+1→l[j]! =0
theorem HereTo.zero {kk:Int} (h0:0≤kk):HereTo kk 1 (List.replicate kk.toNat 0):=⟨xQ.zero h0 qc,fun j hj _=>by rw [getElem!_pos (List.replicate kk.toNat (0:Int)) j hj,List.getElem_replicate]⟩
theorem HereTo.put {kk:Int} {k i:Nat} {l:yLI} {v:Int} (h:HereTo kk k l) (hi:i < l.length) (hk:i+1=k) (hv:0≤v∧v≤2):HereTo kk (k+1) (l.set i (l[i]! +v)):=by
  have h0:=h.2 i hi qc
  refine ⟨h.1.put qc,fun j hj hk' =>?_⟩
  rw [List.length_set] at hj
  rw [getElem!_pos (l.set i _) j (by rw [List.length_set];exact hj),List.getElem_set,if_neg qc]
  have:=h.2 j hj qc
  rwa [getElem!_pos l j hj] at this
end
section

def atV (code:List UInt8) (i n:Int):Int:=if i≥code.length∨n < 1 then 0 else (((code[i.toNat]!).toNat:Nat):Int) % n
theorem atV_no {code:List UInt8} {i n:Int} (h:i≥code.length∨n < 1):atV code i n=0:=by rw [atV,if_pos h]
theorem atV_yes {code:List UInt8} {i n:Int} (h:¬ i≥code.length) (h1:¬ n < 1):atV code i n=(((code[i.toNat]!).toNat:Nat):Int) % n:=by rw [atV,if_neg qc]
theorem atV_bd (code:List UInt8) (i:Int) {n:Int} (h:1≤n):0≤atV code i n∧atV code i n≤n - 1:=by
  rw [atV]
  split
  · omega
  · have h1:=Int.emod_nonneg (((code[i.toNat]!).toNat:Nat):Int) (show n≠0 by omega)
    have h2:=Int.emod_lt_of_pos (((code[i.toNat]!).toNat:Nat):Int) (show 0 < n by omega)
    omega
theorem get_set {α:Type} [Inhabited α] (l:List α) (i j:Nat) (v:α) (hi:i < l.length):(l.set i v)[j]! =if i=j then v else l[j]! :=by
  by_cases hj:j < l.length
  · rw [getElem!_pos _ _ (by rw [List.length_set];exact hj),List.getElem_set,getElem!_pos l j hj]
  · rw [getElem!_neg _ _ (by rw [List.length_set];exact hj),getElem!_neg l j hj,if_neg qc]
theorem plusL_get {l m:yLI} {j:Nat} (h:j < l.length):(vO l m 1)[j]! =l[j]! +m[j]! :=by
  rw [getElem!_pos _ _ (by rw [jW];exact h)]
  simp [vO,plusTo]
theorem rep_get (n j:Nat):(List.replicate n (0:Int))[j]! =0:=by
  by_cases h:j < n
  · rw [getElem!_pos _ _ (by simpa using h)];simp
  · rw [getElem!_neg _ _ (by simpa using h)];rfl

theorem parentNow_skin {s:qo} {t:qw} (hs:zG s):qR s t 0= -1:=by
  unfold qR
  rw [show (0:Int).toNat=0 from rfl,hs.2.2.1]
  exact climb_end qc
theorem parentNow_iff {s:qo} {t:qw} (hs:zG s) (ht:xY s t) {c:Int} (hc:jJ s c):c=0↔qR s t c= -1:=by
  constructor
  · rintro rfl;exact parentNow_skin hs
  · intro h
    rcases Int.lt_or_eq_of_le hc.1 with h1 | h1
    · have:=(parentNow_in hs ht.2.2.1 h1 hc.2).1;omega
    · exact h1.symm
theorem climb_fuel {s:qo} {alive:List Bool} (hs:zG s) (h0:alive[0]! =true):∀ (n m:Nat) (x:Int),0≤x→x < n→x < m→x≤(s.qp.length:Int) - 1→climb s.qp alive n x=climb s.qp alive m x
  | 0,m,x,h1,h2,h3,h4=>by omega
  | n+1,0,x,h1,h2,h3,h4=>by omega
  | n+1,m+1,x,h1,h2,h3,h4=>by
    rw [climb,climb]
    by_cases ha:0≤x∧alive[x.toNat]! =false
    · rw [if_pos ha,if_pos ha]
      have hx:0 < x:=by
        rcases Int.lt_or_eq_of_le h1 with h | h
        · exact h
        · rw [← h] at ha;simp [h0] at ha
      have hu:=hs.up hx h4
      exact climb_fuel hs h0 n m _ hu.1 qc qc qc
    · rw [if_neg ha,if_neg ha]

def kidIn (s:qo) (t:qw) (k:Int) (j:Nat):Bool:=t.qF[j]! && (qR s t j == k)
def jM (s:qo) (t:qw) (k:Int) (n:Nat):yLI:=((List.range n).filter (kidIn s t k)).map fun j:Nat=>(j:Int)
theorem kidsTo_succ {s:qo} {t:qw} {k:Int} {n:Nat}:jM s t k (n+1)=if kidIn s t k n=true then jM s t k n++[(n:Int)] else jM s t k n:=by
  unfold jM
  rw [List.range_succ,List.filter_append,List.map_append]
  by_cases h:kidIn s t k n=true
  · rw [if_pos h];simp [List.filter,h]
  · rw [if_neg h];simp [List.filter,h]
theorem kids_mem {s:qo} {t:qw} {k c:Int} {n:Nat} (h0:0≤c) (hc:c < n):c∈jM s t k n↔t.qF[c.toNat]! =true∧qR s t c=k:=by
  unfold jM
  simp only [List.mem_map,List.mem_filter,List.mem_range,kidIn,Bool.and_eq_true,beq_iff_eq]
  constructor
  · rintro ⟨j,⟨_,h1,h2⟩,rfl⟩
    exact ⟨by simpa using h1,h2⟩
  · rintro ⟨h1,h2⟩
    exact ⟨c.toNat,⟨by omega,h1,by rw [show ((c.toNat:Nat):Int)=c by omega];exact h2⟩,by omega⟩
theorem kids_in {s:qo} {t:qw} {k x:Int} {n:Nat} (h:x∈jM s t k n):0≤x∧x < n∧t.qF[x.toNat]! =true∧qR s t x=k:=by
  have h' :=h
  unfold jM at h'
  simp only [List.mem_map,List.mem_filter,List.mem_range] at h'
  obtain ⟨j,⟨h1,_⟩,rfl⟩:=h'
  exact ⟨by omega,by omega,(kids_mem qc qc).1 h⟩

section
variable {s : qo} {t : qw} {c : Int}
structure vU (s:qo) (t:qw) (c:Int):Prop where
  frame:zG s
  state:xY s t
  cell:jJ s c
  skin:c≠0
  alive:t.qF[c.toNat]! =true
theorem vU.pos (h:vU s t c):0 < c:=by have:=h.cell.1;have:=h.skin;omega
theorem vU.par (h:vU s t c):0≤qR s t c∧qR s t c < c∧t.qF[(qR s t c).toNat]! =true:=parentNow_in h.frame h.state.2.2.1 h.pos h.cell.2
theorem vU.alive' (h:vU s t c) (j:Nat):(melted s t c).qF[j]! =if c.toNat=j then false else t.qF[j]! :=by
  have:=h.cell;have:=h.state.1
  exact get_set _ _ _ _ qc
theorem vU.bags' (h:vU s t c) (j:Nat):(melted s t c).qK[j]! =if c.toNat=j then List.replicate s.qN.toNat 0 else if (qR s t c).toNat=j then vO (t.qK[(qR s t c).toNat]!) (t.qK[c.toNat]!) 1 else t.qK[j]! :=by
  have:=h.cell;have:=h.state.2.1;have hp:=h.par
  show ((t.qK.set _ _).set _ _)[j]! =_
  rw [get_set _ _ _ _ (by rw [List.length_set];omega),get_set _ _ _ _ qc]
theorem vU.climbs (h:vU s t c):∀ (n:Nat) (x:Int),0≤x→x < n→x≤(s.qp.length:Int) - 1→
    climb s.qp (melted s t c).qF n x=if climb s.qp t.qF n x=c then qR s t c else climb s.qp t.qF n x
  | 0,x,h1,h2,h3=>by omega
  | n+1,x,h1,h2,h3=>by
    have h0:=h.state.2.2.1
    by_cases hx:x=c
    · rw [hx] at h1 h2 h3 ⊢
      have e:climb s.qp t.qF (n+1) c=c:=climb_end (by rw [h.alive];simp)
      rw [e,if_pos rfl,climb,if_pos ⟨h1,by rw [h.alive',if_pos rfl]⟩]
      have hu:=h.frame.up h.pos h3
      rw [vU.climbs h n _ hu.1 qc qc]
      have hi:=climb_in h.frame h0 n (s.qp[c.toNat]!) hu.1 qc qc
      rw [if_neg qc]
      exact climb_fuel h.frame h0 n _ _ hu.1 qc qc qc
    · have hne:¬ c.toNat=x.toNat:=by have:=h.cell.1;omega
      rw [climb,climb]
      rw [h.alive',if_neg hne]
      by_cases ha:0≤x∧t.qF[x.toNat]! =false
      · rw [if_pos ha,if_pos ha]
        have hp:0 < x:=by
          rcases Int.lt_or_eq_of_le h1 with hh | hh
          · exact hh
          · rw [← hh] at ha;simp [h0] at ha
        have hu:=h.frame.up hp h3
        exact vU.climbs h n _ hu.1 qc qc
      · rw [if_neg ha,if_neg ha,if_neg hx]
theorem vU.kid (h:vU s t c) {q:Int} (hq:jJ s q) (hk:qR s t q=c):qR s (melted s t c) q=qR s t c:=by
  have hq0:0 < q:=by
    rcases Int.lt_or_eq_of_le hq.1 with hh | hh
    · exact hh
    · subst hh;rw [parentNow_skin h.frame] at hk;have:=h.cell.1;omega
  have hu:=h.frame.up hq0 hq.2
  have:=h.climbs s.qp.length (s.qp[q.toNat]!) hu.1 qc qc
  unfold qR at hk
  rw [if_pos hk] at this
  exact this

def Few5 (t:qw):Prop:=(∀ k,k < t.qK.length→∀ j,j < (t.qK[k]!).length→(t.qK[k]!)[j]! ≤5)∧∀ j,j < t.qG.length→t.qG[j]! ≤5
def jb (t:qw):Nat→yLI
  | 0=>t.qG
  | k+1=>vO (jb t k) (t.qK[k]!) 1
theorem jI (t:qw):∀ k,(jb t k).length=t.qG.length
  | 0=>rfl
  | k+1=>by rw [jb,jW,jI t k]
def colTo (t:qw) (j:Nat):Nat→Int
  | 0=>0
  | k+1=>colTo t j k+(t.qK[k]!)[j]!
theorem allTo_get (t:qw) {j:Nat} (hj:j < t.qG.length):∀ k,(jb t k)[j]! =t.qG[j]! +colTo t j k
  | 0=>by simp [jb,colTo]
  | k+1=>by
    rw [jb,plusL_get (by rw [jI];exact hj),allTo_get t hj k,colTo]
    omega
theorem vU.lens (h:vU s t c) {k:Nat} (hk:k < s.qp.length):(t.qK[k]!).length=s.qN.toNat:=by
  have:=(h.state.bagLen (k:=k) (by rw [h.state.2.1];exact hk)).2
  omega
theorem vU.col (h:vU s t c) {j:Nat} (hj:j < s.qN.toNat):∀ k,colTo (melted s t c) j k=colTo t j k+(if (qR s t c).toNat < k then (t.qK[c.toNat]!)[j]! else 0) - (if c.toNat < k then (t.qK[c.toNat]!)[j]! else 0)
  | 0=>by simp [colTo]
  | k+1=>by
    have hp:=h.par
    have hc:=h.cell
    rw [colTo,colTo,vU.col h hj k,h.bags']
    by_cases e1:c.toNat=k
    · subst e1
      rw [if_pos rfl,rep_get,if_neg (show ¬ c.toNat < c.toNat by omega),if_pos (show c.toNat < c.toNat+1 by omega),if_pos (show (qR s t c).toNat < c.toNat by omega),if_pos (show (qR s t c).toNat < c.toNat+1 by omega)]
      omega
    · rw [if_neg e1]
      by_cases e2:(qR s t c).toNat=k
      · subst e2
        rw [if_pos rfl,plusL_get (by rw [h.lens qc];exact hj),if_neg (show ¬ (qR s t c).toNat < (qR s t c).toNat by omega),if_pos (show (qR s t c).toNat < (qR s t c).toNat+1 by omega),
          if_neg (show ¬ c.toNat < (qR s t c).toNat by omega),if_neg (show ¬ c.toNat < (qR s t c).toNat+1 by omega)]
        omega
      · rw [if_neg e2]
        have a1:((qR s t c).toNat < k+1)=((qR s t c).toNat < k):=by apply propext;omega
        have a2:(c.toNat < k+1)=(c.toNat < k):=by apply propext;omega
        simp only [a1,a2]
        omega
theorem vU.total (h:vU s t c):jb (melted s t c) s.qp.length=jb t s.qp.length:=by
  have hp:=h.par
  have hc:=h.cell
  have hl:(melted s t c).qG=t.qG:=rfl
  have hk:t.qG.length=s.qN.toNat:=by have:=h.state.2.2.2.1.2;omega
  apply List.ext_getElem
  · rw [jI,jI,hl]
  · intro j h1 h2
    rw [jI] at h2
    rw [← getElem!_pos,← getElem!_pos,allTo_get _ (by rw [hl];exact h2),allTo_get _ h2,h.col qc,if_pos qc,if_pos qc,hl]
    omega
theorem colTo_bd {t:qw} (hf:Few5 t) {j n:Nat} (hl:∀ k,k < t.qK.length→(t.qK[k]!).length=n) (h0:∀ k,k < t.qK.length→0≤(t.qK[k]!)[j]!) (hj:j < n):∀ k,k≤t.qK.length→0≤colTo t j k∧colTo t j k≤5 * k
  | 0,_=>by simp [colTo]
  | k+1,hk=>by
    have:=colTo_bd hf hl h0 hj k qc
    have h1:=hf.1 k qc j (by rw [hl k qc];exact hj)
    have h2:=h0 k qc
    rw [colTo]
    omega
theorem total_bag (hs:zG s) (ht:xY s t) (hf:Few5 t):xK s.qN (jb t s.qp.length):=by
  have hA:=ht.2.2.2.1
  have hb:=ht.2.1
  refine ⟨⟨fun j hj=>?_,by rw [jI];exact hA.1.2.1,by rw [jI];exact hA.1.2.2⟩,by rw [jI];exact hA.2⟩
  rw [jI] at hj
  rw [allTo_get t hj]
  have h1:=hA.1.1 j hj
  have h2:=hf.2 j hj
  have hlen:∀ k,k < t.qK.length→(t.qK[k]!).length=t.qG.length:=fun k hk=>by have:=(ht.bagLen hk).2;have:=hA.2;omega
  have:=colTo_bd hf hlen (fun k hk=>((ht.bagLen hk).1.1 j (by rw [hlen k hk];exact hj)).1) hj s.qp.length qc
  have:=hs.2.1
  omega
theorem vU.ok (h:vU s t c) (hf:Few5 t):xY s (melted s t c):=by
  have hp:=h.par
  have hc:=h.cell
  have ht:=h.state
  have e1:(melted s t c).qF.length=t.qF.length:=by simp [melted]
  have e2:(melted s t c).qK.length=t.qK.length:=by simp [melted]
  refine ⟨by rw [e1];exact ht.1,by rw [e2];exact ht.2.1,by rw [h.alive',if_neg (by have:=h.pos;omega)];exact ht.2.2.1,ht.2.2.2.1,fun k hk=>?_⟩
  rw [e2] at hk
  rw [h.bags',h.alive']
  have hkk:=ht.2.1
  by_cases g1:c.toNat=k
  · rw [if_pos g1,if_pos g1]
    have hK:=h.frame.1
    refine ⟨⟨⟨fun j hj=>by rw [rep_get];omega,by simp;omega,by simp;omega⟩,by simp;omega⟩,fun _=>?_⟩
    have hz:∀ n,sumTo (List.replicate s.qN.toNat 0) n=0:=by
      intro n
      induction n with
      | zero=>simp [sumTo]
      | succ n ih=>simp only [sumTo,ih,rep_get];omega
    unfold sumL
    rw [hz]
    omega
  · rw [if_neg g1,if_neg g1]
    by_cases g2:(qR s t c).toNat=k
    · rw [if_pos g2]
      subst g2
      have bp:=ht.bagLen hk
      have bc:=ht.bagLen (k:=c.toNat) qc
      refine ⟨⟨⟨fun j hj=>?_,by rw [jW];exact bp.1.2.1,by rw [jW];exact bp.1.2.2⟩,by rw [jW];exact bp.2⟩,fun hd=>?_⟩
      · rw [jW] at hj
        rw [plusL_get hj]
        have hj2:j < (t.qK[c.toNat]!).length:=by have:=bp.2;have:=bc.2;omega
        have a1:=bp.1.1 j hj
        have a2:=bc.1.1 j hj2
        have a3:=hf.1 _ hk j hj
        have a4:=hf.1 c.toNat qc j hj2
        omega
      · rw [hp.2.2] at hd;cases hd
    · rw [if_neg g2]
      exact ht.2.2.2.2 k hk
end
open Classical in
noncomputable def pnV (s:qo) (t:qw) (c:Int):Int:=if qB s t c=0 then qR s t c else 0
theorem pnV_yes {s:qo} {t:qw} {c:Int} (h:qB s t c=0):pnV s t c=qR s t c:=by rw [pnV,if_pos h]
theorem pnV_no {s:qo} {t:qw} {c:Int} (h:qB s t c≠0):pnV s t c=0:=by rw [pnV,if_neg h]
open Classical in
noncomputable def vV (s:qo) (t:qw) (c:Int):yLI:=if qB s t c=0 then jM s t c s.qp.length else []
theorem kidsV_yes {s:qo} {t:qw} {c:Int} (h:qB s t c=0):vV s t c=jM s t c s.qp.length:=by rw [vV,if_pos h]
theorem kidsV_no {s:qo} {t:qw} {c:Int} (h:qB s t c≠0):vV s t c=[]:=by rw [vV,if_neg h]
theorem kids_yes {s:qo} {t:qw} {c:Int} {n:Nat} (h:t.qF[n]! =true) (h1:qR s t n=c):jM s t c n++[(n:Int)]=jM s t c (n+1):=by
  rw [kidsTo_succ,if_pos (by simp [kidIn,h,h1])]
theorem kids_dead {s:qo} {t:qw} {c:Int} {n:Nat} (h:t.qF[n]! =false):jM s t c n=jM s t c (n+1):=by
  rw [kidsTo_succ,if_neg (by simp [kidIn,h])]
theorem kids_far {s:qo} {t:qw} {c:Int} {n:Nat} (h1:qR s t n≠c):jM s t c n=jM s t c (n+1):=by
  rw [kidsTo_succ,if_neg (by simp [kidIn,h1])]
theorem kids_len {s:qo} {t:qw} {c:Int}:∀ n,(jM s t c n).length≤n
  | 0=>by simp [jM]
  | n+1=>by
    have:=kids_len (s:=s) (t:=t) (c:=c) n
    rw [kidsTo_succ]
    split
    · simp;omega
    · omega
theorem colTo_any {s:qo} {t:qw} (h:xY s t) {j:Nat} (hj:j < t.qG.length):∀ k,k≤t.qK.length→0≤colTo t j k∧colTo t j k≤1000 * (k:Int)
  | 0,_=>by simp [colTo]
  | k+1,hk=>by
    have h1:=colTo_any h hj k qc
    have h2:=h.bagLen (k:=k) qc
    have h3:=h2.1.1 j (by have:=h2.2;have:=h.2.2.2.1.2;omega)
    rw [colTo]
    omega
theorem all_mid {s:qo} {t:qw} (hs:zG s) (h:xY s t) {k:Nat} (hk:k < t.qK.length):(jb t k).length≤(t.qK[k]!).length∧Mid (jb t k)∧SmallT (t.qK[k]!) 1:=by
  have h0:=h.bagLen hk
  have hA:=h.2.2.2.1
  have hl:=hs.2.1
  have hb:=h.2.1
  refine ⟨by rw [jI];have:=h0.2;have:=hA.2;omega,⟨by rw [jI];have:=hA.1.2.2;omega,fun j hj=>?_⟩,bagOk_smallT h0 qc⟩
  rw [jI] at hj
  rw [allTo_get t hj]
  have h1:=colTo_any h hj k qc
  have h2:=hA.1.1 j hj
  omega
structure CanAdd (a b:yLI):Prop where
  one:jD a
  two:jD b
  len:a.length=b.length
  sum:jD (vO a b 1)
theorem bag_mid {l:yLI} (h:jD l):Mid l:=(jH h).mid
theorem bag_smallT {l:yLI} (h:jD l):SmallT l 1:=bagOk_smallT (n:=(l.length:Int)) ⟨h,rfl⟩ qc

structure TreeAt (s:qo) (t:qw) (c:Int):Prop where
  code:(qQ s t c).2=0
  cc:qB s t c=0
  ok:jk s∧xY s (qQ s t c).1
  dead:(qQ s t c).1.qF[c.toNat]! =false
  par:0≤pnV s t c∧pnV s t c < s.qp.length
  kids:∀ i,i < (vV s t c).length→qB s (qQ s t c).1 ((vV s t c)[i]!)=0∧pnV s (qQ s t c).1 ((vV s t c)[i]!)=pnV s t c
  few:(vV s t c).length≤6
  total:jb (qQ s t c).1 s.qp.length=jb t s.qp.length
  bag:jD (jb t s.qp.length)
  add:CanAdd (t.qK[(pnV s t c).toNat]!) (t.qK[c.toNat]!)
  sum:vO (t.qK[(pnV s t c).toNat]!) (t.qK[c.toNat]!) 1=(qQ s t c).1.qK[(pnV s t c).toNat]!
theorem tree_at {s:qo} {t:qw} {c:Int} (hs:jk s) (ht:xY s t) (hf:Few5 t) (hc:jJ s c) (h0:c≠0) (ha:t.qF[c.toNat]! =true):TreeAt s t c:=by
  have M:vU s t c:=⟨hs.1,ht,hc,h0,ha⟩
  have cc:=code_0 hs ht hc (by simp [ha])
  have ok:=M.ok hf
  have e:qQ s t c=(melted s t c,0):=by rw [melt_told cc h0,told_yes ok]
  have hp:=M.par
  have ep:=pnV_yes cc
  have lp:=hc.2
  have hpl:(qR s t c).toNat < s.qp.length:=by omega
  have bp:=ht.bagLen (k:=(qR s t c).toNat) (by rw [ht.2.1];exact hpl)
  have bc:=ht.bagLen (k:=c.toNat) (by rw [ht.2.1];have:=hc.1;omega)
  have hb:(melted s t c).qK[(qR s t c).toNat]! =vO (t.qK[(qR s t c).toNat]!) (t.qK[c.toNat]!) 1:=by
    rw [M.bags',if_neg (by have:=hc.1;omega),if_pos rfl]
  have bu:=ok.bagLen (k:=(qR s t c).toNat) (by rw [ok.2.1];exact hpl)
  rw [hb] at bu
  refine ⟨by rw [e],cc,by rw [e];exact ⟨hs,ok⟩,by rw [e];show (melted s t c).qF[_]! =_;rw [M.alive',if_pos rfl],by rw [ep];omega,?_,by rw [kidsV_yes cc];exact Nat.le_trans (kids_len _) hs.1.2.1.2,by rw [e];exact M.total,(total_bag hs.1 ht hf).1,by rw [ep];exact ⟨bp.1,bc.1,by have:=bp.2;have:=bc.2;omega,bu.1⟩,by rw [e,ep];exact hb.symm⟩
  intro i hi
  rw [kidsV_yes cc] at hi ⊢
  have hm:(jM s t c s.qp.length)[i]! ∈jM s t c s.qp.length:=by rw [getElem!_pos _ i hi];exact List.getElem_mem hi
  obtain ⟨k1,k2,k3,k4⟩:=kids_in hm
  generalize (jM s t c s.qp.length)[i]! =q at hm k1 k2 k3 k4
  have hq:jJ s q:=⟨k1,by omega⟩
  have hqc:q≠c:=by
    intro h
    subst h
    omega
  rw [e]
  have al:(melted s t c).qF[q.toNat]! =true:=by rw [M.alive',if_neg (by have:=hc.1;omega)];exact k3
  have cq:qB s (melted s t c) q=0:=code_0 hs ok hq (by simp [al])
  exact ⟨cq,by show pnV s (melted s t c) q=_;rw [pnV_yes cq,ep];exact M.kid hq k4⟩
theorem tree_no {s:qo} {t:qw} {c:Int} (hs:jk s) (ht:xY s t) (hc:jJ s c) (h:c=0∨t.qF[c.toNat]! =false):(qQ s t c).2=4:=by
  by_cases h1:t.qF[c.toNat]! =false
  · have e:=code_4 hs ht hc h1
    rw [melt_err qc]
    exact e
  · have h2:c=0:=h.resolve_right h1
    rw [melt_skin (code_0 hs ht hc h1) h2]
theorem tree_dead {s:qo} {t:qw} {c:Int} (hs:jk s) (ht:xY s t) (hc:jJ s c) (h:t.qF[c.toNat]! =false):qB s t c=4:=code_4 hs ht hc h
theorem tree_live {s:qo} {t:qw} {c:Int} (hs:jk s) (ht:xY s t) (hc:jJ s c) (h:t.qF[c.toNat]! =true):qB s t c=0∧(c=0↔pnV s t c= -1)∧
    ∀ k:Int,jJ s k→qB s t k=0→(c∈vV s t k↔k=pnV s t c):=by
  have cc:=code_0 hs ht hc (by simp [h])
  refine ⟨cc,?_,fun k hk ck=>?_⟩
  · rw [pnV_yes cc];exact parentNow_iff hs.1 ht hc
  · rw [kidsV_yes ck,kids_mem hc.1 (by have:=hc.2;omega),pnV_yes cc]
    exact ⟨fun g=>g.2.symm,fun g=>⟨h,g.symm⟩⟩
theorem few5_of {kk:Int} {n:Nat} {alive:List Bool} {bags:yLL} {around:yLI} (h:StDr kk n 5 alive bags around):Few5 ⟨alive,bags,around⟩:=
  ⟨fun k hk j hj=>((h.bags k hk).1.2 j hj).2,fun j hj=>by have:=(h.around.2 j hj).2;show around[j]! ≤5;omega⟩
theorem mem_atI {l:yLI} {c:Int} {k:Nat} (hk:k < l.length) (h:l[k]! =c):c∈l:=by
  rw [← h,getElem!_pos l k hk];exact List.getElem_mem hk
theorem no_mem {l:yLI} {c:Int} {i:Nat} (h:∀ j,j < i→l[j]! ≠c) (hi:l.length≤i):¬ c∈l:=fun hm=>by
  obtain ⟨j,hj,e⟩:=List.mem_iff_getElem.1 hm
  exact h j qc (by rw [getElem!_pos l j hj];exact e)
theorem bool_ne {a b:Bool} (h:a≠b) (h1:a=true↔b=true):False:=h (Bool.eq_iff_iff.2 h1)
end
section
open Go.Proofs.Try
open Go.RowKit
set_option linter.unusedVariables false
set_option linter.unusedSimpArgs false
set_option maxRecDepth 100000
set_option maxHeartbeats 4000000
variable {cl bs os qy qI jm jv jo jq crOut yl xI xZ xw : Nat}
theorem l01Bag_ok (w:World) (l:yLI) {al:yOA} {Fl:yLN} (hl:qH.rep w Fl [.slice al l.length cl] l):Calls Try.prog 106 #[.slice al l.length cl] w (Ret (fun v w' =>v=.bool (dec (jD l))) w):=by
 refine en func106 ntmps106 ?_
 have H:=(St.start w).arg hl
 have nhl:=qV hl
 clear hl
 refine zcr (sp (.bool false) (zjcc (sp (yI 0) (zjn (xE ?_)))))
 refine vT (fun m' ρ w1=>∃ (zX:Env) (k:Nat),ρ=upd (upd zX 0 (.slice al l.length cl)) 3 (yI k)∧(k≤l.length)∧(Counts l k)∧m' =l.length - k∧St w w1 [] [sF false Fl al cl l]) (l.length - 0) ⟨_,0,uE2,qc,(by exact Counts.zero l),rfl,H⟩ ?_
 clear H
 rintro m' ρ w2 ⟨zX,k,rfl,i0,i1,rfl,H⟩
 refine zcc (sps [yI k,.slice al l.length cl] (oN rfl (sp (.bool (decide ((k:Int) < l.length))) (zjn (cD rfl (fun h3=>?_) (fun h3=>?_))))))
 ·skip
  refine xn (t_n (zF (xE (zcr (sps [.slice al l.length cl,yI k] ?_)))))
  obtain ⟨b4,o5,rfl⟩:=H.addr 0 rfl qc
  refine oI rfl rfl (oL rfl (H.jQ 0 rfl k qc qc) (sw (oq (l00In_ok w2 (l[k]!) 0 1000) H fun w6 H=>sp (.bool (!(inR (l[k]!) 0 1000))) (zjn (xy (!(inR (l[k]!) 0 1000)) rfl (fun h8=>?_) (fun h8=>?_))))))
  ·skip
   replace h8:=qX h8
   replace h8:=jP h8
   refine zcr (sp (.bool false) (zjr (zr5 (ret1 (.bool false) rfl rfl ⟨_,rfl,?_,H.base⟩))))
   rw [qO (fun h=>‹¬ (0≤l[k]! ∧l[k]! ≤1000)› (h.1 k qc))]
  replace h8:=qP h8
  replace h8:=jG.1 h8
  refine xn (b_n (t_n (zT (sp (yI k) (sw (vN k 1 rfl rfl qc (sp (yI (k+1)) (vg (xJ (m' :=l.length - (k+1)) qc ⟨_,k+1,uE2,?_,?_,rfl,H⟩)))))))))
  · omega
  · exact i1.succ ‹_›
 refine zx4 (zcr (sp (.slice al l.length cl) (oN rfl (sw (oq (l00In_ok w2 l.length 1 8) H fun w9 H=>sp (.bool (inR l.length 1 8)) (zjr (ret1 (.bool (inR l.length 1 8)) rfl rfl ⟨_,rfl,?_,H.base⟩)))))))
 obtain rfl:k=l.length:=by omega
 refine congrArg Value.bool (dec_eq ?_)
 rw [jG]
 exact ⟨fun h=>⟨i1,by omega,by omega⟩,fun h=>by have:=h.2;omega⟩

theorem ji (w:World) (s:qo) (b:yLI) {qA:yOA} {xq:yLN} {qJ:yOA} {xN:yLN} {ab:yOA} {cb:Nat} {Fb:yLN} (hs:vM w bs os (yS s qA qy qJ qI)) (qU:qH.rep w xq [.slice qA s.qp.length qy] s.qp) (xB:qH.rep w xN [.slice qJ s.qC.length qI] s.qC) (hb:qH.rep w Fb [.slice ab b.length cb] b):Calls Try.prog 69 #[pp bs os,.slice ab b.length cb] w (Ret (fun v w' =>v=.bool (dec (xK s.qN b))) w):=by
 refine en func69 ntmps69 ?_
 have H:=((((St.start w).arg hb).arg xB).arg qU).argAt hs
 have zU:=qV qU
 have ja:=qV xB
 have nhb:=qV hb
 clear hs qU xB hb
 refine zcr (sp (.bool false) (zjc (sp (.slice ab b.length cb) (sw (oq (l01Bag_ok _ b (H.get 3 rfl).1) H fun w1 H=>sp (.bool (dec (jD b))) ?_)))))
 cases h3:(dec (jD b))
 ·skip
  replace h3:=xP h3
  refine xh [8,9,10,11,12,13,14] (sps [.bool false,.bool false] (zjr (ret1 (.bool false) rfl rfl ⟨_,rfl,?_,H.base⟩)))
  rw [qO (fun h=>‹¬ jD b› h.1)]
 replace h3:=vW h3
 refine qx 7 rfl rfl (sp (.slice ab b.length cb) (qx 7 rfl rfl (oN rfl (qx 7 rfl rfl (sp (pp bs os) (qx 7 rfl rfl (sp (pp bs os) (qx 7 rfl rfl (oF rfl (qx 7 rfl rfl (oL rfl (H.zI 0 rfl 0 rfl) (qx 7 rfl rfl (sps [.bool ((b.length:Int) == s.qN),.bool ((b.length:Int) == s.qN),.bool ((b.length:Int) == s.qN)] (zjr (ret1 (.bool ((b.length:Int) == s.qN)) rfl rfl ⟨_,rfl,(congrArg Value.bool (dec_eq ?_)),H.base⟩)))))))))))))))
 rw [beq_iff_eq]
 exact ⟨fun h=>⟨‹_›,h⟩,fun h=>h.2⟩

theorem l02Frame_ok (w:World) (s:qo) {qA:yOA} {xq:yLN} {qJ:yOA} {xN:yLN} (hs:vM w bs os (yS s qA qy qJ qI)) (qU:qH.rep w xq [.slice qA s.qp.length qy] s.qp) (xB:qH.rep w xN [.slice qJ s.qC.length qI] s.qC):Calls Try.prog 67 #[pp bs os] w (Ret (fun v w' =>v=.bool (dec (zG s))) w):=by
 refine en func67 ntmps67 ?_
 have H:=(((St.start w).arg xB).arg qU).argAt hs
 have zU:=qV qU
 have ja:=qV xB
 clear hs qU xB
 refine zcr (sp (.bool false) (zjcc (sps [pp bs os,pp bs os] (oF rfl (oL rfl (H.zI 0 rfl 0 rfl) (sw (oq (l00In_ok w s.qN 1 8) H fun w1 H=>sps [.bool (!(inR s.qN 1 8)),.bool (!(inR s.qN 1 8))] ?_)))))))
 cases h3:(!(inR s.qN 1 8))
 ·skip
  replace h3:=qP h3
  replace h3:=jG.1 h3
  refine qx 10 rfl rfl (sp (pp bs os) (qx 10 rfl rfl (sp (pp bs os) (qx 10 rfl rfl (oF rfl (qx 10 rfl rfl (oL rfl (H.zI 0 rfl 1 rfl) (qx 10 rfl rfl (oN rfl (qx 10 rfl rfl (sw (oq (l00In_ok w1 s.qp.length 1 6) H fun w4 H=>qx 10 rfl rfl (sps [.bool (!(inR s.qp.length 1 6)),.bool (!(inR s.qp.length 1 6)),.bool (!(inR s.qp.length 1 6))] ?_)))))))))))))
  cases h6:(!(inR s.qp.length 1 6))
  ·skip
   replace h6:=qP h6
   replace h6:=jG.1 h6
   refine qx 19 rfl rfl (sp (pp bs os) (qx 19 rfl rfl (sp (pp bs os) (qx 19 rfl rfl (oF rfl (qx 19 rfl rfl (oL rfl (H.zI 0 rfl 1 rfl) (qx 19 rfl rfl ?_))))))))
   obtain ⟨b7,o8,rfl⟩:=H.addr 1 rfl qc
   refine oI rfl rfl (qx 19 rfl rfl (oL rfl (H.jQ 1 rfl 0 qc qc) (qx 19 rfl rfl (sps [.bool ((s.qp[0]! :Int) != (-1)),.bool ((s.qp[0]! :Int) != (-1))] (zjn (xy ((s.qp[0]! :Int) != (-1)) rfl (fun h9=>?_) (fun h9=>?_)))))))
   ·skip
    replace h9:=bne_iff_ne.1 h9
    refine zcr (sp (.bool false) (zjr (t_r (ret1 (.bool false) rfl rfl ⟨_,rfl,?_,H.base⟩))))
    rw [qO (fun h=>by obtain ⟨h1,h2,h3,h4⟩:=h;first | omega | (have:=h4 k qc qc;omega))]
   replace h9:=xC h9
   refine xn (t_n (zcc (sp (yI 1) (zjn (xE ?_)))))
   refine vT (fun m' ρ w10=>∃ (zX:Env) (k:Nat),ρ=upd (upd zX 0 (pp bs os)) 3 (yI k)∧(k≤s.qp.length)∧(1≤k)∧(FrameTo s k)∧m' =s.qp.length - k∧St w w10 [] [atF bs os [yI s.qN,.slice (aa b7 o8) s.qp.length qy,.slice qJ s.qC.length qI],sF false xq (aa b7 o8) qy s.qp,sF false xN qJ qI s.qC]) (s.qp.length - 1) ⟨_,1,uE2,qc,qc,(by exact FrameTo.one s),rfl,H⟩ ?_
   clear H
   rintro m' ρ w11 ⟨zX,k,rfl,i0,i2,i1,rfl,H⟩
   refine zcc (sps [yI k,pp bs os,pp bs os] (oF rfl (oL rfl (H.zI 0 rfl 1 rfl) (oN rfl (sp (.bool (decide ((k:Int) < s.qp.length))) (zjn (cD rfl (fun h12=>?_) (fun h12=>?_))))))))
   ·skip
    refine xn (t_n (zF (xE (zcr (sps [pp bs os,pp bs os] (oF rfl (oL rfl (H.zI 0 rfl 1 rfl) (sp (yI k) (oI rfl rfl (oL rfl (H.jQ 1 rfl k qc qc) (sp (yI k) (sw (o_sub k 1 rfl rfl qc (sw (oq (l00In_ok w11 (s.qp[k]!) 0 (k - 1)) H fun w13 H=>sp (.bool (!(inR (s.qp[k]!) 0 (k - 1)))) (zjn (xy (!(inR (s.qp[k]!) 0 (k - 1))) rfl (fun h15=>?_) (fun h15=>?_))))))))))))))))))
    ·skip
     replace h15:=qX h15
     replace h15:=jP h15
     refine zcr (sp (.bool false) (zjr (zr5 (ret1 (.bool false) rfl rfl ⟨_,rfl,?_,H.base⟩))))
     rw [qO (fun h=>by obtain ⟨h1,h2,h3,h4⟩:=h;first | omega | (have:=h4 k qc qc;omega))]
    replace h15:=qP h15
    replace h15:=jG.1 h15
    refine xn (b_n (t_n (zT (sp (yI k) (sw (vN k 1 rfl rfl qc (sp (yI (k+1)) (vg (xJ (m' :=s.qp.length - (k+1)) qc ⟨_,k+1,uE2,?_,?_,?_,rfl,H⟩)))))))))
    · omega
    · omega
    · exact i1.succ ‹_›
   refine zx4 (zcr (sp (.bool true) (zjr (ret1 (.bool true) rfl rfl ⟨_,rfl,?_,H.base⟩))))
   obtain rfl:k=s.qp.length:=by omega
   rw [jX ⟨by omega,by omega,by omega,i1⟩]
  replace h6:=qX h6
  replace h6:=jP h6
  refine xh [20,21,22,23,24,25,26] (sp (.bool true) (zjn (xy true rfl (fun _=>zcr (sp (.bool false) (zjr (t_r (ret1 (.bool false) rfl rfl ⟨_,rfl,?_,H.base⟩))))) (fun h=>absurd h qh))))
  rw [qO (fun h=>by obtain ⟨h1,h2,h3,h4⟩:=h;first | omega | (have:=h4 k qc qc;omega))]
 replace h3:=qX h3
 replace h3:=jP h3
 refine xh [11,12,13,14,15,16,17] (sps [.bool true,.bool true] (xh [20,21,22,23,24,25,26] (sp (.bool true) (zjn (xy true rfl (fun _=>zcr (sp (.bool false) (zjr (t_r (ret1 (.bool false) rfl rfl ⟨_,rfl,?_,H.base⟩))))) (fun h=>absurd h qh))))))
 rw [qO (fun h=>by obtain ⟨h1,h2,h3,h4⟩:=h;first | omega | (have:=h4 k qc qc;omega))]

theorem l02In_ok (w:World) (s:qo) (c:Int) (other:Int) {qA:yOA} {xq:yLN} {qJ:yOA} {xN:yLN} (hs:vM w bs os (yS s qA qy qJ qI)) (qU:qH.rep w xq [.slice qA s.qp.length qy] s.qp) (xB:qH.rep w xN [.slice qJ s.qC.length qI] s.qC) (p0:zG s) (p1:jJ s c):Calls Try.prog 105 #[pp bs os,yI c,yI other] w (Ret (fun v w' =>v=.bool (dec (Lies s.qp other c))) w):=by
 refine en func105 ntmps105 ?_
 have H:=(((St.start w).arg xB).arg qU).argAt hs
 have zU:=qV qU
 have ja:=qV xB
 clear hs qU xB
 refine zcr (sp (.bool false) (zjn (zF (xE ?_))))
 refine vT (fun m' ρ w1=>∃ (zX:Env) (y:Int),ρ=upd (upd (upd zX 0 (pp bs os)) 1 (yI y)) 2 (yI other)∧(0≤y∧y≤(s.qp.length:Int) - 1)∧(Lies s.qp other c↔Lies s.qp other y)∧m' =y.toNat∧St w w1 [] [atF bs os (yS s qA qy qJ qI),sF false xq qA qy s.qp,sF false xN qJ qI s.qC]) (c.toNat) ⟨_,c,uE3,(by exact p1),(by exact Iff.rfl),rfl,H⟩ ?_
 clear H
 rintro m' ρ w2 ⟨zX,y,rfl,i0,i1,rfl,H⟩
 have up:=fun h=>p0.up (c:=y) h i0.2
 refine zcc (sps [yI y,.bool (decide ((y:Int) > 0))] (zjn (cD rfl (fun h3=>?_) (fun h3=>?_))))
 ·skip
  refine xn (t_n (xE (zcr (sps [pp bs os,pp bs os] (oF rfl (oL rfl (H.zI 0 rfl 1 rfl) (sp (yI y) ?_)))))))
  obtain ⟨b4,o5,rfl⟩:=H.addr 1 rfl qc
  refine oI rfl rfl (oL rfl (H.jQ 1 rfl y qc qc) (sp (yI (s.qp[y.toNat]!)) (zjc (sps [yI (s.qp[y.toNat]!),yI other,.bool ((s.qp[y.toNat]! :Int) == other)] (zjn (cE rfl (fun h6=>?_) (fun h6=>?_)))))))
  ·skip
   refine zcr (sp (.bool true) (zjr (b_r (t_r (b_r (t_r (ret1 (.bool true) rfl rfl ⟨_,rfl,?_,H.base⟩)))))))
   rw [jX (i1.2 (.here qc ‹_›))]
  refine xn (b_n ?_)
  have up1:=up qc
  refine xJ (m' :=(s.qp[y.toNat]!).toNat) qc ⟨_,(s.qp[y.toNat]!),uE3,?_,?_,rfl,H⟩
  · have:=up qc;omega
  · exact i1.trans (lies_iff.trans ⟨fun h=>h.2.resolve_left ‹_›,fun h=>⟨by omega,.inr h⟩⟩)
 refine zx4 (zcr (sp (.bool false) (zjr (ret1 (.bool false) rfl rfl ⟨_,rfl,?_,H.base⟩))))
 rw [qO (fun h=>by have:=(lies_iff.1 (i1.1 h)).1;omega)]

theorem l02Rule_ok (w:World) (s:qo) (r:zM) {qA:yOA} {xq:yLN} {qJ:yOA} {xN:yLN} {br or:Nat} {jw:yOA} {FrNeed:yLN} {jB:yOA} {FrHave:yLN} {jy:yOA} {FrLack:yLN} {jA:yOA} {FrHere:yLN} {arOut:yOA} {FrOut:yLN} {yu:yOA} {FrInto:yLN} (hs:vM w bs os (yS s qA qy qJ qI)) (qU:qH.rep w xq [.slice qA s.qp.length qy] s.qp) (xB:qH.rep w xN [.slice qJ s.qC.length qI] s.qC) (hr:vM w br or [yI r.qY,yI r.jU,.slice jw r.xO.length jm,.slice jB r.zy.length jv,.slice jy r.zA.length jo,.slice jA r.zB.length jq,.slice arOut r.jL.length crOut,.slice yu r.xe.length yl,.bool r.yh]) (hrNeed:qH.rep w FrNeed [.slice jw r.xO.length jm] r.xO) (hrHave:qH.rep w FrHave [.slice jB r.zy.length jv] r.zy) (hrLack:qH.rep w FrLack [.slice jy r.zA.length jo] r.zA) (hrHere:qH.rep w FrHere [.slice jA r.zB.length jq] r.zB) (hrOut:qH.rep w FrOut [.slice arOut r.jL.length crOut] r.jL) (hrInto:qH.rep w FrInto [.slice yu r.xe.length yl] r.xe) (p0:zG s):Calls Try.prog 68 #[pp bs os,pp br or] w (Ret (fun v w' =>v=.bool (dec (RuleOk s r))) w):=by
 refine en func68 ntmps68 ?_
 have H:=((((((((((St.start w).arg hrInto).arg hrOut).arg hrHere).arg hrLack).arg hrHave).arg hrNeed).argAt hr).arg xB).arg qU).argAt hs
 have zU:=qV qU
 have ja:=qV xB
 have nhrNeed:=qV hrNeed
 have nhrHave:=qV hrHave
 have nhrLack:=qV hrLack
 have nhrHere:=qV hrHere
 have nhrOut:=qV hrOut
 have nhrInto:=qV hrInto
 clear hs qU xB hr hrNeed hrHave hrLack hrHere hrOut hrInto
 refine zcr (sp (.bool false) (zjn (zF (zF ?_))))
 refine c_drawH rfl H fun H=>rtp 0 (pp br or) H ?_
 refine rtp 1 (pp br or) H ?_
 refine tF 2 rfl rfl H ?_
 refine tL 3 rfl rfl (fun _ h=>h.zI 3 rfl 0 rfl) H ?_
 refine rtp 4 (pp bs os) H ?_
 refine rtp 5 (pp bs os) H ?_
 refine tF 6 rfl rfl H ?_
 refine tL 7 rfl rfl (fun _ h=>h.zI 0 rfl 1 rfl) H ?_
 refine tN 8 rfl rfl H ?_
 refine rt 9 (yI (s.qp.length - 1)) (y_sub s.qp.length 1 rfl rfl qc) H ?_
 refine ro 10 rfl (oq (l00In_ok w.drew r.qY 0 (s.qp.length - 1)) H fun w2 H=>⟨H,(rtp 11 (.bool (!(inR r.qY 0 (s.qp.length - 1)))) H ?_)⟩)
 refine rtp 12 (.bool (!(inR r.qY 0 (s.qp.length - 1)))) H ?_
 cases h4:(!(inR r.qY 0 (s.qp.length - 1)))
 ·skip
  replace h4:=qP h4
  replace h4:=jG.1 h4
  refine rgp 13 (pp br or) 19 H ?_
  refine rgp 14 (pp br or) 19 H ?_
  refine gF 15 rfl rfl H ?_
  refine gL 16 rfl rfl (fun _ h=>h.zI 3 rfl 1 rfl) H ?_
  refine zl [17] qg qj (r_opG rfl (e:=19) rfl rfl (oq (l00In_ok w2 r.jU 0 9) H fun w5 H=>⟨H,(rgp 18 (.bool (!(inR r.jU 0 9))) 19 H ?_)⟩) zn)
  refine rtp 19 (.bool (!(inR r.jU 0 9))) H ?_
  refine rtp 20 (.bool (!(inR r.jU 0 9))) H ?_
  cases h7:(!(inR r.jU 0 9))
  ·skip
   replace h7:=qP h7
   replace h7:=jG.1 h7
   refine rgp 21 (pp br or) 27 H ?_
   refine rgp 22 (pp br or) 27 H ?_
   refine gF 23 rfl rfl H ?_
   refine gL 24 rfl rfl (fun _ h=>h.zI 3 rfl 8 rfl) H ?_
   refine rgp 25 (.bool r.yh) 27 H ?_
   cases h8:(r.yh)
   ·skip
    rw [h8] at H
    refine x8 [26,27,28,29,30] 5 (H) (rgp 31 (.bool false) 27 H ?_)
    refine rtp 32 (.bool false) H ?_
    refine rtp 33 (.bool false) H ?_
    refine rgp 34 (pp br or) 40 H ?_
    refine rgp 35 (pp br or) 40 H ?_
    refine gF 36 rfl rfl H ?_
    refine gL 37 rfl rfl (fun _ h=>h.zI 3 rfl 7 rfl) H ?_
    refine gN 38 rfl rfl H ?_
    refine rgp 39 (.bool (decide ((r.xe.length:Int) > 3))) 40 H ?_
    refine rtp 40 (.bool (decide ((r.xe.length:Int) > 3))) H ?_
    refine qZ qg (t_n (cD rfl (fun h9=>?_) (fun h9=>?_)))
    ·skip
     refine zcr (sp (.bool false) (zjr (t_r (ret1 (.bool false) rfl rfl ⟨_,rfl,?_,H.base⟩))))
     rw [qO (fun h=>by obtain ⟨h1,h2,h3,h4,h5,h6,h7,h8,h9,h10,h11⟩:=h;first | contradiction | omega | exact h3 ⟨‹_›,‹_›⟩ | (obtain ⟨q1,q2,q3,q4,q5⟩:=h11 k qc;first | contradiction | omega | (have:=q5 qc;omega)))]
    refine xn (t_n (zcc (sps [pp bs os,pp br or,pp br or] (oF rfl (oL rfl (H.zI 3 rfl 2 rfl) (sw (oq (ji _ s r.xO (qE (H.get 0 rfl) 0 3) (H.get 1 rfl).1 (H.get 2 rfl).1 (H.get 4 rfl).1) H fun w10 H=>sps [.bool (!(dec (xK s.qN r.xO))),.bool (!(dec (xK s.qN r.xO)))] ?_)))))))
    cases h12:(!(dec (xK s.qN r.xO)))
    ·skip
     replace h12:=qP h12
     replace h12:=vW h12
     refine qx 55 rfl rfl (sp (pp bs os) (qx 55 rfl rfl (sp (pp br or) (qx 55 rfl rfl (sp (pp br or) (qx 55 rfl rfl (oF rfl (qx 55 rfl rfl (oL rfl (H.zI 3 rfl 3 rfl) (qx 55 rfl rfl (sw (oq (ji _ s r.zy (qE (H.get 0 rfl) 0 3) (H.get 1 rfl).1 (H.get 2 rfl).1 (H.get 5 rfl).1) H fun w13 H=>qx 55 rfl rfl (sps [.bool (!(dec (xK s.qN r.zy))),.bool (!(dec (xK s.qN r.zy))),.bool (!(dec (xK s.qN r.zy)))] ?_)))))))))))))
     cases h15:(!(dec (xK s.qN r.zy)))
     ·skip
      replace h15:=qP h15
      replace h15:=vW h15
      refine qx 64 rfl rfl (sp (pp bs os) (qx 64 rfl rfl (sp (pp br or) (qx 64 rfl rfl (sp (pp br or) (qx 64 rfl rfl (oF rfl (qx 64 rfl rfl (oL rfl (H.zI 3 rfl 4 rfl) (qx 64 rfl rfl (sw (oq (ji _ s r.zA (qE (H.get 0 rfl) 0 3) (H.get 1 rfl).1 (H.get 2 rfl).1 (H.get 6 rfl).1) H fun w16 H=>qx 64 rfl rfl (sps [.bool (!(dec (xK s.qN r.zA))),.bool (!(dec (xK s.qN r.zA))),.bool (!(dec (xK s.qN r.zA)))] ?_)))))))))))))
      cases h18:(!(dec (xK s.qN r.zA)))
      ·skip
       replace h18:=qP h18
       replace h18:=vW h18
       refine qx 73 rfl rfl (sp (pp bs os) (qx 73 rfl rfl (sp (pp br or) (qx 73 rfl rfl (sp (pp br or) (qx 73 rfl rfl (oF rfl (qx 73 rfl rfl (oL rfl (H.zI 3 rfl 5 rfl) (qx 73 rfl rfl (sw (oq (ji _ s r.zB (qE (H.get 0 rfl) 0 3) (H.get 1 rfl).1 (H.get 2 rfl).1 (H.get 7 rfl).1) H fun w19 H=>qx 73 rfl rfl (sps [.bool (!(dec (xK s.qN r.zB))),.bool (!(dec (xK s.qN r.zB))),.bool (!(dec (xK s.qN r.zB)))] ?_)))))))))))))
       cases h21:(!(dec (xK s.qN r.zB)))
       ·skip
        replace h21:=qP h21
        replace h21:=vW h21
        refine qx 82 rfl rfl (sp (pp bs os) (qx 82 rfl rfl (sp (pp br or) (qx 82 rfl rfl (sp (pp br or) (qx 82 rfl rfl (oF rfl (qx 82 rfl rfl (oL rfl (H.zI 3 rfl 6 rfl) (qx 82 rfl rfl (sw (oq (ji _ s r.jL (qE (H.get 0 rfl) 0 3) (H.get 1 rfl).1 (H.get 2 rfl).1 (H.get 8 rfl).1) H fun w22 H=>qx 82 rfl rfl (sps [.bool (!(dec (xK s.qN r.jL))),.bool (!(dec (xK s.qN r.jL))),.bool (!(dec (xK s.qN r.jL)))] ?_)))))))))))))
        cases h24:(!(dec (xK s.qN r.jL)))
        ·skip
         replace h24:=qP h24
         replace h24:=vW h24
         refine qx 91 rfl rfl (sp (pp br or) (qx 91 rfl rfl (sp (pp br or) (qx 91 rfl rfl (oF rfl (qx 91 rfl rfl (oL rfl (H.zI 3 rfl 2 rfl) (qx 91 rfl rfl (sw (oq (l01Size_ok _ r.xO (H.get 4 rfl).1 (by first | assumption | exact zL qi | exact jH qi)) H fun w25 H=>qx 91 rfl rfl (sps [.bool ((sumL r.xO:Int) == 0),.bool ((sumL r.xO:Int) == 0)] (zjn (cE rfl (fun h27=>?_) (fun h27=>?_))))))))))))))
         ·skip
          refine zcr (sp (.bool false) (zjr (t_r (ret1 (.bool false) rfl rfl ⟨_,rfl,?_,H.base⟩))))
          rw [qO (fun h=>by obtain ⟨h1,h2,h3,h4,h5,h6,h7,h8,h9,h10,h11⟩:=h;first | contradiction | omega | exact h3 ⟨‹_›,‹_›⟩ | (obtain ⟨q1,q2,q3,q4,q5⟩:=h11 k qc;first | contradiction | omega | (have:=q5 qc;omega)))]
         refine xn (t_n (zcc (sp (yI 0) (zjn (xE ?_)))))
         refine vT (fun m' ρ w28=>∃ (zX:Env) (k:Nat),ρ=upd (upd (upd zX 0 (pp bs os)) 1 (pp br or)) 5 (yI k)∧(k≤r.xe.length)∧(IntosTo s r k)∧m' =r.xe.length - k∧St w w28 [] [atF bs os (yS s qA qy qJ qI),sF false xq qA qy s.qp,sF false xN qJ qI s.qC,atF br or [yI r.qY,yI r.jU,.slice jw r.xO.length jm,.slice jB r.zy.length jv,.slice jy r.zA.length jo,.slice jA r.zB.length jq,.slice arOut r.jL.length crOut,.slice yu r.xe.length yl,.bool false],sF false FrNeed jw jm r.xO,sF false FrHave jB jv r.zy,sF false FrLack jy jo r.zA,sF false FrHere jA jq r.zB,sF false FrOut arOut crOut r.jL,sF false FrInto yu yl r.xe]) (r.xe.length - 0) ⟨_,0,uE3,qc,(by exact fun j hj=>by omega),rfl,H⟩ ?_
         clear H
         rintro m' ρ w29 ⟨zX,k,rfl,i0,i1,rfl,H⟩
         refine zcc (sps [yI k,pp br or,pp br or] (oF rfl (oL rfl (H.zI 3 rfl 7 rfl) (oN rfl (sp (.bool (decide ((k:Int) < r.xe.length))) (zjn (cD rfl (fun h30=>?_) (fun h30=>?_))))))))
         ·skip
          refine xn (t_n (zF (xE (zcr (sps [pp br or,pp br or] (oF rfl (oL rfl (H.zI 3 rfl 7 rfl) (sp (yI k) ?_))))))))
          obtain ⟨b31,o32,rfl⟩:=H.addr 9 rfl qc
          obtain ⟨ae33Bag,ce33Bag,Fe33Bag,H⟩:=H.yj 9 rfl k k qc qc qc
          refine oI rfl rfl (sp (pp b31 (o32+(k:Int).toNat * 2)) (zjn (zF (zF ?_))))
          refine c_drawH rfl H fun H=>rtp 0 (pp b31 (o32+(k:Int).toNat * 2)) H ?_
          refine rtp 1 (pp b31 (o32+(k:Int).toNat * 2)) H ?_
          refine tF 2 rfl rfl H ?_
          refine tL 3 rfl rfl (fun _ h=>h.zI 1 rfl 0 rfl) H ?_
          refine rtp 4 (pp bs os) H ?_
          refine rtp 5 (pp bs os) H ?_
          refine tF 6 rfl rfl H ?_
          refine tL 7 rfl rfl (fun _ h=>h.zI 2 rfl 1 rfl) H ?_
          refine tN 8 rfl rfl H ?_
          refine rt 9 (yI (s.qp.length - 1)) (y_sub s.qp.length 1 rfl rfl qc) H ?_
          refine ro 10 rfl (oq (l00In_ok w29.drew ((r.xe[k]!).qY) 0 (s.qp.length - 1)) H fun w35 H=>⟨H,(rtp 11 (.bool (!(inR ((r.xe[k]!).qY) 0 (s.qp.length - 1)))) H ?_)⟩)
          refine rtp 12 (.bool (!(inR ((r.xe[k]!).qY) 0 (s.qp.length - 1)))) H ?_
          cases h37:(!(inR ((r.xe[k]!).qY) 0 (s.qp.length - 1)))
          ·skip
           replace h37:=qP h37
           replace h37:=jG.1 h37
           refine rgp 13 (pp bs os) 126 H ?_
           refine rgp 14 (pp b31 (o32+(k:Int).toNat * 2)) 126 H ?_
           refine rgp 15 (pp b31 (o32+(k:Int).toNat * 2)) 126 H ?_
           refine gF 16 rfl rfl H ?_
           refine gL 17 rfl rfl (fun _ h=>h.zI 1 rfl 0 rfl) H ?_
           refine rgp 18 (pp br or) 126 H ?_
           refine rgp 19 (pp br or) 126 H ?_
           refine gF 20 rfl rfl H ?_
           refine gL 21 rfl rfl (fun _ h=>h.zI 5 rfl 0 rfl) H ?_
           refine zl [22] qg qj (r_opG rfl (e:=126) rfl rfl (oq (l02In_ok _ s ((r.xe[k]!).qY) r.qY (qE (H.get 2 rfl) 0 3) (H.get 3 rfl).1 (H.get 4 rfl).1 qi qi) H fun w38 H=>⟨H,(rgp 23 (.bool (!(dec (Lies s.qp r.qY ((r.xe[k]!).qY))))) 126 H ?_)⟩) zn)
           refine rtp 24 (.bool (!(dec (Lies s.qp r.qY ((r.xe[k]!).qY))))) H ?_
           refine rtp 25 (.bool (!(dec (Lies s.qp r.qY ((r.xe[k]!).qY))))) H ?_
           cases h40:(!(dec (Lies s.qp r.qY ((r.xe[k]!).qY))))
           ·skip
            replace h40:=qP h40
            replace h40:=vW h40
            refine rgp 26 (pp bs os) 139 H ?_
            refine rgp 27 (pp b31 (o32+(k:Int).toNat * 2)) 139 H ?_
            refine rgp 28 (pp b31 (o32+(k:Int).toNat * 2)) 139 H ?_
            refine gF 29 rfl rfl H ?_
            refine gL 30 rfl rfl (fun _ h=>h.zI 1 rfl 1 rfl) H ?_
            refine zl [31] qg qj (r_opG rfl (e:=139) rfl rfl (oq (ji _ s ((r.xe[k]!).yw) (qE (H.get 2 rfl) 0 3) (H.get 3 rfl).1 (H.get 4 rfl).1 (H.get 0 rfl).1) H fun w41 H=>⟨H,(rgp 32 (.bool (!(dec (xK s.qN ((r.xe[k]!).yw))))) 139 H ?_)⟩) zn)
            refine rtp 33 (.bool (!(dec (xK s.qN ((r.xe[k]!).yw))))) H ?_
            refine rtp 34 (.bool (!(dec (xK s.qN ((r.xe[k]!).yw))))) H ?_
            cases h43:(!(dec (xK s.qN ((r.xe[k]!).yw))))
            ·skip
             replace h43:=qP h43
             replace h43:=vW h43
             refine rgp 35 (pp b31 (o32+(k:Int).toNat * 2)) 148 H ?_
             refine rgp 36 (pp b31 (o32+(k:Int).toNat * 2)) 148 H ?_
             refine gF 37 rfl rfl H ?_
             refine gL 38 rfl rfl (fun _ h=>h.zI 1 rfl 1 rfl) H ?_
             refine zl [39] qg qj (r_opG rfl (e:=148) rfl rfl (oq (l01Size_ok _ ((r.xe[k]!).yw) (H.get 0 rfl).1 (by first | assumption | exact zL qi | exact jH qi)) H fun w44 H=>⟨H,(rgp 40 (.bool ((sumL ((r.xe[k]!).yw):Int) == 0)) 148 H ?_)⟩) zn)
             refine rtp 41 (.bool ((sumL ((r.xe[k]!).yw):Int) == 0)) H ?_
             refine qZ qg (t_n (cE rfl (fun h46=>?_) (fun h46=>?_)))
             ·skip
              refine zcr (sp (.bool false) (zjr (t_r (zr5 (ret1 (.bool false) rfl rfl ⟨_,rfl,?_,H.base⟩)))))
              rw [qO (fun h=>by obtain ⟨h1,h2,h3,h4,h5,h6,h7,h8,h9,h10,h11⟩:=h;first | contradiction | omega | exact h3 ⟨‹_›,‹_›⟩ | (obtain ⟨q1,q2,q3,q4,q5⟩:=h11 k qc;first | contradiction | omega | (have:=q5 qc;omega)))]
             refine xn (t_n (zF ?_))
             refine c_drawH rfl H fun H=>rtp 0 (yI k) H ?_
             refine rtp 1 (.bool (decide ((k:Int) > 0))) H ?_
             refine rtp 2 (.bool (decide ((k:Int) > 0))) H ?_
             cases h48:(decide ((k:Int) > 0))
             ·skip
              replace h48:=of_decide_eq_false h48
              refine x8 [3,4,5,6,7,8,9,10,11,12,13,14,15,16] 14 (H) (rtp 17 (.bool false) H ?_)
              refine qZ qg (t_n (xy false rfl (fun h=>absurd h qh) (fun _=>xn (b_n (t_n (zT (sp (yI k) (sw (vN k 1 rfl rfl qc (sp (yI (k+1)) (vg (xJ (m' :=r.xe.length - (k+1)) qc ⟨_,k+1,uE3,?_,?_,rfl,H.sel _ (.refl _) _ qj⟩))))))))))))
              · omega
              · exact i1.succ ⟨‹_›,‹_›,‹_›,‹_›,fun hk=>by omega⟩
             replace h48:=of_decide_eq_true h48
             refine rgp 3 (pp br or) 158 H ?_
             refine rgp 4 (pp br or) 158 H ?_
             refine gF 5 rfl rfl H ?_
             refine gL 6 rfl rfl (fun _ h=>h.zI 5 rfl 7 rfl) H ?_
             refine rgp 7 (yI k) 158 H ?_
             refine rg 8 (yI (k - 1)) 158 (y_sub k 1 rfl rfl qc) H ?_
             obtain ⟨ae49Bag,ce49Bag,Fe49Bag,H⟩:=H.yj 11 rfl (k - 1) (k - 1) qc qc qc
             refine gI 9 rfl rfl rfl (H.sel _ (.refl _) _ (fun _ h=>List.mem_cons_of_mem _ (List.mem_cons_of_mem _ (h)))) ?_
             refine gF 10 rfl rfl (H.sel _ (.refl _) _ (fun _ h=>List.mem_cons_of_mem _ (List.mem_cons_of_mem _ (h)))) ?_
             refine rgp 12 (pp b31 (o32+(k:Int).toNat * 2)) 158 (H.sel _ (.refl _) _ (fun _ h=>List.mem_cons_of_mem _ (List.mem_cons_of_mem _ (h)))) ?_
             refine rgp 13 (pp b31 (o32+(k:Int).toNat * 2)) 158 (H.sel _ (.refl _) _ (fun _ h=>List.mem_cons_of_mem _ (List.mem_cons_of_mem _ (h)))) ?_
             refine gF 14 rfl rfl (H.sel _ (.refl _) _ (fun _ h=>List.mem_cons_of_mem _ (List.mem_cons_of_mem _ (h)))) ?_
             refine gL 15 rfl rfl (fun _ h=>h.zI 1 rfl 0 rfl) (H.sel _ (.refl _) _ (fun _ h=>List.mem_cons_of_mem _ (List.mem_cons_of_mem _ (h)))) ?_
             refine zl [11] qg qj (r_opG rfl (e:=158) rfl rfl (ve (yI ((r.xe[k - 1]!).qY)) isAgg2 rfl (H.zI 1 rfl 0 rfl) (⟨H.dF 2,(rgp 16 (.bool (decide (((r.xe[k - 1]!).qY:Int)≥((r.xe[k]!).qY)))) 158 (H.sel _ (.refl _) _ (fun _ h=>List.mem_cons_of_mem _ (List.mem_cons_of_mem _ (h)))) ?_)⟩)) zn)
             refine rtp 17 (.bool (decide (((r.xe[k - 1]!).qY:Int)≥((r.xe[k]!).qY)))) (H.sel _ (.refl _) _ (fun _ h=>List.mem_cons_of_mem _ (List.mem_cons_of_mem _ (h)))) ?_
             refine qZ qg (t_n (cD rfl (fun h50=>?_) (fun h50=>?_)))
             ·skip
              refine zcr (sp (.bool false) (zjr (zr5 (ret1 (.bool false) rfl rfl ⟨_,rfl,?_,H.base⟩))))
              rw [qO (fun h=>by obtain ⟨h1,h2,h3,h4,h5,h6,h7,h8,h9,h10,h11⟩:=h;first | contradiction | omega | exact h3 ⟨‹_›,‹_›⟩ | (obtain ⟨q1,q2,q3,q4,q5⟩:=h11 k qc;first | contradiction | omega | (have:=q5 qc;omega)))]
             refine xn (b_n (t_n (zT (sp (yI k) (sw (vN k 1 rfl rfl qc (sp (yI (k+1)) (vg (xJ (m' :=r.xe.length - (k+1)) qc ⟨_,k+1,uE3,?_,?_,rfl,H.sel _ (.refl _) _ qj⟩)))))))))
             · omega
             · exact i1.succ ⟨‹_›,‹_›,‹_›,‹_›,fun hk=>by omega⟩
            replace h43:=qX h43
            replace h43:=xP h43
            refine x8 [35,36,37,38,39,40] 6 (H) (rtp 41 (.bool true) H ?_)
            refine qZ qg (t_n (xy true rfl (fun _=>zcr (sp (.bool false) (zjr (t_r (zr5 (ret1 (.bool false) rfl rfl ⟨_,rfl,?_,H.base⟩)))))) (fun h=>absurd h qh)))
            rw [qO (fun h=>by obtain ⟨h1,h2,h3,h4,h5,h6,h7,h8,h9,h10,h11⟩:=h;first | contradiction | omega | exact h3 ⟨‹_›,‹_›⟩ | (obtain ⟨q1,q2,q3,q4,q5⟩:=h11 k qc;first | contradiction | omega | (have:=q5 qc;omega)))]
           replace h40:=qX h40
           replace h40:=xP h40
           refine x8 [26,27,28,29,30,31,32] 7 (H) (rtp 33 (.bool true) H ?_)
           refine rtp 34 (.bool true) H ?_
           refine x8 [35,36,37,38,39,40] 6 (H) (rtp 41 (.bool true) H ?_)
           refine qZ qg (t_n (xy true rfl (fun _=>zcr (sp (.bool false) (zjr (t_r (zr5 (ret1 (.bool false) rfl rfl ⟨_,rfl,?_,H.base⟩)))))) (fun h=>absurd h qh)))
           rw [qO (fun h=>by obtain ⟨h1,h2,h3,h4,h5,h6,h7,h8,h9,h10,h11⟩:=h;first | contradiction | omega | exact h3 ⟨‹_›,‹_›⟩ | (obtain ⟨q1,q2,q3,q4,q5⟩:=h11 k qc;first | contradiction | omega | (have:=q5 qc;omega)))]
          replace h37:=qX h37
          replace h37:=jP h37
          refine x8 [13,14,15,16,17,18,19,20,21,22,23] 11 (H) (rtp 24 (.bool true) H ?_)
          refine rtp 25 (.bool true) H ?_
          refine x8 [26,27,28,29,30,31,32] 7 (H) (rtp 33 (.bool true) H ?_)
          refine rtp 34 (.bool true) H ?_
          refine x8 [35,36,37,38,39,40] 6 (H) (rtp 41 (.bool true) H ?_)
          refine qZ qg (t_n (xy true rfl (fun _=>zcr (sp (.bool false) (zjr (t_r (zr5 (ret1 (.bool false) rfl rfl ⟨_,rfl,?_,H.base⟩)))))) (fun h=>absurd h qh)))
          rw [qO (fun h=>by obtain ⟨h1,h2,h3,h4,h5,h6,h7,h8,h9,h10,h11⟩:=h;first | contradiction | omega | exact h3 ⟨‹_›,‹_›⟩ | (obtain ⟨q1,q2,q3,q4,q5⟩:=h11 k qc;first | contradiction | omega | (have:=q5 qc;omega)))]
         refine zx4 (zcr (sp (.bool true) (zjr (ret1 (.bool true) rfl rfl ⟨_,rfl,?_,H.base⟩))))
         obtain rfl:k=r.xe.length:=by omega
         rw [jX ⟨by assumption,by omega,by simp_all,by omega,by assumption,by assumption,by assumption,by assumption,by assumption,by assumption,i1⟩]
        replace h24:=qX h24
        replace h24:=xP h24
        refine xh [92,93,94,95,96,97] (sp (.bool true) (zjn (xy true rfl (fun _=>zcr (sp (.bool false) (zjr (t_r (ret1 (.bool false) rfl rfl ⟨_,rfl,?_,H.base⟩))))) (fun h=>absurd h qh))))
        rw [qO (fun h=>by obtain ⟨h1,h2,h3,h4,h5,h6,h7,h8,h9,h10,h11⟩:=h;first | contradiction | omega | exact h3 ⟨‹_›,‹_›⟩ | (obtain ⟨q1,q2,q3,q4,q5⟩:=h11 k qc;first | contradiction | omega | (have:=q5 qc;omega)))]
       replace h21:=qX h21
       replace h21:=xP h21
       refine xh [83,84,85,86,87,88,89] (sps [.bool true,.bool true] (xh [92,93,94,95,96,97] (sp (.bool true) (zjn (xy true rfl (fun _=>zcr (sp (.bool false) (zjr (t_r (ret1 (.bool false) rfl rfl ⟨_,rfl,?_,H.base⟩))))) (fun h=>absurd h qh))))))
       rw [qO (fun h=>by obtain ⟨h1,h2,h3,h4,h5,h6,h7,h8,h9,h10,h11⟩:=h;first | contradiction | omega | exact h3 ⟨‹_›,‹_›⟩ | (obtain ⟨q1,q2,q3,q4,q5⟩:=h11 k qc;first | contradiction | omega | (have:=q5 qc;omega)))]
      replace h18:=qX h18
      replace h18:=xP h18
      refine xh [74,75,76,77,78,79,80] (sps [.bool true,.bool true] (xh [83,84,85,86,87,88,89] (sps [.bool true,.bool true] (xh [92,93,94,95,96,97] (sp (.bool true) (zjn (xy true rfl (fun _=>zcr (sp (.bool false) (zjr (t_r (ret1 (.bool false) rfl rfl ⟨_,rfl,?_,H.base⟩))))) (fun h=>absurd h qh))))))))
      rw [qO (fun h=>by obtain ⟨h1,h2,h3,h4,h5,h6,h7,h8,h9,h10,h11⟩:=h;first | contradiction | omega | exact h3 ⟨‹_›,‹_›⟩ | (obtain ⟨q1,q2,q3,q4,q5⟩:=h11 k qc;first | contradiction | omega | (have:=q5 qc;omega)))]
     replace h15:=qX h15
     replace h15:=xP h15
     refine xh [65,66,67,68,69,70,71] (sps [.bool true,.bool true] (xh [74,75,76,77,78,79,80] (sps [.bool true,.bool true] (xh [83,84,85,86,87,88,89] (sps [.bool true,.bool true] (xh [92,93,94,95,96,97] (sp (.bool true) (zjn (xy true rfl (fun _=>zcr (sp (.bool false) (zjr (t_r (ret1 (.bool false) rfl rfl ⟨_,rfl,?_,H.base⟩))))) (fun h=>absurd h qh))))))))))
     rw [qO (fun h=>by obtain ⟨h1,h2,h3,h4,h5,h6,h7,h8,h9,h10,h11⟩:=h;first | contradiction | omega | exact h3 ⟨‹_›,‹_›⟩ | (obtain ⟨q1,q2,q3,q4,q5⟩:=h11 k qc;first | contradiction | omega | (have:=q5 qc;omega)))]
    replace h12:=qX h12
    replace h12:=xP h12
    refine xh [56,57,58,59,60,61,62] (sps [.bool true,.bool true] (xh [65,66,67,68,69,70,71] (sps [.bool true,.bool true] (xh [74,75,76,77,78,79,80] (sps [.bool true,.bool true] (xh [83,84,85,86,87,88,89] (sps [.bool true,.bool true] (xh [92,93,94,95,96,97] (sp (.bool true) (zjn (xy true rfl (fun _=>zcr (sp (.bool false) (zjr (t_r (ret1 (.bool false) rfl rfl ⟨_,rfl,?_,H.base⟩))))) (fun h=>absurd h qh))))))))))))
    rw [qO (fun h=>by obtain ⟨h1,h2,h3,h4,h5,h6,h7,h8,h9,h10,h11⟩:=h;first | contradiction | omega | exact h3 ⟨‹_›,‹_›⟩ | (obtain ⟨q1,q2,q3,q4,q5⟩:=h11 k qc;first | contradiction | omega | (have:=q5 qc;omega)))]
   rw [h8] at H
   refine rgp 26 (pp br or) 32 H ?_
   refine rgp 27 (pp br or) 32 H ?_
   refine gF 28 rfl rfl H ?_
   refine gL 29 rfl rfl (fun _ h=>h.zI 3 rfl 0 rfl) H ?_
   refine rgp 30 (.bool ((r.qY:Int) == 0)) 32 H ?_
   refine rgp 31 (.bool ((r.qY:Int) == 0)) 27 H ?_
   refine rtp 32 (.bool ((r.qY:Int) == 0)) H ?_
   refine rtp 33 (.bool ((r.qY:Int) == 0)) H ?_
   cases h51:((r.qY:Int) == 0)
   ·skip
    replace h51:=ne_of_beq_false h51
    refine rgp 34 (pp br or) 40 H ?_
    refine rgp 35 (pp br or) 40 H ?_
    refine gF 36 rfl rfl H ?_
    refine gL 37 rfl rfl (fun _ h=>h.zI 3 rfl 7 rfl) H ?_
    refine gN 38 rfl rfl H ?_
    refine rgp 39 (.bool (decide ((r.xe.length:Int) > 3))) 40 H ?_
    refine rtp 40 (.bool (decide ((r.xe.length:Int) > 3))) H ?_
    refine qZ qg (t_n (cD rfl (fun h52=>?_) (fun h52=>?_)))
    ·skip
     refine zcr (sp (.bool false) (zjr (t_r (ret1 (.bool false) rfl rfl ⟨_,rfl,?_,H.base⟩))))
     rw [qO (fun h=>by obtain ⟨h1,h2,h3,h4,h5,h6,h7,h8,h9,h10,h11⟩:=h;first | contradiction | omega | exact h3 ⟨‹_›,‹_›⟩ | (obtain ⟨q1,q2,q3,q4,q5⟩:=h11 k qc;first | contradiction | omega | (have:=q5 qc;omega)))]
    refine xn (t_n (zcc (sps [pp bs os,pp br or,pp br or] (oF rfl (oL rfl (H.zI 3 rfl 2 rfl) (sw (oq (ji _ s r.xO (qE (H.get 0 rfl) 0 3) (H.get 1 rfl).1 (H.get 2 rfl).1 (H.get 4 rfl).1) H fun w53 H=>sps [.bool (!(dec (xK s.qN r.xO))),.bool (!(dec (xK s.qN r.xO)))] ?_)))))))
    cases h55:(!(dec (xK s.qN r.xO)))
    ·skip
     replace h55:=qP h55
     replace h55:=vW h55
     refine qx 55 rfl rfl (sp (pp bs os) (qx 55 rfl rfl (sp (pp br or) (qx 55 rfl rfl (sp (pp br or) (qx 55 rfl rfl (oF rfl (qx 55 rfl rfl (oL rfl (H.zI 3 rfl 3 rfl) (qx 55 rfl rfl (sw (oq (ji _ s r.zy (qE (H.get 0 rfl) 0 3) (H.get 1 rfl).1 (H.get 2 rfl).1 (H.get 5 rfl).1) H fun w56 H=>qx 55 rfl rfl (sps [.bool (!(dec (xK s.qN r.zy))),.bool (!(dec (xK s.qN r.zy))),.bool (!(dec (xK s.qN r.zy)))] ?_)))))))))))))
     cases h58:(!(dec (xK s.qN r.zy)))
     ·skip
      replace h58:=qP h58
      replace h58:=vW h58
      refine qx 64 rfl rfl (sp (pp bs os) (qx 64 rfl rfl (sp (pp br or) (qx 64 rfl rfl (sp (pp br or) (qx 64 rfl rfl (oF rfl (qx 64 rfl rfl (oL rfl (H.zI 3 rfl 4 rfl) (qx 64 rfl rfl (sw (oq (ji _ s r.zA (qE (H.get 0 rfl) 0 3) (H.get 1 rfl).1 (H.get 2 rfl).1 (H.get 6 rfl).1) H fun w59 H=>qx 64 rfl rfl (sps [.bool (!(dec (xK s.qN r.zA))),.bool (!(dec (xK s.qN r.zA))),.bool (!(dec (xK s.qN r.zA)))] ?_)))))))))))))
      cases h61:(!(dec (xK s.qN r.zA)))
      ·skip
       replace h61:=qP h61
       replace h61:=vW h61
       refine qx 73 rfl rfl (sp (pp bs os) (qx 73 rfl rfl (sp (pp br or) (qx 73 rfl rfl (sp (pp br or) (qx 73 rfl rfl (oF rfl (qx 73 rfl rfl (oL rfl (H.zI 3 rfl 5 rfl) (qx 73 rfl rfl (sw (oq (ji _ s r.zB (qE (H.get 0 rfl) 0 3) (H.get 1 rfl).1 (H.get 2 rfl).1 (H.get 7 rfl).1) H fun w62 H=>qx 73 rfl rfl (sps [.bool (!(dec (xK s.qN r.zB))),.bool (!(dec (xK s.qN r.zB))),.bool (!(dec (xK s.qN r.zB)))] ?_)))))))))))))
       cases h64:(!(dec (xK s.qN r.zB)))
       ·skip
        replace h64:=qP h64
        replace h64:=vW h64
        refine qx 82 rfl rfl (sp (pp bs os) (qx 82 rfl rfl (sp (pp br or) (qx 82 rfl rfl (sp (pp br or) (qx 82 rfl rfl (oF rfl (qx 82 rfl rfl (oL rfl (H.zI 3 rfl 6 rfl) (qx 82 rfl rfl (sw (oq (ji _ s r.jL (qE (H.get 0 rfl) 0 3) (H.get 1 rfl).1 (H.get 2 rfl).1 (H.get 8 rfl).1) H fun w65 H=>qx 82 rfl rfl (sps [.bool (!(dec (xK s.qN r.jL))),.bool (!(dec (xK s.qN r.jL))),.bool (!(dec (xK s.qN r.jL)))] ?_)))))))))))))
        cases h67:(!(dec (xK s.qN r.jL)))
        ·skip
         replace h67:=qP h67
         replace h67:=vW h67
         refine qx 91 rfl rfl (sp (pp br or) (qx 91 rfl rfl (sp (pp br or) (qx 91 rfl rfl (oF rfl (qx 91 rfl rfl (oL rfl (H.zI 3 rfl 2 rfl) (qx 91 rfl rfl (sw (oq (l01Size_ok _ r.xO (H.get 4 rfl).1 (by first | assumption | exact zL qi | exact jH qi)) H fun w68 H=>qx 91 rfl rfl (sps [.bool ((sumL r.xO:Int) == 0),.bool ((sumL r.xO:Int) == 0)] (zjn (cE rfl (fun h70=>?_) (fun h70=>?_))))))))))))))
         ·skip
          refine zcr (sp (.bool false) (zjr (t_r (ret1 (.bool false) rfl rfl ⟨_,rfl,?_,H.base⟩))))
          rw [qO (fun h=>by obtain ⟨h1,h2,h3,h4,h5,h6,h7,h8,h9,h10,h11⟩:=h;first | contradiction | omega | exact h3 ⟨‹_›,‹_›⟩ | (obtain ⟨q1,q2,q3,q4,q5⟩:=h11 k qc;first | contradiction | omega | (have:=q5 qc;omega)))]
         refine xn (t_n (zcc (sp (yI 0) (zjn (xE ?_)))))
         refine vT (fun m' ρ w71=>∃ (zX:Env) (k:Nat),ρ=upd (upd (upd zX 0 (pp bs os)) 1 (pp br or)) 5 (yI k)∧(k≤r.xe.length)∧(IntosTo s r k)∧m' =r.xe.length - k∧St w w71 [] [atF bs os (yS s qA qy qJ qI),sF false xq qA qy s.qp,sF false xN qJ qI s.qC,atF br or [yI r.qY,yI r.jU,.slice jw r.xO.length jm,.slice jB r.zy.length jv,.slice jy r.zA.length jo,.slice jA r.zB.length jq,.slice arOut r.jL.length crOut,.slice yu r.xe.length yl,.bool true],sF false FrNeed jw jm r.xO,sF false FrHave jB jv r.zy,sF false FrLack jy jo r.zA,sF false FrHere jA jq r.zB,sF false FrOut arOut crOut r.jL,sF false FrInto yu yl r.xe]) (r.xe.length - 0) ⟨_,0,uE3,qc,(by exact fun j hj=>by omega),rfl,H⟩ ?_
         clear H
         rintro m' ρ w72 ⟨zX,k,rfl,i0,i1,rfl,H⟩
         refine zcc (sps [yI k,pp br or,pp br or] (oF rfl (oL rfl (H.zI 3 rfl 7 rfl) (oN rfl (sp (.bool (decide ((k:Int) < r.xe.length))) (zjn (cD rfl (fun h73=>?_) (fun h73=>?_))))))))
         ·skip
          refine xn (t_n (zF (xE (zcr (sps [pp br or,pp br or] (oF rfl (oL rfl (H.zI 3 rfl 7 rfl) (sp (yI k) ?_))))))))
          obtain ⟨b74,o75,rfl⟩:=H.addr 9 rfl qc
          obtain ⟨ae76Bag,ce76Bag,Fe76Bag,H⟩:=H.yj 9 rfl k k qc qc qc
          refine oI rfl rfl (sp (pp b74 (o75+(k:Int).toNat * 2)) (zjn (zF (zF ?_))))
          refine c_drawH rfl H fun H=>rtp 0 (pp b74 (o75+(k:Int).toNat * 2)) H ?_
          refine rtp 1 (pp b74 (o75+(k:Int).toNat * 2)) H ?_
          refine tF 2 rfl rfl H ?_
          refine tL 3 rfl rfl (fun _ h=>h.zI 1 rfl 0 rfl) H ?_
          refine rtp 4 (pp bs os) H ?_
          refine rtp 5 (pp bs os) H ?_
          refine tF 6 rfl rfl H ?_
          refine tL 7 rfl rfl (fun _ h=>h.zI 2 rfl 1 rfl) H ?_
          refine tN 8 rfl rfl H ?_
          refine rt 9 (yI (s.qp.length - 1)) (y_sub s.qp.length 1 rfl rfl qc) H ?_
          refine ro 10 rfl (oq (l00In_ok w72.drew ((r.xe[k]!).qY) 0 (s.qp.length - 1)) H fun w78 H=>⟨H,(rtp 11 (.bool (!(inR ((r.xe[k]!).qY) 0 (s.qp.length - 1)))) H ?_)⟩)
          refine rtp 12 (.bool (!(inR ((r.xe[k]!).qY) 0 (s.qp.length - 1)))) H ?_
          cases h80:(!(inR ((r.xe[k]!).qY) 0 (s.qp.length - 1)))
          ·skip
           replace h80:=qP h80
           replace h80:=jG.1 h80
           refine rgp 13 (pp bs os) 126 H ?_
           refine rgp 14 (pp b74 (o75+(k:Int).toNat * 2)) 126 H ?_
           refine rgp 15 (pp b74 (o75+(k:Int).toNat * 2)) 126 H ?_
           refine gF 16 rfl rfl H ?_
           refine gL 17 rfl rfl (fun _ h=>h.zI 1 rfl 0 rfl) H ?_
           refine rgp 18 (pp br or) 126 H ?_
           refine rgp 19 (pp br or) 126 H ?_
           refine gF 20 rfl rfl H ?_
           refine gL 21 rfl rfl (fun _ h=>h.zI 5 rfl 0 rfl) H ?_
           refine zl [22] qg qj (r_opG rfl (e:=126) rfl rfl (oq (l02In_ok _ s ((r.xe[k]!).qY) r.qY (qE (H.get 2 rfl) 0 3) (H.get 3 rfl).1 (H.get 4 rfl).1 qi qi) H fun w81 H=>⟨H,(rgp 23 (.bool (!(dec (Lies s.qp r.qY ((r.xe[k]!).qY))))) 126 H ?_)⟩) zn)
           refine rtp 24 (.bool (!(dec (Lies s.qp r.qY ((r.xe[k]!).qY))))) H ?_
           refine rtp 25 (.bool (!(dec (Lies s.qp r.qY ((r.xe[k]!).qY))))) H ?_
           cases h83:(!(dec (Lies s.qp r.qY ((r.xe[k]!).qY))))
           ·skip
            replace h83:=qP h83
            replace h83:=vW h83
            refine rgp 26 (pp bs os) 139 H ?_
            refine rgp 27 (pp b74 (o75+(k:Int).toNat * 2)) 139 H ?_
            refine rgp 28 (pp b74 (o75+(k:Int).toNat * 2)) 139 H ?_
            refine gF 29 rfl rfl H ?_
            refine gL 30 rfl rfl (fun _ h=>h.zI 1 rfl 1 rfl) H ?_
            refine zl [31] qg qj (r_opG rfl (e:=139) rfl rfl (oq (ji _ s ((r.xe[k]!).yw) (qE (H.get 2 rfl) 0 3) (H.get 3 rfl).1 (H.get 4 rfl).1 (H.get 0 rfl).1) H fun w84 H=>⟨H,(rgp 32 (.bool (!(dec (xK s.qN ((r.xe[k]!).yw))))) 139 H ?_)⟩) zn)
            refine rtp 33 (.bool (!(dec (xK s.qN ((r.xe[k]!).yw))))) H ?_
            refine rtp 34 (.bool (!(dec (xK s.qN ((r.xe[k]!).yw))))) H ?_
            cases h86:(!(dec (xK s.qN ((r.xe[k]!).yw))))
            ·skip
             replace h86:=qP h86
             replace h86:=vW h86
             refine rgp 35 (pp b74 (o75+(k:Int).toNat * 2)) 148 H ?_
             refine rgp 36 (pp b74 (o75+(k:Int).toNat * 2)) 148 H ?_
             refine gF 37 rfl rfl H ?_
             refine gL 38 rfl rfl (fun _ h=>h.zI 1 rfl 1 rfl) H ?_
             refine zl [39] qg qj (r_opG rfl (e:=148) rfl rfl (oq (l01Size_ok _ ((r.xe[k]!).yw) (H.get 0 rfl).1 (by first | assumption | exact zL qi | exact jH qi)) H fun w87 H=>⟨H,(rgp 40 (.bool ((sumL ((r.xe[k]!).yw):Int) == 0)) 148 H ?_)⟩) zn)
             refine rtp 41 (.bool ((sumL ((r.xe[k]!).yw):Int) == 0)) H ?_
             refine qZ qg (t_n (cE rfl (fun h89=>?_) (fun h89=>?_)))
             ·skip
              refine zcr (sp (.bool false) (zjr (t_r (zr5 (ret1 (.bool false) rfl rfl ⟨_,rfl,?_,H.base⟩)))))
              rw [qO (fun h=>by obtain ⟨h1,h2,h3,h4,h5,h6,h7,h8,h9,h10,h11⟩:=h;first | contradiction | omega | exact h3 ⟨‹_›,‹_›⟩ | (obtain ⟨q1,q2,q3,q4,q5⟩:=h11 k qc;first | contradiction | omega | (have:=q5 qc;omega)))]
             refine xn (t_n (zF ?_))
             refine c_drawH rfl H fun H=>rtp 0 (yI k) H ?_
             refine rtp 1 (.bool (decide ((k:Int) > 0))) H ?_
             refine rtp 2 (.bool (decide ((k:Int) > 0))) H ?_
             cases h91:(decide ((k:Int) > 0))
             ·skip
              replace h91:=of_decide_eq_false h91
              refine x8 [3,4,5,6,7,8,9,10,11,12,13,14,15,16] 14 (H) (rtp 17 (.bool false) H ?_)
              refine qZ qg (t_n (xy false rfl (fun h=>absurd h qh) (fun _=>xn (b_n (t_n (zT (sp (yI k) (sw (vN k 1 rfl rfl qc (sp (yI (k+1)) (vg (xJ (m' :=r.xe.length - (k+1)) qc ⟨_,k+1,uE3,?_,?_,rfl,H.sel _ (.refl _) _ qj⟩))))))))))))
              · omega
              · exact i1.succ ⟨‹_›,‹_›,‹_›,‹_›,fun hk=>by omega⟩
             replace h91:=of_decide_eq_true h91
             refine rgp 3 (pp br or) 158 H ?_
             refine rgp 4 (pp br or) 158 H ?_
             refine gF 5 rfl rfl H ?_
             refine gL 6 rfl rfl (fun _ h=>h.zI 5 rfl 7 rfl) H ?_
             refine rgp 7 (yI k) 158 H ?_
             refine rg 8 (yI (k - 1)) 158 (y_sub k 1 rfl rfl qc) H ?_
             obtain ⟨ae92Bag,ce92Bag,Fe92Bag,H⟩:=H.yj 11 rfl (k - 1) (k - 1) qc qc qc
             refine gI 9 rfl rfl rfl (H.sel _ (.refl _) _ (fun _ h=>List.mem_cons_of_mem _ (List.mem_cons_of_mem _ (h)))) ?_
             refine gF 10 rfl rfl (H.sel _ (.refl _) _ (fun _ h=>List.mem_cons_of_mem _ (List.mem_cons_of_mem _ (h)))) ?_
             refine rgp 12 (pp b74 (o75+(k:Int).toNat * 2)) 158 (H.sel _ (.refl _) _ (fun _ h=>List.mem_cons_of_mem _ (List.mem_cons_of_mem _ (h)))) ?_
             refine rgp 13 (pp b74 (o75+(k:Int).toNat * 2)) 158 (H.sel _ (.refl _) _ (fun _ h=>List.mem_cons_of_mem _ (List.mem_cons_of_mem _ (h)))) ?_
             refine gF 14 rfl rfl (H.sel _ (.refl _) _ (fun _ h=>List.mem_cons_of_mem _ (List.mem_cons_of_mem _ (h)))) ?_
             refine gL 15 rfl rfl (fun _ h=>h.zI 1 rfl 0 rfl) (H.sel _ (.refl _) _ (fun _ h=>List.mem_cons_of_mem _ (List.mem_cons_of_mem _ (h)))) ?_
             refine zl [11] qg qj (r_opG rfl (e:=158) rfl rfl (ve (yI ((r.xe[k - 1]!).qY)) isAgg2 rfl (H.zI 1 rfl 0 rfl) (⟨H.dF 2,(rgp 16 (.bool (decide (((r.xe[k - 1]!).qY:Int)≥((r.xe[k]!).qY)))) 158 (H.sel _ (.refl _) _ (fun _ h=>List.mem_cons_of_mem _ (List.mem_cons_of_mem _ (h)))) ?_)⟩)) zn)
             refine rtp 17 (.bool (decide (((r.xe[k - 1]!).qY:Int)≥((r.xe[k]!).qY)))) (H.sel _ (.refl _) _ (fun _ h=>List.mem_cons_of_mem _ (List.mem_cons_of_mem _ (h)))) ?_
             refine qZ qg (t_n (cD rfl (fun h93=>?_) (fun h93=>?_)))
             ·skip
              refine zcr (sp (.bool false) (zjr (zr5 (ret1 (.bool false) rfl rfl ⟨_,rfl,?_,H.base⟩))))
              rw [qO (fun h=>by obtain ⟨h1,h2,h3,h4,h5,h6,h7,h8,h9,h10,h11⟩:=h;first | contradiction | omega | exact h3 ⟨‹_›,‹_›⟩ | (obtain ⟨q1,q2,q3,q4,q5⟩:=h11 k qc;first | contradiction | omega | (have:=q5 qc;omega)))]
             refine xn (b_n (t_n (zT (sp (yI k) (sw (vN k 1 rfl rfl qc (sp (yI (k+1)) (vg (xJ (m' :=r.xe.length - (k+1)) qc ⟨_,k+1,uE3,?_,?_,rfl,H.sel _ (.refl _) _ qj⟩)))))))))
             · omega
             · exact i1.succ ⟨‹_›,‹_›,‹_›,‹_›,fun hk=>by omega⟩
            replace h86:=qX h86
            replace h86:=xP h86
            refine x8 [35,36,37,38,39,40] 6 (H) (rtp 41 (.bool true) H ?_)
            refine qZ qg (t_n (xy true rfl (fun _=>zcr (sp (.bool false) (zjr (t_r (zr5 (ret1 (.bool false) rfl rfl ⟨_,rfl,?_,H.base⟩)))))) (fun h=>absurd h qh)))
            rw [qO (fun h=>by obtain ⟨h1,h2,h3,h4,h5,h6,h7,h8,h9,h10,h11⟩:=h;first | contradiction | omega | exact h3 ⟨‹_›,‹_›⟩ | (obtain ⟨q1,q2,q3,q4,q5⟩:=h11 k qc;first | contradiction | omega | (have:=q5 qc;omega)))]
           replace h83:=qX h83
           replace h83:=xP h83
           refine x8 [26,27,28,29,30,31,32] 7 (H) (rtp 33 (.bool true) H ?_)
           refine rtp 34 (.bool true) H ?_
           refine x8 [35,36,37,38,39,40] 6 (H) (rtp 41 (.bool true) H ?_)
           refine qZ qg (t_n (xy true rfl (fun _=>zcr (sp (.bool false) (zjr (t_r (zr5 (ret1 (.bool false) rfl rfl ⟨_,rfl,?_,H.base⟩)))))) (fun h=>absurd h qh)))
           rw [qO (fun h=>by obtain ⟨h1,h2,h3,h4,h5,h6,h7,h8,h9,h10,h11⟩:=h;first | contradiction | omega | exact h3 ⟨‹_›,‹_›⟩ | (obtain ⟨q1,q2,q3,q4,q5⟩:=h11 k qc;first | contradiction | omega | (have:=q5 qc;omega)))]
          replace h80:=qX h80
          replace h80:=jP h80
          refine x8 [13,14,15,16,17,18,19,20,21,22,23] 11 (H) (rtp 24 (.bool true) H ?_)
          refine rtp 25 (.bool true) H ?_
          refine x8 [26,27,28,29,30,31,32] 7 (H) (rtp 33 (.bool true) H ?_)
          refine rtp 34 (.bool true) H ?_
          refine x8 [35,36,37,38,39,40] 6 (H) (rtp 41 (.bool true) H ?_)
          refine qZ qg (t_n (xy true rfl (fun _=>zcr (sp (.bool false) (zjr (t_r (zr5 (ret1 (.bool false) rfl rfl ⟨_,rfl,?_,H.base⟩)))))) (fun h=>absurd h qh)))
          rw [qO (fun h=>by obtain ⟨h1,h2,h3,h4,h5,h6,h7,h8,h9,h10,h11⟩:=h;first | contradiction | omega | exact h3 ⟨‹_›,‹_›⟩ | (obtain ⟨q1,q2,q3,q4,q5⟩:=h11 k qc;first | contradiction | omega | (have:=q5 qc;omega)))]
         refine zx4 (zcr (sp (.bool true) (zjr (ret1 (.bool true) rfl rfl ⟨_,rfl,?_,H.base⟩))))
         obtain rfl:k=r.xe.length:=by omega
         rw [jX ⟨by assumption,by omega,by simp_all,by omega,by assumption,by assumption,by assumption,by assumption,by assumption,by assumption,i1⟩]
        replace h67:=qX h67
        replace h67:=xP h67
        refine xh [92,93,94,95,96,97] (sp (.bool true) (zjn (xy true rfl (fun _=>zcr (sp (.bool false) (zjr (t_r (ret1 (.bool false) rfl rfl ⟨_,rfl,?_,H.base⟩))))) (fun h=>absurd h qh))))
        rw [qO (fun h=>by obtain ⟨h1,h2,h3,h4,h5,h6,h7,h8,h9,h10,h11⟩:=h;first | contradiction | omega | exact h3 ⟨‹_›,‹_›⟩ | (obtain ⟨q1,q2,q3,q4,q5⟩:=h11 k qc;first | contradiction | omega | (have:=q5 qc;omega)))]
       replace h64:=qX h64
       replace h64:=xP h64
       refine xh [83,84,85,86,87,88,89] (sps [.bool true,.bool true] (xh [92,93,94,95,96,97] (sp (.bool true) (zjn (xy true rfl (fun _=>zcr (sp (.bool false) (zjr (t_r (ret1 (.bool false) rfl rfl ⟨_,rfl,?_,H.base⟩))))) (fun h=>absurd h qh))))))
       rw [qO (fun h=>by obtain ⟨h1,h2,h3,h4,h5,h6,h7,h8,h9,h10,h11⟩:=h;first | contradiction | omega | exact h3 ⟨‹_›,‹_›⟩ | (obtain ⟨q1,q2,q3,q4,q5⟩:=h11 k qc;first | contradiction | omega | (have:=q5 qc;omega)))]
      replace h61:=qX h61
      replace h61:=xP h61
      refine xh [74,75,76,77,78,79,80] (sps [.bool true,.bool true] (xh [83,84,85,86,87,88,89] (sps [.bool true,.bool true] (xh [92,93,94,95,96,97] (sp (.bool true) (zjn (xy true rfl (fun _=>zcr (sp (.bool false) (zjr (t_r (ret1 (.bool false) rfl rfl ⟨_,rfl,?_,H.base⟩))))) (fun h=>absurd h qh))))))))
      rw [qO (fun h=>by obtain ⟨h1,h2,h3,h4,h5,h6,h7,h8,h9,h10,h11⟩:=h;first | contradiction | omega | exact h3 ⟨‹_›,‹_›⟩ | (obtain ⟨q1,q2,q3,q4,q5⟩:=h11 k qc;first | contradiction | omega | (have:=q5 qc;omega)))]
     replace h58:=qX h58
     replace h58:=xP h58
     refine xh [65,66,67,68,69,70,71] (sps [.bool true,.bool true] (xh [74,75,76,77,78,79,80] (sps [.bool true,.bool true] (xh [83,84,85,86,87,88,89] (sps [.bool true,.bool true] (xh [92,93,94,95,96,97] (sp (.bool true) (zjn (xy true rfl (fun _=>zcr (sp (.bool false) (zjr (t_r (ret1 (.bool false) rfl rfl ⟨_,rfl,?_,H.base⟩))))) (fun h=>absurd h qh))))))))))
     rw [qO (fun h=>by obtain ⟨h1,h2,h3,h4,h5,h6,h7,h8,h9,h10,h11⟩:=h;first | contradiction | omega | exact h3 ⟨‹_›,‹_›⟩ | (obtain ⟨q1,q2,q3,q4,q5⟩:=h11 k qc;first | contradiction | omega | (have:=q5 qc;omega)))]
    replace h55:=qX h55
    replace h55:=xP h55
    refine xh [56,57,58,59,60,61,62] (sps [.bool true,.bool true] (xh [65,66,67,68,69,70,71] (sps [.bool true,.bool true] (xh [74,75,76,77,78,79,80] (sps [.bool true,.bool true] (xh [83,84,85,86,87,88,89] (sps [.bool true,.bool true] (xh [92,93,94,95,96,97] (sp (.bool true) (zjn (xy true rfl (fun _=>zcr (sp (.bool false) (zjr (t_r (ret1 (.bool false) rfl rfl ⟨_,rfl,?_,H.base⟩))))) (fun h=>absurd h qh))))))))))))
    rw [qO (fun h=>by obtain ⟨h1,h2,h3,h4,h5,h6,h7,h8,h9,h10,h11⟩:=h;first | contradiction | omega | exact h3 ⟨‹_›,‹_›⟩ | (obtain ⟨q1,q2,q3,q4,q5⟩:=h11 k qc;first | contradiction | omega | (have:=q5 qc;omega)))]
   replace h51:=eq_of_beq h51
   refine x8 [34,35,36,37,38,39] 6 (H) (rtp 40 (.bool true) H ?_)
   refine qZ qg (t_n (xy true rfl (fun _=>zcr (sp (.bool false) (zjr (t_r (ret1 (.bool false) rfl rfl ⟨_,rfl,?_,H.base⟩))))) (fun h=>absurd h qh)))
   rw [qO (fun h=>by obtain ⟨h1,h2,h3,h4,h5,h6,h7,h8,h9,h10,h11⟩:=h;first | contradiction | omega | exact h3 ⟨‹_›,‹_›⟩ | (obtain ⟨q1,q2,q3,q4,q5⟩:=h11 k qc;first | contradiction | omega | (have:=q5 qc;omega)))]
  replace h7:=qX h7
  replace h7:=jP h7
  refine x8 [21,22,23,24,25,26,27,28,29,30,31] 11 (H) (rtp 32 (.bool true) H ?_)
  refine rtp 33 (.bool true) H ?_
  refine x8 [34,35,36,37,38,39] 6 (H) (rtp 40 (.bool true) H ?_)
  refine qZ qg (t_n (xy true rfl (fun _=>zcr (sp (.bool false) (zjr (t_r (ret1 (.bool false) rfl rfl ⟨_,rfl,?_,H.base⟩))))) (fun h=>absurd h qh)))
  rw [qO (fun h=>by obtain ⟨h1,h2,h3,h4,h5,h6,h7,h8,h9,h10,h11⟩:=h;first | contradiction | omega | exact h3 ⟨‹_›,‹_›⟩ | (obtain ⟨q1,q2,q3,q4,q5⟩:=h11 k qc;first | contradiction | omega | (have:=q5 qc;omega)))]
 replace h4:=qX h4
 replace h4:=jP h4
 refine x8 [13,14,15,16,17,18] 6 (H) (rtp 19 (.bool true) H ?_)
 refine rtp 20 (.bool true) H ?_
 refine x8 [21,22,23,24,25,26,27,28,29,30,31] 11 (H) (rtp 32 (.bool true) H ?_)
 refine rtp 33 (.bool true) H ?_
 refine x8 [34,35,36,37,38,39] 6 (H) (rtp 40 (.bool true) H ?_)
 refine qZ qg (t_n (xy true rfl (fun _=>zcr (sp (.bool false) (zjr (t_r (ret1 (.bool false) rfl rfl ⟨_,rfl,?_,H.base⟩))))) (fun h=>absurd h qh)))
 rw [qO (fun h=>by obtain ⟨h1,h2,h3,h4,h5,h6,h7,h8,h9,h10,h11⟩:=h;first | contradiction | omega | exact h3 ⟨‹_›,‹_›⟩ | (obtain ⟨q1,q2,q3,q4,q5⟩:=h11 k qc;first | contradiction | omega | (have:=q5 qc;omega)))]

theorem l02State_ok (w:World) (s:qo) (t:qw) {qA:yOA} {xq:yLN} {qJ:yOA} {xN:yLN} {bt ot:Nat} {xM:yOA} {vI:yLN} {zi:yOA} {jC:yLN} {xx:yOA} {zJ:yLN} (hs:vM w bs os (yS s qA qy qJ qI)) (qU:qH.rep w xq [.slice qA s.qp.length qy] s.qp) (xB:qH.rep w xN [.slice qJ s.qC.length qI] s.qC) (ht:vM w bt ot (yT t xM xI zi xZ xx xw)) (zD:qH.rep w vI [.slice xM t.qF.length xI] t.qF) (vz:qH.rep w jC [.slice zi t.qK.length xZ] t.qK) (zf:qH.rep w zJ [.slice xx t.qG.length xw] t.qG) (p0:zG s):Calls Try.prog 36 #[pp bs os,pp bt ot] w (Ret (fun v w' =>v=.bool (dec (xY s t))) w):=by
 refine en func36 ntmps36 ?_
 have H:=(((((((St.start w).arg zf).arg vz).arg zD).argAt ht).arg xB).arg qU).argAt hs
 have zU:=qV qU
 have ja:=qV xB
 have nhtAlive:=qV zD
 have nhtBags:=qV vz
 have nhtAround:=qV zf
 clear hs qU xB ht zD vz zf
 have p1:=p0.2.1
 refine zcr (sp (.bool false) (zjn (zF (zF ?_))))
 refine c_drawH rfl H fun H=>rtp 0 (pp bt ot) H ?_
 refine rtp 1 (pp bt ot) H ?_
 refine tF 2 rfl rfl H ?_
 refine tL 3 rfl rfl (fun _ h=>h.zI 3 rfl 0 rfl) H ?_
 refine tN 4 rfl rfl H ?_
 refine rtp 5 (pp bs os) H ?_
 refine rtp 6 (pp bs os) H ?_
 refine tF 7 rfl rfl H ?_
 refine tL 8 rfl rfl (fun _ h=>h.zI 0 rfl 1 rfl) H ?_
 refine tN 9 rfl rfl H ?_
 refine rtp 10 (.bool ((t.qF.length:Int) != s.qp.length)) H ?_
 refine rtp 11 (.bool ((t.qF.length:Int) != s.qp.length)) H ?_
 cases h2:((t.qF.length:Int) != s.qp.length)
 ·skip
  replace h2:=xC h2
  refine rgp 12 (pp bt ot) 17 H ?_
  refine rgp 13 (pp bt ot) 17 H ?_
  refine gF 14 rfl rfl H ?_
  refine gL 15 rfl rfl (fun _ h=>h.zI 3 rfl 1 rfl) H ?_
  refine gN 16 rfl rfl H ?_
  refine rgp 17 (pp bs os) 17 H ?_
  refine rgp 18 (pp bs os) 17 H ?_
  refine gF 19 rfl rfl H ?_
  refine gL 20 rfl rfl (fun _ h=>h.zI 0 rfl 1 rfl) H ?_
  refine gN 21 rfl rfl H ?_
  refine rgp 22 (.bool ((t.qK.length:Int) != s.qp.length)) 17 H ?_
  refine rtp 23 (.bool ((t.qK.length:Int) != s.qp.length)) H ?_
  refine rtp 24 (.bool ((t.qK.length:Int) != s.qp.length)) H ?_
  cases h3:((t.qK.length:Int) != s.qp.length)
  ·skip
   replace h3:=xC h3
   refine rgp 25 (pp bt ot) 30 H ?_
   refine rgp 26 (pp bt ot) 30 H ?_
   refine gF 27 rfl rfl H ?_
   refine gL 28 rfl rfl (fun _ h=>h.zI 3 rfl 0 rfl) H ?_
   obtain ⟨b4,o5,rfl⟩:=H.addr 4 rfl qc
   refine gI 29 rfl rfl rfl H ?_
   refine gL 30 rfl rfl (fun _ h=>h.elemBool 4 rfl 0 qc qc) H ?_
   refine rgp 31 (.bool (!(t.qF[0]!))) 30 H ?_
   refine rtp 32 (.bool (!(t.qF[0]!))) H ?_
   refine rtp 33 (.bool (!(t.qF[0]!))) H ?_
   cases h6:(!(t.qF[0]!))
   ·skip
    replace h6:=qP h6
    refine rgp 34 (pp bs os) 39 H ?_
    refine rgp 35 (pp bt ot) 39 H ?_
    refine rgp 36 (pp bt ot) 39 H ?_
    refine gF 37 rfl rfl H ?_
    refine gL 38 rfl rfl (fun _ h=>h.zI 3 rfl 2 rfl) H ?_
    refine zl [39] qg qj (r_opG rfl (e:=39) rfl rfl (oq (ji _ s t.qG (qE (H.get 0 rfl) 0 3) (H.get 1 rfl).1 (H.get 2 rfl).1 (H.get 6 rfl).1) H fun w7 H=>⟨H,(rgp 40 (.bool (!(dec (xK s.qN t.qG)))) 39 H ?_)⟩) zn)
    refine rtp 41 (.bool (!(dec (xK s.qN t.qG)))) H ?_
    refine qZ qg (t_n (cQ rfl (fun h9=>?_) (fun h9=>?_)))
    ·skip
     refine zcr (sp (.bool false) (zjr (t_r (ret1 (.bool false) rfl rfl ⟨_,rfl,?_,H.base⟩))))
     rw [qO (fun h=>by obtain ⟨h1,h2,h3,h4,h5⟩:=h;first | contradiction | omega | (simp_all;done) | (obtain ⟨q1,q2⟩:=h5 k qc;first | contradiction | (have:=q2 qi;omega)))]
    refine xn (t_n (zcc (sp (yI 0) (zjn (xE ?_)))))
    refine vT (fun m' ρ w10=>∃ (zX:Env) (k:Nat),ρ=upd (upd (upd zX 0 (pp bs os)) 1 (pp bt ot)) 5 (yI k)∧(k≤t.qK.length)∧(BagsTo s t k)∧m' =t.qK.length - k∧St w w10 [] [atF bs os (yS s qA qy qJ qI),sF false xq qA qy s.qp,sF false xN qJ qI s.qC,atF bt ot [.slice (aa b4 o5) t.qF.length xI,.slice zi t.qK.length xZ,.slice xx t.qG.length xw],sF false vI (aa b4 o5) xI t.qF,sF false jC zi xZ t.qK,sF false zJ xx xw t.qG]) (t.qK.length - 0) ⟨_,0,uE3,qc,(by exact fun j hj=>by omega),rfl,H⟩ ?_
    clear H
    rintro m' ρ w11 ⟨zX,k,rfl,i0,i1,rfl,H⟩
    refine zcc (sps [yI k,pp bt ot,pp bt ot] (oF rfl (oL rfl (H.zI 3 rfl 1 rfl) (oN rfl (sp (.bool (decide ((k:Int) < t.qK.length))) (zjn (cD rfl (fun h12=>?_) (fun h12=>?_))))))))
    ·skip
     refine xn (t_n (zF (xE (zcr (sps [pp bs os,pp bt ot,pp bt ot] (oF rfl (oL rfl (H.zI 3 rfl 1 rfl) (sp (yI k) ?_))))))))
     obtain ⟨b13,o14,rfl⟩:=H.addr 5 rfl qc
     obtain ⟨ae15,ce15,Fe15,H⟩:=H.elemList 5 rfl k k qc qc qc
     refine oI rfl rfl (oL rfl (H.zI 1 rfl 0 rfl) (sw (oq (ji _ s (t.qK[k]!) (qE (H.get 2 rfl) 0 3) (H.get 3 rfl).1 (H.get 4 rfl).1 (H.get 0 rfl).1) H fun w16 H=>sps [.bool (!(dec (xK s.qN (t.qK[k]!)))),.bool (!(dec (xK s.qN (t.qK[k]!))))] ?_)))
     cases h18:(!(dec (xK s.qN (t.qK[k]!))))
     ·skip
      replace h18:=qP h18
      replace h18:=vW h18
      refine qx 67 rfl rfl (sp (pp bt ot) (qx 67 rfl rfl (sp (pp bt ot) (qx 67 rfl rfl (oF rfl (qx 67 rfl rfl (oL rfl (H.zI 5 rfl 0 rfl) (qx 67 rfl rfl (sp (yI k) (qx 67 rfl rfl (oI rfl rfl (qx 67 rfl rfl (oL rfl (H.elemBool 6 rfl k qc qc) (qx 67 rfl rfl (sp (.bool (!(t.qF[k]!))) (qx 67 rfl rfl (sp (.bool (!(t.qF[k]!))) ?_)))))))))))))))))
      cases h19:(!(t.qF[k]!))
      ·skip
       replace h19:=qP h19
       refine xh [77,78,79,80,81,82,83,84,85] (qx 67 rfl rfl (sps [.bool false,.bool false] (zjn (xy false rfl (fun h=>absurd h qh) (fun _=>xn (b_n (t_n (zT (sp (yI k) (sw (vN k 1 rfl rfl qc (sp (yI (k+1)) (vg (xJ (m' :=t.qK.length - (k+1)) qc ⟨_,k+1,uE3,?_,?_,rfl,H.sel _ (.refl _) _ qj⟩))))))))))))))
       · omega
       · exact i1.succ ‹_› (fun hk=>by first | omega | simp_all)
      replace h19:=qX h19
      refine qx 76 rfl rfl (sp (pp bt ot) (qx 76 rfl rfl (sp (pp bt ot) (qx 76 rfl rfl (oF rfl (qx 76 rfl rfl (oL rfl (H.zI 5 rfl 1 rfl) (qx 76 rfl rfl (sp (yI k) (qx 76 rfl rfl (oI rfl rfl (qx 76 rfl rfl (oL rfl (H.zI 1 rfl 0 rfl) (qx 76 rfl rfl (sw (oq (l01Size_ok _ (t.qK[k]!) (H.get 0 rfl).1 (by first | assumption | exact zL qi | exact jH qi)) H fun w20 H=>qx 76 rfl rfl (sp (.bool (decide ((sumL (t.qK[k]!):Int) > 0))) (qx 67 rfl rfl ?_))))))))))))))))))
      refine sps [.bool (decide ((sumL (t.qK[k]!):Int) > 0)),.bool (decide ((sumL (t.qK[k]!):Int) > 0))] (zjn (cD rfl (fun h22=>?_) (fun h22=>?_)))
      ·skip
       refine zcr (sp (.bool false) (zjr (zr5 (ret1 (.bool false) rfl rfl ⟨_,rfl,?_,H.base⟩))))
       rw [qO (fun h=>by obtain ⟨h1,h2,h3,h4,h5⟩:=h;first | contradiction | omega | (simp_all;done) | (obtain ⟨q1,q2⟩:=h5 k qc;first | contradiction | (have:=q2 qi;omega)))]
      refine xn (b_n (t_n (zT (sp (yI k) (sw (vN k 1 rfl rfl qc (sp (yI (k+1)) (vg (xJ (m' :=t.qK.length - (k+1)) qc ⟨_,k+1,uE3,?_,?_,rfl,H.sel _ (.refl _) _ qj⟩)))))))))
      · omega
      · exact i1.succ ‹_› (fun hk=>by first | omega | simp_all)
     replace h18:=qX h18
     replace h18:=xP h18
     refine xh [68,69,70,71,72,73,74,75,76,77,78,79,80,81,82,83,84,85,86] (sp (.bool true) (zjn (xy true rfl (fun _=>zcr (sp (.bool false) (zjr (zr5 (ret1 (.bool false) rfl rfl ⟨_,rfl,?_,H.base⟩))))) (fun h=>absurd h qh))))
     rw [qO (fun h=>by obtain ⟨h1,h2,h3,h4,h5⟩:=h;first | contradiction | omega | (simp_all;done) | (obtain ⟨q1,q2⟩:=h5 k qc;first | contradiction | (have:=q2 qi;omega)))]
    refine zx4 (zcr (sp (.bool true) (zjr (ret1 (.bool true) rfl rfl ⟨_,rfl,?_,H.base⟩))))
    obtain rfl:k=t.qK.length:=by omega
    rw [jX ⟨by omega,by omega,by first | assumption | simp_all,by assumption,i1⟩]
   replace h6:=qX h6
   refine x8 [34,35,36,37,38,39,40] 7 (H) (rtp 41 (.bool true) H ?_)
   refine qZ qg (t_n (xy true rfl (fun _=>zcr (sp (.bool false) (zjr (t_r (ret1 (.bool false) rfl rfl ⟨_,rfl,?_,H.base⟩))))) (fun h=>absurd h qh)))
   rw [qO (fun h=>by obtain ⟨h1,h2,h3,h4,h5⟩:=h;first | contradiction | omega | (simp_all;done) | (obtain ⟨q1,q2⟩:=h5 k qc;first | contradiction | (have:=q2 qi;omega)))]
  replace h3:=bne_iff_ne.1 h3
  refine x8 [25,26,27,28,29,30,31] 7 (H) (rtp 32 (.bool true) H ?_)
  refine rtp 33 (.bool true) H ?_
  refine x8 [34,35,36,37,38,39,40] 7 (H) (rtp 41 (.bool true) H ?_)
  refine qZ qg (t_n (xy true rfl (fun _=>zcr (sp (.bool false) (zjr (t_r (ret1 (.bool false) rfl rfl ⟨_,rfl,?_,H.base⟩))))) (fun h=>absurd h qh)))
  rw [qO (fun h=>by obtain ⟨h1,h2,h3,h4,h5⟩:=h;first | contradiction | omega | (simp_all;done) | (obtain ⟨q1,q2⟩:=h5 k qc;first | contradiction | (have:=q2 qi;omega)))]
 replace h2:=bne_iff_ne.1 h2
 refine x8 [12,13,14,15,16,17,18,19,20,21,22] 11 (H) (rtp 23 (.bool true) H ?_)
 refine rtp 24 (.bool true) H ?_
 refine x8 [25,26,27,28,29,30,31] 7 (H) (rtp 32 (.bool true) H ?_)
 refine rtp 33 (.bool true) H ?_
 refine x8 [34,35,36,37,38,39,40] 7 (H) (rtp 41 (.bool true) H ?_)
 refine qZ qg (t_n (xy true rfl (fun _=>zcr (sp (.bool false) (zjr (t_r (ret1 (.bool false) rfl rfl ⟨_,rfl,?_,H.base⟩))))) (fun h=>absurd h qh)))
 rw [qO (fun h=>by obtain ⟨h1,h2,h3,h4,h5⟩:=h;first | contradiction | omega | (simp_all;done) | (obtain ⟨q1,q2⟩:=h5 k qc;first | contradiction | (have:=q2 qi;omega)))]

theorem l02Ok_ok (w:World) (s:qo) {qA:yOA} {xq:yLN} {qJ:yOA} {xN:yLN} (hs:vM w bs os (yS s qA qy qJ qI)) (qU:qH.rep w xq [.slice qA s.qp.length qy] s.qp) (xB:qH.rep w xN [.slice qJ s.qC.length qI] s.qC):Calls Try.prog 35 #[pp bs os] w (Ret (fun v w' =>v=.bool (dec (jk s))) w):=by
 refine en func35 ntmps35 ?_
 have H:=(((St.start w).arg xB).arg qU).argAt hs
 have zU:=qV qU
 have ja:=qV xB
 clear hs qU xB
 have p1:=fun h:zG s=>h.2.1
 refine zcr (sp (.bool false) (zjcc (sp (pp bs os) (sw (oq (l02Frame_ok _ s (qE (H.get 0 rfl) 0 3) (H.get 1 rfl).1 (H.get 2 rfl).1) H fun w1 H=>sps [.bool (!(dec (zG s))),.bool (!(dec (zG s)))] ?_)))))
 cases h3:(!(dec (zG s)))
 ·skip
  replace h3:=qP h3
  replace h3:=vW h3
  refine qx 8 rfl rfl (sp (pp bs os) (qx 8 rfl rfl (sp (pp bs os) (qx 8 rfl rfl (oF rfl (qx 8 rfl rfl (oL rfl (H.zI 0 rfl 2 rfl) (qx 8 rfl rfl (oN rfl (qx 8 rfl rfl (sps [.bool (decide ((s.qC.length:Int) > 16)),.bool (decide ((s.qC.length:Int) > 16))] (zjn (cD rfl (fun h4=>?_) (fun h4=>?_))))))))))))))
  ·skip
   refine zcr (sp (.bool false) (zjr (t_r (ret1 (.bool false) rfl rfl ⟨_,rfl,?_,H.base⟩))))
   rw [qO (fun h=>by obtain ⟨h1,h2,h3⟩:=h;first | contradiction | omega | (obtain ⟨q1,q2⟩:=h3 k qc;first | contradiction | (have:=yt (k:=k+1) q;omega)))]
  have p2:=p1 qi
  refine xn (t_n (zcr (sps [pp bs os,pp bs os] (oF rfl (oL rfl (H.zI 0 rfl 1 rfl) (oN rfl (sw (o_make1 H underlying24 ti2 rfl s.qp.length rfl rfl qc qc fun b5 w6 H=>?_))))))))
  replace H:St _ _ [.box b5 (List.replicate s.qp.length (yI 0)) 2] _:=H
  refine sp (.slice (aa b5 0) s.qp.length s.qp.length) (zjcc (sp (yI 0) (zjn (xE ?_))))
  rw [ints_zero,counts_zero] at H
  refine vT (fun m' ρ w7=>∃ (zX:Env) (k:Nat),ρ=upd (upd (upd zX 0 (pp bs os)) 3 (.slice (aa b5 0) s.qp.length s.qp.length)) 4 (yI k)∧(k≤s.qC.length)∧(RulesTo s k)∧m' =s.qC.length - k∧St w w7 [.box b5 ((counts s k).map (Value.int .i64)) 2] [atF bs os (yS s qA qy qJ qI),sF false xq qA qy s.qp,sF false xN qJ qI s.qC]) (s.qC.length - 0) ⟨_,0,uE3,qc,(by exact fun j hj=>by omega),rfl,H⟩ ?_
  clear H
  rintro m' ρ w8 ⟨zX,k,rfl,i0,i1,rfl,H⟩
  refine zcc (sps [yI k,pp bs os,pp bs os] (oF rfl (oL rfl (H.zI 0 rfl 2 rfl) (oN rfl (sp (.bool (decide ((k:Int) < s.qC.length))) (zjn (cD rfl (fun h9=>?_) (fun h9=>?_))))))))
  ·skip
   refine xn (t_n (zF (xE (zcc (sps [pp bs os,pp bs os,pp bs os] (oF rfl (oL rfl (H.zI 0 rfl 2 rfl) (sp (yI k) ?_))))))))
   obtain ⟨b10,o11,rfl⟩:=H.addr 2 rfl qc
   obtain ⟨ae12Need,ce12Need,Fe12Need,ae12Have,ce12Have,Fe12Have,ae12Lack,ce12Lack,Fe12Lack,ae12Here,ce12Here,Fe12Here,ae12Out,ce12Out,Fe12Out,ae12Into,ce12Into,Fe12Into,H⟩:=H.elem_RuleD 2 rfl k k qc qc qc
   refine oI rfl rfl (sw (oq (l02Rule_ok _ s (s.qC[k]!) (qE (H.get 7 rfl) 0 3) (H.get 8 rfl).1 (H.get 9 rfl).1 (qE (H.get 6 rfl) 0 9) (H.get 0 rfl).1 (H.get 1 rfl).1 (H.get 2 rfl).1 (H.get 3 rfl).1 (H.get 4 rfl).1 (H.get 5 rfl).1 qi) H fun w13 H=>sp (.bool (!(dec (RuleOk s (s.qC[k]!))))) (zjn (cQ rfl (fun h15=>?_) (fun h15=>?_)))))
   ·skip
    refine zcr (sp (.bool false) (zjr (t_r (zr5 (ret1 (.bool false) rfl rfl ⟨_,rfl,?_,H.base⟩)))))
    rw [qO (fun h=>by obtain ⟨h1,h2,h3⟩:=h;first | contradiction | omega | (obtain ⟨q1,q2⟩:=h3 k qc;first | contradiction | (have:=yt (k:=k+1) q;omega)))]
   have q:=(h15).1
   refine xn (t_n (zcr (sps [.slice (aa b5 0) s.qp.length s.qp.length,pp bs os,pp bs os] (oF rfl (oL rfl (H.zI 7 rfl 2 rfl) (sp (yI k) (oI rfl rfl (oF rfl (oL rfl (H.zI 6 rfl 0 rfl) (oI rfl rfl (oL rfl (H.cell 0 rfl (ints_get (by rw [counts_len];omega))) (sw (vN ((counts s k)[((s.qC[k]!).qY:Int).toNat]!) 1 rfl rfl (by (first | omega | (rw [yt q];have:=ofCell_bd s.qC (s.qC[k]!).qY k;omega))) (oI rfl rfl ?_))))))))))))))
   refine sw (o_store1 H 0 rfl (yI (((counts s k)[((s.qC[k]!).qY:Int).toNat]!)+1)) sizeOf2 rfl rfl rfl (ints_lt (by rw [counts_len];omega)) fun w16 H=>?_)
   rw [ints_set] at H
   rw [counts_succ q] at H
   replace H:St _ _ [.box b5 ((counts s (k+1)).map (Value.int .i64)) 2] _:=H
   refine zjc (sps [.slice (aa b5 0) s.qp.length s.qp.length,pp bs os,pp bs os] (oF rfl (oL rfl (H.zI 7 rfl 2 rfl) (sp (yI k) (oI rfl rfl (oF rfl (oL rfl (H.zI 6 rfl 0 rfl) (oI rfl rfl (oL rfl (H.cell 0 rfl (ints_get (by rw [counts_len];omega))) (sp (.bool (decide (((counts s (k+1))[((s.qC[k]!).qY:Int).toNat]! :Int) > 8))) (zjn (cD rfl (fun h17=>?_) (fun h17=>?_)))))))))))))
   ·skip
    refine zcr (sp (.bool false) (zjr (zr5 (ret1 (.bool false) rfl rfl ⟨_,rfl,?_,H.base⟩))))
    rw [qO (fun h=>by obtain ⟨h1,h2,h3⟩:=h;first | contradiction | omega | (obtain ⟨q1,q2⟩:=h3 k qc;first | contradiction | (have:=yt (k:=k+1) q;omega)))]
   refine xn (b_n (t_n (zT (sp (yI k) (sw (vN k 1 rfl rfl (by (first | omega | (rw [yt q];have:=ofCell_bd s.qC (s.qC[k]!).qY k;omega))) (sp (yI (k+1)) (vg (xJ (m' :=s.qC.length - (k+1)) qc ⟨_,k+1,uE3,?_,?_,rfl,H.sel _ (.refl _) _ qj⟩)))))))))
   · omega
   · exact i1.succ ‹_› (by have:=yt (k:=k+1) q;omega)
  refine zx4 (zcr (sp (.bool true) (zjr (ret1 (.bool true) rfl rfl ⟨_,rfl,?_,H.base⟩))))
  obtain rfl:k=s.qC.length:=by omega
  rw [jX ⟨by assumption,by omega,i1⟩]
 replace h3:=qX h3
 replace h3:=xP h3
 refine xh [9,10,11,12,13,14] (sp (.bool true) (zjn (xy true rfl (fun _=>zcr (sp (.bool false) (zjr (t_r (ret1 (.bool false) rfl rfl ⟨_,rfl,?_,H.base⟩))))) (fun h=>absurd h qh))))
 rw [qO (fun h=>by obtain ⟨h1,h2,h3⟩:=h;first | contradiction | omega | (obtain ⟨q1,q2⟩:=h3 k qc;first | contradiction | (have:=yt (k:=k+1) q;omega)))]
theorem cloneB_ok (w:World) (l:List Bool) {al:yOA} {Fl:yLN} (hl:qH.rep w Fl [.slice al l.length cl] l) (p0:l.length≤1000000):Calls Try.prog 66 #[.slice al l.length cl] w (Ret (fun v w' =>∃ (ra:yOA) (rn:Nat) (rc:Nat),v=.slice ra rn rc∧Fresh w.heap.size []∧St w w' [rr ra rn rc 4 1 (l.map (Value.bool))] []) w):=by
 refine en func66 ntmps66 ?_
 have H:=(St.start w).arg hl
 have nhl:=qV hl
 clear hl
 have N:=Fresh.nil w.heap.size
 refine zcr (sp yN (zjcc (sp (.slice al l.length cl) (sw (o_eqnil underlying28 al l.length cl rfl (zjn (xy (al.isNone) rfl (fun h1=>?_) (fun h1=>?_))))))))
 ·skip
  refine zcr (sp yN (zjr (t_r ?_)))
  replace H:=H.nilRowB 4
  refine ret1 yN rfl rfl ⟨_,rfl,?_,H.base⟩
  obtain rfl:=H.nilOf 0 rfl ‹_›
  exact ⟨none,0,0,rfl,N,H.pick [0] []⟩
 refine xn (t_n (zcr (sw (o_build0 H underlying28 ti4 fun b2 w3 H=>sp (.slice al l.length cl) ?_))))
 replace H:=H.boxRowB 0 [] 0
 refine sw (o_appendFR H 0 rfl 0 rfl underlying28 ti4 rfl qh rfl rfl qm qc fun a4 c5 w6 us7 G8 H hG9=>?_)
 obtain ⟨_,rfl⟩:=reps_bools (H.get 0 rfl).1
 replace H:=H.sub _ fun f hf=>List.mem_cons_of_mem _ hf
 rw [catB] at H
 refine sp (.slice a4 (0+l.length) c5) (zjr (ret1 (.slice a4 (0+l.length) c5) rfl rfl ⟨_,rfl,(⟨a4,0+l.length,c5,rfl,N,H.pick [0] []⟩),H.base⟩))
theorem isShell_ok (w:World) (s:qo) {qA:yOA} {xq:yLN} {qJ:yOA} {xN:yLN} (qU:qH.rep w xq [.slice qA s.qp.length qy] s.qp) (xB:qH.rep w xN [.slice qJ s.qC.length qI] s.qC):Calls Try.prog 107 #[.agg #[yI s.qN,.slice qA s.qp.length qy,.slice qJ s.qC.length qI]] w (Ret (fun v w' =>v=.bool (dec (zG s))) w):=by
 refine en func107 ntmps107 ?_
 have H:=((St.start w).arg xB).arg qU
 have zU:=qV qU
 have ja:=qV xB
 clear qU xB
 have N:=Fresh.nil w.heap.size
 refine zcr (sw (jF H (yS s qA qy qJ qI) fun b1 w2 H=>sp (.bool false) (zjcc (oF rfl (oL rfl (H.cell 0 rfl rfl) (sw (oq (inRange_ok w2 s.qN 1 8) H fun w3 H=>sps [.bool (!(inR s.qN 1 8)),.bool (!(inR s.qN 1 8))] ?_)))))))
 cases h5:(!(inR s.qN 1 8))
 ·skip
  replace h5:=qP h5
  replace h5:=jG.1 h5
  refine qx 9 rfl rfl (oF rfl (qx 9 rfl rfl (oL rfl (H.cell 0 rfl rfl) (qx 9 rfl rfl (sw (oq (sizeI_ok _ s.qp (H.get 0 rfl).1) H fun w6 H=>qx 9 rfl rfl (sw (oq (inRange_ok w6 (s.qp.length:Int) 1 6) H fun w8 H=>qx 9 rfl rfl (sps [.bool (!(inR (s.qp.length:Int) 1 6)),.bool (!(inR (s.qp.length:Int) 1 6)),.bool (!(inR (s.qp.length:Int) 1 6))] ?_)))))))))
  cases h10:(!(inR (s.qp.length:Int) 1 6))
  ·skip
   replace h10:=qP h10
   replace h10:=jG.1 h10
   refine qx 16 rfl rfl (oF rfl (qx 16 rfl rfl (oL rfl (H.cell 0 rfl rfl) (qx 16 rfl rfl ?_))))
   obtain ⟨b11,o12,rfl⟩:=H.addr 0 rfl qc
   refine oI rfl rfl (qx 16 rfl rfl (oL rfl (H.jQ 0 rfl 0 qc qc) (qx 16 rfl rfl (sps [.bool ((s.qp[0]! :Int) != (-1)),.bool ((s.qp[0]! :Int) != (-1))] (zjn (xy ((s.qp[0]! :Int) != (-1)) rfl (fun h14=>?_) (fun h14=>?_)))))))
   ·skip
    replace h14:=bne_iff_ne.1 h14
    refine zcr (sp (.bool false) (zjr (t_r (ret1 (.bool false) rfl rfl ⟨_,rfl,?_,H.base⟩))))
    rw [qO (fun h=>by obtain ⟨h1,h2,h3,h4⟩:=h;first | omega | (have:=h4 (c+1) qc qc;rw [← dg qc] at this;omega))]
   replace h14:=xC h14
   refine xn (t_n (zcc (oF rfl (oL rfl (H.cell 0 rfl rfl) (sw (o_tail H 0 rfl 1 underlying24 ti2 rfl qc fun a15 G16 hG17 H=>?_))))))
   have hl18:(s.qp.drop 1).length=s.qp.length - 1:=List.length_drop
   refine oN rfl (sp (yI 0) (zjn (xE ?_)))
   refine vT (fun m' ρ w19=>∃ (zX:Env) (c:Nat),ρ=upd (upd (upd zX 25 (.slice a15 ((s.qp.drop 1).length) (qy - 1))) 26 (yI ((s.qp.drop 1).length))) 27 (yI c)∧((c:Int)≤((s.qp.drop 1).length))∧(FrameTo s (c+1))∧m' =(((s.qp.drop 1).length) - (c:Int)).toNat∧Fresh w.heap.size []∧St w w19 [.box b1 [yI s.qN,.slice (aa b11 o12) s.qp.length qy,.slice qJ s.qC.length qI] 27] [sF false G16 a15 (qy - 1) (s.qp.drop 1),sF false xq (aa b11 o12) qy s.qp,sF false xN qJ qI s.qC]) ((((s.qp.drop 1).length) - (0:Int)).toNat) ⟨_,0,uE3,qc,(by exact FrameTo.one s),rfl,N,H⟩ ?_
   clear H N
   rintro m' ρ w20 ⟨zX,c,rfl,i0,i1,rfl,N,H⟩
   have dg:=drop_get (l:=s.qp) (k:=c)
   refine zcr (sp (.bool (decide ((c:Int) < ((s.qp.drop 1).length)))) (zjn (zF (cD rfl (fun h21=>?_) (fun h21=>?_)))))
   ·skip
    refine xn (t_n (zF (xE (zcr (sp (yI c) ?_)))))
    obtain ⟨b22,o23,rfl⟩:=H.addr 0 rfl qc
    refine oI rfl rfl (oL rfl (H.jQ 0 rfl c qc qc) (sps [yI c,yI ((s.qp.drop 1)[c]!)] (zjc (sps [yI ((s.qp.drop 1)[c]!),yI c] (sw (oq (inRange_ok w20 ((s.qp.drop 1)[c]!) 0 c) H fun w25 H=>sp (.bool (!(inR ((s.qp.drop 1)[c]!) 0 c))) (zjn (xy (!(inR ((s.qp.drop 1)[c]!) 0 c)) rfl (fun h27=>?_) (fun h27=>?_)))))))))
    ·skip
     replace h27:=qX h27
     replace h27:=jP h27
     refine zcr (sp (.bool false) (zjr (zr5 (ret1 (.bool false) rfl rfl ⟨_,rfl,?_,H.base⟩))))
     rw [qO (fun h=>by obtain ⟨h1,h2,h3,h4⟩:=h;first | omega | (have:=h4 (c+1) qc qc;rw [← dg qc] at this;omega))]
    replace h27:=qP h27
    replace h27:=jG.1 h27
    refine xn (b_n (t_n (zT (sw (vN c 1 rfl rfl qc (sp (yI (c+1)) (vg (xJ (m' :=(((s.qp.drop 1).length) - ((c+1):Int)).toNat) qc ⟨_,c+1,uE3,?_,?_,rfl,N,H⟩))))))))
    · omega
    · exact i1.succ (by rw [← dg qc];omega)
   refine zx4 (zcr (sp (.bool true) (zjr (ret1 (.bool true) rfl rfl ⟨_,rfl,?_,H.base⟩))))
   rw [jX ⟨by omega,by omega,by omega,(show s.qp.length=c+1 by omega)▸i1⟩]
  replace h10:=qX h10
  replace h10:=jP h10
  refine xh [17,18,19,20,21] (sp (.bool true) (zjn (xy true rfl (fun _=>zcr (sp (.bool false) (zjr (t_r (ret1 (.bool false) rfl rfl ⟨_,rfl,?_,H.base⟩))))) (fun h=>absurd h qh))))
  rw [qO (fun h=>by obtain ⟨h1,h2,h3,h4⟩:=h;first | omega | (have:=h4 (c+1) qc qc;rw [← dg qc] at this;omega))]
 replace h5:=qX h5
 replace h5:=jP h5
 refine xh [10,11,12,13,14] (sps [.bool true,.bool true] (xh [17,18,19,20,21] (sp (.bool true) (zjn (xy true rfl (fun _=>zcr (sp (.bool false) (zjr (t_r (ret1 (.bool false) rfl rfl ⟨_,rfl,?_,H.base⟩))))) (fun h=>absurd h qh))))))
 rw [qO (fun h=>by obtain ⟨h1,h2,h3,h4⟩:=h;first | omega | (have:=h4 (c+1) qc qc;rw [← dg qc] at this;omega))]

theorem isCell_ok (w:World) (s:qo) (c:Int) {qA:yOA} {xq:yLN} {qJ:yOA} {xN:yLN} (qU:qH.rep w xq [.slice qA s.qp.length qy] s.qp) (xB:qH.rep w xN [.slice qJ s.qC.length qI] s.qC):Calls Try.prog 49 #[.agg #[yI s.qN,.slice qA s.qp.length qy,.slice qJ s.qC.length qI],yI c] w (Ret (fun v w' =>v=.bool (inR c 0 ((s.qp.length:Int) - 1))) w):=by
 refine en func49 ntmps49 ?_
 have H:=((St.start w).arg xB).arg qU
 have zU:=qV qU
 have ja:=qV xB
 clear qU xB
 have N:=Fresh.nil w.heap.size
 refine zcr (sw (jF H (yS s qA qy qJ qI) fun b1 w2 H=>sp (.bool false) (zjc (sp (yI c) (oF rfl (oL rfl (H.cell 0 rfl rfl) (sw (oq (sizeI_ok _ s.qp (H.get 0 rfl).1) H fun w3 H=>sw (o_sub (s.qp.length:Int) 1 rfl rfl qc (sw (oq (inRange_ok w3 c 0 ((s.qp.length:Int) - 1)) H fun w5 H=>sp (.bool (inR c 0 ((s.qp.length:Int) - 1))) (zjr (ret1 (.bool (inR c 0 ((s.qp.length:Int) - 1))) rfl rfl ⟨_,rfl,?_,H.base⟩)))))))))))))
 rfl

theorem lies_ok (w:World) (s:qo) (c:Int) (within:Int) {qA:yOA} {xq:yLN} {qJ:yOA} {xN:yLN} (qU:qH.rep w xq [.slice qA s.qp.length qy] s.qp) (xB:qH.rep w xN [.slice qJ s.qC.length qI] s.qC) (p0:zG s) (p1:jJ s c):Calls Try.prog 121 #[.agg #[yI s.qN,.slice qA s.qp.length qy,.slice qJ s.qC.length qI],yI c,yI within] w (Ret (fun v w' =>v=.bool (dec (Lies s.qp within c))) w):=by
 refine en func121 ntmps121 ?_
 have H:=((St.start w).arg xB).arg qU
 have zU:=qV qU
 have ja:=qV xB
 clear qU xB
 have N:=Fresh.nil w.heap.size
 have p2:=p0.step p1.1 p1.2
 refine zcr (sw (jF H (yS s qA qy qJ qI) fun b1 w2 H=>sp (.bool false) (zjcc (oF rfl (oL rfl (H.cell 0 rfl rfl) (sp (yI c) ?_))))))
 obtain ⟨b3,o4,rfl⟩:=H.addr 0 rfl qc
 refine oI rfl rfl (oL rfl (H.jQ 0 rfl c qc qc) (sp (yI (s.qp[c.toNat]!)) (zjn (xE ?_))))
 refine vT (fun m' ρ w6=>∃ (zX:Env) (c_1:Int),ρ=upd (upd (upd zX 1 (yI c_1)) 2 (yI within)) 3 (pp b1 0)∧(-1≤c_1∧c_1≤(s.qp.length:Int) - 1)∧(Lies s.qp within c↔0≤c_1∧(c_1=within∨Lies s.qp within c_1))∧m' =(c_1+1).toNat∧Fresh w.heap.size []∧St w w6 [.box b1 [yI s.qN,.slice (aa b3 o4) s.qp.length qy,.slice qJ s.qC.length qI] 27] [sF false xq (aa b3 o4) qy s.qp,sF false xN qJ qI s.qC]) (((s.qp[c.toNat]!)+1).toNat) ⟨_,s.qp[c.toNat]!,uE3,qc,(by exact lies_up p0 p1),rfl,N,H⟩ ?_
 clear H N
 rintro m' ρ w7 ⟨zX,c_1,rfl,i0,i1,rfl,N,H⟩
 have up:=fun h=>p0.step (c:=c_1) h i0.2
 refine zcc (sps [yI c_1,.bool (decide ((c_1:Int)≥0))] (zjn (cD rfl (fun h8=>?_) (fun h8=>?_))))
 ·skip
  refine xn (t_n (zF (xE (zcr (sps [yI c_1,yI within,.bool ((c_1:Int) == within)] (zjn (cE rfl (fun h9=>?_) (fun h9=>?_))))))))
  ·skip
   refine zcr (sp (.bool true) (zjr (zr5 (ret1 (.bool true) rfl rfl ⟨_,rfl,?_,H.base⟩))))
   rw [jX (i1.2 ⟨by omega,.inl ‹_›⟩)]
  refine xn (b_n (t_n (zT (oF rfl (oL rfl (H.cell 0 rfl rfl) (sp (yI c_1) (oI rfl rfl (oL rfl (H.jQ 0 rfl c_1 qc qc) (sp (yI (s.qp[c_1.toNat]!)) (vg ?_))))))))))
  have up1:=up qc
  refine xJ (m' :=((s.qp[c_1.toNat]!)+1).toNat) qc ⟨_,s.qp[c_1.toNat]!,uE3,?_,?_,rfl,N,H⟩
  · omega
  · exact i1.trans ⟨fun h=>(lies_up p0 ⟨by omega,by omega⟩).1 (h.2.resolve_left ‹_›),fun h=>⟨by omega,.inr ((lies_up p0 ⟨by omega,by omega⟩).2 h)⟩⟩
 refine zx4 (zcr (sp (.bool false) (zjr (ret1 (.bool false) rfl rfl ⟨_,rfl,?_,H.base⟩))))
 rw [qO (fun h=>by have:=(i1.1 h).1;omega)]

theorem isRule_ok (w:World) (s:qo) (r:zM) {qA:yOA} {xq:yLN} {qJ:yOA} {xN:yLN} {jw:yOA} {FrNeed:yLN} {jB:yOA} {FrHave:yLN} {jy:yOA} {FrLack:yLN} {jA:yOA} {FrHere:yLN} {arOut:yOA} {FrOut:yLN} {yu:yOA} {FrInto:yLN} (qU:qH.rep w xq [.slice qA s.qp.length qy] s.qp) (xB:qH.rep w xN [.slice qJ s.qC.length qI] s.qC) (hrNeed:qH.rep w FrNeed [.slice jw r.xO.length jm] r.xO) (hrHave:qH.rep w FrHave [.slice jB r.zy.length jv] r.zy) (hrLack:qH.rep w FrLack [.slice jy r.zA.length jo] r.zA) (hrHere:qH.rep w FrHere [.slice jA r.zB.length jq] r.zB) (hrOut:qH.rep w FrOut [.slice arOut r.jL.length crOut] r.jL) (hrInto:qH.rep w FrInto [.slice yu r.xe.length yl] r.xe) (p0:zG s):Calls Try.prog 108 #[.agg #[yI s.qN,.slice qA s.qp.length qy,.slice qJ s.qC.length qI],.agg #[yI r.qY,yI r.jU,.slice jw r.xO.length jm,.slice jB r.zy.length jv,.slice jy r.zA.length jo,.slice jA r.zB.length jq,.slice arOut r.jL.length crOut,.slice yu r.xe.length yl,.bool r.yh]] w (Ret (fun v w' =>v=.bool (dec (RuleOk s r))) w):=by
 refine en func108 ntmps108 ?_
 have H:=((((((((St.start w).arg hrInto).arg hrOut).arg hrHere).arg hrLack).arg hrHave).arg hrNeed).arg xB).arg qU
 have zU:=qV qU
 have ja:=qV xB
 have nhrNeed:=qV hrNeed
 have nhrHave:=qV hrHave
 have nhrLack:=qV hrLack
 have nhrHere:=qV hrHere
 have nhrOut:=qV hrOut
 have nhrInto:=qV hrInto
 clear qU xB hrNeed hrHave hrLack hrHere hrOut hrInto
 have N:=Fresh.nil w.heap.size
 refine zcr (sw (jF H (yS s qA qy qJ qI) fun b1 w2 H=>sw (jF H [yI r.qY,yI r.jU,.slice jw r.xO.length jm,.slice jB r.zy.length jv,.slice jy r.zA.length jo,.slice jA r.zB.length jq,.slice arOut r.jL.length crOut,.slice yu r.xe.length yl,.bool r.yh] fun b3 w4 H=>sp (.bool false) (zjcc ?_))))
 refine sw (xR (yS s qA qy qJ qI) isAgg27 sizeOf27 rfl (qE (H.cells 1 rfl) 0 3) (oF rfl (oL rfl (H.cell 0 rfl rfl) (sw (oq (isCell_ok _ s r.qY (H.get 0 rfl).1 (H.get 1 rfl).1) H fun w6 H=>sps [.bool (!(inR r.qY 0 ((s.qp.length:Int) - 1))),.bool (!(inR r.qY 0 ((s.qp.length:Int) - 1)))] ?_)))))
 cases h8:(!(inR r.qY 0 ((s.qp.length:Int) - 1)))
 ·skip
  replace h8:=qP h8
  replace h8:=jG.1 h8
  refine qx 14 rfl rfl (oF rfl (qx 14 rfl rfl (oL rfl (H.cell 0 rfl rfl) (qx 14 rfl rfl (sw (oq (inRange_ok w6 r.jU 0 9) H fun w9 H=>qx 14 rfl rfl (sps [.bool (!(inR r.jU 0 9)),.bool (!(inR r.jU 0 9)),.bool (!(inR r.jU 0 9))] ?_)))))))
  cases h11:(!(inR r.jU 0 9))
  ·skip
   replace h11:=qP h11
   replace h11:=jG.1 h11
   refine qx 20 rfl rfl (oF rfl (qx 20 rfl rfl (oL rfl (H.cell 0 rfl rfl) (qx 20 rfl rfl (sp (.bool r.yh) ?_)))))
   cases h12:(r.yh)
   ·skip
    rw [h12] at H
    refine xh [24,25,26] (qx 20 rfl rfl (sps [.bool false,.bool false,.bool false] (qx 29 rfl rfl (oF rfl (qx 29 rfl rfl (oL rfl (H.cell 0 rfl rfl) (qx 29 rfl rfl (oN rfl (qx 29 rfl rfl (sps [.bool (decide ((r.xe.length:Int) > 3)),.bool (decide ((r.xe.length:Int) > 3))] (zjn (cD rfl (fun h13=>?_) (fun h13=>?_)))))))))))))
    ·skip
     refine zcr (sp (.bool false) (zjr (t_r (ret1 (.bool false) rfl rfl ⟨_,rfl,?_,H.base⟩))))
     rw [qO (fun h=>by obtain ⟨h1,h2,h3,h4,h5,h6,h7,h8,h9,h10,h11⟩:=h;first | contradiction | omega | exact h3 ⟨‹_›,‹_›⟩ | (obtain ⟨q1,q2,q3,q4,q5⟩:=h11 i qc;first | contradiction | omega | (have:=q5 qc;omega)) | (refine absurd ?_ ‹¬ xK _ _›;rcases (show k=0∨k=1∨k=2∨k=3∨k=4 by omega) with e | e | e | e | e <;> subst e <;> assumption))]
    refine xn (t_n (zcc (oF rfl (oL rfl (H.cell 0 rfl rfl) (oF rfl (oL rfl (H.cell 0 rfl rfl) (oF rfl (oL rfl (H.cell 0 rfl rfl) (oF rfl (oL rfl (H.cell 0 rfl rfl) (oF rfl (oL rfl (H.cell 0 rfl rfl) (sw (o_buildF H underlying29 ti24 [.slice jw r.xO.length jm,.slice jB r.zy.length jv,.slice jy r.zA.length jo,.slice jA r.zB.length jq,.slice arOut r.jL.length crOut] rfl (by simp [Value.cells]) rfl qh qh fun b14 w15 H=>oN rfl (sp (yI 0) (zjn (xE ?_)))))))))))))))))
    replace H:=H.boxRow 0 rfl 1 5 rfl qh
    replace H:=H.repsNil (α:=yLI)
    replace H:=H.repsCons false 7 rfl 0 rfl qj
    replace H:=H.repsCons false 7 rfl 0 rfl qj
    replace H:=H.repsCons false 7 rfl 0 rfl qj
    replace H:=H.repsCons false 7 rfl 0 rfl qj
    replace H:=H.repsCons false 7 rfl 0 rfl qj
    refine vT (fun m' ρ w16=>∃ (zX:Env) (k:Nat),ρ=upd (upd (upd (upd (upd zX 2 (pp b1 0)) 3 (pp b3 0)) 45 (.slice (aa b14 0) 5 5)) 46 (yI 5)) 47 (yI k)∧((k:Int)≤5)∧(∀ j,j < k→xK s.qN ([r.xO,r.zy,r.zA,r.zB,r.jL][j]!))∧m' =(5 - (k:Int)).toNat∧Fresh w.heap.size []∧St w w16 [rr (aa b14 0) 5 5 24 1 [.slice jw r.xO.length jm,.slice jB r.zy.length jv,.slice jy r.zA.length jo,.slice jA r.zB.length jq,.slice arOut r.jL.length crOut],.box b3 [yI r.qY,yI r.jU,.slice jw r.xO.length jm,.slice jB r.zy.length jv,.slice jy r.zA.length jo,.slice jA r.zB.length jq,.slice arOut r.jL.length crOut,.slice yu r.xe.length yl,.bool false] 51,.box b1 (yS s qA qy qJ qI) 27] [qM false (FrNeed++(FrHave++(FrLack++(FrHere++(FrOut++[]))))) [.slice jw r.xO.length jm,.slice jB r.zy.length jv,.slice jy r.zA.length jo,.slice jA r.zB.length jq,.slice arOut r.jL.length crOut] [r.xO,r.zy,r.zA,r.zB,r.jL],sF false xq qA qy s.qp,sF false xN qJ qI s.qC,sF false FrNeed jw jm r.xO,sF false FrHave jB jv r.zy,sF false FrLack jy jo r.zA,sF false FrHere jA jq r.zB,sF false FrOut arOut crOut r.jL,sF false FrInto yu yl r.xe]) ((5 - (0:Int)).toNat) ⟨_,0,uE5,qc,(by intro j hj;omega),rfl,N,H.pick [0,1,2] [0,6,7,8,9,10,11,12,13]⟩ ?_
    clear H N
    rintro m' ρ w17 ⟨zX,k,rfl,i0,i1,rfl,N,H⟩
    refine zcr (sp (.bool (decide ((k:Int) < 5))) (zjn (zF (cD rfl (fun h18=>?_) (fun h18=>?_)))))
    ·skip
     refine xn (t_n (zF (xE (zcr (oI rfl rfl ?_)))))
     obtain ⟨a19,c20,G21,s22,h23,H⟩:=H.rowElemL 0 rfl 0 rfl (iv:=k) k qc qc
     refine oL rfl (h23) (sp (.slice a19 (([r.xO,r.zy,r.zA,r.zB,r.jL][k]!).length) c20) (zjc (oF rfl (oL rfl (H.cell 2 rfl rfl) (sp (.slice a19 (([r.xO,r.zy,r.zA,r.zB,r.jL][k]!).length) c20) (sw (oq (jY _ s.qN ([r.xO,r.zy,r.zA,r.zB,r.jL][k]!) (H.get 0 rfl).1) H fun w24 H=>sp (.bool (!(dec (xK s.qN ([r.xO,r.zy,r.zA,r.zB,r.jL][k]!))))) (zjn (cQ rfl (fun h26=>?_) (fun h26=>?_))))))))))
     ·skip
      refine zcr (sp (.bool false) (zjr (zr5 (ret1 (.bool false) rfl rfl ⟨_,rfl,?_,H.base⟩))))
      rw [qO (fun h=>by obtain ⟨h1,h2,h3,h4,h5,h6,h7,h8,h9,h10,h11⟩:=h;first | contradiction | omega | exact h3 ⟨‹_›,‹_›⟩ | (obtain ⟨q1,q2,q3,q4,q5⟩:=h11 i qc;first | contradiction | omega | (have:=q5 qc;omega)) | (refine absurd ?_ ‹¬ xK _ _›;rcases (show k=0∨k=1∨k=2∨k=3∨k=4 by omega) with e | e | e | e | e <;> subst e <;> assumption))]
     refine xn (b_n (t_n (zT (sw (vN k 1 rfl rfl qc (sp (yI (k+1)) (vg (xJ (m' :=(5 - ((k+1):Int)).toNat) qc ⟨_,k+1,uE5,?_,?_,rfl,N,H.pick [0,1,2] [1,2,3,4,5,6,7,8,9]⟩))))))))
     · omega
     · intro j hj;by_cases e:j=k;(subst e;assumption);exact i1 j qc
    refine zx4 (zcc (oF rfl (oL rfl (H.cell 1 rfl rfl) (oN rfl (sp (yI 0) (zjn (xE ?_)))))))
    have n1:xK s.qN r.xO:=i1 0 qc
    have n2:xK s.qN r.zy:=i1 1 qc
    have n3:xK s.qN r.zA:=i1 2 qc
    have n4:xK s.qN r.zB:=i1 3 qc
    have n5:xK s.qN r.jL:=i1 4 qc
    refine vT (fun m' ρ w27=>∃ (zX:Env) (i:Nat),ρ=upd (upd (upd (upd (upd zX 2 (pp b1 0)) 3 (pp b3 0)) 58 (.slice yu r.xe.length yl)) 59 (yI r.xe.length)) 60 (yI i)∧((i:Int)≤r.xe.length)∧(IntosTo s r i)∧m' =(r.xe.length - (i:Int)).toNat∧Fresh w.heap.size []∧St w w27 [rr (aa b14 0) 5 5 24 1 [.slice jw r.xO.length jm,.slice jB r.zy.length jv,.slice jy r.zA.length jo,.slice jA r.zB.length jq,.slice arOut r.jL.length crOut],.box b3 [yI r.qY,yI r.jU,.slice jw r.xO.length jm,.slice jB r.zy.length jv,.slice jy r.zA.length jo,.slice jA r.zB.length jq,.slice arOut r.jL.length crOut,.slice yu r.xe.length yl,.bool false] 51,.box b1 (yS s qA qy qJ qI) 27] [qM false (FrNeed++(FrHave++(FrLack++(FrHere++(FrOut++[]))))) [.slice jw r.xO.length jm,.slice jB r.zy.length jv,.slice jy r.zA.length jo,.slice jA r.zB.length jq,.slice arOut r.jL.length crOut] [r.xO,r.zy,r.zA,r.zB,r.jL],sF false xq qA qy s.qp,sF false xN qJ qI s.qC,sF false FrNeed jw jm r.xO,sF false FrHave jB jv r.zy,sF false FrLack jy jo r.zA,sF false FrHere jA jq r.zB,sF false FrOut arOut crOut r.jL,sF false FrInto yu yl r.xe]) ((r.xe.length - (0:Int)).toNat) ⟨_,0,uE5,qc,(by exact fun j hj=>by omega),rfl,N,H⟩ ?_
    clear H N
    rintro m' ρ w28 ⟨zX,i,rfl,i0,i2,rfl,N,H⟩
    refine zcr (sp (.bool (decide ((i:Int) < r.xe.length))) (zjn (zF (cD rfl (fun h29=>?_) (fun h29=>?_)))))
    ·skip
     refine xn (t_n (zF (xE (zcr (sp (yI i) ?_)))))
     obtain ⟨b30,o31,rfl⟩:=H.addr 8 rfl qc
     obtain ⟨ae33Bag,ce33Bag,Fe33Bag,H⟩:=H.yj 8 rfl i i qc qc qc
     refine oI rfl rfl (sw (xR [yI ((r.xe[i]!).qY),.slice ae33Bag (((r.xe[i]!).yw).length) ce33Bag] isAgg121 sizeOf121 rfl (qE (H.get 1 rfl) 0 2) (sw (xk H ti121 [yI 0,yN] fun b34 w35 H=>sp (yI i) (sw (qL H 0 [yI ((r.xe[i]!).qY),.slice ae33Bag (((r.xe[i]!).yw).length) ce33Bag] sizeOf121 fun w36 H=>zjn (zF ?_)))))))
     refine c_drawH rfl H fun H=>rt 0 (.agg #[yI s.qN,.slice qA s.qp.length qy,.slice qJ s.qC.length qI]) (y_loadN (cs:=(yS s qA qy qJ qI)) isAgg27 sizeOf27 rfl (fun _ h=>qE (h.cells 3 rfl) 0 3)) H ?_
     refine tF 1 rfl rfl H ?_
     refine tL 2 rfl rfl (fun _ h=>h.cell 0 rfl rfl) H ?_
     refine ro 3 rfl (oq (isCell_ok _ s ((r.xe[i]!).qY) (H.get 3 rfl).1 (H.get 4 rfl).1) H fun w39 H=>⟨H,(rtp 4 (.bool (!(inR ((r.xe[i]!).qY) 0 ((s.qp.length:Int) - 1)))) H ?_)⟩)
     refine rtp 5 (.bool (!(inR ((r.xe[i]!).qY) 0 ((s.qp.length:Int) - 1)))) H ?_
     cases h41:(!(inR ((r.xe[i]!).qY) 0 ((s.qp.length:Int) - 1)))
     ·skip
      replace h41:=qP h41
      replace h41:=jG.1 h41
      refine rg 6 (.agg #[yI s.qN,.slice qA s.qp.length qy,.slice qJ s.qC.length qI]) 70 (y_loadN (cs:=(yS s qA qy qJ qI)) isAgg27 sizeOf27 rfl (fun _ h=>qE (h.cells 3 rfl) 0 3)) H ?_
      refine gF 7 rfl rfl H ?_
      refine gL 8 rfl rfl (fun _ h=>h.cell 0 rfl rfl) H ?_
      refine gF 9 rfl rfl H ?_
      refine gL 10 rfl rfl (fun _ h=>h.cell 2 rfl rfl) H ?_
      refine zl [11] qg qj (r_opG rfl (e:=70) rfl rfl (oq (lies_ok _ s ((r.xe[i]!).qY) r.qY (H.get 3 rfl).1 (H.get 4 rfl).1 qf qf) H fun w43 H=>⟨H,(rgp 12 (.bool (!(dec (Lies s.qp r.qY ((r.xe[i]!).qY))))) 70 H ?_)⟩) zn)
      refine rtp 13 (.bool (!(dec (Lies s.qp r.qY ((r.xe[i]!).qY))))) H ?_
      refine rtp 14 (.bool (!(dec (Lies s.qp r.qY ((r.xe[i]!).qY))))) H ?_
      cases h45:(!(dec (Lies s.qp r.qY ((r.xe[i]!).qY))))
      ·skip
       replace h45:=qP h45
       replace h45:=vW h45
       refine gF 15 rfl rfl H ?_
       refine gL 16 rfl rfl (fun _ h=>h.cell 3 rfl rfl) H ?_
       refine gF 17 rfl rfl H ?_
       refine gL 18 rfl rfl (fun _ h=>h.cell 0 rfl rfl) H ?_
       refine zl [19] qg qj (r_opG rfl (e:=79) rfl rfl (oq (jY _ s.qN ((r.xe[i]!).yw) (H.get 0 rfl).1) H fun w46 H=>⟨H,(rgp 20 (.bool (!(dec (xK s.qN ((r.xe[i]!).yw))))) 79 H ?_)⟩) zn)
       refine rtp 21 (.bool (!(dec (xK s.qN ((r.xe[i]!).yw))))) H ?_
       refine rtp 22 (.bool (!(dec (xK s.qN ((r.xe[i]!).yw))))) H ?_
       cases h48:(!(dec (xK s.qN ((r.xe[i]!).yw))))
       ·skip
        replace h48:=qP h48
        replace h48:=vW h48
        refine gF 23 rfl rfl H ?_
        refine gL 24 rfl rfl (fun _ h=>h.cell 0 rfl rfl) H ?_
        refine zl [25] qg qj (r_opG rfl (e:=87) rfl rfl ?_ zn)
        have sm:Small ((r.xe[i]!).yw):=zL (by first | assumption | exact i1 0 qc)
        refine oq (bagSize_ok _ ((r.xe[i]!).yw) (H.get 0 rfl).1 (by first | assumption | exact zL qi | exact jH qi)) H fun w49 H=>⟨H,(rgp 26 (.bool ((sumL ((r.xe[i]!).yw):Int) == 0)) 87 H ?_)⟩
        refine rtp 27 (.bool ((sumL ((r.xe[i]!).yw):Int) == 0)) H ?_
        refine rtp 28 (.bool ((sumL ((r.xe[i]!).yw):Int) == 0)) H ?_
        cases h51:((sumL ((r.xe[i]!).yw):Int) == 0)
        ·skip
         replace h51:=ne_of_beq_false h51
         refine rgp 29 (yI i) 93 H ?_
         refine rgp 30 (.bool (decide ((i:Int) > 0))) 93 H ?_
         refine rgp 31 (.bool (decide ((i:Int) > 0))) 93 H ?_
         cases h52:(decide ((i:Int) > 0))
         ·skip
          replace h52:=of_decide_eq_false h52
          refine x8 [32,33,34,35,36,37,38,39,40,41] 10 (H) (rgp 42 (.bool false) 93 H ?_)
          refine rtp 43 (.bool false) H ?_
          refine qZ qg (t_n (xy false rfl (fun h=>absurd h qh) (fun _=>xn (b_n (t_n (zT (sw (vN i 1 rfl rfl qc (sp (yI (i+1)) (vg (xJ (m' :=(r.xe.length - ((i+1):Int)).toNat) qc ⟨_,i+1,uE5,?_,?_,rfl,N,H.pick [1,2,3] [2,3,4,5,6,7,8,9,10]⟩)))))))))))
          · omega
          · exact i2.succ ⟨‹_›,‹_›,‹_›,‹_›,fun hk=>by omega⟩
         replace h52:=of_decide_eq_true h52
         refine gF 32 rfl rfl H ?_
         refine gL 33 rfl rfl (fun _ h=>h.cell 0 rfl rfl) H ?_
         refine gF 34 rfl rfl H ?_
         refine gL 35 rfl rfl (fun _ h=>h.cell 2 rfl rfl) H ?_
         refine rgp 36 (yI i) 96 H ?_
         refine rg 37 (yI (i - 1)) 96 (y_sub i 1 rfl rfl qc) H ?_
         obtain ⟨ae53Bag,ce53Bag,Fe53Bag,H⟩:=H.yj 10 rfl (i - 1) (i - 1) qc qc qc
         have S:=H.pickC [0,1,2,3] [2,3,4,5,6,7,8,9,10,11,12]
         refine gI 38 rfl rfl rfl S ?_
         refine gF 39 rfl rfl S ?_
         refine zl [40] qg qj (r_opG rfl (e:=96) rfl rfl (ve (yI ((r.xe[i - 1]!).qY)) isAgg2 rfl (H.zI 1 rfl 0 rfl) (⟨H.pick [0,1,2,3] [2,3,4,5,6,7,8,9,10,11,12],?_⟩)) zn)
         have S:=H.pickC [0,1,2,3] [2,3,4,5,6,7,8,9,10,11,12]
         refine rgp 41 (.bool (decide (((r.xe[i]!).qY:Int)≤((r.xe[i - 1]!).qY)))) 96 S ?_
         refine rgp 42 (.bool (decide (((r.xe[i]!).qY:Int)≤((r.xe[i - 1]!).qY)))) 93 S ?_
         refine rtp 43 (.bool (decide (((r.xe[i]!).qY:Int)≤((r.xe[i - 1]!).qY)))) S ?_
         refine qZ qg (t_n (cD rfl (fun h54=>?_) (fun h54=>?_)))
         ·skip
          refine zcr (sp (.bool false) (zjr (zr5 (ret1 (.bool false) rfl rfl ⟨_,rfl,?_,H.base⟩))))
          rw [qO (fun h=>by obtain ⟨h1,h2,h3,h4,h5,h6,h7,h8,h9,h10,h11⟩:=h;first | contradiction | omega | exact h3 ⟨‹_›,‹_›⟩ | (obtain ⟨q1,q2,q3,q4,q5⟩:=h11 i qc;first | contradiction | omega | (have:=q5 qc;omega)) | (refine absurd ?_ ‹¬ xK _ _›;rcases (show k=0∨k=1∨k=2∨k=3∨k=4 by omega) with e | e | e | e | e <;> subst e <;> assumption))]
         refine xn (b_n (t_n (zT (sw (vN i 1 rfl rfl qc (sp (yI (i+1)) (vg (xJ (m' :=(r.xe.length - ((i+1):Int)).toNat) qc ⟨_,i+1,uE5,?_,?_,rfl,N,H.pick [1,2,3] [4,5,6,7,8,9,10,11,12]⟩))))))))
         · omega
         · exact i2.succ ⟨‹_›,‹_›,‹_›,‹_›,fun hk=>by omega⟩
        replace h51:=eq_of_beq h51
        refine x8 [29,30,31,32,33,34,35,36,37,38,39,40,41,42] 14 (H) (rtp 43 (.bool true) H ?_)
        refine qZ qg (t_n (xy true rfl (fun _=>zcr (sp (.bool false) (zjr (zr5 (ret1 (.bool false) rfl rfl ⟨_,rfl,?_,H.base⟩))))) (fun h=>absurd h qh)))
        rw [qO (fun h=>by obtain ⟨h1,h2,h3,h4,h5,h6,h7,h8,h9,h10,h11⟩:=h;first | contradiction | omega | exact h3 ⟨‹_›,‹_›⟩ | (obtain ⟨q1,q2,q3,q4,q5⟩:=h11 i qc;first | contradiction | omega | (have:=q5 qc;omega)) | (refine absurd ?_ ‹¬ xK _ _›;rcases (show k=0∨k=1∨k=2∨k=3∨k=4 by omega) with e | e | e | e | e <;> subst e <;> assumption))]
       replace h48:=qX h48
       replace h48:=xP h48
       refine x8 [23,24,25,26] 4 (H) (rtp 27 (.bool true) H ?_)
       refine rtp 28 (.bool true) H ?_
       refine x8 [29,30,31,32,33,34,35,36,37,38,39,40,41,42] 14 (H) (rtp 43 (.bool true) H ?_)
       refine qZ qg (t_n (xy true rfl (fun _=>zcr (sp (.bool false) (zjr (zr5 (ret1 (.bool false) rfl rfl ⟨_,rfl,?_,H.base⟩))))) (fun h=>absurd h qh)))
       rw [qO (fun h=>by obtain ⟨h1,h2,h3,h4,h5,h6,h7,h8,h9,h10,h11⟩:=h;first | contradiction | omega | exact h3 ⟨‹_›,‹_›⟩ | (obtain ⟨q1,q2,q3,q4,q5⟩:=h11 i qc;first | contradiction | omega | (have:=q5 qc;omega)) | (refine absurd ?_ ‹¬ xK _ _›;rcases (show k=0∨k=1∨k=2∨k=3∨k=4 by omega) with e | e | e | e | e <;> subst e <;> assumption))]
      replace h45:=qX h45
      replace h45:=xP h45
      refine x8 [15,16,17,18,19,20] 6 (H) (rtp 21 (.bool true) H ?_)
      refine rtp 22 (.bool true) H ?_
      refine x8 [23,24,25,26] 4 (H) (rtp 27 (.bool true) H ?_)
      refine rtp 28 (.bool true) H ?_
      refine x8 [29,30,31,32,33,34,35,36,37,38,39,40,41,42] 14 (H) (rtp 43 (.bool true) H ?_)
      refine qZ qg (t_n (xy true rfl (fun _=>zcr (sp (.bool false) (zjr (zr5 (ret1 (.bool false) rfl rfl ⟨_,rfl,?_,H.base⟩))))) (fun h=>absurd h qh)))
      rw [qO (fun h=>by obtain ⟨h1,h2,h3,h4,h5,h6,h7,h8,h9,h10,h11⟩:=h;first | contradiction | omega | exact h3 ⟨‹_›,‹_›⟩ | (obtain ⟨q1,q2,q3,q4,q5⟩:=h11 i qc;first | contradiction | omega | (have:=q5 qc;omega)) | (refine absurd ?_ ‹¬ xK _ _›;rcases (show k=0∨k=1∨k=2∨k=3∨k=4 by omega) with e | e | e | e | e <;> subst e <;> assumption))]
     replace h41:=qX h41
     replace h41:=jP h41
     refine x8 [6,7,8,9,10,11,12] 7 (H) (rtp 13 (.bool true) H ?_)
     refine rtp 14 (.bool true) H ?_
     refine x8 [15,16,17,18,19,20] 6 (H) (rtp 21 (.bool true) H ?_)
     refine rtp 22 (.bool true) H ?_
     refine x8 [23,24,25,26] 4 (H) (rtp 27 (.bool true) H ?_)
     refine rtp 28 (.bool true) H ?_
     refine x8 [29,30,31,32,33,34,35,36,37,38,39,40,41,42] 14 (H) (rtp 43 (.bool true) H ?_)
     refine qZ qg (t_n (xy true rfl (fun _=>zcr (sp (.bool false) (zjr (zr5 (ret1 (.bool false) rfl rfl ⟨_,rfl,?_,H.base⟩))))) (fun h=>absurd h qh)))
     rw [qO (fun h=>by obtain ⟨h1,h2,h3,h4,h5,h6,h7,h8,h9,h10,h11⟩:=h;first | contradiction | omega | exact h3 ⟨‹_›,‹_›⟩ | (obtain ⟨q1,q2,q3,q4,q5⟩:=h11 i qc;first | contradiction | omega | (have:=q5 qc;omega)) | (refine absurd ?_ ‹¬ xK _ _›;rcases (show k=0∨k=1∨k=2∨k=3∨k=4 by omega) with e | e | e | e | e <;> subst e <;> assumption))]
    refine zx4 (zcr (oF rfl (oL rfl (H.cell 1 rfl rfl) ?_)))
    have sm:Small r.xO:=zL (by first | assumption | exact i1 0 qc)
    refine sw (oq (bagSize_ok _ r.xO (H.get 3 rfl).1 (by first | assumption | exact zL qi | exact jH qi)) H fun w55 H=>sps [.bool (decide ((sumL r.xO:Int) > 0)),.bool (decide ((sumL r.xO:Int) > 0))] (zjr (ret1 (.bool (decide ((sumL r.xO:Int) > 0))) rfl rfl ⟨_,rfl,(congrArg Value.bool (dec_eq ?_)),H.base⟩)))
    rw [decide_eq_true_iff]
    exact ⟨fun h=>⟨by omega,by omega,by simp_all,by omega,n1,n2,n3,n4,n5,by omega,(show i=r.xe.length by omega)▸i2⟩,fun h=>by have:=h.2.2.2.2.2.2.2.2.2.1;have:=sum_nonneg n1.1;omega⟩
   rw [h12] at H
   refine qx 23 rfl rfl (oF rfl (qx 23 rfl rfl (oL rfl (H.cell 0 rfl rfl) (qx 23 rfl rfl (sp (.bool ((r.qY:Int) == 0)) (qx 20 rfl rfl (sps [.bool ((r.qY:Int) == 0),.bool ((r.qY:Int) == 0),.bool ((r.qY:Int) == 0)] ?_)))))))
   cases h57:((r.qY:Int) == 0)
   ·skip
    replace h57:=ne_of_beq_false h57
    refine qx 29 rfl rfl (oF rfl (qx 29 rfl rfl (oL rfl (H.cell 0 rfl rfl) (qx 29 rfl rfl (oN rfl (qx 29 rfl rfl (sps [.bool (decide ((r.xe.length:Int) > 3)),.bool (decide ((r.xe.length:Int) > 3))] (zjn (cD rfl (fun h58=>?_) (fun h58=>?_))))))))))
    ·skip
     refine zcr (sp (.bool false) (zjr (t_r (ret1 (.bool false) rfl rfl ⟨_,rfl,?_,H.base⟩))))
     rw [qO (fun h=>by obtain ⟨h1,h2,h3,h4,h5,h6,h7,h8,h9,h10,h11⟩:=h;first | contradiction | omega | exact h3 ⟨‹_›,‹_›⟩ | (obtain ⟨q1,q2,q3,q4,q5⟩:=h11 i qc;first | contradiction | omega | (have:=q5 qc;omega)) | (refine absurd ?_ ‹¬ xK _ _›;rcases (show k=0∨k=1∨k=2∨k=3∨k=4 by omega) with e | e | e | e | e <;> subst e <;> assumption))]
    refine xn (t_n (zcc (oF rfl (oL rfl (H.cell 0 rfl rfl) (oF rfl (oL rfl (H.cell 0 rfl rfl) (oF rfl (oL rfl (H.cell 0 rfl rfl) (oF rfl (oL rfl (H.cell 0 rfl rfl) (oF rfl (oL rfl (H.cell 0 rfl rfl) (sw (o_buildF H underlying29 ti24 [.slice jw r.xO.length jm,.slice jB r.zy.length jv,.slice jy r.zA.length jo,.slice jA r.zB.length jq,.slice arOut r.jL.length crOut] rfl (by simp [Value.cells]) rfl qh qh fun b59 w60 H=>oN rfl (sp (yI 0) (zjn (xE ?_)))))))))))))))))
    replace H:=H.boxRow 0 rfl 1 5 rfl qh
    replace H:=H.repsNil (α:=yLI)
    replace H:=H.repsCons false 7 rfl 0 rfl qj
    replace H:=H.repsCons false 7 rfl 0 rfl qj
    replace H:=H.repsCons false 7 rfl 0 rfl qj
    replace H:=H.repsCons false 7 rfl 0 rfl qj
    replace H:=H.repsCons false 7 rfl 0 rfl qj
    refine vT (fun m' ρ w61=>∃ (zX:Env) (k:Nat),ρ=upd (upd (upd (upd (upd zX 2 (pp b1 0)) 3 (pp b3 0)) 45 (.slice (aa b59 0) 5 5)) 46 (yI 5)) 47 (yI k)∧((k:Int)≤5)∧(∀ j,j < k→xK s.qN ([r.xO,r.zy,r.zA,r.zB,r.jL][j]!))∧m' =(5 - (k:Int)).toNat∧Fresh w.heap.size []∧St w w61 [rr (aa b59 0) 5 5 24 1 [.slice jw r.xO.length jm,.slice jB r.zy.length jv,.slice jy r.zA.length jo,.slice jA r.zB.length jq,.slice arOut r.jL.length crOut],.box b3 [yI r.qY,yI r.jU,.slice jw r.xO.length jm,.slice jB r.zy.length jv,.slice jy r.zA.length jo,.slice jA r.zB.length jq,.slice arOut r.jL.length crOut,.slice yu r.xe.length yl,.bool true] 51,.box b1 (yS s qA qy qJ qI) 27] [qM false (FrNeed++(FrHave++(FrLack++(FrHere++(FrOut++[]))))) [.slice jw r.xO.length jm,.slice jB r.zy.length jv,.slice jy r.zA.length jo,.slice jA r.zB.length jq,.slice arOut r.jL.length crOut] [r.xO,r.zy,r.zA,r.zB,r.jL],sF false xq qA qy s.qp,sF false xN qJ qI s.qC,sF false FrNeed jw jm r.xO,sF false FrHave jB jv r.zy,sF false FrLack jy jo r.zA,sF false FrHere jA jq r.zB,sF false FrOut arOut crOut r.jL,sF false FrInto yu yl r.xe]) ((5 - (0:Int)).toNat) ⟨_,0,uE5,qc,(by intro j hj;omega),rfl,N,H.pick [0,1,2] [0,6,7,8,9,10,11,12,13]⟩ ?_
    clear H N
    rintro m' ρ w62 ⟨zX,k,rfl,i0,i1,rfl,N,H⟩
    refine zcr (sp (.bool (decide ((k:Int) < 5))) (zjn (zF (cD rfl (fun h63=>?_) (fun h63=>?_)))))
    ·skip
     refine xn (t_n (zF (xE (zcr (oI rfl rfl ?_)))))
     obtain ⟨a64,c65,G66,s67,h68,H⟩:=H.rowElemL 0 rfl 0 rfl (iv:=k) k qc qc
     refine oL rfl (h68) (sp (.slice a64 (([r.xO,r.zy,r.zA,r.zB,r.jL][k]!).length) c65) (zjc (oF rfl (oL rfl (H.cell 2 rfl rfl) (sp (.slice a64 (([r.xO,r.zy,r.zA,r.zB,r.jL][k]!).length) c65) (sw (oq (jY _ s.qN ([r.xO,r.zy,r.zA,r.zB,r.jL][k]!) (H.get 0 rfl).1) H fun w69 H=>sp (.bool (!(dec (xK s.qN ([r.xO,r.zy,r.zA,r.zB,r.jL][k]!))))) (zjn (cQ rfl (fun h71=>?_) (fun h71=>?_))))))))))
     ·skip
      refine zcr (sp (.bool false) (zjr (zr5 (ret1 (.bool false) rfl rfl ⟨_,rfl,?_,H.base⟩))))
      rw [qO (fun h=>by obtain ⟨h1,h2,h3,h4,h5,h6,h7,h8,h9,h10,h11⟩:=h;first | contradiction | omega | exact h3 ⟨‹_›,‹_›⟩ | (obtain ⟨q1,q2,q3,q4,q5⟩:=h11 i qc;first | contradiction | omega | (have:=q5 qc;omega)) | (refine absurd ?_ ‹¬ xK _ _›;rcases (show k=0∨k=1∨k=2∨k=3∨k=4 by omega) with e | e | e | e | e <;> subst e <;> assumption))]
     refine xn (b_n (t_n (zT (sw (vN k 1 rfl rfl qc (sp (yI (k+1)) (vg (xJ (m' :=(5 - ((k+1):Int)).toNat) qc ⟨_,k+1,uE5,?_,?_,rfl,N,H.pick [0,1,2] [1,2,3,4,5,6,7,8,9]⟩))))))))
     · omega
     · intro j hj;by_cases e:j=k;(subst e;assumption);exact i1 j qc
    refine zx4 (zcc (oF rfl (oL rfl (H.cell 1 rfl rfl) (oN rfl (sp (yI 0) (zjn (xE ?_)))))))
    have n1:xK s.qN r.xO:=i1 0 qc
    have n2:xK s.qN r.zy:=i1 1 qc
    have n3:xK s.qN r.zA:=i1 2 qc
    have n4:xK s.qN r.zB:=i1 3 qc
    have n5:xK s.qN r.jL:=i1 4 qc
    refine vT (fun m' ρ w72=>∃ (zX:Env) (i:Nat),ρ=upd (upd (upd (upd (upd zX 2 (pp b1 0)) 3 (pp b3 0)) 58 (.slice yu r.xe.length yl)) 59 (yI r.xe.length)) 60 (yI i)∧((i:Int)≤r.xe.length)∧(IntosTo s r i)∧m' =(r.xe.length - (i:Int)).toNat∧Fresh w.heap.size []∧St w w72 [rr (aa b59 0) 5 5 24 1 [.slice jw r.xO.length jm,.slice jB r.zy.length jv,.slice jy r.zA.length jo,.slice jA r.zB.length jq,.slice arOut r.jL.length crOut],.box b3 [yI r.qY,yI r.jU,.slice jw r.xO.length jm,.slice jB r.zy.length jv,.slice jy r.zA.length jo,.slice jA r.zB.length jq,.slice arOut r.jL.length crOut,.slice yu r.xe.length yl,.bool true] 51,.box b1 (yS s qA qy qJ qI) 27] [qM false (FrNeed++(FrHave++(FrLack++(FrHere++(FrOut++[]))))) [.slice jw r.xO.length jm,.slice jB r.zy.length jv,.slice jy r.zA.length jo,.slice jA r.zB.length jq,.slice arOut r.jL.length crOut] [r.xO,r.zy,r.zA,r.zB,r.jL],sF false xq qA qy s.qp,sF false xN qJ qI s.qC,sF false FrNeed jw jm r.xO,sF false FrHave jB jv r.zy,sF false FrLack jy jo r.zA,sF false FrHere jA jq r.zB,sF false FrOut arOut crOut r.jL,sF false FrInto yu yl r.xe]) ((r.xe.length - (0:Int)).toNat) ⟨_,0,uE5,qc,(by exact fun j hj=>by omega),rfl,N,H⟩ ?_
    clear H N
    rintro m' ρ w73 ⟨zX,i,rfl,i0,i2,rfl,N,H⟩
    refine zcr (sp (.bool (decide ((i:Int) < r.xe.length))) (zjn (zF (cD rfl (fun h74=>?_) (fun h74=>?_)))))
    ·skip
     refine xn (t_n (zF (xE (zcr (sp (yI i) ?_)))))
     obtain ⟨b75,o76,rfl⟩:=H.addr 8 rfl qc
     obtain ⟨ae78Bag,ce78Bag,Fe78Bag,H⟩:=H.yj 8 rfl i i qc qc qc
     refine oI rfl rfl (sw (xR [yI ((r.xe[i]!).qY),.slice ae78Bag (((r.xe[i]!).yw).length) ce78Bag] isAgg121 sizeOf121 rfl (qE (H.get 1 rfl) 0 2) (sw (xk H ti121 [yI 0,yN] fun b79 w80 H=>sp (yI i) (sw (qL H 0 [yI ((r.xe[i]!).qY),.slice ae78Bag (((r.xe[i]!).yw).length) ce78Bag] sizeOf121 fun w81 H=>zjn (zF ?_)))))))
     refine c_drawH rfl H fun H=>rt 0 (.agg #[yI s.qN,.slice qA s.qp.length qy,.slice qJ s.qC.length qI]) (y_loadN (cs:=(yS s qA qy qJ qI)) isAgg27 sizeOf27 rfl (fun _ h=>qE (h.cells 3 rfl) 0 3)) H ?_
     refine tF 1 rfl rfl H ?_
     refine tL 2 rfl rfl (fun _ h=>h.cell 0 rfl rfl) H ?_
     refine ro 3 rfl (oq (isCell_ok _ s ((r.xe[i]!).qY) (H.get 3 rfl).1 (H.get 4 rfl).1) H fun w84 H=>⟨H,(rtp 4 (.bool (!(inR ((r.xe[i]!).qY) 0 ((s.qp.length:Int) - 1)))) H ?_)⟩)
     refine rtp 5 (.bool (!(inR ((r.xe[i]!).qY) 0 ((s.qp.length:Int) - 1)))) H ?_
     cases h86:(!(inR ((r.xe[i]!).qY) 0 ((s.qp.length:Int) - 1)))
     ·skip
      replace h86:=qP h86
      replace h86:=jG.1 h86
      refine rg 6 (.agg #[yI s.qN,.slice qA s.qp.length qy,.slice qJ s.qC.length qI]) 70 (y_loadN (cs:=(yS s qA qy qJ qI)) isAgg27 sizeOf27 rfl (fun _ h=>qE (h.cells 3 rfl) 0 3)) H ?_
      refine gF 7 rfl rfl H ?_
      refine gL 8 rfl rfl (fun _ h=>h.cell 0 rfl rfl) H ?_
      refine gF 9 rfl rfl H ?_
      refine gL 10 rfl rfl (fun _ h=>h.cell 2 rfl rfl) H ?_
      refine zl [11] qg qj (r_opG rfl (e:=70) rfl rfl (oq (lies_ok _ s ((r.xe[i]!).qY) r.qY (H.get 3 rfl).1 (H.get 4 rfl).1 qf qf) H fun w88 H=>⟨H,(rgp 12 (.bool (!(dec (Lies s.qp r.qY ((r.xe[i]!).qY))))) 70 H ?_)⟩) zn)
      refine rtp 13 (.bool (!(dec (Lies s.qp r.qY ((r.xe[i]!).qY))))) H ?_
      refine rtp 14 (.bool (!(dec (Lies s.qp r.qY ((r.xe[i]!).qY))))) H ?_
      cases h90:(!(dec (Lies s.qp r.qY ((r.xe[i]!).qY))))
      ·skip
       replace h90:=qP h90
       replace h90:=vW h90
       refine gF 15 rfl rfl H ?_
       refine gL 16 rfl rfl (fun _ h=>h.cell 3 rfl rfl) H ?_
       refine gF 17 rfl rfl H ?_
       refine gL 18 rfl rfl (fun _ h=>h.cell 0 rfl rfl) H ?_
       refine zl [19] qg qj (r_opG rfl (e:=79) rfl rfl (oq (jY _ s.qN ((r.xe[i]!).yw) (H.get 0 rfl).1) H fun w91 H=>⟨H,(rgp 20 (.bool (!(dec (xK s.qN ((r.xe[i]!).yw))))) 79 H ?_)⟩) zn)
       refine rtp 21 (.bool (!(dec (xK s.qN ((r.xe[i]!).yw))))) H ?_
       refine rtp 22 (.bool (!(dec (xK s.qN ((r.xe[i]!).yw))))) H ?_
       cases h93:(!(dec (xK s.qN ((r.xe[i]!).yw))))
       ·skip
        replace h93:=qP h93
        replace h93:=vW h93
        refine gF 23 rfl rfl H ?_
        refine gL 24 rfl rfl (fun _ h=>h.cell 0 rfl rfl) H ?_
        refine zl [25] qg qj (r_opG rfl (e:=87) rfl rfl ?_ zn)
        have sm:Small ((r.xe[i]!).yw):=zL (by first | assumption | exact i1 0 qc)
        refine oq (bagSize_ok _ ((r.xe[i]!).yw) (H.get 0 rfl).1 (by first | assumption | exact zL qi | exact jH qi)) H fun w94 H=>⟨H,(rgp 26 (.bool ((sumL ((r.xe[i]!).yw):Int) == 0)) 87 H ?_)⟩
        refine rtp 27 (.bool ((sumL ((r.xe[i]!).yw):Int) == 0)) H ?_
        refine rtp 28 (.bool ((sumL ((r.xe[i]!).yw):Int) == 0)) H ?_
        cases h96:((sumL ((r.xe[i]!).yw):Int) == 0)
        ·skip
         replace h96:=ne_of_beq_false h96
         refine rgp 29 (yI i) 93 H ?_
         refine rgp 30 (.bool (decide ((i:Int) > 0))) 93 H ?_
         refine rgp 31 (.bool (decide ((i:Int) > 0))) 93 H ?_
         cases h97:(decide ((i:Int) > 0))
         ·skip
          replace h97:=of_decide_eq_false h97
          refine x8 [32,33,34,35,36,37,38,39,40,41] 10 (H) (rgp 42 (.bool false) 93 H ?_)
          refine rtp 43 (.bool false) H ?_
          refine qZ qg (t_n (xy false rfl (fun h=>absurd h qh) (fun _=>xn (b_n (t_n (zT (sw (vN i 1 rfl rfl qc (sp (yI (i+1)) (vg (xJ (m' :=(r.xe.length - ((i+1):Int)).toNat) qc ⟨_,i+1,uE5,?_,?_,rfl,N,H.pick [1,2,3] [2,3,4,5,6,7,8,9,10]⟩)))))))))))
          · omega
          · exact i2.succ ⟨‹_›,‹_›,‹_›,‹_›,fun hk=>by omega⟩
         replace h97:=of_decide_eq_true h97
         refine gF 32 rfl rfl H ?_
         refine gL 33 rfl rfl (fun _ h=>h.cell 0 rfl rfl) H ?_
         refine gF 34 rfl rfl H ?_
         refine gL 35 rfl rfl (fun _ h=>h.cell 2 rfl rfl) H ?_
         refine rgp 36 (yI i) 96 H ?_
         refine rg 37 (yI (i - 1)) 96 (y_sub i 1 rfl rfl qc) H ?_
         obtain ⟨ae98Bag,ce98Bag,Fe98Bag,H⟩:=H.yj 10 rfl (i - 1) (i - 1) qc qc qc
         have S:=H.pickC [0,1,2,3] [2,3,4,5,6,7,8,9,10,11,12]
         refine gI 38 rfl rfl rfl S ?_
         refine gF 39 rfl rfl S ?_
         refine zl [40] qg qj (r_opG rfl (e:=96) rfl rfl (ve (yI ((r.xe[i - 1]!).qY)) isAgg2 rfl (H.zI 1 rfl 0 rfl) (⟨H.pick [0,1,2,3] [2,3,4,5,6,7,8,9,10,11,12],?_⟩)) zn)
         have S:=H.pickC [0,1,2,3] [2,3,4,5,6,7,8,9,10,11,12]
         refine rgp 41 (.bool (decide (((r.xe[i]!).qY:Int)≤((r.xe[i - 1]!).qY)))) 96 S ?_
         refine rgp 42 (.bool (decide (((r.xe[i]!).qY:Int)≤((r.xe[i - 1]!).qY)))) 93 S ?_
         refine rtp 43 (.bool (decide (((r.xe[i]!).qY:Int)≤((r.xe[i - 1]!).qY)))) S ?_
         refine qZ qg (t_n (cD rfl (fun h99=>?_) (fun h99=>?_)))
         ·skip
          refine zcr (sp (.bool false) (zjr (zr5 (ret1 (.bool false) rfl rfl ⟨_,rfl,?_,H.base⟩))))
          rw [qO (fun h=>by obtain ⟨h1,h2,h3,h4,h5,h6,h7,h8,h9,h10,h11⟩:=h;first | contradiction | omega | exact h3 ⟨‹_›,‹_›⟩ | (obtain ⟨q1,q2,q3,q4,q5⟩:=h11 i qc;first | contradiction | omega | (have:=q5 qc;omega)) | (refine absurd ?_ ‹¬ xK _ _›;rcases (show k=0∨k=1∨k=2∨k=3∨k=4 by omega) with e | e | e | e | e <;> subst e <;> assumption))]
         refine xn (b_n (t_n (zT (sw (vN i 1 rfl rfl qc (sp (yI (i+1)) (vg (xJ (m' :=(r.xe.length - ((i+1):Int)).toNat) qc ⟨_,i+1,uE5,?_,?_,rfl,N,H.pick [1,2,3] [4,5,6,7,8,9,10,11,12]⟩))))))))
         · omega
         · exact i2.succ ⟨‹_›,‹_›,‹_›,‹_›,fun hk=>by omega⟩
        replace h96:=eq_of_beq h96
        refine x8 [29,30,31,32,33,34,35,36,37,38,39,40,41,42] 14 (H) (rtp 43 (.bool true) H ?_)
        refine qZ qg (t_n (xy true rfl (fun _=>zcr (sp (.bool false) (zjr (zr5 (ret1 (.bool false) rfl rfl ⟨_,rfl,?_,H.base⟩))))) (fun h=>absurd h qh)))
        rw [qO (fun h=>by obtain ⟨h1,h2,h3,h4,h5,h6,h7,h8,h9,h10,h11⟩:=h;first | contradiction | omega | exact h3 ⟨‹_›,‹_›⟩ | (obtain ⟨q1,q2,q3,q4,q5⟩:=h11 i qc;first | contradiction | omega | (have:=q5 qc;omega)) | (refine absurd ?_ ‹¬ xK _ _›;rcases (show k=0∨k=1∨k=2∨k=3∨k=4 by omega) with e | e | e | e | e <;> subst e <;> assumption))]
       replace h93:=qX h93
       replace h93:=xP h93
       refine x8 [23,24,25,26] 4 (H) (rtp 27 (.bool true) H ?_)
       refine rtp 28 (.bool true) H ?_
       refine x8 [29,30,31,32,33,34,35,36,37,38,39,40,41,42] 14 (H) (rtp 43 (.bool true) H ?_)
       refine qZ qg (t_n (xy true rfl (fun _=>zcr (sp (.bool false) (zjr (zr5 (ret1 (.bool false) rfl rfl ⟨_,rfl,?_,H.base⟩))))) (fun h=>absurd h qh)))
       rw [qO (fun h=>by obtain ⟨h1,h2,h3,h4,h5,h6,h7,h8,h9,h10,h11⟩:=h;first | contradiction | omega | exact h3 ⟨‹_›,‹_›⟩ | (obtain ⟨q1,q2,q3,q4,q5⟩:=h11 i qc;first | contradiction | omega | (have:=q5 qc;omega)) | (refine absurd ?_ ‹¬ xK _ _›;rcases (show k=0∨k=1∨k=2∨k=3∨k=4 by omega) with e | e | e | e | e <;> subst e <;> assumption))]
      replace h90:=qX h90
      replace h90:=xP h90
      refine x8 [15,16,17,18,19,20] 6 (H) (rtp 21 (.bool true) H ?_)
      refine rtp 22 (.bool true) H ?_
      refine x8 [23,24,25,26] 4 (H) (rtp 27 (.bool true) H ?_)
      refine rtp 28 (.bool true) H ?_
      refine x8 [29,30,31,32,33,34,35,36,37,38,39,40,41,42] 14 (H) (rtp 43 (.bool true) H ?_)
      refine qZ qg (t_n (xy true rfl (fun _=>zcr (sp (.bool false) (zjr (zr5 (ret1 (.bool false) rfl rfl ⟨_,rfl,?_,H.base⟩))))) (fun h=>absurd h qh)))
      rw [qO (fun h=>by obtain ⟨h1,h2,h3,h4,h5,h6,h7,h8,h9,h10,h11⟩:=h;first | contradiction | omega | exact h3 ⟨‹_›,‹_›⟩ | (obtain ⟨q1,q2,q3,q4,q5⟩:=h11 i qc;first | contradiction | omega | (have:=q5 qc;omega)) | (refine absurd ?_ ‹¬ xK _ _›;rcases (show k=0∨k=1∨k=2∨k=3∨k=4 by omega) with e | e | e | e | e <;> subst e <;> assumption))]
     replace h86:=qX h86
     replace h86:=jP h86
     refine x8 [6,7,8,9,10,11,12] 7 (H) (rtp 13 (.bool true) H ?_)
     refine rtp 14 (.bool true) H ?_
     refine x8 [15,16,17,18,19,20] 6 (H) (rtp 21 (.bool true) H ?_)
     refine rtp 22 (.bool true) H ?_
     refine x8 [23,24,25,26] 4 (H) (rtp 27 (.bool true) H ?_)
     refine rtp 28 (.bool true) H ?_
     refine x8 [29,30,31,32,33,34,35,36,37,38,39,40,41,42] 14 (H) (rtp 43 (.bool true) H ?_)
     refine qZ qg (t_n (xy true rfl (fun _=>zcr (sp (.bool false) (zjr (zr5 (ret1 (.bool false) rfl rfl ⟨_,rfl,?_,H.base⟩))))) (fun h=>absurd h qh)))
     rw [qO (fun h=>by obtain ⟨h1,h2,h3,h4,h5,h6,h7,h8,h9,h10,h11⟩:=h;first | contradiction | omega | exact h3 ⟨‹_›,‹_›⟩ | (obtain ⟨q1,q2,q3,q4,q5⟩:=h11 i qc;first | contradiction | omega | (have:=q5 qc;omega)) | (refine absurd ?_ ‹¬ xK _ _›;rcases (show k=0∨k=1∨k=2∨k=3∨k=4 by omega) with e | e | e | e | e <;> subst e <;> assumption))]
    refine zx4 (zcr (oF rfl (oL rfl (H.cell 1 rfl rfl) ?_)))
    have sm:Small r.xO:=zL (by first | assumption | exact i1 0 qc)
    refine sw (oq (bagSize_ok _ r.xO (H.get 3 rfl).1 (by first | assumption | exact zL qi | exact jH qi)) H fun w100 H=>sps [.bool (decide ((sumL r.xO:Int) > 0)),.bool (decide ((sumL r.xO:Int) > 0))] (zjr (ret1 (.bool (decide ((sumL r.xO:Int) > 0))) rfl rfl ⟨_,rfl,(congrArg Value.bool (dec_eq ?_)),H.base⟩)))
    rw [decide_eq_true_iff]
    exact ⟨fun h=>⟨by omega,by omega,by simp_all,by omega,n1,n2,n3,n4,n5,by omega,(show i=r.xe.length by omega)▸i2⟩,fun h=>by have:=h.2.2.2.2.2.2.2.2.2.1;have:=sum_nonneg n1.1;omega⟩
   replace h57:=eq_of_beq h57
   refine xh [30,31,32,33] (sp (.bool true) (zjn (xy true rfl (fun _=>zcr (sp (.bool false) (zjr (t_r (ret1 (.bool false) rfl rfl ⟨_,rfl,?_,H.base⟩))))) (fun h=>absurd h qh))))
   rw [qO (fun h=>by obtain ⟨h1,h2,h3,h4,h5,h6,h7,h8,h9,h10,h11⟩:=h;first | contradiction | omega | exact h3 ⟨‹_›,‹_›⟩ | (obtain ⟨q1,q2,q3,q4,q5⟩:=h11 i qc;first | contradiction | omega | (have:=q5 qc;omega)) | (refine absurd ?_ ‹¬ xK _ _›;rcases (show k=0∨k=1∨k=2∨k=3∨k=4 by omega) with e | e | e | e | e <;> subst e <;> assumption))]
  replace h11:=qX h11
  replace h11:=jP h11
  refine xh [21,22,23,24,25,26,27] (sps [.bool true,.bool true] (xh [30,31,32,33] (sp (.bool true) (zjn (xy true rfl (fun _=>zcr (sp (.bool false) (zjr (t_r (ret1 (.bool false) rfl rfl ⟨_,rfl,?_,H.base⟩))))) (fun h=>absurd h qh))))))
  rw [qO (fun h=>by obtain ⟨h1,h2,h3,h4,h5,h6,h7,h8,h9,h10,h11⟩:=h;first | contradiction | omega | exact h3 ⟨‹_›,‹_›⟩ | (obtain ⟨q1,q2,q3,q4,q5⟩:=h11 i qc;first | contradiction | omega | (have:=q5 qc;omega)) | (refine absurd ?_ ‹¬ xK _ _›;rcases (show k=0∨k=1∨k=2∨k=3∨k=4 by omega) with e | e | e | e | e <;> subst e <;> assumption))]
 replace h8:=qX h8
 replace h8:=jP h8
 refine xh [15,16,17,18] (sps [.bool true,.bool true] (xh [21,22,23,24,25,26,27] (sps [.bool true,.bool true] (xh [30,31,32,33] (sp (.bool true) (zjn (xy true rfl (fun _=>zcr (sp (.bool false) (zjr (t_r (ret1 (.bool false) rfl rfl ⟨_,rfl,?_,H.base⟩))))) (fun h=>absurd h qh))))))))
 rw [qO (fun h=>by obtain ⟨h1,h2,h3,h4,h5,h6,h7,h8,h9,h10,h11⟩:=h;first | contradiction | omega | exact h3 ⟨‹_›,‹_›⟩ | (obtain ⟨q1,q2,q3,q4,q5⟩:=h11 i qc;first | contradiction | omega | (have:=q5 qc;omega)) | (refine absurd ?_ ‹¬ xK _ _›;rcases (show k=0∨k=1∨k=2∨k=3∨k=4 by omega) with e | e | e | e | e <;> subst e <;> assumption))]
theorem validSystem_ok (w:World) (s:qo) {qA:yOA} {xq:yLN} {qJ:yOA} {xN:yLN} (qU:qH.rep w xq [.slice qA s.qp.length qy] s.qp) (xB:qH.rep w xN [.slice qJ s.qC.length qI] s.qC):Calls Try.prog 71 #[.agg #[yI s.qN,.slice qA s.qp.length qy,.slice qJ s.qC.length qI]] w (Ret (fun v w' =>v=.bool (dec (jk s))) w):=by
 refine en func71 ntmps71 ?_
 have H:=((St.start w).arg xB).arg qU
 have zU:=qV qU
 have ja:=qV xB
 clear qU xB
 have N:=Fresh.nil w.heap.size
 have p1:=fun h:zG s=>h.2.1
 refine zcr (sw (jF H (yS s qA qy qJ qI) fun b1 w2 H=>sp (.bool false) (zjcc (sw (xR (yS s qA qy qJ qI) isAgg27 sizeOf27 rfl (qE (H.cells 0 rfl) 0 3) (sw (oq (isShell_ok _ s (H.get 0 rfl).1 (H.get 1 rfl).1) H fun w4 H=>sps [.bool (!(dec (zG s))),.bool (!(dec (zG s)))] ?_)))))))
 cases h6:(!(dec (zG s)))
 ·skip
  replace h6:=qP h6
  replace h6:=vW h6
  refine qx 9 rfl rfl (oF rfl (qx 9 rfl rfl (oL rfl (H.cell 0 rfl rfl) (qx 9 rfl rfl (oN rfl (qx 9 rfl rfl (sps [.bool (decide ((s.qC.length:Int) > 16)),.bool (decide ((s.qC.length:Int) > 16))] (zjn (cD rfl (fun h7=>?_) (fun h7=>?_))))))))))
  ·skip
   refine zcr (sp (.bool false) (zjr (t_r (ret1 (.bool false) rfl rfl ⟨_,rfl,?_,H.base⟩))))
   rw [qO (fun h=>by obtain ⟨h1,h2,h3⟩:=h;first | contradiction | omega | (obtain ⟨r1,r2⟩:=h3 k qc;first | contradiction | (have:=yf (s:=s) (k:=k+1) q1 q2;omega)))]
  refine xn (t_n (zcr (sw (xm [yI 0,yI 0,yI 0,yI 0,yI 0,yI 0] [] (sw (xk H ti129 [yI 0,yI 0,yI 0,yI 0,yI 0,yI 0] fun b8 w9 H=>sw (qL H 0 [yI 0,yI 0,yI 0,yI 0,yI 0,yI 0] sizeOf129 fun w10 H=>zjcc (oF rfl (oL rfl (H.cell 1 rfl rfl) (oN rfl (sp (yI 0) (zjn (xE ?_)))))))))))))
  have p2:=p1 ‹_›
  refine vT (fun m' ρ w11=>∃ (zX:Env) (k:Nat) (many:yLI),ρ=upd (upd (upd (upd (upd zX 1 (pp b1 0)) 3 (pp b8 0)) 17 (.slice qJ s.qC.length qI)) 18 (yI s.qC.length)) 19 (yI k)∧many=counts6 s k∧((k:Int)≤s.qC.length)∧(RulesTo s k)∧m' =(s.qC.length - (k:Int)).toNat∧Fresh w.heap.size []∧St w w11 [.box b8 (many.map (Value.int .i64)) 129,.box b1 (yS s qA qy qJ qI) 27] [sF false xq qA qy s.qp,sF false xN qJ qI s.qC]) ((s.qC.length - (0:Int)).toNat) ⟨_,0,[0,0,0,0,0,0],uE5,(by exact counts6_zero s),qc,(by exact fun j hj=>by omega),rfl,N,H⟩ ?_
  clear H N
  rintro m' ρ w12 ⟨zX,k,many,rfl,rfl,i0,i1,rfl,N,H⟩
  refine zcr (sp (.bool (decide ((k:Int) < s.qC.length))) (zjn (zF (cD rfl (fun h13=>?_) (fun h13=>?_)))))
  ·skip
   refine xn (t_n (zF (xE (zcr ?_))))
   obtain ⟨b14,o15,rfl⟩:=H.addr 1 rfl qc
   obtain ⟨ae17Need,ce17Need,Fe17Need,ae17Have,ce17Have,Fe17Have,ae17Lack,ce17Lack,Fe17Lack,ae17Here,ce17Here,Fe17Here,ae17Out,ce17Out,Fe17Out,ae17Into,ce17Into,Fe17Into,H⟩:=H.elem_RuleD 1 rfl k k qc qc qc
   refine oI rfl rfl (sw (xR [yI ((s.qC[k]!).qY),yI ((s.qC[k]!).jU),.slice ae17Need (((s.qC[k]!).xO).length) ce17Need,.slice ae17Have (((s.qC[k]!).zy).length) ce17Have,.slice ae17Lack (((s.qC[k]!).zA).length) ce17Lack,.slice ae17Here (((s.qC[k]!).zB).length) ce17Here,.slice ae17Out (((s.qC[k]!).jL).length) ce17Out,.slice ae17Into (((s.qC[k]!).xe).length) ce17Into,.bool ((s.qC[k]!).yh)] isAgg51 sizeOf51 rfl (qE (H.get 6 rfl) 0 9) ?_))
   refine sw (xk H ti51 [yI 0,yI 0,yN,yN,yN,yN,yN,yN,.bool false] fun b18 w19 H=>sw (qL H 0 [yI ((s.qC[k]!).qY),yI ((s.qC[k]!).jU),.slice ae17Need (((s.qC[k]!).xO).length) ce17Need,.slice ae17Have (((s.qC[k]!).zy).length) ce17Have,.slice ae17Lack (((s.qC[k]!).zA).length) ce17Lack,.slice ae17Here (((s.qC[k]!).zB).length) ce17Here,.slice ae17Out (((s.qC[k]!).jL).length) ce17Out,.slice ae17Into (((s.qC[k]!).xe).length) ce17Into,.bool ((s.qC[k]!).yh)] sizeOf51 fun w20 H=>?_))
   refine zjcc (sw (xR [yI s.qN,.slice qA s.qp.length qy,.slice (aa b14 o15) s.qC.length qI] isAgg27 sizeOf27 rfl (qE (H.cells 2 rfl) 0 3) ?_))
   refine sw (xR [yI ((s.qC[k]!).qY),yI ((s.qC[k]!).jU),.slice ae17Need (((s.qC[k]!).xO).length) ce17Need,.slice ae17Have (((s.qC[k]!).zy).length) ce17Have,.slice ae17Lack (((s.qC[k]!).zA).length) ce17Lack,.slice ae17Here (((s.qC[k]!).zB).length) ce17Here,.slice ae17Out (((s.qC[k]!).jL).length) ce17Out,.slice ae17Into (((s.qC[k]!).xe).length) ce17Into,.bool ((s.qC[k]!).yh)] isAgg51 sizeOf51 rfl (qE (H.cells 0 rfl) 0 9) ?_)
   refine sw (oq (isRule_ok _ s (s.qC[k]!) (H.get 7 rfl).1 (H.get 8 rfl).1 (H.get 0 rfl).1 (H.get 1 rfl).1 (H.get 2 rfl).1 (H.get 3 rfl).1 (H.get 4 rfl).1 (H.get 5 rfl).1 qf) H fun w22 H=>?_)
   have q:=fun h:RuleOk s (s.qC[k]!)=>(show 0≤(s.qC[k]!).qY∧(s.qC[k]!).qY≤5 from ⟨h.1.1,by have:=h.1.2;omega⟩)
   refine sp (.bool (!(dec (RuleOk s (s.qC[k]!))))) (zjn (cQ rfl (fun h24=>?_) (fun h24=>?_)))
   ·skip
    refine zcr (sp (.bool false) (zjr (t_r (zr5 (ret1 (.bool false) rfl rfl ⟨_,rfl,?_,H.base⟩)))))
    rw [qO (fun h=>by obtain ⟨h1,h2,h3⟩:=h;first | contradiction | omega | (obtain ⟨r1,r2⟩:=h3 k qc;first | contradiction | (have:=yf (s:=s) (k:=k+1) q1 q2;omega)))]
   obtain ⟨q1,q2⟩:=q ‹_›
   have q3:=yf (s:=s) (k:=k) q1 q2
   have q4:=ofCell_bd s.qC (s.qC[k]!).qY k
   refine xn (t_n (zcr (oF rfl (oL rfl (H.cell 0 rfl rfl) (sw (o_idxArr ((s.qC[k]!).qY) underlying129 ti3 rfl rfl qc qc (oL rfl (H.cell 1 rfl (ints_at (iv:=(s.qC[k]!).qY) (i:=(((s.qC[k]!).qY).toNat)) qc (by simp only [List.length_set,List.length_cons,List.length_nil,counts6_len];omega))) (sw (vN ((counts6 s k)[((s.qC[k]!).qY).toNat]!) 1 rfl rfl qc (sw (o_idxArr ((s.qC[k]!).qY) underlying129 ti3 rfl rfl qc qc ?_)))))))))))
   refine sw (o_storeArr H 1 rfl (((counts6 s k)[((s.qC[k]!).qY).toNat]!)+1) sizeOf3 rfl rfl (i:=(((s.qC[k]!).qY).toNat)) qc (by simp only [List.length_set,List.length_cons,List.length_nil,counts6_len];omega) fun w25 H=>?_)
   rw [counts6_succ q1 q2] at H
   refine zjc (oF rfl (oL rfl (H.cell 0 rfl rfl) (sw (o_idxArr ((s.qC[k]!).qY) underlying129 ti3 rfl rfl qc qc (oL rfl (H.cell 1 rfl (ints_at (iv:=(s.qC[k]!).qY) (i:=(((s.qC[k]!).qY).toNat)) qc (by simp only [List.length_set,List.length_cons,List.length_nil,counts6_len];omega))) (sp (.bool (decide (((counts6 s (k+1))[((s.qC[k]!).qY).toNat]! :Int) > 8))) (zjn (cD rfl (fun h26=>?_) (fun h26=>?_)))))))))
   ·skip
    refine zcr (sp (.bool false) (zjr (zr5 (ret1 (.bool false) rfl rfl ⟨_,rfl,?_,H.base⟩))))
    rw [qO (fun h=>by obtain ⟨h1,h2,h3⟩:=h;first | contradiction | omega | (obtain ⟨r1,r2⟩:=h3 k qc;first | contradiction | (have:=yf (s:=s) (k:=k+1) q1 q2;omega)))]
   refine xn (b_n (t_n (zT (sw (vN k 1 rfl rfl qc (sp (yI (k+1)) (vg (xJ (m' :=(s.qC.length - ((k+1):Int)).toNat) qc ⟨_,k+1,counts6 s (k+1),uE5,?_,?_,?_,rfl,N,H.pick [1,2] [7,8]⟩))))))))
   · rfl
   · omega
   · exact i1.succ ‹_› (by have:=yf (s:=s) (k:=k+1) q1 q2;omega)
  refine zx4 (zcr (sp (.bool true) (zjr (ret1 (.bool true) rfl rfl ⟨_,rfl,?_,H.base⟩))))
  rw [jX ⟨by assumption,by omega,(show s.qC.length=k by omega)▸i1⟩]
 replace h6:=qX h6
 replace h6:=xP h6
 refine xh [10,11,12,13] (sp (.bool true) (zjn (xy true rfl (fun _=>zcr (sp (.bool false) (zjr (t_r (ret1 (.bool false) rfl rfl ⟨_,rfl,?_,H.base⟩))))) (fun h=>absurd h qh))))
 rw [qO (fun h=>by obtain ⟨h1,h2,h3⟩:=h;first | contradiction | omega | (obtain ⟨r1,r2⟩:=h3 k qc;first | contradiction | (have:=yf (s:=s) (k:=k+1) q1 q2;omega)))]

theorem validState_ok (w:World) (s:qo) (t:qw) {qA:yOA} {xq:yLN} {qJ:yOA} {xN:yLN} {xM:yOA} {vI:yLN} {zi:yOA} {jC:yLN} {xx:yOA} {zJ:yLN} (qU:qH.rep w xq [.slice qA s.qp.length qy] s.qp) (xB:qH.rep w xN [.slice qJ s.qC.length qI] s.qC) (zD:qH.rep w vI [.slice xM t.qF.length xI] t.qF) (vz:qH.rep w jC [.slice zi t.qK.length xZ] t.qK) (zf:qH.rep w zJ [.slice xx t.qG.length xw] t.qG):Calls Try.prog 37 #[.agg #[yI s.qN,.slice qA s.qp.length qy,.slice qJ s.qC.length qI],.agg #[.slice xM t.qF.length xI,.slice zi t.qK.length xZ,.slice xx t.qG.length xw]] w (Ret (fun v w' =>v=.bool (dec (jk s∧xY s t))) w):=by
 refine en func37 ntmps37 ?_
 have H:=(((((St.start w).arg zf).arg vz).arg zD).arg xB).arg qU
 have zU:=qV qU
 have ja:=qV xB
 have nhtAlive:=qV zD
 have nhtBags:=qV vz
 have nhtAround:=qV zf
 clear qU xB zD vz zf
 have N:=Fresh.nil w.heap.size
 refine zcr (sw (jF H (yS s qA qy qJ qI) fun b1 w2 H=>sw (jF H (yT t xM xI zi xZ xx xw) fun b3 w4 H=>sp (.bool false) (zjcc (sw (xR (yS s qA qy qJ qI) isAgg27 sizeOf27 rfl (qE (H.cells 1 rfl) 0 3) (sw (oq (validSystem_ok _ s (H.get 0 rfl).1 (H.get 1 rfl).1) H fun w6 H=>sps [.bool (!(dec (jk s))),.bool (!(dec (jk s)))] ?_))))))))
 cases h8:(!(dec (jk s)))
 ·skip
  replace h8:=qP h8
  replace h8:=vW h8
  have z1:=(‹jk s›:jk s).1.2.1
  refine qx 10 rfl rfl (oF rfl (qx 10 rfl rfl (oL rfl (H.cell 0 rfl rfl) (qx 10 rfl rfl (oN rfl (qx 10 rfl rfl (oF rfl (qx 10 rfl rfl (oL rfl (H.cell 1 rfl rfl) (qx 10 rfl rfl (oN rfl (qx 10 rfl rfl (sps [.bool ((t.qF.length:Int) != s.qp.length),.bool ((t.qF.length:Int) != s.qp.length),.bool ((t.qF.length:Int) != s.qp.length)] ?_)))))))))))))
  cases h9:((t.qF.length:Int) != s.qp.length)
  ·skip
   replace h9:=xC h9
   refine qx 19 rfl rfl (oF rfl (qx 19 rfl rfl (oL rfl (H.cell 0 rfl rfl) (qx 19 rfl rfl (oN rfl (qx 19 rfl rfl (oF rfl (qx 19 rfl rfl (oL rfl (H.cell 1 rfl rfl) (qx 19 rfl rfl (oN rfl (qx 19 rfl rfl (sps [.bool ((t.qK.length:Int) != s.qp.length),.bool ((t.qK.length:Int) != s.qp.length),.bool ((t.qK.length:Int) != s.qp.length)] ?_)))))))))))))
   cases h10:((t.qK.length:Int) != s.qp.length)
   ·skip
    replace h10:=xC h10
    refine qx 28 rfl rfl (oF rfl (qx 28 rfl rfl (oL rfl (H.cell 0 rfl rfl) (qx 28 rfl rfl ?_))))
    obtain ⟨b11,o12,rfl⟩:=H.addr 2 rfl qc
    refine oI rfl rfl (qx 28 rfl rfl (oL rfl (H.elemBool 2 rfl 0 qc qc) (qx 28 rfl rfl (sps [.bool (!(t.qF[0]!)),.bool (!(t.qF[0]!)),.bool (!(t.qF[0]!))] ?_))))
    cases h14:(!(t.qF[0]!))
    ·skip
     replace h14:=qP h14
     refine qx 35 rfl rfl (oF rfl (qx 35 rfl rfl (oL rfl (H.cell 1 rfl rfl) (qx 35 rfl rfl (oF rfl (qx 35 rfl rfl (oL rfl (H.cell 0 rfl rfl) (qx 35 rfl rfl (sw (oq (jY _ s.qN t.qG (H.get 4 rfl).1) H fun w15 H=>qx 35 rfl rfl (sps [.bool (!(dec (xK s.qN t.qG))),.bool (!(dec (xK s.qN t.qG)))] (zjn (cQ rfl (fun h17=>?_) (fun h17=>?_))))))))))))))
     ·skip
      refine zcr (sp (.bool false) (zjr (t_r (ret1 (.bool false) rfl rfl ⟨_,rfl,?_,H.base⟩))))
      rw [qO (fun h=>by obtain ⟨h0,h1,h2,h3,h4,h5⟩:=h;first | contradiction | omega | (simp_all;done) | (obtain ⟨q1,q2⟩:=h5 c qc;first | contradiction | (have:=q2 qi;omega)))]
     refine xn (t_n (zcc (oF rfl (oL rfl (H.cell 0 rfl rfl) (oN rfl (sp (yI 0) (zjn (xE ?_))))))))
     refine vT (fun m' ρ w18=>∃ (zX:Env) (c:Nat),ρ=upd (upd (upd (upd (upd zX 2 (pp b1 0)) 3 (pp b3 0)) 44 (.slice zi t.qK.length xZ)) 45 (yI t.qK.length)) 46 (yI c)∧((c:Int)≤t.qK.length)∧(BagsTo s t c)∧m' =(t.qK.length - (c:Int)).toNat∧Fresh w.heap.size []∧St w w18 [.box b3 [.slice (aa b11 o12) t.qF.length xI,.slice zi t.qK.length xZ,.slice xx t.qG.length xw] 31,.box b1 (yS s qA qy qJ qI) 27] [sF false xq qA qy s.qp,sF false xN qJ qI s.qC,sF false vI (aa b11 o12) xI t.qF,sF false jC zi xZ t.qK,sF false zJ xx xw t.qG]) ((t.qK.length - (0:Int)).toNat) ⟨_,0,uE5,qc,(by exact fun j hj=>by omega),rfl,N,H⟩ ?_
     clear H N
     rintro m' ρ w19 ⟨zX,c,rfl,i0,i1,rfl,N,H⟩
     refine zcr (sp (.bool (decide ((c:Int) < t.qK.length))) (zjn (zF (cD rfl (fun h20=>?_) (fun h20=>?_)))))
     ·skip
      refine xn (t_n (zF (xE (zcr (sp (yI c) ?_)))))
      obtain ⟨b21,o22,rfl⟩:=H.addr 3 rfl qc
      obtain ⟨ae24,ce24,Fe24,H⟩:=H.elemList 3 rfl c c qc qc qc
      refine oI rfl rfl (oL rfl (H.zI 1 rfl 0 rfl) (sps [yI c,.slice ae24 ((t.qK[c]!).length) ce24] (zjc (oF rfl (oL rfl (H.cell 1 rfl rfl) (sp (.slice ae24 ((t.qK[c]!).length) ce24) (sw (oq (jY _ s.qN (t.qK[c]!) (H.get 0 rfl).1) H fun w25 H=>sps [.bool (!(dec (xK s.qN (t.qK[c]!)))),.bool (!(dec (xK s.qN (t.qK[c]!))))] ?_))))))))
      cases h27:(!(dec (xK s.qN (t.qK[c]!))))
      ·skip
       replace h27:=qP h27
       replace h27:=vW h27
       refine qx 56 rfl rfl (oF rfl (qx 56 rfl rfl (oL rfl (H.cell 0 rfl rfl) (qx 56 rfl rfl (sp (yI c) (qx 56 rfl rfl (oI rfl rfl (qx 56 rfl rfl (oL rfl (H.elemBool 4 rfl c qc qc) (qx 56 rfl rfl (sp (.bool (!(t.qF[c]!))) (qx 56 rfl rfl (sp (.bool (!(t.qF[c]!))) ?_)))))))))))))
       cases h28:(!(t.qF[c]!))
       ·skip
        replace h28:=qP h28
        refine xh [64,65,66] (qx 56 rfl rfl (sps [.bool false,.bool false] (zjn (xy false rfl (fun h=>absurd h qh) (fun _=>xn (b_n (t_n (zT (sw (vN c 1 rfl rfl qc (sp (yI (c+1)) (vg (xJ (m' :=(t.qK.length - ((c+1):Int)).toNat) qc ⟨_,c+1,uE5,?_,?_,rfl,N,H.pick [0,1] [2,3,4,5,6]⟩)))))))))))))
        · omega
        · exact i1.succ ‹_› (fun hk=>by first | omega | simp_all)
       replace h28:=qX h28
       refine qx 63 rfl rfl (sp (.slice ae24 ((t.qK[c]!).length) ce24) (qx 63 rfl rfl (sw (oq (bagSize_ok _ (t.qK[c]!) (H.get 0 rfl).1 (by first | assumption | exact zL qi | exact jH qi)) H fun w29 H=>qx 63 rfl rfl (sp (.bool (decide ((sumL (t.qK[c]!):Int) > 0))) (qx 56 rfl rfl (sps [.bool (decide ((sumL (t.qK[c]!):Int) > 0)),.bool (decide ((sumL (t.qK[c]!):Int) > 0))] (zjn (cD rfl (fun h31=>?_) (fun h31=>?_))))))))))
       ·skip
        refine zcr (sp (.bool false) (zjr (zr5 (ret1 (.bool false) rfl rfl ⟨_,rfl,?_,H.base⟩))))
        rw [qO (fun h=>by obtain ⟨h0,h1,h2,h3,h4,h5⟩:=h;first | contradiction | omega | (simp_all;done) | (obtain ⟨q1,q2⟩:=h5 c qc;first | contradiction | (have:=q2 qi;omega)))]
       refine xn (b_n (t_n (zT (sw (vN c 1 rfl rfl qc (sp (yI (c+1)) (vg (xJ (m' :=(t.qK.length - ((c+1):Int)).toNat) qc ⟨_,c+1,uE5,?_,?_,rfl,N,H.pick [0,1] [2,3,4,5,6]⟩))))))))
       · omega
       · exact i1.succ ‹_› (fun hk=>by first | omega | simp_all)
      replace h27:=qX h27
      replace h27:=xP h27
      refine xh [57,58,59,60,61,62,63,64,65,66,67] (sp (.bool true) (zjn (xy true rfl (fun _=>zcr (sp (.bool false) (zjr (zr5 (ret1 (.bool false) rfl rfl ⟨_,rfl,?_,H.base⟩))))) (fun h=>absurd h qh))))
      rw [qO (fun h=>by obtain ⟨h0,h1,h2,h3,h4,h5⟩:=h;first | contradiction | omega | (simp_all;done) | (obtain ⟨q1,q2⟩:=h5 c qc;first | contradiction | (have:=q2 qi;omega)))]
     refine zx4 (zcr (sp (.bool true) (zjr (ret1 (.bool true) rfl rfl ⟨_,rfl,?_,H.base⟩))))
     rw [jX ⟨by assumption,by omega,by omega,by first | assumption | simp_all,by assumption,(show t.qK.length=c by omega)▸i1⟩]
    replace h14:=qX h14
    refine xh [36,37,38,39,40,41] (sp (.bool true) (zjn (xy true rfl (fun _=>zcr (sp (.bool false) (zjr (t_r (ret1 (.bool false) rfl rfl ⟨_,rfl,?_,H.base⟩))))) (fun h=>absurd h qh))))
    rw [qO (fun h=>by obtain ⟨h0,h1,h2,h3,h4,h5⟩:=h;first | contradiction | omega | (simp_all;done) | (obtain ⟨q1,q2⟩:=h5 c qc;first | contradiction | (have:=q2 qi;omega)))]
   replace h10:=bne_iff_ne.1 h10
   refine xh [29,30,31,32,33] (sps [.bool true,.bool true] (xh [36,37,38,39,40,41] (sp (.bool true) (zjn (xy true rfl (fun _=>zcr (sp (.bool false) (zjr (t_r (ret1 (.bool false) rfl rfl ⟨_,rfl,?_,H.base⟩))))) (fun h=>absurd h qh))))))
   rw [qO (fun h=>by obtain ⟨h0,h1,h2,h3,h4,h5⟩:=h;first | contradiction | omega | (simp_all;done) | (obtain ⟨q1,q2⟩:=h5 c qc;first | contradiction | (have:=q2 qi;omega)))]
  replace h9:=bne_iff_ne.1 h9
  refine xh [20,21,22,23,24,25,26] (sps [.bool true,.bool true] (xh [29,30,31,32,33] (sps [.bool true,.bool true] (xh [36,37,38,39,40,41] (sp (.bool true) (zjn (xy true rfl (fun _=>zcr (sp (.bool false) (zjr (t_r (ret1 (.bool false) rfl rfl ⟨_,rfl,?_,H.base⟩))))) (fun h=>absurd h qh))))))))
  rw [qO (fun h=>by obtain ⟨h0,h1,h2,h3,h4,h5⟩:=h;first | contradiction | omega | (simp_all;done) | (obtain ⟨q1,q2⟩:=h5 c qc;first | contradiction | (have:=q2 qi;omega)))]
 replace h8:=qX h8
 replace h8:=xP h8
 refine xh [11,12,13,14,15,16,17] (sps [.bool true,.bool true] (xh [20,21,22,23,24,25,26] (sps [.bool true,.bool true] (xh [29,30,31,32,33] (sps [.bool true,.bool true] (xh [36,37,38,39,40,41] (sp (.bool true) (zjn (xy true rfl (fun _=>zcr (sp (.bool false) (zjr (t_r (ret1 (.bool false) rfl rfl ⟨_,rfl,?_,H.base⟩))))) (fun h=>absurd h qh))))))))))
 rw [qO (fun h=>by obtain ⟨h0,h1,h2,h3,h4,h5⟩:=h;first | contradiction | omega | (simp_all;done) | (obtain ⟨q1,q2⟩:=h5 c qc;first | contradiction | (have:=q2 qi;omega)))]

theorem cellCode_ok (w:World) (s:qo) (t:qw) (c:Int) {qA:yOA} {xq:yLN} {qJ:yOA} {xN:yLN} {xM:yOA} {vI:yLN} {zi:yOA} {jC:yLN} {xx:yOA} {zJ:yLN} (qU:qH.rep w xq [.slice qA s.qp.length qy] s.qp) (xB:qH.rep w xN [.slice qJ s.qC.length qI] s.qC) (zD:qH.rep w vI [.slice xM t.qF.length xI] t.qF) (vz:qH.rep w jC [.slice zi t.qK.length xZ] t.qK) (zf:qH.rep w zJ [.slice xx t.qG.length xw] t.qG):Calls Try.prog 29 #[.agg #[yI s.qN,.slice qA s.qp.length qy,.slice qJ s.qC.length qI],.agg #[.slice xM t.qF.length xI,.slice zi t.qK.length xZ,.slice xx t.qG.length xw],yI c] w (Ret (fun v w' =>v=yI (qB s t c)) w):=by
 refine en func29 ntmps29 ?_
 have H:=(((((St.start w).arg zf).arg vz).arg zD).arg xB).arg qU
 have zU:=qV qU
 have ja:=qV xB
 have nhtAlive:=qV zD
 have nhtBags:=qV vz
 have nhtAround:=qV zf
 clear qU xB zD vz zf
 have N:=Fresh.nil w.heap.size
 refine zcr (sw (jF H (yS s qA qy qJ qI) fun b1 w2 H=>sw (jF H (yT t xM xI zi xZ xx xw) fun b3 w4 H=>sp (yI 0) (zjn (zF (xE (zcr (sw (xR (yS s qA qy qJ qI) isAgg27 sizeOf27 rfl (qE (H.cells 1 rfl) 0 3) ?_)))))))))
 refine sw (xR (yT t xM xI zi xZ xx xw) isAgg31 sizeOf31 rfl (qE (H.cells 0 rfl) 0 3) (sw (oq (validState_ok _ s t (H.get 0 rfl).1 (H.get 1 rfl).1 (H.get 2 rfl).1 (H.get 3 rfl).1 (H.get 4 rfl).1) H fun w6 H=>sps [.bool (!(dec (jk s∧xY s t))),.bool (!(dec (jk s∧xY s t)))] (zjn (cQ rfl (fun h8=>?_) (fun h8=>?_))))))
 ·skip
  refine zcr (sp (yI 1) (zjr (b_r (t_r (ret1 (yI 1) rfl rfl ⟨_,rfl,?_,H.base⟩)))))
  rw [code_1 qi]
 have z0:jk s∧xY s t:=‹_›
 have z1:=z0.2.1
 refine zcr (sw (xR (yS s qA qy qJ qI) isAgg27 sizeOf27 rfl (qE (H.cells 1 rfl) 0 3) (sp (yI c) (sw (oq (isCell_ok _ s c (H.get 0 rfl).1 (H.get 1 rfl).1) H fun w10 H=>sps [.bool (!(inR c 0 ((s.qp.length:Int) - 1))),.bool (!(inR c 0 ((s.qp.length:Int) - 1)))] (zjn (xy (!(inR c 0 ((s.qp.length:Int) - 1))) rfl (fun h12=>?_) (fun h12=>?_))))))))
 ·skip
  replace h12:=qX h12
  replace h12:=jP h12
  refine zcr (sp (yI 2) (zjr (b_r (t_r (ret1 (yI 2) rfl rfl ⟨_,rfl,?_,H.base⟩)))))
  rw [code_2 z0.1 z0.2 qi]
 replace h12:=qP h12
 replace h12:=jG.1 h12
 refine zcr (oF rfl (oL rfl (H.cell 0 rfl rfl) (sp (yI c) ?_)))
 obtain ⟨b13,o14,rfl⟩:=H.addr 2 rfl qc
 refine oI rfl rfl (oL rfl (H.elemBool 2 rfl c qc qc) (sps [.bool (!(t.qF[c.toNat]!)),.bool (!(t.qF[c.toNat]!))] (zjn (xy (!(t.qF[c.toNat]!)) rfl (fun h16=>?_) (fun h16=>?_)))))
 ·skip
  replace h16:=qX h16
  refine zcr (sp (yI 4) (zjr (b_r (t_r (ret1 (yI 4) rfl rfl ⟨_,rfl,?_,H.base⟩)))))
  rw [code_4 z0.1 z0.2 qi (by first | assumption | simp_all)]
 replace h16:=qP h16
 refine xn (b_n (t_n (zcr (sp (yI 0) (zjr (ret1 (yI 0) rfl rfl ⟨_,rfl,?_,H.base⟩))))))
 rw [code_0 z0.1 z0.2 qi (by first | assumption | simp_all)]

theorem parentNow_ok (w:World) (s:qo) (t:qw) (c:Int) {qA:yOA} {xq:yLN} {qJ:yOA} {xN:yLN} {xM:yOA} {vI:yLN} {zi:yOA} {jC:yLN} {xx:yOA} {zJ:yLN} (qU:qH.rep w xq [.slice qA s.qp.length qy] s.qp) (xB:qH.rep w xN [.slice qJ s.qC.length qI] s.qC) (zD:qH.rep w vI [.slice xM t.qF.length xI] t.qF) (vz:qH.rep w jC [.slice zi t.qK.length xZ] t.qK) (zf:qH.rep w zJ [.slice xx t.qG.length xw] t.qG) (p0:zG s) (p1:jJ s c) (p2:t.qF.length=s.qp.length):Calls Try.prog 30 #[.agg #[yI s.qN,.slice qA s.qp.length qy,.slice qJ s.qC.length qI],.agg #[.slice xM t.qF.length xI,.slice zi t.qK.length xZ,.slice xx t.qG.length xw],yI c] w (Ret (fun v w' =>v=yI (qR s t c)) w):=by
 refine en func30 ntmps30 ?_
 have H:=(((((St.start w).arg zf).arg vz).arg zD).arg xB).arg qU
 have zU:=qV qU
 have ja:=qV xB
 have nhtAlive:=qV zD
 have nhtBags:=qV vz
 have nhtAround:=qV zf
 clear qU xB zD vz zf
 have N:=Fresh.nil w.heap.size
 have p3:=p0.step p1.1 p1.2
 refine zcr (sw (jF H (yS s qA qy qJ qI) fun b1 w2 H=>sw (jF H (yT t xM xI zi xZ xx xw) fun b3 w4 H=>sp (yI 0) (zjc (oF rfl (oL rfl (H.cell 1 rfl rfl) (sp (yI c) ?_)))))))
 obtain ⟨b5,o6,rfl⟩:=H.addr 0 rfl qc
 refine oI rfl rfl (oL rfl (H.jQ 0 rfl c qc qc) (sp (yI (s.qp[c.toNat]!)) (zjn (zF (xE ?_)))))
 refine vT (fun m' ρ w8=>∃ (zX:Env) (p:Int) (n:Nat),ρ=upd (upd (upd zX 3 (pp b1 0)) 4 (pp b3 0)) 7 (yI p)∧(-1≤p∧p≤(s.qp.length:Int) - 1)∧(p < n)∧(qR s t c=climb s.qp t.qF n p)∧m' =(p+1).toNat∧Fresh w.heap.size []∧St w w8 [.box b3 (yT t xM xI zi xZ xx xw) 31,.box b1 [yI s.qN,.slice (aa b5 o6) s.qp.length qy,.slice qJ s.qC.length qI] 27] [sF false xq (aa b5 o6) qy s.qp,sF false xN qJ qI s.qC,sF false vI xM xI t.qF,sF false jC zi xZ t.qK,sF false zJ xx xw t.qG]) (((s.qp[c.toNat]!)+1).toNat) ⟨_,s.qp[c.toNat]!,s.qp.length,uE3,qc,qc,(by rfl),rfl,N,H⟩ ?_
 clear H N
 rintro m' ρ w9 ⟨zX,p,n,rfl,i0,i1,i2,rfl,N,H⟩
 have up:=fun h=>p0.step (c:=p) h i0.2
 refine zcc (sps [yI p,.bool (decide ((p:Int)≥0)),.bool (decide ((p:Int)≥0))] ?_)
 cases h10:(decide ((p:Int)≥0))
 ·skip
  replace h10:=of_decide_eq_false h10
  refine xh [16,17,18,19,20,21] (sp (.bool false) (zjn (xy false rfl (fun h=>absurd h qh) (fun _=>zx4 (zcr (sps [yI p,yI p] (zjr (ret1 (yI p) rfl rfl ⟨_,rfl,?_,H.base⟩))))))))
  rw [i2,climb_end (by first | omega | simp_all)]
 replace h10:=of_decide_eq_true h10
 refine qx 15 rfl rfl (oF rfl (qx 15 rfl rfl (oL rfl (H.cell 0 rfl rfl) (qx 15 rfl rfl (sp (yI p) (qx 15 rfl rfl ?_))))))
 obtain ⟨b11,o12,rfl⟩:=H.addr 2 rfl qc
 refine oI rfl rfl (qx 15 rfl rfl (oL rfl (H.elemBool 2 rfl p qc qc) (qx 15 rfl rfl (sps [.bool (!(t.qF[p.toNat]!)),.bool (!(t.qF[p.toNat]!))] (zjn (xy (!(t.qF[p.toNat]!)) rfl (fun h14=>?_) (fun h14=>?_)))))))
 ·skip
  replace h14:=qX h14
  refine xn (t_n (xE (zT (oF rfl (oL rfl (H.cell 1 rfl rfl) (sp (yI p) (oI rfl rfl (oL rfl (H.jQ 0 rfl p qc qc) (sp (yI (s.qp[p.toNat]!)) (vg (b_n ?_)))))))))))
  have up1:=up qc
  refine xJ (m' :=((s.qp[p.toNat]!)+1).toNat) qc ⟨_,s.qp[p.toNat]!,n - 1,uE3,?_,?_,?_,rfl,N,H⟩
  · omega
  · omega
  · exact i2.trans (climb_go qc qc ‹_›)
 replace h14:=qP h14
 refine zx4 (zcr (sps [yI p,yI p] (zjr (ret1 (yI p) rfl rfl ⟨_,rfl,?_,H.base⟩))))
 rw [i2,climb_end (by first | omega | simp_all)]

theorem copied_ok (w:World) (t:qw) {xM:yOA} {vI:yLN} {zi:yOA} {jC:yLN} {xx:yOA} {zJ:yLN} (zD:qH.rep w vI [.slice xM t.qF.length xI] t.qF) (vz:qH.rep w jC [.slice zi t.qK.length xZ] t.qK) (zf:qH.rep w zJ [.slice xx t.qG.length xw] t.qG) (p0:t.qF.length≤1000000) (p1:t.qG.length≤1000000) (p2:t.qK.length≤1000000) (p3:∀ j,j < t.qK.length→(t.qK[j]!).length≤1000000):Calls Try.prog 32 #[.agg #[.slice xM t.qF.length xI,.slice zi t.qK.length xZ,.slice xx t.qG.length xw]] w (Ret (fun v w' =>∃ (raAlive:yOA) (rnAlive:Nat) (rcAlive:Nat) (raBags:yOA) (rnBags:Nat) (rcBags:Nat) (rxBags:List Value) (rFBags:yLN) (raAround:yOA) (rnAround:Nat) (rcAround:Nat),v=.agg #[.slice raAlive rnAlive rcAlive,.slice raBags rnBags rcBags,.slice raAround rnAround rcAround]∧Fresh w.heap.size [rFBags]∧St w w' [rr raAlive rnAlive rcAlive 4 1 (t.qF.map (Value.bool)),rr raBags rnBags rcBags 24 1 rxBags,rr raAround rnAround rcAround 2 1 (t.qG.map (Value.int .i64))] [qM true rFBags rxBags t.qK]) w):=by
 refine en func32 ntmps32 ?_
 have H:=(((St.start w).arg zf).arg vz).arg zD
 have nhtAlive:=qV zD
 have nhtBags:=qV vz
 have nhtAround:=qV zf
 clear zD vz zf
 have N:=Fresh.nil w.heap.size
 refine zcr (sw (jF H (yT t xM xI zi xZ xx xw) fun b1 w2 H=>sw (xk H ti31 [yN,yN,yN] fun b3 w4 H=>zjn (zF ?_))))
 refine c_cut (fun ρ w10=>∃ (zX:Env) (b5:Nat) (ra6:yOA) (rc7:Nat) (a8:yOA) (c9:Nat),ρ=upd (upd (upd zX 1 (pp b1 0)) 2 (pp b3 0)) 3 (pp b5 0)∧Fresh w.heap.size []∧St w w10 [.box b5 [.slice ra6 t.qF.length rc7,yN,.slice a8 t.qG.length c9] 31,rr a8 t.qG.length c9 2 1 (t.qG.map (Value.int .i64)),rr ra6 t.qF.length rc7 4 1 (t.qF.map (Value.bool)),.box b3 [yN,yN,yN] 31,.box b1 (yT t xM xI zi xZ xx xw) 31] [sF false vI xM xI t.qF,sF false jC zi xZ t.qK,sF false zJ xx xw t.qG]) ?_ ?_
 ·skip
  refine c_drawH rfl H fun H=>tF 0 rfl rfl H ?_
  refine tL 1 rfl rfl (fun _ h=>h.cell 1 rfl rfl) H ?_
  refine tF 3 rfl rfl H ?_
  refine tL 4 rfl rfl (fun _ h=>h.cell 1 rfl rfl) H ?_
  refine zl [2,7] qg qj (zC rfl ?_ (zC rfl ?_ zn))
  ·skip
   have sz15:=H.base.size
   refine oc (cloneB_ok _ t.qF (H.get 0 rfl).1 qf) ?_
   rintro _ w13 ⟨ra12,rn12,rc12,rfl,M,K⟩ _
   replace H:=H.merge K M
   obtain rfl:=H.rowNB 0 rfl
   refine ⟨H.pick [1,2] [0,1,2],(zl [5,7] qg qj (zC rfl ?_ (zC rfl ?_ zn)))⟩
   ·skip
    have sz18:=H.base.size
    refine oc (cloneI_ok _ t.qG (H.get 2 rfl).1 qf) ?_
    rintro v23 w21 r23 x22
    replace H:=H.vY x22 r23
    obtain ⟨a24,c25,rfl,hc26,hm27⟩:=H.rowForm 0 rfl
    refine ⟨H.pick [2,3] [0,1,2],(zl [6,7] qg qj (zC rfl ?_ (zC rfl ?_ zn)))⟩
    ·skip
     refine xm [.slice ra12 t.qF.length rc12,yN,.slice a24 t.qG.length c25] [(0,.slice ra12 t.qF.length rc12),(2,.slice a24 t.qG.length c25)] (⟨H.pick [2,3] [0,1,2],(ro 7 rfl (xk H ti31 [yN,yN,yN] fun b28 w29 H=>⟨H.pick [3,4] [0,1,2],(ro 8 rfl (qL H 0 [.slice ra12 t.qF.length rc12,yN,.slice a24 t.qG.length c25] sizeOf31 fun w30 H=>⟨H.pick [3,4] [0,1,2],(qZ qg ((meet ⟨_,b28,ra12,rc12,a24,c25,uE3,N,H⟩)))⟩))⟩))⟩)
    refine xk H ti31 [yN,yN,yN] fun b31 w32 H=>⟨H.pick [3,4] [0,1,2],(ro 6 rfl (xm [.slice ra12 t.qF.length rc12,yN,.slice a24 t.qG.length c25] [(0,.slice ra12 t.qF.length rc12),(2,.slice a24 t.qG.length c25)] (⟨H.pick [3,4] [0,1,2],(ro 8 rfl (qL H 0 [.slice ra12 t.qF.length rc12,yN,.slice a24 t.qG.length c25] sizeOf31 fun w33 H=>⟨H.pick [3,4] [0,1,2],(qZ qg ((meet ⟨_,b31,ra12,rc12,a24,c25,uE3,N,H⟩)))⟩))⟩)))⟩
   refine xk H ti31 [yN,yN,yN] fun b34 w35 H=>⟨H.pick [2,3] [0,1,2],(ro 5 rfl ?_)⟩
   have sz36:=H.base.size
   refine oc (cloneI_ok _ t.qG (H.get 2 rfl).1 qf) ?_
   rintro v41 w39 r41 x40
   replace H:=H.vY x40 r41
   obtain ⟨a42,c43,rfl,hc44,hm45⟩:=H.rowForm 0 rfl
   refine ⟨H.pick [3,4] [0,1,2],(ro 6 rfl (xm [.slice ra12 t.qF.length rc12,yN,.slice a42 t.qG.length c43] [(0,.slice ra12 t.qF.length rc12),(2,.slice a42 t.qG.length c43)] (⟨H.pick [3,4] [0,1,2],(ro 8 rfl (qL H 1 [.slice ra12 t.qF.length rc12,yN,.slice a42 t.qG.length c43] sizeOf31 fun w46 H=>⟨H.pick [3,4] [0,1,2],(qZ qg ((meet ⟨_,b34,ra12,rc12,a42,c43,uE3,N,H.pick [1,0,2,3,4] [0,1,2]⟩)))⟩))⟩)))⟩
  refine xk H ti31 [yN,yN,yN] fun b47 w48 H=>⟨H.pick [1,2] [0,1,2],(ro 2 rfl ?_)⟩
  have sz52:=H.base.size
  refine oc (cloneB_ok _ t.qF (H.get 0 rfl).1 qf) ?_
  rintro _ w50 ⟨ra49,rn49,rc49,rfl,M,K⟩ _
  replace H:=H.merge K M
  obtain rfl:=H.rowNB 0 rfl
  refine ⟨H.pick [2,3] [0,1,2],(ro 5 rfl ?_)⟩
  have sz55:=H.base.size
  refine oc (cloneI_ok _ t.qG (H.get 2 rfl).1 qf) ?_
  rintro v60 w58 r60 x59
  replace H:=H.vY x59 r60
  obtain ⟨a61,c62,rfl,hc63,hm64⟩:=H.rowForm 0 rfl
  refine ⟨H.pick [3,4] [0,1,2],(ro 6 rfl (xm [.slice ra49 t.qF.length rc49,yN,.slice a61 t.qG.length c62] [(0,.slice ra49 t.qF.length rc49),(2,.slice a61 t.qG.length c62)] (⟨H.pick [3,4] [0,1,2],(ro 8 rfl (qL H 2 [.slice ra49 t.qF.length rc49,yN,.slice a61 t.qG.length c62] sizeOf31 fun w65 H=>⟨H.pick [3,4] [0,1,2],(qZ qg ((meet ⟨_,b47,ra49,rc49,a61,c62,uE3,N,H.pick [2,0,1,3,4] [0,1,2]⟩)))⟩))⟩)))⟩
 clear H N
 rintro ρ w66 ⟨zX,b5,ra6,rc7,a8,c9,rfl,N,H⟩
 refine t_n (zcc (oF rfl (oL rfl (H.cell 4 rfl rfl) (oN rfl (sp (yI 0) (zjn (xE ?_)))))))
 replace H:=H.nilRow 24 1
 replace H:=H.repsNil (α:=yLI)
 refine vT (fun m' ρ w67=>∃ (zX:Env) (k:Nat) (jT:yOA) (vK:Nat) (jS:Nat) (out_Bags:yLL) (x_out_Bags:List Value) (jd:yLN),ρ=upd (upd (upd (upd (upd zX 2 (pp b3 0)) 3 (pp b5 0)) 14 (.slice zi t.qK.length xZ)) 15 (yI t.qK.length)) 16 (yI k)∧out_Bags=t.qK.take k∧((k:Int)≤t.qK.length)∧m' =(t.qK.length - (k:Int)).toNat∧Fresh w.heap.size [jd]∧St w w67 [rr jT vK jS 24 1 x_out_Bags,.box b5 [.slice ra6 t.qF.length rc7,.slice jT vK jS,.slice a8 t.qG.length c9] 31,rr a8 t.qG.length c9 2 1 (t.qG.map (Value.int .i64)),rr ra6 t.qF.length rc7 4 1 (t.qF.map (Value.bool)),.box b3 [yN,yN,yN] 31,.box b1 (yT t xM xI zi xZ xx xw) 31] [qM true jd x_out_Bags out_Bags,sF false vI xM xI t.qF,sF false jC zi xZ t.qK,sF false zJ xx xw t.qG]) ((t.qK.length - (0:Int)).toNat) ⟨_,0,none,0,0,([]:yLL),[],[],uE5,(by rfl),qc,rfl,N.emp,H⟩ ?_
 clear H N
 rintro m' ρ w68 ⟨zX,k,jT,vK,jS,out_Bags,x_out_Bags,jd,rfl,rfl,i0,rfl,N,H⟩
 have hn_out_Bags:=H.jf (α:=yLI) 0 rfl 0 rfl qh
 have p4:=p3 k
 rw [List.length_take_of_le qc] at hn_out_Bags
 refine zcr (sp (.bool (decide ((k:Int) < t.qK.length))) (zjn (zF (cD rfl (fun h69=>?_) (fun h69=>?_)))))
 ·skip
  refine xn (t_n (zF (xE (zcr ?_))))
  obtain ⟨b70,o71,rfl⟩:=H.addr 2 rfl qc
  obtain ⟨ae73,ce73,Fe73,H⟩:=H.elemList 2 rfl k k qc qc qc
  refine oI rfl rfl (oL rfl (H.zI 1 rfl 0 rfl) (sp (.slice ae73 ((t.qK[k]!).length) ce73) (zjn ?_)))
  refine c_cut (fun ρ w79=>∃ (zX:Env) (a74:yOA) (c75:Nat) (a76:yOA) (c77:Nat) (G78:yLN),ρ=upd (upd (upd (upd (upd zX 2 (pp b3 0)) 3 (pp b5 0)) 14 (.slice (aa b70 o71) t.qK.length xZ)) 15 (yI t.qK.length)) 16 (yI k)∧Fresh w.heap.size [(jd++G78)]∧St w w79 [rr a74 (vK+1) c75 24 1 (x_out_Bags++[.slice a76 ((t.qK[k]!).length) c77]),.box b5 [.slice ra6 t.qF.length rc7,.slice a74 (vK+1) c75,.slice a8 t.qG.length c9] 31,rr a8 t.qG.length c9 2 1 (t.qG.map (Value.int .i64)),rr ra6 t.qF.length rc7 4 1 (t.qF.map (Value.bool)),.box b3 [yN,yN,yN] 31,.box b1 [.slice xM t.qF.length xI,.slice (aa b70 o71) t.qK.length xZ,.slice xx t.qG.length xw] 31] [qM true (jd++G78) (x_out_Bags++[.slice a76 ((t.qK[k]!).length) c77]) ((t.qK.take k)++[(t.qK[k]!)]),sF true G78 a76 c77 (t.qK[k]!),sF false Fe73 ae73 ce73 (t.qK[k]!),atF b70 (o71+(k:Int).toNat * 1) [.slice ae73 ((t.qK[k]!).length) ce73],sF false vI xM xI t.qF,sF false jC (aa b70 o71) xZ t.qK,sF false zJ xx xw t.qG]) ?_ ?_
  ·skip
   refine c_drawK rfl H [2,3,4,5] fun H=>?_
   have S:=H.pickC [2,3,4,5] [0,1,2,3,4,5]
   refine tF 0 rfl rfl S ?_
   refine rtp 2 (.slice ae73 ((t.qK[k]!).length) ce73) S ?_
   refine zl [1,3] qg qj (zC rfl ?_ (zC rfl ?_ zn))
   ·skip
    refine ve (.slice jT vK jS) isAgg29 rfl (H.cell 1 rfl rfl) (⟨H.pick [2,3,4,5] [0,1,2,3,4,5],(ro 3 rfl ?_)⟩)
    have sz81:=H.base.size
    have lt82:=H.ltN (L:=[jd]) [2]
    refine oc (cloneI_ok _ (t.qK[k]!) (H.get 0 rfl).1 qf) ?_
    rintro v86 w84 r86 x85
    replace H:=H.vY x85 r86
    obtain ⟨a87,c88,rfl,hc89,hm90⟩:=H.rowForm 0 rfl
    refine ⟨H.pick [3,4,5,6] [0,1,2,3,4,5],(ro 4 rfl (zS H underlying29 ti24 [.slice a87 ((t.qK[k]!).length) c88] fun b91 w92 H=>⟨H.pick [4,5,6,7] [0,1,2,3,4,5],(ro 5 rfl ?_)⟩))⟩
    obtain ⟨G96,N,hn97,H⟩:=H.vH 1 rfl N (H.yg [2])
    refine zV H 2 rfl 0 rfl underlying29 ti24 rfl qh rfl rfl rfl (by simp [Value.oneCell',Value.cells]) qm qc fun a93 c94 w95 H=>?_
    replace H:=H.repsSnoc 3 rfl 0 rfl
    replace N:Fresh w.heap.size [(jd++G96)]:=(N.pick [1,0]).join
    refine ⟨H.pick [4,5,6,7] [2,3,4,5,6,7],(tF 6 rfl rfl (H.pick [4,5,6,7] [2,3,4,5,6,7]) ?_)⟩
    refine ro 7 rfl (zh H 3 [.slice ra6 t.qF.length rc7,.slice a93 (vK+1) c94,.slice a8 t.qG.length c9] sizeOf29 fun w98 H=>⟨H.pick [4,5,6,7] [2,3,4,5,6,7],(qZ qg ((meet ⟨_,a93,c94,a87,c88,G96,uE5,N,H.pick [2,3,4,5,6,7] [0,1,2,3,5,6,7]⟩)))⟩)
   have sz99:=H.base.size
   have lt100:=H.ltN (L:=[jd]) [2]
   refine oc (cloneI_ok _ (t.qK[k]!) (H.get 0 rfl).1 qf) ?_
   rintro v104 w102 r104 x103
   replace H:=H.vY x103 r104
   obtain ⟨a105,c106,rfl,hc107,hm108⟩:=H.rowForm 0 rfl
   refine ⟨H.pick [3,4,5,6] [0,1,2,3,4,5],(zl [1,4] qg qj (zC rfl ?_ (zC rfl ?_ zn)))⟩
   ·skip
    refine ve (.slice jT vK jS) isAgg29 rfl (H.cell 2 rfl rfl) (⟨H.pick [3,4,5,6] [0,1,2,3,4,5],(ro 4 rfl (zS H underlying29 ti24 [.slice a105 ((t.qK[k]!).length) c106] fun b109 w110 H=>⟨H.pick [4,5,6,7] [0,1,2,3,4,5],(ro 5 rfl ?_)⟩))⟩)
    obtain ⟨G114,N,hn115,H⟩:=H.vH 1 rfl N (H.yg [2])
    refine zV H 2 rfl 0 rfl underlying29 ti24 rfl qh rfl rfl rfl (by simp [Value.oneCell',Value.cells]) qm qc fun a111 c112 w113 H=>?_
    replace H:=H.repsSnoc 3 rfl 0 rfl
    replace N:Fresh w.heap.size [(jd++G114)]:=(N.pick [1,0]).join
    refine ⟨H.pick [4,5,6,7] [2,3,4,5,6,7],(tF 6 rfl rfl (H.pick [4,5,6,7] [2,3,4,5,6,7]) ?_)⟩
    refine ro 7 rfl (zh H 3 [.slice ra6 t.qF.length rc7,.slice a111 (vK+1) c112,.slice a8 t.qG.length c9] sizeOf29 fun w116 H=>⟨H.pick [4,5,6,7] [2,3,4,5,6,7],(qZ qg ((meet ⟨_,a111,c112,a105,c106,G114,uE5,N,H.pick [2,3,4,5,6,7] [0,1,2,3,5,6,7]⟩)))⟩)
   refine zS H underlying29 ti24 [.slice a105 ((t.qK[k]!).length) c106] fun b117 w118 H=>⟨H.pick [4,5,6,7] [0,1,2,3,4,5],(ro 1 rfl (ve (.slice jT vK jS) isAgg29 rfl (H.cell 3 rfl rfl) (⟨H.pick [4,5,6,7] [0,1,2,3,4,5],(ro 5 rfl ?_)⟩)))⟩
   obtain ⟨G122,N,hn123,H⟩:=H.vH 1 rfl N (H.yg [2])
   refine zV H 2 rfl 0 rfl underlying29 ti24 rfl qh rfl rfl rfl (by simp [Value.oneCell',Value.cells]) qm qc fun a119 c120 w121 H=>?_
   replace H:=H.repsSnoc 3 rfl 0 rfl
   replace N:Fresh w.heap.size [(jd++G122)]:=(N.pick [1,0]).join
   refine ⟨H.pick [4,5,6,7] [2,3,4,5,6,7],(tF 6 rfl rfl (H.pick [4,5,6,7] [2,3,4,5,6,7]) ?_)⟩
   refine ro 7 rfl (zh H 3 [.slice ra6 t.qF.length rc7,.slice a119 (vK+1) c120,.slice a8 t.qG.length c9] sizeOf29 fun w124 H=>⟨H.pick [4,5,6,7] [2,3,4,5,6,7],(qZ qg ((meet ⟨_,a119,c120,a105,c106,G122,uE5,N,H.pick [2,3,4,5,6,7] [0,1,2,3,5,6,7]⟩)))⟩)
  clear H N
  rintro ρ w125 ⟨zX,a74,c75,a76,c77,G78,rfl,N,H⟩
  refine b_n (t_n (zT (sw (vN k 1 rfl rfl qc (sp (yI (k+1)) (vg (xJ (m' :=(t.qK.length - ((k+1):Int)).toNat) qc ⟨_,k+1,a74,vK+1,c75,((t.qK.take k)++[(t.qK[k]!)]),x_out_Bags++[.slice a76 ((t.qK[k]!).length) c77],(jd++G78),uE5,?_,?_,rfl,N,H.pick [0,1,2,3,4,5] [0,4,5,6]⟩)))))))
  · exact take_snoc qc
  · omega
 refine zx4 (zcr (sw (xR [.slice ra6 t.qF.length rc7,.slice jT vK jS,.slice a8 t.qG.length c9] isAgg31 sizeOf31 rfl (qE (H.cells 1 rfl) 0 3) (sw (qL H 4 [.slice ra6 t.qF.length rc7,.slice jT vK jS,.slice a8 t.qG.length c9] sizeOf31 fun w126 H=>zjr (retC H 4 rfl rfl isAgg31 sizeOf31 rfl ⟨_,rfl,?_,H.base⟩))))))
 obtain rfl:k=t.qK.length:=by omega
 rw [List.take_length] at H
 exact ⟨ra6,t.qF.length,rc7,jT,vK,jS,x_out_Bags,jd,a8,t.qG.length,c9,rfl,N,H.pick [3,0,2] [0]⟩

theorem implMelt_ok (w:World) (s:qo) (t:qw) (c:Int) {qA:yOA} {xq:yLN} {qJ:yOA} {xN:yLN} {xM:yOA} {vI:yLN} {zi:yOA} {jC:yLN} {xx:yOA} {zJ:yLN} (qU:qH.rep w xq [.slice qA s.qp.length qy] s.qp) (xB:qH.rep w xN [.slice qJ s.qC.length qI] s.qC) (zD:qH.rep w vI [.slice xM t.qF.length xI] t.qF) (vz:qH.rep w jC [.slice zi t.qK.length xZ] t.qK) (zf:qH.rep w zJ [.slice xx t.qG.length xw] t.qG):Calls Try.prog 12 #[.agg #[yI s.qN,.slice qA s.qp.length qy,.slice qJ s.qC.length qI],.agg #[.slice xM t.qF.length xI,.slice zi t.qK.length xZ,.slice xx t.qG.length xw],yI c] w (Ret (fun v w' =>∃ (ra0Alive:yOA) (rn0Alive:Nat) (rc0Alive:Nat) (ra0Bags:yOA) (rn0Bags:Nat) (rc0Bags:Nat) (rx0Bags:List Value) (rF0Bags:yLN) (ra0Around:yOA) (rn0Around:Nat) (rc0Around:Nat),v=.tuple #[.agg #[.slice ra0Alive rn0Alive rc0Alive,.slice ra0Bags rn0Bags rc0Bags,.slice ra0Around rn0Around rc0Around],yI ((qQ s t c).2)]∧Fresh w.heap.size [rF0Bags]∧St w w' [rr ra0Alive rn0Alive rc0Alive 4 1 ((((qQ s t c).1).qF).map (Value.bool)),rr ra0Bags rn0Bags rc0Bags 24 1 rx0Bags,rr ra0Around rn0Around rc0Around 2 1 ((((qQ s t c).1).qG).map (Value.int .i64))] [qM true rF0Bags rx0Bags (((qQ s t c).1).qK)]) w):=by
 refine en func12 ntmps12 ?_
 have H:=(((((St.start w).arg zf).arg vz).arg zD).arg xB).arg qU
 have zU:=qV qU
 have ja:=qV xB
 have nhtAlive:=qV zD
 have nhtBags:=qV vz
 have nhtAround:=qV zf
 clear qU xB zD vz zf
 have N:=Fresh.nil w.heap.size
 refine zcr (sw (jF H (yS s qA qy qJ qI) fun b1 w2 H=>sw (jF H (yT t xM xI zi xZ xx xw) fun b3 w4 H=>sw (xk H ti31 [yN,yN,yN] fun b5 w6 H=>sp (yI 0) (zjc (sw (xR (yS s qA qy qJ qI) isAgg27 sizeOf27 rfl (qE (H.cells 2 rfl) 0 3) ?_)))))))
 refine sw (xR (yT t xM xI zi xZ xx xw) isAgg31 sizeOf31 rfl (qE (H.cells 1 rfl) 0 3) (sp (yI c) (sw (oq (cellCode_ok _ s t c (H.get 0 rfl).1 (H.get 1 rfl).1 (H.get 2 rfl).1 (H.get 3 rfl).1 (H.get 4 rfl).1) H fun w8 H=>sp (yI (qB s t c)) (zjcc (sps [yI (qB s t c),.bool ((qB s t c:Int) == 0),.bool ((qB s t c:Int) == 0)] ?_))))))
 cases h10:((qB s t c:Int) == 0)
 ·skip
  replace h10:=ne_of_beq_false h10
  refine xh [17,18] (sp (.bool false) (zjn (xy false rfl (fun h=>absurd h qh) (fun _=>xn (t_n (zcc (sps [yI (qB s t c),.bool ((qB s t c:Int) != 0)] (zjn (xy ((qB s t c:Int) != 0) rfl (fun h11=>?_) (fun h=>absurd (xC h) h10))))))))))
  replace h11:=bne_iff_ne.1 h11
  refine zcr (sw (xm [yN,yN,yN] [] (sp (yI (qB s t c)) (sw (qL H 0 [yN,yN,yN] sizeOf31 fun w12 H=>sp (yI (qB s t c)) (zjr (t_r ?_)))))))
  replace H:=H.nilRowB 4
  replace H:=H.nilRow 24 1
  replace H:=H.repsNil (α:=yLI)
  replace H:=H.nilRowI 2
  refine retC2 H 3 rfl (yI (qB s t c)) rfl isAgg31 sizeOf31 rfl rfl ⟨_,rfl,?_,H.base⟩
  rw [melt_err ‹_›]
  exact ⟨none,0,0,none,0,0,[],[],none,0,0,rfl,N.emp,H.pick [2,1,0] [0]⟩
 replace h10:=eq_of_beq h10
 refine qx 16 rfl rfl (sp (yI c) (qx 16 rfl rfl (sps [.bool ((c:Int) == 0),.bool ((c:Int) == 0)] (zjn (cE rfl (fun h13=>?_) (fun h13=>?_))))))
 ·skip
  refine zT (sp (yI 4) (zjcc (sps [yI 4,.bool true] (zjn (xy true rfl (fun _=>zcr (sw (xm [yN,yN,yN] [] (sp (yI 4) (sw (qL H 0 [yN,yN,yN] sizeOf31 fun w14 H=>sp (yI 4) (zjr (t_r ?_)))))))) (fun h=>absurd h qh))))))
  replace H:=H.nilRowB 4
  replace H:=H.nilRow 24 1
  replace H:=H.repsNil (α:=yLI)
  replace H:=H.nilRowI 2
  refine retC2 H 3 rfl (yI 4) rfl isAgg31 sizeOf31 rfl rfl ⟨_,rfl,?_,H.base⟩
  rw [melt_skin ‹_› ‹_›]
  exact ⟨none,0,0,none,0,0,[],[],none,0,0,rfl,N.emp,H.pick [2,1,0] [0]⟩
 refine xn (t_n (zcc (sps [yI (qB s t c),.bool ((qB s t c:Int) != 0)] (zjn (xy ((qB s t c:Int) != 0) rfl (fun h=>absurd h10 (bne_iff_ne.1 h)) (fun h15=>?_))))))
 replace h15:=xC h15
 refine xn (t_n (zcr (sw (xR (yT t xM xI zi xZ xx xw) isAgg31 sizeOf31 rfl (qE (H.cells 1 rfl) 0 3) ?_))))
 obtain ⟨q1,q2,q3,q4⟩:=code_ok ‹qB s t c=0›
 have q5:=q1.1
 have q14:=q5.1
 have q6:=q2.2.2.1
 obtain ⟨q7,q8,q9,q10⟩:=q2.sizes q5
 have q11:=q2.1
 have q12:=q2.2.1
 have q13:=fun k hk=>Nat.le_trans (q10 k hk) (by decide:8≤1000000)
 have sz19:=H.base.size
 refine sw (oc (copied_ok _ t (H.get 2 rfl).1 (H.get 3 rfl).1 (H.get 4 rfl).1 qf qf qf qf) ?_)
 rintro _ w17 ⟨ra16Alive,rn16Alive,jg,ra16Bags,rn16Bags,jO,rx16Bags,rF16Bags,vS,rn16Around,vP,rfl,M,K⟩ _
 replace N:=N.merge sz19 qj M
 replace H:=H.merge K M
 obtain rfl:=H.rowNB 0 rfl
 obtain rfl:=H.jf (α:=yLI) 1 rfl 0 rfl qh
 obtain rfl:=H.zo 2 rfl
 refine sw (xk H ti31 [yN,yN,yN] fun b24 w25 H=>sw (qL H 0 (yT t ra16Alive jg ra16Bags jO vS vP) sizeOf31 fun w26 H=>zjc (sw (xR (yS s qA qy qJ qI) isAgg27 sizeOf27 rfl (qE (H.cells 6 rfl) 0 3) (sp (yI c) ?_)))))
 refine sw (o_callIn #[.agg #[yI s.qN,.slice qA s.qp.length qy,.slice qJ s.qC.length qI],pp b24 0,yI c] rfl rfl call33 (en func33 ntmps33 ?_))
 refine zcr (sw (jF H (yS s qA qy qJ qI) fun b27 w28 H=>zjn (zF ?_)))
 refine c_drawH rfl H fun H=>rt 0 (.agg #[yI s.qN,.slice qA s.qp.length qy,.slice qJ s.qC.length qI]) (y_loadN (cs:=(yS s qA qy qJ qI)) isAgg27 sizeOf27 rfl (fun _ h=>qE (h.cells 0 rfl) 0 3)) H ?_
 refine rtp 1 (pp b24 0) H ?_
 refine rtp 2 (pp b24 0) H ?_
 refine rt 3 (.agg #[.slice ra16Alive t.qF.length jg,.slice ra16Bags t.qK.length jO,.slice vS t.qG.length vP]) (y_loadN (cs:=(yT t ra16Alive jg ra16Bags jO vS vP)) isAgg31 sizeOf31 rfl (fun _ h=>qE (h.cells 1 rfl) 0 3)) H ?_
 refine rtp 4 (yI c) H ?_
 refine ro 5 rfl ?_
 obtain ⟨G30,hn31,h32⟩:=H.rowIsB 2 rfl
 obtain ⟨G33,hn34,h35⟩:=H.jV (α:=yLI) 3 rfl 0 rfl qh
 obtain ⟨G36,hn37,h38⟩:=H.je 4 rfl
 refine oq (parentNow_ok _ s t c (H.get 1 rfl).1 (H.get 2 rfl).1 h32 h35 h38 qf qf qf) H fun w40 H=>?_
 have pin:=parentNow_in (s:=s) (t:=t) (c:=c) qi qi qc qc
 refine ⟨H,(rtp 6 (yI (qR s t c)) H ?_)⟩
 refine qZ qg (t_n (zF ?_))
 obtain ⟨b42,rfl⟩:=H.rowAddr 3 rfl qc
 refine c_cut (fun ρ w45=>∃ (zX:Env) (xs43:List Value) (F44:yLN),ρ=upd (upd (upd zX 1 (pp b24 0)) 2 (yI c)) 3 (pp b27 0)∧Fresh w.heap.size [F44]∧St w w45 [.box b27 (yS s qA qy qJ qI) 27,.box b24 [.slice ra16Alive t.qF.length jg,.slice (aa b42 0) t.qK.length jO,.slice vS t.qG.length vP] 31,rr ra16Alive t.qF.length jg 4 1 (t.qF.map (Value.bool)),rr (aa b42 0) t.qK.length jO 24 1 xs43,rr vS t.qG.length vP 2 1 (t.qG.map (Value.int .i64)),.box b5 [yN,yN,yN] 31,.box b3 (yT t xM xI zi xZ xx xw) 31,.box b1 (yS s qA qy qJ qI) 27] [qM true F44 xs43 (t.qK.set ((qR s t c).toNat) (vO (t.qK[(qR s t c).toNat]!) (t.qK[c.toNat]!) 1)),sF false xq qA qy s.qp,sF false xN qJ qI s.qC,sF false vI xM xI t.qF,sF false jC zi xZ t.qK,sF false zJ xx xw t.qG]) ?_ ?_
 ·skip
  refine c_drawK rfl H [0,1,2,4,5,6,7] fun H=>?_
  have S:=H.pickC [0,1,2,4,5,6,7] [0,1,2,3,4,5]
  refine rtp 0 (pp b24 0) S ?_
  refine rtp 1 (pp b24 0) S ?_
  refine tF 2 rfl rfl S ?_
  refine tL 3 rfl rfl (fun _ h=>h.cell 1 rfl rfl) S ?_
  refine rtp 4 (yI (qR s t c)) S ?_
  refine rtp 5 (pp b24 0) S ?_
  refine rtp 6 (pp b24 0) S ?_
  refine tF 7 rfl rfl S ?_
  refine tL 8 rfl rfl (fun _ h=>h.cell 1 rfl rfl) S ?_
  refine rtp 9 (yI (qR s t c)) S ?_
  refine tI 10 rfl rfl rfl S ?_
  refine rtp 12 (pp b24 0) S ?_
  refine rtp 13 (pp b24 0) S ?_
  refine tF 14 rfl rfl S ?_
  refine tL 15 rfl rfl (fun _ h=>h.cell 1 rfl rfl) S ?_
  refine rtp 16 (yI c) S ?_
  refine tI 17 rfl rfl rfl S ?_
  refine zl [11,18] qg qj (zC rfl ?_ (zC rfl ?_ zn))
  ·skip
   obtain ⟨a47,c48,G49,s50,h51,H⟩:=H.rowElemL 3 rfl 0 rfl (iv:=qR s t c) ((qR s t c).toNat) qc qc
   refine ve (.slice a47 ((t.qK[(qR s t c).toNat]!).length) c48) isAgg24 rfl (h51) (⟨H.pick [0,1,2,4,5,6,7] [1,2,3,4,5,6],(ro 18 rfl ?_)⟩)
   obtain ⟨a52,c53,G54,s55,h56,H⟩:=H.rowElemL 3 rfl 1 rfl (iv:=c) c.toNat qc qc
   refine ve (.slice a52 ((t.qK[c.toNat]!).length) c53) isAgg24 rfl (h56) (⟨H.pick [0,1,2,4,5,6,7] [2,3,4,5,6,7],(ro 19 rfl ?_)⟩)
   obtain ⟨u1,u2,u3⟩:=q2.add (j:=(qR s t c).toNat) (k:=c.toNat) qc qc
   have sz57:=H.base.size
   have lt58:=H.ltN (L:=[rF16Bags]) [2]
   refine oc (plus_ok _ (t.qK[(qR s t c).toNat]!) (t.qK[c.toNat]!) 1 (H.get 1 rfl).1 (H.get 0 rfl).1 qf qf qf) ?_
   rintro v62 w60 r62 x61
   replace H:=H.vY x61 r62
   obtain ⟨a63,c64,rfl,hc65,hm66⟩:=H.rowForm 0 rfl
   refine ⟨H.pick [1,2,3,5,6,7,8] [2,3,4,5,6,7],(tI 20 rfl rfl rfl (H.pick [1,2,3,5,6,7,8] [2,3,4,5,6,7]) ?_)⟩
   refine ro 21 rfl ?_
   obtain ⟨G68,N,hn69,H⟩:=H.vH 0 rfl N (H.yg [2])
   refine o_storeElem true H 4 rfl 3 rfl (.slice a63 ((vO (t.qK[(qR s t c).toNat]!) (t.qK[c.toNat]!) 1).length) c64) 0 rfl rfl sizeOf24 rfl rfl (i:=((qR s t c).toNat)) qc qc qj fun w67 xs70 F71 hs72 H=>?_
   replace N:Fresh w.heap.size [F71]:=(N.pick [1,0]).repl hs72
   refine ⟨H.pick [1,2,3,5,6,7,8] [4,5,6,7,8,9],(qZ qg ((meet ⟨_,xs70,F71,uE3,N,H.pick [1,2,3,4,5,6,7,8] [0,5,6,7,8,9]⟩)))⟩
  obtain ⟨a73,c74,G75,s76,h77,H⟩:=H.rowElemL 3 rfl 0 rfl (iv:=c) c.toNat qc qc
  refine ve (.slice a73 ((t.qK[c.toNat]!).length) c74) isAgg24 rfl (h77) (⟨H.pick [0,1,2,4,5,6,7] [1,2,3,4,5,6],(ro 11 rfl ?_)⟩)
  obtain ⟨a78,c79,G80,s81,h82,H⟩:=H.rowElemL 3 rfl 1 rfl (iv:=qR s t c) ((qR s t c).toNat) qc qc
  refine ve (.slice a78 ((t.qK[(qR s t c).toNat]!).length) c79) isAgg24 rfl (h82) (⟨H.pick [0,1,2,4,5,6,7] [2,3,4,5,6,7],(ro 19 rfl ?_)⟩)
  obtain ⟨u1,u2,u3⟩:=q2.add (j:=(qR s t c).toNat) (k:=c.toNat) qc qc
  have sz83:=H.base.size
  have lt84:=H.ltN (L:=[rF16Bags]) [2]
  refine oc (plus_ok _ (t.qK[(qR s t c).toNat]!) (t.qK[c.toNat]!) 1 (H.get 0 rfl).1 (H.get 1 rfl).1 qf qf qf) ?_
  rintro v88 w86 r88 x87
  replace H:=H.vY x87 r88
  obtain ⟨a89,c90,rfl,hc91,hm92⟩:=H.rowForm 0 rfl
  refine ⟨H.pick [1,2,3,5,6,7,8] [2,3,4,5,6,7],(tI 20 rfl rfl rfl (H.pick [1,2,3,5,6,7,8] [2,3,4,5,6,7]) ?_)⟩
  refine ro 21 rfl ?_
  obtain ⟨G94,N,hn95,H⟩:=H.vH 0 rfl N (H.yg [2])
  refine o_storeElem true H 4 rfl 3 rfl (.slice a89 ((vO (t.qK[(qR s t c).toNat]!) (t.qK[c.toNat]!) 1).length) c90) 0 rfl rfl sizeOf24 rfl rfl (i:=((qR s t c).toNat)) qc qc qj fun w93 xs96 F97 hs98 H=>?_
  replace N:Fresh w.heap.size [F97]:=(N.pick [1,0]).repl hs98
  refine ⟨H.pick [1,2,3,5,6,7,8] [4,5,6,7,8,9],(qZ qg ((meet ⟨_,xs96,F97,uE3,N,H.pick [1,2,3,4,5,6,7,8] [0,5,6,7,8,9]⟩)))⟩
 clear H N
 rintro ρ w99 ⟨zX,xs43,F44,rfl,N,H⟩
 refine t_n (zF ?_)
 refine c_drawK rfl H [0,1,2,4,5,6,7] fun H=>?_
 have S:=H.pickC [0,1,2,4,5,6,7] [0,1,2,3,4,5]
 refine rtp 0 (pp b24 0) S ?_
 refine rtp 1 (pp b24 0) S ?_
 refine tF 2 rfl rfl S ?_
 refine tL 3 rfl rfl (fun _ h=>h.cell 1 rfl rfl) S ?_
 refine rtp 4 (yI c) S ?_
 refine tF 5 rfl rfl S ?_
 refine tL 6 rfl rfl (fun _ h=>h.cell 0 rfl rfl) S ?_
 refine ro 7 rfl (xA H underlying24 ti2 s.qN.toNat rfl rfl qc qc qc fun b101 w102 H=>⟨H.pick [1,2,3,5,6,7,8] [0,1,2,3,4,5],(tI 8 rfl rfl rfl (H.pick [1,2,3,5,6,7,8] [0,1,2,3,4,5]) ?_)⟩)
 refine ro 9 rfl ?_
 obtain ⟨G104,N,hn105,H⟩:=H.vH 0 rfl N (H.yg [0])
 refine o_storeElem true H 4 rfl 1 rfl (.slice (aa b101 0) s.qN.toNat s.qN.toNat) 0 rfl rfl sizeOf24 rfl rfl (i:=c.toNat) qc qc qj fun w103 xs106 F107 hs108 H=>?_
 replace N:Fresh w.heap.size [F107]:=(N.pick [1,0]).repl hs108
 refine ⟨H.pick [1,2,3,5,6,7,8] [2,3,4,5,6,7],(qZ qg (t_n (zT (sps [pp b24 0,pp b24 0] (oF rfl (oL rfl (H.cell 2 rfl rfl) (sp (yI c) ?_)))))))⟩
 obtain ⟨b109,rfl⟩:=H.rowAddr 3 rfl qc
 refine oI rfl rfl (sw (o_storeBool H 3 rfl false sizeOf4 rfl rfl (i:=c.toNat) qc qc fun w110 H=>vg (ret0 rfl ⟨_,rfl,?_⟩)))
 replace H:=H.erases [1,0]
 dsimp only [eraseAll,List.eraseIdx] at H
 refine zjc (sw (xR (yS s qA qy qJ qI) isAgg27 sizeOf27 rfl (qE (H.cells 6 rfl) 0 3) (sw (xR [.slice (aa b109 0) t.qF.length jg,.slice (aa b42 0) t.qK.length jO,.slice vS t.qG.length vP] isAgg31 sizeOf31 rfl (qE (H.cells 0 rfl) 0 3) ?_))))
 refine sw (o_callIn #[.agg #[yI s.qN,.slice qA s.qp.length qy,.slice qJ s.qC.length qI],.agg #[.slice (aa b109 0) t.qF.length jg,.slice (aa b42 0) t.qK.length jO,.slice vS t.qG.length vP]] rfl rfl call34 (en func34 ntmps34 ?_))
 refine zcr (sw (jF H (yS s qA qy qJ qI) fun b111 w112 H=>sw (jF H [.slice (aa b109 0) t.qF.length jg,.slice (aa b42 0) t.qK.length jO,.slice vS t.qG.length vP] fun b113 w114 H=>sw (xk H ti31 [yN,yN,yN] fun b115 w116 H=>sp (yI 0) (zjcc (sw (xR (yS s qA qy qJ qI) isAgg27 sizeOf27 rfl (qE (H.cells 2 rfl) 0 3) ?_)))))))
 refine sw (xR [.slice (aa b109 0) t.qF.length jg,.slice (aa b42 0) t.qK.length jO,.slice vS t.qG.length vP] isAgg31 sizeOf31 rfl (qE (H.cells 1 rfl) 0 3) ?_)
 obtain ⟨G117,hn118,h119⟩:=H.rowIsB 4 rfl
 obtain ⟨G120,hn121,h122⟩:=H.jV (α:=yLI) 5 rfl 0 rfl qh
 obtain ⟨G123,hn124,h125⟩:=H.je 6 rfl
 refine sw (oq (args_eq (by rw [← hn118,← hn121]) (validState_ok _ s (⟨(t.qF.set c.toNat false),((t.qK.set ((qR s t c).toNat) (vO (t.qK[(qR s t c).toNat]!) (t.qK[c.toNat]!) 1)).set c.toNat (List.replicate s.qN.toNat (0:Int))),t.qG⟩:qw) (H.get 3 rfl).1 (H.get 4 rfl).1 (hn118▸h119) (hn121▸h122) h125)) H fun w127 H=>sp (.bool (!(dec (jk s∧xY s (⟨(t.qF.set c.toNat false),((t.qK.set ((qR s t c).toNat) (vO (t.qK[(qR s t c).toNat]!) (t.qK[c.toNat]!) 1)).set c.toNat (List.replicate s.qN.toNat (0:Int))),t.qG⟩:qw))))) (zjn (cQ rfl (fun h129=>?_) (fun h129=>?_))))
 ·skip
  refine zcr (sw (xm [yN,yN,yN] [] (sw (qL H 0 [yN,yN,yN] sizeOf31 fun w130 H=>sp (yI 3) (zjr (t_r (retC2 H 0 rfl (yI 3) rfl isAgg31 sizeOf31 rfl rfl ⟨_,rfl,?_⟩)))))))
  replace H:=H.erases [2,1,0]
  dsimp only [eraseAll,List.eraseIdx] at H
  refine sps [.agg #[yN,yN,yN],yI 3] (sw (qL H 4 [yN,yN,yN] sizeOf31 fun w131 H=>sp (yI 3) (zjr ?_)))
  replace H:=H.nilRowB 4
  replace H:=H.nilRow 24 1
  replace H:=H.repsNil (α:=yLI)
  replace H:=H.nilRowI 2
  refine retC2 H 7 rfl (yI 3) rfl isAgg31 sizeOf31 rfl rfl ⟨_,rfl,?_,H.base⟩
  rw [melt_told ‹_› ‹_›,told_no (fun h=>‹¬ (jk s∧_)› ⟨q1,h⟩)]
  exact ⟨none,0,0,none,0,0,[],[],none,0,0,rfl,(N.emp.pick [0]),H.pick [2,1,0] [0]⟩
 refine xn (t_n (zcr (sw (xR [.slice (aa b109 0) t.qF.length jg,.slice (aa b42 0) t.qK.length jO,.slice vS t.qG.length vP] isAgg31 sizeOf31 rfl (qE (H.cells 1 rfl) 0 3) (sw (qL H 0 [.slice (aa b109 0) t.qF.length jg,.slice (aa b42 0) t.qK.length jO,.slice vS t.qG.length vP] sizeOf31 fun w132 H=>sp (yI 0) (zjr (retC2 H 0 rfl (yI 0) rfl isAgg31 sizeOf31 rfl rfl ⟨_,rfl,?_⟩))))))))
 replace H:=H.erases [2,1,0]
 dsimp only [eraseAll,List.eraseIdx] at H
 refine sps [.agg #[.slice (aa b109 0) t.qF.length jg,.slice (aa b42 0) t.qK.length jO,.slice vS t.qG.length vP],yI 0] (sw (qL H 4 [.slice (aa b109 0) t.qF.length jg,.slice (aa b42 0) t.qK.length jO,.slice vS t.qG.length vP] sizeOf31 fun w133 H=>sp (yI 0) (zjr (retC2 H 4 rfl (yI 0) rfl isAgg31 sizeOf31 rfl rfl ⟨_,rfl,?_,H.base⟩))))
 rw [melt_told ‹_› ‹_›,told_yes (‹jk s∧_›:jk s∧_).2]
 exact ⟨(aa b109 0),t.qF.length,jg,(aa b42 0),t.qK.length,jO,xs106,F107,vS,t.qG.length,vP,rfl,N,H.pick [1,2,3] [0]⟩
end
section
open Go.RowKit
set_option linter.unusedVariables false
set_option linter.unusedSimpArgs false
set_option maxRecDepth 100000
set_option maxHeartbeats 4000000
theorem dNext_ok {W0 w:World} {ps:List Prv} {Γ:List Fact} {Ns:List yLN} (code:List UInt8) (ip:Int) (sd:Int) (bs:Nat) (ac:yOA) (cc:Nat) (Fc:yLN) (H:St W0 w ((.box bs [.slice ac code.length cc,.int .i64 ip,.int .u64 sd] 95) :: ps) ((sF false Fc ac cc code) :: Γ)) (N:Fresh W0.heap.size (Ns)) (K0:Kept Ns Γ) (q0:0≤ip∧ip≤100000):Calls Try.prog 103 #[.pointer (some ⟨bs,0,none⟩)] w (fun e w' =>∃ v,e=.returned v∧∃ (ip_:Int) (sd_:Int) (v_:Int),(ip≤ip_∧ip_≤ip+1)∧(0≤v_∧v_≤255)∧v=.int .i64 v_∧Fresh W0.heap.size (Ns)∧St W0 w' ((.box bs [.slice ac code.length cc,.int .i64 ip_,.int .u64 sd_] 95) :: ps) ((sF false Fc ac cc code) :: Γ)):=by
 refine en Try.func103 Try.ntmps103 ?_
 have ncode:=qV (H.get 0 rfl).1
 refine zcr (sp (.int .i64 0) (zjc (sp (.int .i64 0) (zjn (zF (zF ?_))))))
 refine c_drawK2 rfl H [0] [0] fun H=>?_
 have S:=H.pickC [0] [0]
 refine rtp 0 (.pointer (some ⟨bs,0,none⟩)) S ?_
 refine rtp 1 (.pointer (some ⟨bs,0,none⟩)) S ?_
 refine tF 2 rfl rfl S ?_
 refine tL 3 rfl rfl (fun _ h=>h.cell 0 rfl rfl) S ?_
 refine rtp 4 (.pointer (some ⟨bs,0,none⟩)) S ?_
 refine rtp 5 (.pointer (some ⟨bs,0,none⟩)) S ?_
 refine tF 6 rfl rfl S ?_
 refine tL 7 rfl rfl (fun _ h=>h.cell 0 rfl rfl) S ?_
 refine tN 8 rfl rfl S ?_
 refine rtp 9 (.bool (decide ((ip:Int) < code.length))) S ?_
 refine qZ qg (t_n (cD rfl (fun h2=>?_) (fun h2=>?_)))
 ·skip
  refine c_drawK2 rfl H [0] [0] fun H=>?_
  have S:=H.pickC [0] [0]
  refine rtp 0 (.pointer (some ⟨bs,0,none⟩)) S ?_
  refine rtp 1 (.pointer (some ⟨bs,0,none⟩)) S ?_
  refine tF 2 rfl rfl S ?_
  refine tL 3 rfl rfl (fun _ h=>h.cell 0 rfl rfl) S ?_
  refine rtp 4 (.pointer (some ⟨bs,0,none⟩)) S ?_
  refine rtp 5 (.pointer (some ⟨bs,0,none⟩)) S ?_
  refine tF 6 rfl rfl S ?_
  refine tL 7 rfl rfl (fun _ h=>h.cell 0 rfl rfl) S ?_
  obtain ⟨b4,o5,rfl⟩:=H.addr 0 rfl qc
  refine tI 8 rfl rfl rfl (H.pick [0] [0]) ?_
  refine ro 9 rfl ?_
  have hb7:=byte_lt (code[ip.toNat]!)
  refine ve (.int .u8 (((code[ip.toNat]!).toNat:Nat):Int)) Try.isAgg5 rfl (H.elemByte 0 rfl ip ip.toNat qc qc qc) (⟨H.pick [0] [0],(ro 10 rfl (o_convI (((code[ip.toNat]!).toNat:Nat):Int) Try.underlying5 Try.underlying3 rfl qc (⟨H.pick [0] [0],(rtp 11 (.int .i64 (((code[ip.toNat]!).toNat:Nat):Int)) (H.pick [0] [0]) ?_)⟩)))⟩)
  refine qZ qg (t_n (zcr (sps [.pointer (some ⟨bs,0,none⟩),.pointer (some ⟨bs,0,none⟩)] (oF rfl (oL rfl (H.cell 0 rfl rfl) (sw (vN ip 1 rfl rfl qc (sp (.pointer (some ⟨bs,0,none⟩)) (oF rfl (sw (zh H 0 [.slice (some ⟨b4,o5,none⟩) code.length cc,.int .i64 (ip+1),.int .u64 sd] Try.sizeOf3 fun w8 H=>?_)))))))))))
  try dsimp only [List.set] at H
  refine zjc (sps [.pointer (some ⟨bs,0,none⟩),.pointer (some ⟨bs,0,none⟩),.pointer (some ⟨bs,0,none⟩)] (oF rfl (oL rfl (H.cell 0 rfl rfl) (sw (o_mulU sd 6364136223846793005 rfl rfl fun r9=>sp (.int .i64 (((code[ip.toNat]!).toNat:Nat):Int)) (sw (o_convU (((code[ip.toNat]!).toNat:Nat):Int) Try.underlying3 Try.underlying93 rfl fun r10=>sw (o_addU r9 r10 rfl rfl fun r11=>sw (o_addU r11 1442695040888963407 rfl rfl fun r12=>sp (.pointer (some ⟨bs,0,none⟩)) (oF rfl (sw (zh H 0 [.slice (some ⟨b4,o5,none⟩) code.length cc,.int .i64 (ip+1),.int .u64 r12] Try.sizeOf93 fun w13 H=>?_))))))))))))
  try dsimp only [List.set] at H
  refine zjn (zF (zF ?_))
  refine c_drawK2 rfl H [0] [0] fun H=>?_
  have S:=H.pickC [0] [0]
  refine rtp 0 (.pointer (some ⟨bs,0,none⟩)) S ?_
  refine rtp 1 (.pointer (some ⟨bs,0,none⟩)) S ?_
  refine tF 2 rfl rfl S ?_
  refine tL 3 rfl rfl (fun _ h=>h.cell 0 rfl rfl) S ?_
  refine rtp 4 (.pointer (some ⟨bs,0,none⟩)) S ?_
  refine rtp 5 (.pointer (some ⟨bs,0,none⟩)) S ?_
  refine tF 6 rfl rfl S ?_
  refine tL 7 rfl rfl (fun _ h=>h.cell 0 rfl rfl) S ?_
  refine tN 8 rfl rfl S ?_
  refine rtp 9 (.bool (decide ((ip+1:Int)≤code.length))) S ?_
  refine qZ qg (t_n (cD rfl (fun h15=>?_) (fun h15=>?_)))
  ·skip
   refine zcr (sps [.int .i64 (((code[ip.toNat]!).toNat:Nat):Int),.int .i64 (((code[ip.toNat]!).toNat:Nat):Int)] (zjr (t_r (ret1 (.int .i64 (((code[ip.toNat]!).toNat:Nat):Int)) rfl rfl ⟨_,rfl,(⟨ip+1,r12,(((code[ip.toNat]!).toNat:Nat):Int),qc,qc,rfl,N,H.qW 1 1 [0] [0] ql ql⟩)⟩))))
  ·skip
   refine xn (t_n (zcr (sps [.pointer (some ⟨bs,0,none⟩),.pointer (some ⟨bs,0,none⟩)] (oF rfl (oL rfl (H.cell 0 rfl rfl) (sw (o_shrU r12 40 qh rfl rfl fun r16=>sw (o_andU r16 rfl rfl fun r17 hr17=>sw (o_convI r17 Try.underlying93 Try.underlying2 rfl qc (sp (.int .i64 r17) (zjr (ret1 (.int .i64 r17) rfl rfl ⟨_,rfl,(⟨ip+1,r12,r17,qc,qc,rfl,N,H.qW 1 1 [0] [0] ql ql⟩)⟩))))))))))))
 ·skip
  refine xn (t_n (zcr (sps [.pointer (some ⟨bs,0,none⟩),.pointer (some ⟨bs,0,none⟩)] (oF rfl (oL rfl (H.cell 0 rfl rfl) (sw (vN ip 1 rfl rfl qc (sp (.pointer (some ⟨bs,0,none⟩)) (oF rfl (sw (zh H 0 [.slice ac code.length cc,.int .i64 (ip+1),.int .u64 sd] Try.sizeOf3 fun w18 H=>?_)))))))))))
  try dsimp only [List.set] at H
  refine zjc (sps [.pointer (some ⟨bs,0,none⟩),.pointer (some ⟨bs,0,none⟩),.pointer (some ⟨bs,0,none⟩)] (oF rfl (oL rfl (H.cell 0 rfl rfl) (sw (o_mulU sd 6364136223846793005 rfl rfl fun r19=>sp (.int .i64 0) (sw (o_convU 0 Try.underlying3 Try.underlying93 rfl fun r20=>sw (o_addU r19 r20 rfl rfl fun r21=>sw (o_addU r21 1442695040888963407 rfl rfl fun r22=>sp (.pointer (some ⟨bs,0,none⟩)) (oF rfl (sw (zh H 0 [.slice ac code.length cc,.int .i64 (ip+1),.int .u64 r22] Try.sizeOf93 fun w23 H=>?_))))))))))))
  try dsimp only [List.set] at H
  refine zjn (zF (zF ?_))
  refine c_drawK2 rfl H [0] [0] fun H=>?_
  have S:=H.pickC [0] [0]
  refine rtp 0 (.pointer (some ⟨bs,0,none⟩)) S ?_
  refine rtp 1 (.pointer (some ⟨bs,0,none⟩)) S ?_
  refine tF 2 rfl rfl S ?_
  refine tL 3 rfl rfl (fun _ h=>h.cell 0 rfl rfl) S ?_
  refine rtp 4 (.pointer (some ⟨bs,0,none⟩)) S ?_
  refine rtp 5 (.pointer (some ⟨bs,0,none⟩)) S ?_
  refine tF 6 rfl rfl S ?_
  refine tL 7 rfl rfl (fun _ h=>h.cell 0 rfl rfl) S ?_
  refine tN 8 rfl rfl S ?_
  refine rtp 9 (.bool (decide ((ip+1:Int)≤code.length))) S ?_
  refine qZ qg (t_n (cD rfl (fun h25=>?_) (fun h25=>?_)))
  ·skip
   refine zcr (sps [.int .i64 0,.int .i64 0] (zjr (t_r (ret1 (.int .i64 0) rfl rfl ⟨_,rfl,(⟨ip+1,r22,0,qc,qc,rfl,N,H.qW 1 1 [0] [0] ql ql⟩)⟩))))
  ·skip
   refine xn (t_n (zcr (sps [.pointer (some ⟨bs,0,none⟩),.pointer (some ⟨bs,0,none⟩)] (oF rfl (oL rfl (H.cell 0 rfl rfl) (sw (o_shrU r22 40 qh rfl rfl fun r26=>sw (o_andU r26 rfl rfl fun r27 hr27=>sw (o_convI r27 Try.underlying93 Try.underlying2 rfl qc (sp (.int .i64 r27) (zjr (ret1 (.int .i64 r27) rfl rfl ⟨_,rfl,(⟨ip+1,r22,r27,qc,qc,rfl,N,H.qW 1 1 [0] [0] ql ql⟩)⟩))))))))))))

theorem zN {W0 w:World} {ps:List Prv} {Γ:List Fact} {Ns:List yLN} (code:List UInt8) (ip:Int) (sd:Int) (bs:Nat) (ac:yOA) (cc:Nat) (Fc:yLN) (nn:Int) (H:St W0 w ((.box bs [.slice ac code.length cc,.int .i64 ip,.int .u64 sd] 95) :: ps) ((sF false Fc ac cc code) :: Γ)) (N:Fresh W0.heap.size (Ns)) (K0:Kept Ns Γ) (q0:0≤ip∧ip≤90000):Calls Try.prog 62 #[.pointer (some ⟨bs,0,none⟩),.int .i64 nn] w (fun e w' =>∃ v,e=.returned v∧∃ (ip_:Int) (sd_:Int) (v_:Int),(ip≤ip_∧ip_≤ip+2)∧(0≤v_∧(v_ < nn∨v_=0))∧v=.int .i64 v_∧Fresh W0.heap.size (Ns)∧St W0 w' ((.box bs [.slice ac code.length cc,.int .i64 ip_,.int .u64 sd_] 95) :: ps) ((sF false Fc ac cc code) :: Γ)):=by
 refine en Try.func62 Try.ntmps62 ?_
 have ncode:=qV (H.get 0 rfl).1
 refine zcr (sp (.int .i64 0) (zjcc (sps [.int .i64 nn,.bool (decide ((nn:Int)≤1))] (zjn (cD rfl (fun h1=>?_) (fun h1=>?_))))))
 ·skip
  refine zcr (sp (.int .i64 0) (zjr (t_r (ret1 (.int .i64 0) rfl rfl ⟨_,rfl,(⟨ip,sd,0,qc,(by first | omega | exact ⟨hm _,.inl (hm2 _)⟩),rfl,N,H.qW 1 1 [0] [0] ql ql⟩)⟩))))
 ·skip
  refine xn (t_n (zcr (sp (.pointer (some ⟨bs,0,none⟩)) ?_)))
  have H1:St W0 w ((.box bs [.slice ac code.length cc,.int .i64 ip,.int .u64 sd] 95) :: ps) ((sF false Fc ac cc code) :: Γ):=H.qW 1 1 [0] [0] ql ql
  have N1:Fresh _ (Ns):=N
  have K1:Kept (Ns) (Γ):=K0.behind 0 rfl
  refine sw (xf #[.pointer (some ⟨bs,0,none⟩)] rfl rfl Try.call103 (dNext_ok code ip sd bs ac cc Fc H1 N1 K1 qf) ?_)
  clear H H1 N1 K1
  rintro _ w2 ⟨zi6,zi7,zi8,hx4,hx5,rfl,N,H⟩
  refine sp (.int .i64 zi8) (zjcc (sps [.int .i64 nn,.bool (decide ((nn:Int) > 200))] (zjn (cD rfl (fun h9=>?_) (fun h9=>?_)))))
  ·skip
   refine zT (sp (.int .i64 zi8) (sw (o_mul zi8 256 rfl rfl qc (sp (.pointer (some ⟨bs,0,none⟩)) ?_))))
   have H1:St W0 w2 ((.box bs [.slice ac code.length cc,.int .i64 zi6,.int .u64 zi7] 95) :: ps) ((sF false Fc ac cc code) :: Γ):=H.qW 1 1 [0] [0] ql ql
   have N1:Fresh _ (Ns):=N
   have K1:Kept (Ns) (Γ):=K0.behind 0 rfl
   refine sw (xf #[.pointer (some ⟨bs,0,none⟩)] rfl rfl Try.call103 (dNext_ok code zi6 zi7 bs ac cc Fc H1 N1 K1 qf) ?_)
   clear H H1 N1 K1
   rintro _ w10 ⟨zi14,zi15,zi16,hx12,hx13,rfl,N,H⟩
   refine sw (vN (zi8 * 256) zi16 rfl rfl qc (sp (.int .i64 ((zi8 * 256)+zi16)) (zjc (sps [.int .i64 ((zi8 * 256)+zi16),.int .i64 nn] (sw (o_rem ((zi8 * 256)+zi16) nn rfl rfl qc qc qc (sp (.int .i64 (((zi8 * 256)+zi16) % nn)) (zjr (ret1 (.int .i64 (((zi8 * 256)+zi16) % nn)) rfl rfl ⟨_,rfl,?_⟩)))))))))
   have hm:=fun (x:Int)=>Int.emod_nonneg x (show nn≠0 by omega)
   have hm2:=fun (x:Int)=>Int.emod_lt_of_pos x (show 0 < nn by omega)
   exact ⟨zi14,zi15,((zi8 * 256)+zi16) % nn,qc,(by first | omega | exact ⟨hm _,.inl (hm2 _)⟩),rfl,N,H.qW 1 1 [0] [0] ql ql⟩
  ·skip
   refine xn (t_n (zcr (sps [.int .i64 zi8,.int .i64 nn] (sw (o_rem zi8 nn rfl rfl qc qc qc (sp (.int .i64 (zi8 % nn)) (zjr (ret1 (.int .i64 (zi8 % nn)) rfl rfl ⟨_,rfl,?_⟩))))))))
   have hm:=fun (x:Int)=>Int.emod_nonneg x (show nn≠0 by omega)
   have hm2:=fun (x:Int)=>Int.emod_lt_of_pos x (show 0 < nn by omega)
   exact ⟨zi6,zi7,zi8 % nn,qc,(by first | omega | exact ⟨hm _,.inl (hm2 _)⟩),rfl,N,H.qW 1 1 [0] [0] ql ql⟩

theorem dOne_ok {W0 w:World} {ps:List Prv} {Γ:List Fact} {Ns:List yLN} (code:List UInt8) (ip:Int) (sd:Int) (bs:Nat) (ac:yOA) (cc:Nat) (Fc:yLN) (nn:Int) (H:St W0 w ((.box bs [.slice ac code.length cc,.int .i64 ip,.int .u64 sd] 95) :: ps) ((sF false Fc ac cc code) :: Γ)) (N:Fresh W0.heap.size (Ns)) (K0:Kept Ns Γ) (q0:0≤ip∧ip≤90000):Calls Try.prog 64 #[.pointer (some ⟨bs,0,none⟩),.int .i64 nn] w (fun e w' =>∃ v,e=.returned v∧∃ (ip_:Int) (sd_:Int) (v_:Bool),(ip≤ip_∧ip_≤ip+2)∧v=.bool v_∧Fresh W0.heap.size (Ns)∧St W0 w' ((.box bs [.slice ac code.length cc,.int .i64 ip_,.int .u64 sd_] 95) :: ps) ((sF false Fc ac cc code) :: Γ)):=by
 refine en Try.func64 Try.ntmps64 ?_
 have ncode:=qV (H.get 0 rfl).1
 refine zcr (sp (.bool false) (zjc (sps [.pointer (some ⟨bs,0,none⟩),.int .i64 nn] ?_)))
 have H1:St W0 w ((.box bs [.slice ac code.length cc,.int .i64 ip,.int .u64 sd] 95) :: ps) ((sF false Fc ac cc code) :: Γ):=H.qW 1 1 [0] [0] ql ql
 have N1:Fresh _ (Ns):=N
 have K1:Kept (Ns) (Γ):=K0.behind 0 rfl
 refine sw (xf #[.pointer (some ⟨bs,0,none⟩),.int .i64 nn] rfl rfl Try.call62 (zN code ip sd bs ac cc Fc nn H1 N1 K1 qf) ?_)
 clear H H1 N1 K1
 rintro _ w1 ⟨zi5,zi6,zi7,hx3,hx4,rfl,N,H⟩
 refine sps [.bool ((zi7:Int) == 0),.bool ((zi7:Int) == 0)] (zjr (ret1 (.bool ((zi7:Int) == 0)) rfl rfl ⟨_,rfl,(⟨zi5,zi6,(zi7:Int) == 0,qc,rfl,N,H.qW 1 1 [0] [0] ql ql⟩)⟩))

theorem dFew_ok {W0 w:World} {ps:List Prv} {Γ:List Fact} {Ns:List yLN} (code:List UInt8) (ip:Int) (sd:Int) (bs:Nat) (ac:yOA) (cc:Nat) (Fc:yLN) (kk:Int) (most:Int) (H:St W0 w ((.box bs [.slice ac code.length cc,.int .i64 ip,.int .u64 sd] 95) :: ps) ((sF false Fc ac cc code) :: Γ)) (N:Fresh W0.heap.size (Ns)) (K0:Kept Ns Γ) (q0:0≤ip∧ip≤80000) (q1:1≤kk∧kk≤8) (q2:1≤most∧most≤6):Calls Try.prog 65 #[.pointer (some ⟨bs,0,none⟩),.int .i64 kk,.int .i64 most] w (fun e w' =>∃ v,e=.returned v∧∃ (ip_:Int) (sd_:Int) (out_:yLI) (rao:yOA) (rno:Nat) (rco:Nat),(ip≤ip_∧ip_≤ip+20)∧(xQ kk most out_)∧v=.slice rao rno rco∧Fresh W0.heap.size (Ns)∧St W0 w' ((.box bs [.slice ac code.length cc,.int .i64 ip_,.int .u64 sd_] 95) :: (rr rao rno rco 2 1 (out_.map (Value.int .i64))) :: ps) ((sF false Fc ac cc code) :: Γ)):=by
 refine en Try.func65 Try.ntmps65 ?_
 have ncode:=qV (H.get 0 rfl).1
 refine zcr (sp (.slice none 0 0) (zjc (sp (.int .i64 kk) (sw (xA H Try.underlying24 ti2 kk.toNat rfl rfl qc qc qc fun b1 w2 H=>sp (.slice (some ⟨b1,0,none⟩) kk.toNat kk.toNat) (zjcc (sps [.pointer (some ⟨bs,0,none⟩),.int .i64 most] (sw (vN most 1 rfl rfl qc ?_)))))))))
 have H1:St W0 w2 ((.box bs [.slice ac code.length cc,.int .i64 ip,.int .u64 sd] 95) :: (rr (some ⟨b1,0,none⟩) kk.toNat kk.toNat 2 1 ((List.replicate kk.toNat (0:Int)).map (Value.int .i64))) :: ps) ((sF false Fc ac cc code) :: Γ):=H.qW 2 1 [1,0] [0] ql ql
 have N1:Fresh _ (Ns):=N
 have K1:Kept (Ns) (Γ):=K0.behind 0 rfl
 refine sw (xf #[.pointer (some ⟨bs,0,none⟩),.int .i64 (most+1)] rfl rfl Try.call62 (zN code ip sd bs ac cc Fc (most+1) H1 N1 K1 qf) ?_)
 clear H H1 N1 K1
 rintro _ w3 ⟨zi7,zi8,zi9,hx5,hx6,rfl,N,H⟩
 refine sp (.int .i64 zi9) (zjn (xE ?_))
 refine vT (fun m' ρ w10=>∃ (zX:Env) (k:Int) (s_at:Int) (s_seed:Int) (out:yLI),ρ=upd (upd (upd (upd zX 0 (.pointer (some ⟨bs,0,none⟩))) 1 (.int .i64 kk)) 7 (.slice (some ⟨b1,0,none⟩) kk.toNat kk.toNat)) 8 (.int .i64 k)∧(0≤k∧k≤most)∧(ip≤s_at∧s_at+2 * k≤ip+20)∧(xQ kk (most - k) out)∧m' =k.toNat∧Fresh W0.heap.size (Ns)∧St W0 w10 ((.box bs [.slice ac code.length cc,.int .i64 s_at,.int .u64 s_seed] 95) :: (rr (some ⟨b1,0,none⟩) kk.toNat kk.toNat 2 1 (out.map (Value.int .i64))) :: ps) ((sF false Fc ac cc code) :: Γ)) (zi9.toNat) ⟨_,zi9,zi7,zi8,(List.replicate kk.toNat (0:Int)),uE4,qc,qc,(by exact xQ.zero qc qc),rfl,N,H⟩ ?_
 clear H N
 rintro m' ρ w11 ⟨zX,k,s_at,s_seed,out,rfl,i1,i2,i3,rfl,N,H⟩
 have hn_out:=H.zo 1 rfl
 have i4:=i3.len qc
 refine zcc (sps [.int .i64 k,.bool (decide ((k:Int) > 0))] (zjn (cD rfl (fun h12=>?_) (fun h12=>?_))))
 ·skip
  refine xn (t_n (zF (xE (zT (sps [.slice (some ⟨b1,0,none⟩) kk.toNat kk.toNat,.pointer (some ⟨bs,0,none⟩),.int .i64 kk] ?_)))))
  have H1:St W0 w11 ((.box bs [.slice ac code.length cc,.int .i64 s_at,.int .u64 s_seed] 95) :: (rr (some ⟨b1,0,none⟩) kk.toNat kk.toNat 2 1 (out.map (Value.int .i64))) :: ps) ((sF false Fc ac cc code) :: Γ):=H.qW 2 1 [0,1] [0] ql ql
  have N1:Fresh _ (Ns):=N
  have K1:Kept (Ns) (Γ):=K0.behind 0 rfl
  refine sw (xf #[.pointer (some ⟨bs,0,none⟩),.int .i64 kk] rfl rfl Try.call62 (zN code s_at s_seed bs ac cc Fc kk H1 N1 K1 qf) ?_)
  clear H H1 N1 K1
  rintro _ w13 ⟨zi17,zi18,zi19,hx15,hx16,rfl,N,H⟩
  have i5:=i3.2 zi19.toNat qc
  refine oI rfl rfl (oL rfl (H.rowInt 1 rfl (iv:=zi19) (i:=zi19.toNat) qc qc) (sw (vN (out[zi19.toNat]!) 1 rfl rfl qc (oI rfl rfl (sw (o_storeInt H 1 rfl ((out[zi19.toNat]!)+1) Try.sizeOf2 rfl rfl (i:=zi19.toNat) qc qc fun w20 H=>?_))))))
  try dsimp only [List.set] at H
  refine vg (b_n (t_n (zT (sp (.int .i64 k) (sw (o_sub k 1 rfl rfl qc (sp (.int .i64 (k - 1)) (vg (xJ (m' :=(k - 1).toNat) qc ⟨_,k - 1,zi17,zi18,(out.set zi19.toNat ((out[zi19.toNat]!)+1)),uE4,?_,?_,?_,rfl,N,H⟩)))))))))
  · omega
  · omega
  · exact i3.up qc qc
 ·skip
  refine zx4 (zcr (sps [.slice (some ⟨b1,0,none⟩) kk.toNat kk.toNat,.slice (some ⟨b1,0,none⟩) kk.toNat kk.toNat] (zjr (ret1 (.slice (some ⟨b1,0,none⟩) kk.toNat kk.toNat) rfl rfl ⟨_,rfl,(⟨s_at,s_seed,out,(some ⟨b1,0,none⟩),kk.toNat,kk.toNat,qc,(by rw [show most=most - k by omega];exact i3),rfl,N,H.qW 2 1 [0,1] [0] ql ql⟩)⟩))))

theorem xH {W0 w:World} {ps:List Prv} {Γ:List Fact} {Ns:List yLN} (code:List UInt8) (ip:Int) (sd:Int) (bs:Nat) (ac:yOA) (cc:Nat) (Fc:yLN) (kk:Int) (most:Int) (H:St W0 w ((.box bs [.slice ac code.length cc,.int .i64 ip,.int .u64 sd] 95) :: ps) ((sF false Fc ac cc code) :: Γ)) (N:Fresh W0.heap.size (Ns)) (K0:Kept Ns Γ) (q0:0≤ip∧ip≤70000) (q1:1≤kk∧kk≤8) (q2:1≤most∧most≤6):Calls Try.prog 104 #[.pointer (some ⟨bs,0,none⟩),.int .i64 kk,.int .i64 most] w (fun e w' =>∃ v,e=.returned v∧∃ (ip_:Int) (sd_:Int) (out_:yLI) (rao:yOA) (rno:Nat) (rco:Nat),(ip≤ip_∧ip_≤ip+24)∧(xQ kk most out_∧sumL out_≠0)∧v=.slice rao rno rco∧Fresh W0.heap.size (Ns)∧St W0 w' ((.box bs [.slice ac code.length cc,.int .i64 ip_,.int .u64 sd_] 95) :: (rr rao rno rco 2 1 (out_.map (Value.int .i64))) :: ps) ((sF false Fc ac cc code) :: Γ)):=by
 refine en Try.func104 Try.ntmps104 ?_
 have ncode:=qV (H.get 0 rfl).1
 refine zcr (sp (.slice none 0 0) (zjc (sps [.pointer (some ⟨bs,0,none⟩),.int .i64 kk,.int .i64 most] ?_)))
 have H1:St W0 w ((.box bs [.slice ac code.length cc,.int .i64 ip,.int .u64 sd] 95) :: ps) ((sF false Fc ac cc code) :: Γ):=H.qW 1 1 [0] [0] ql ql
 have N1:Fresh _ (Ns):=N
 have K1:Kept (Ns) (Γ):=K0.behind 0 rfl
 refine sw (xf #[.pointer (some ⟨bs,0,none⟩),.int .i64 kk,.int .i64 most] rfl rfl Try.call65 (dFew_ok code ip sd bs ac cc Fc kk most H1 N1 K1 qf qf qf) ?_)
 clear H H1 N1 K1
 rintro _ w1 ⟨zi5,zi6,zl7,ra8,rn9,rc10,hx3,hx4,rfl,N,H⟩
 obtain rfl:=H.zo 1 rfl
 have j1:=(‹xQ kk most _›:xQ kk most zl7)
 have j2:=j1.small q1 qc
 have j3:=j1.len qc
 refine sp (.slice ra8 zl7.length rc10) (zjcc (sp (.slice ra8 zl7.length rc10) ?_))
 obtain ⟨G11,hn12,h13⟩:=H.je 1 rfl
 refine sw (oq (l01Size_ok _ zl7 h13 (by first | assumption | exact zL qi | exact jH qi)) H fun w14 H=>sp (.bool ((sumL zl7:Int) == 0)) (zjn (cE rfl (fun h16=>?_) (fun h16=>?_))))
 ·skip
  refine zT (sps [.slice ra8 zl7.length rc10,.pointer (some ⟨bs,0,none⟩),.int .i64 kk] ?_)
  have H1:St W0 w14 ((.box bs [.slice ac code.length cc,.int .i64 zi5,.int .u64 zi6] 95) :: (rr ra8 zl7.length rc10 2 1 (zl7.map (Value.int .i64))) :: ps) ((sF false Fc ac cc code) :: Γ):=H.qW 2 1 [0,1] [0] ql ql
  have N1:Fresh _ (Ns):=N
  have K1:Kept (Ns) (Γ):=K0.behind 0 rfl
  refine sw (xf #[.pointer (some ⟨bs,0,none⟩),.int .i64 kk] rfl rfl Try.call62 (zN code zi5 zi6 bs ac cc Fc kk H1 N1 K1 qf) ?_)
  clear H H1 N1 K1
  rintro _ w17 ⟨zi21,zi22,zi23,hx19,hx20,rfl,N,H⟩
  obtain ⟨b24,rfl⟩:=H.rowAddr 1 rfl qc
  refine oI rfl rfl (sw (o_storeInt H 1 rfl 1 Try.sizeOf2 rfl rfl (i:=zi23.toNat) qc qc fun w25 H=>?_))
  try dsimp only [List.set] at H
  refine zjc (sps [.slice (some ⟨b24,0,none⟩) zl7.length rc10,.slice (some ⟨b24,0,none⟩) zl7.length rc10] (zjr (ret1 (.slice (some ⟨b24,0,none⟩) zl7.length rc10) rfl rfl ⟨_,rfl,(⟨zi21,zi22,(zl7.set zi23.toNat 1),(some ⟨b24,0,none⟩),zl7.length,rc10,qc,(by first | exact ⟨j1,by assumption⟩ | exact ⟨j1.put qc,j1.one q1 qc ‹_› qc⟩),rfl,N,H.qW 2 1 [0,1] [0] ql ql⟩)⟩)))
 ·skip
  refine xn (t_n (zcr (sps [.slice ra8 zl7.length rc10,.slice ra8 zl7.length rc10] (zjr (ret1 (.slice ra8 zl7.length rc10) rfl rfl ⟨_,rfl,(⟨zi5,zi6,zl7,ra8,zl7.length,rc10,qc,(by first | exact ⟨j1,by assumption⟩ | exact ⟨j1.put qc,j1.one q1 qc ‹_› qc⟩),rfl,N,H.qW 2 1 [0,1] [0] ql ql⟩)⟩)))))
end
end Go.Proofs.Ytcpnclokildllaa
