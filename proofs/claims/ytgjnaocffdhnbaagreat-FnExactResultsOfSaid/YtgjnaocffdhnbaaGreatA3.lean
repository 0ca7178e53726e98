/- Walks and laws, printed by program and by hand: what each function comes to, for all arguments, part 3. -/
import Derived.Test.YtgjnaocffdhnbaaGreatA2
import Derived.Shelf.SlSortCmp.Whole1
import Derived.Ground.SlsfProg
import Derived.Shelf.SlicesE.Reverse
import Derived.Shelf.SlGeneric
import Derived.Ground.SlgnProg
import Derived.Test.YtgjnaocffdhnbaaGreatRows
import Derived.ProofKit
import Derived.OpenShut
import Derived.Carry
import Derived.BigQuiet
import Derived.Lib.SmallJoins
namespace Go.Proofs.YtgjnaocffdhnbaaGreat
set_option linter.unusedVariables false
set_option linter.unusedSimpArgs false
open Go.Proofs.YtgjnaocffdhnbaaGreat.Tot (tot)
open Go.Proofs.YtgjnaocffdhnbaaGreat.Mark (cnt mrk mkd mkd_mark cnt_mark)
section

noncomputable def cellT (s:qI) (t:qH) (k c:Nat):yLI:=(applL s t k).filter fun x=>decide ((s.qx[x.toNat]!).qG=(c:Int))
theorem cellT_yes {s:qI} {t:qH} {k c:Nat} (h:Appl s t k) (hc:(s.qx[k]!).qG=(c:Int)):cellT s t k c++[(k:Int)]=cellT s t (k+1) c:=by
  unfold cellT;rw [← applL_yes h,List.filter_append,List.filter_cons_of_pos (by rw [Int.toNat_natCast];exact decide_eq_true hc),List.filter_nil]
theorem Vj {s:qI} {t:qH} {k c:Nat} (h:¬ Appl s t k):cellT s t k c=cellT s t (k+1) c:=by
  unfold cellT;rw [← applL_no h]
theorem XE {s:qI} {t:qH} {k c:Nat} (h:¬ (s.qx[k]!).qG=(c:Int)):cellT s t k c=cellT s t (k+1) c:=by
  by_cases ha:Appl s t k
  · unfold cellT;rw [← applL_yes ha,List.filter_append,List.filter_cons_of_neg (by rw [Int.toNat_natCast];simpa only [decide_eq_true_eq] using h),List.filter_nil,List.append_nil]
  · exact Vj ha
def zt (s:qI) (l:yLI):yLL:=l.map fun x=>(s.qx[x.toNat]!).xn
theorem VO (s:qI) (l:yLI):(zt s l).length=l.length:=by simp [zt]
theorem needs_snoc (s:qI) (l:yLI) (x:Int):zt s l++[(s.qx[x.toNat]!).xn]=zt s (l++[x]):=by simp [zt]
theorem needs_yes {s:qI} {t:qH} {k c:Nat} (h:Appl s t k) (hc:(s.qx[k]!).qG=(c:Int)):zt s (cellT s t k c)++[(s.qx[k]!).xn]=zt s (cellT s t (k+1) c):=by
  rw [← cellT_yes h hc];exact needs_snoc s _ (k:Int)
theorem needs_take {s:qI} {l:yLI} {k:Nat} (h:k < l.length):zt s (l.take k)++[(s.qx[(l[k]!).toNat]!).xn]=zt s (l.take (k+1)):=by rw [needs_snoc,take_snoc h]
theorem needs_get {s:qI} {l:yLI} {k:Nat} (h:k < l.length):(zt s l)[k]! =(s.qx[(l[k]!).toNat]!).xn:=by
  rw [getElem!_pos (zt s l) k (by rw [VO];exact h)];simp [zt,getElem!_pos l k h]
noncomputable def zN (s:qI) (t:qH) (c:Nat):yLI:=cellT s t s.qx.length c
noncomputable def cellP (s:qI) (t:qH) (c:Nat):yLL×Int:=vC (t.qE[c]!) (zt s (zN s t c))
theorem mem_cellT {s:qI} {t:qH} {k c:Nat} {x:Int} (h:x∈cellT s t k c):0≤x∧x.toNat < k∧Appl s t x.toNat∧(s.qx[x.toNat]!).qG=(c:Int):=by
  unfold cellT at h
  obtain ⟨h1,h2⟩:=List.mem_filter.1 h
  obtain ⟨a,b,d⟩:=mem_applL.1 h1
  exact ⟨a,b,d,by simpa using h2⟩
theorem cellT_at {s:qI} {t:qH} {k c j:Nat} (h:j < (cellT s t k c).length):0≤(cellT s t k c)[j]! ∧((cellT s t k c)[j]!).toNat < k∧Appl s t ((cellT s t k c)[j]!).toNat∧(s.qx[((cellT s t k c)[j]!).toNat]!).qG=(c:Int):=
  mem_cellT (by rw [getElem!_pos _ j h];exact List.getElem_mem h)
theorem cellR_at {s:qI} {t:qH} {c j:Nat} (h:j < (zN s t c).length):0≤(zN s t c)[j]! ∧((zN s t c)[j]!).toNat < s.qx.length∧Appl s t ((zN s t c)[j]!).toNat∧(s.qx[((zN s t c)[j]!).toNat]!).qG=(c:Int):=cellT_at h
theorem ofCell_all {s:qI} (hs:jE s) (c:Int):∀ k,k≤s.qx.length→Yl s.qx c k≤8
  | 0,_=>by simp [Yl]
  | k+1,hk=>by
    have h:=ofCell_all hs c k qf
    by_cases e:(s.qx[k]!).qG=c
    · have:=(hs.2.2 k qf).2;rw [e] at this;exact this
    · rw [Yl,if_neg e];omega
theorem cellT_len {s:qI} {t:qH} {c:Nat}:∀ k,((cellT s t k c).length:Int)≤Yl s.qx (c:Int) k
  | 0=>by simp [cellT,applL,Yl]
  | k+1=>by
    have h:=cellT_len (s:=s) (t:=t) (c:=c) k
    rw [Yl]
    by_cases e:(s.qx[k]!).qG=(c:Int)
    · rw [if_pos e]
      by_cases ha:Appl s t k
      · rw [← cellT_yes ha e,List.length_append,List.length_singleton];omega
      · rw [← Vj ha];omega
    · rw [if_neg e,← XE e];omega
theorem cellT_le (s:qI) (t:qH) (k c:Nat):(cellT s t k c).length≤k:=Nat.le_trans (List.length_filter_le _ _) (applL_le s t k)
theorem cellR_len {s:qI} {t:qH} (hs:jE s) (c:Nat):(zN s t c).length≤8:=by
  have:=cellT_len (s:=s) (t:=t) (c:=c) s.qx.length
  have:=ofCell_all hs (c:Int) s.qx.length (Nat.le_refl _)
  unfold zN;omega
theorem cell_parts {s:qI} {t:qH} (hs:jE s) (c:Nat):PartsOk (QY s) (zt s (zN s t c)):=by
  intro i hi
  rw [VO] at hi
  obtain ⟨a1,a2,a3,a4⟩:=cellR_at hi
  rw [needs_get hi]
  have q:=hs.rule a2
  have b:=q.2.2.2.2.1
  have hl:=b.len
  have hsum:=q.2.2.2.2.2.2.2.2.2.1
  obtain ⟨j,hj,hp⟩:=sum_pos b.1 hsum
  exact ⟨hl,fun q' hq' =>b.get qf,j,by omega,hp⟩
theorem cell_rest {s:qI} {t:qH} (ht:zu s t) {c:Nat} (hc:c < t.qE.length):RestOk (QY s) (t.qE[c]!):=by
  have b:=(ht.2.2.2.2 c hc).1
  exact ⟨b.len,fun q hq=>b.get (by have:=b.len;omega)⟩
theorem cell_pack {s:qI} {t:qH} (hs:jE s) (ht:zu s t) {c:Nat} (hc:c < t.qE.length):YL (zt s (zN s t c)) (t.qE[c]!):=
  ⟨QY s,kinds_le hs,cell_parts hs c,cell_rest ht hc,by rw [VO];exact cellR_len hs c⟩
theorem all_cases {b:yLI} {parts:yLL}:(vC b parts=([],3))∨(Yd b≤16∧vC b parts=(packs parts parts.length 0 b,0)∧(packs parts parts.length 0 b).length≤2000):=by
  unfold vC
  split
  · exact .inl rfl
  · split
    · exact .inl rfl
    · exact .inr ⟨by omega,rfl,by omega⟩
theorem all_len (b:yLI) (parts:yLL):(vC b parts).1.length≤2000:=by
  rcases all_cases (b:=b) (parts:=parts) with h | ⟨_,h,h1⟩ <;> rw [h]
  · simp
  · exact h1
theorem all_at {b:yLI} {parts:yLL} {x:Nat} (h:x < (vC b parts).1.length):((vC b parts).1[x]!).length=parts.length:=by
  rcases all_cases (b:=b) (parts:=parts) with h1 | ⟨_,h1,_⟩
  · rw [h1] at h;simp at h
  · rw [h1] at h ⊢
    exact packs_len (by rw [getElem!_pos _ x h];exact List.getElem_mem h)
theorem all_code {b:yLI} {parts:yLL} (h:(vC b parts).2≠0):(vC b parts).2=3:=by
  rcases all_cases (b:=b) (parts:=parts) with h1 | ⟨_,h1,_⟩
  · rw [h1]
  · rw [h1] at h;exact absurd rfl h

def FewTo (s:qI) (t:qH) (k:Nat):Prop:=∀ c,c < k→(zN s t c).length=0∨¬ Yd (t.qE[c]!) > 16
theorem FewTo.succ {s:qI} {t:qH} {k:Nat} (h:FewTo s t k) (h1:(zN s t k).length=0∨¬ Yd (t.qE[k]!) > 16):FewTo s t (k+1):=fun j hj=>by
  by_cases e:j=k
  · subst e;exact h1
  · exact h j qf
def GoodP (s:qI) (t:qH) (k:Nat):Prop:=∀ c,c < k→(zN s t c).length=0∨(cellP s t c).2=0
theorem GoodP.succ {s:qI} {t:qH} {k:Nat} (h:GoodP s t k) (h1:(zN s t k).length=0∨(cellP s t k).2=0):GoodP s t (k+1):=fun j hj=>by
  by_cases e:j=k
  · subst e;exact h1
  · exact h j qf
theorem bad_sum {s:qI} {t:qH} {c n:Nat} (hc:c < n) (h:¬ (zN s t c).length=0) (h1:Yd (t.qE[c]!) > 16):¬ GoodP s t n:=fun hg=>by
  rcases hg c hc with h2 | h2
  · exact h h2
  · unfold cellP at h2;rw [all_a h1] at h2;simp at h2
theorem bad_code {s:qI} {t:qH} {c n:Nat} (hc:c < n) (h:¬ (zN s t c).length=0) (h1:¬ (cellP s t c).2=0):¬ GoodP s t n:=fun hg=>(hg c hc).elim h h1
noncomputable def Ye (s:qI) (t:qH) (k:Nat):yLN:=(List.range k).filter fun c=>decide ((zN s t c).length≠0)
noncomputable def xh (s:qI) (t:qH) (k:Nat):yLL:=(Ye s t k).map (zN s t)
noncomputable def xH (s:qI) (t:qH) (k:Nat):List yLL:=(Ye s t k).map fun c=>(cellP s t c).1
theorem live_yes {s:qI} {t:qH} {k:Nat} (h:¬ (zN s t k).length=0):Ye s t (k+1)=Ye s t k++[k]:=by unfold Ye;rw [List.range_succ,List.filter_append,List.filter_cons_of_pos (a:=k) (by simpa only [decide_eq_true_eq] using h),List.filter_nil]
theorem live_no {s:qI} {t:qH} {k:Nat} (h:(zN s t k).length=0):Ye s t (k+1)=Ye s t k:=by unfold Ye;rw [List.range_succ,List.filter_append,List.filter_cons_of_neg (by simp only [decide_eq_true_eq];exact fun x=>x h),List.filter_nil,List.append_nil]
theorem rules_yes {s:qI} {t:qH} {k:Nat} (h:¬ (zN s t k).length=0):xh s t k++[zN s t k]=xh s t (k+1):=by simp [xh,live_yes h]
theorem rules_no {s:qI} {t:qH} {k:Nat} (h:(zN s t k).length=0):xh s t k=xh s t (k+1):=by simp [xh,live_no h]
theorem packsL_yes {s:qI} {t:qH} {k:Nat} (h:¬ (zN s t k).length=0):xH s t k++[(cellP s t k).1]=xH s t (k+1):=by simp [xH,live_yes h]
theorem packsL_no {s:qI} {t:qH} {k:Nat} (h:(zN s t k).length=0):xH s t k=xH s t (k+1):=by simp [xH,live_no h]
theorem live_le (s:qI) (t:qH) (k:Nat):(Ye s t k).length≤k:=by
  have:=List.length_filter_le (fun c=>decide ((zN s t c).length≠0)) (List.range k)
  simpa [Ye] using this
theorem rules_le (s:qI) (t:qH) (k:Nat):(xh s t k).length≤k:=by simpa [xh] using live_le s t k
theorem packsL_le (s:qI) (t:qH) (k:Nat):(xH s t k).length=(xh s t k).length:=by simp [xH,xh]
theorem live_at {s:qI} {t:qH} {k i:Nat} (h:i < (xh s t k).length):∃ c,c < k∧¬ (zN s t c).length=0∧(xh s t k)[i]! =zN s t c∧(xH s t k)[i]! =(cellP s t c).1:=by
  have hl:i < (Ye s t k).length:=by simpa [xh] using h
  have hm:=List.mem_filter.1 (show (Ye s t k)[i]∈Ye s t k from List.getElem_mem hl)
  refine ⟨(Ye s t k)[i],by simpa using hm.1,by simpa using hm.2,?_,?_⟩
  · rw [getElem!_pos _ i h];simp [xh]
  · rw [getElem!_pos _ i (by rw [packsL_le];exact h)];simp [xH]

def Xz (all:List yLL):Nat→Nat
  | 0=>1
  | k+1=>Xz all k * (all[k]!).length
theorem prod_mul (all:List yLL) (k:Nat):((Xz all k:Nat):Int) * ((all[k]!).length:Int)=((Xz all (k+1):Nat):Int):=by rw [Xz,Int.natCast_mul]
theorem prod_mono {all:List yLL} {n:Nat} (h:∀ j,j < n→all[j]! ≠[]):∀ {j i:Nat},i≤j→j≤n→Xz all i≤Xz all j
  | 0, i, hi, _ => by obtain rfl : i = 0 := by omega
                      exact Nat.le_refl _
  | j+1,i,hi,hj=>by
    by_cases e:i=j+1
    · subst e;exact Nat.le_refl _
    · have h1:=prod_mono h (show i≤j by omega) qf
      have h2:0 < (all[j]!).length:=List.length_pos_iff.2 (h j qf)
      rw [Xz]
      exact Nat.le_trans h1 (Nat.le_mul_of_pos_right _ h2)
theorem prod_pre {l:List yLL} {x:yLL}:∀ {k:Nat},k≤l.length→Xz (l++[x]) k=Xz l k
  | 0,_=>rfl
  | k+1,h=>by
    rw [Xz,Xz,prod_pre qf]
    congr 1
    rw [getElem!_pos (l++[x]) k (by simp;omega),getElem!_pos l k qf,List.getElem_append_left]
theorem prod_snoc (l:List yLL) (x:yLL):Xz (l++[x]) (l++[x]).length=Xz l l.length * x.length:=by
  rw [List.length_append,List.length_singleton,Xz,prod_pre (Nat.le_refl _)]
  congr 1
  rw [getElem!_pos (l++[x]) l.length qm];simp
theorem cellP_ne {s:qI} {t:qH} (hs:jE s) (ht:zu s t) {c:Nat} (hc:c < t.qE.length) (h:(cellP s t c).2=0):(cellP s t c).1≠[]:=by
  unfold cellP at h ⊢
  rcases all_cases (b:=t.qE[c]!) (parts:=zt s (zN s t c)) with h1 | ⟨h0,h1,_⟩
  · rw [h1] at h;simp at h
  · rw [h1]
    exact packs_ne (cell_parts hs c) _ 0 _ (Nat.zero_add _) (cell_rest ht hc) (sum_few (cell_rest ht hc) h0) fun i hi=>by omega
theorem cellP_few {s:qI} {t:qH} (hs:jE s) (ht:zu s t) {c:Nat} (hc:c < t.qE.length) (hr:¬ (zN s t c).length=0):(cellP s t c).1.length≤17 ^ ((zN s t c).length - 1):=by
  unfold cellP
  rcases all_cases (b:=t.qE[c]!) (parts:=zt s (zN s t c)) with h1 | ⟨h0,h1,_⟩
  · rw [h1];simp
  · rw [h1]
    have:=packs_few (cell_parts (t:=t) hs c) ((zN s t c).length - 1) 0 _ (by rw [VO];omega) (cell_rest ht hc) (sum_few (cell_rest ht hc) h0)
    rw [VO,show (zN s t c).length=(zN s t c).length - 1+1 by omega]
    exact this
noncomputable def sumR (s:qI) (t:qH):Nat→Nat
  | 0=>0
  | k+1=>sumR s t k+(zN s t k).length
theorem filter_two (f:Int→Int) (k:Int):∀ (l:yLI),(l.filter fun x=>decide (f x < k+1)).length=(l.filter fun x=>decide (f x < k)).length+(l.filter fun x=>decide (f x=k)).length
  | []=>rfl
  | x :: l=>by
    have h:=filter_two f k l
    simp only [List.filter_cons]
    by_cases h1:f x < k
    · rw [if_pos (by simp;omega),if_pos (by simpa using h1),if_neg (by simp;omega)];simp only [List.length_cons];omega
    · by_cases h2:f x=k
      · rw [if_pos (by simp;omega),if_neg (by simpa using h1),if_pos (by simpa using h2)];simp only [List.length_cons];omega
      · rw [if_neg (by simp;omega),if_neg (by simpa using h1),if_neg (by simpa using h2)];exact h
theorem sumR_eq (s:qI) (t:qH):∀ k,sumR s t k≤((appls s t).filter fun x=>decide ((s.qx[x.toNat]!).qG < (k:Int))).length
  | 0=>Nat.zero_le _
  | k+1=>by
    have h:=sumR_eq s t k
    have h2:=filter_two (fun x=>(s.qx[x.toNat]!).qG) (k:Int) (appls s t)
    rw [sumR,show ((k+1:Nat):Int)=(k:Int)+1 by omega,h2]
    exact Nat.add_le_add h (Nat.le_refl _)
theorem sumR_le {s:qI} {t:qH} (hs:jE s) (k:Nat):sumR s t k≤16:=
  Nat.le_trans (sumR_eq s t k) (Nat.le_trans (List.length_filter_le _ _) (Nat.le_trans (applL_le s t _) hs.2.1))
theorem prod_few {s:qI} {t:qH} (hs:jE s) (ht:zu s t):∀ k,k≤t.qE.length→Xz (xH s t k) (xH s t k).length≤17 ^ (sumR s t k - 1)
  | 0,_=>by show Xz [] 0≤_;rw [Xz];exact Nat.one_le_pow _ _ qj
  | k+1,hk=>by
    have h:=prod_few hs ht k qf
    rw [sumR]
    by_cases e:(zN s t k).length=0
    · rw [← packsL_no e,e];exact h
    · rw [← packsL_yes e,prod_snoc]
      refine Nat.le_trans (Nat.mul_le_mul h (cellP_few hs ht qf e)) ?_
      rw [← Nat.pow_add]
      exact Nat.pow_le_pow_right qj qf
theorem packsL_ne {s:qI} {t:qH} (hs:jE s) (ht:zu s t) {k:Nat} (hk:k≤t.qE.length) (hg:GoodP s t k):∀ j,j < (xH s t k).length→(xH s t k)[j]! ≠[]:=fun j hj=>by
  obtain ⟨c,hc,hr,_,h2⟩:=live_at (s:=s) (t:=t) (k:=k) (i:=j) (by rw [← packsL_le];exact hj)
  rw [h2]
  exact cellP_ne hs ht qf ((hg c hc).resolve_left hr)
theorem prod_bd {s:qI} {t:qH} (hs:jE s) (ht:zu s t) {k:Nat} (hk:k≤t.qE.length) (hg:GoodP s t k):∀ j,j≤(xH s t k).length→((Xz (xH s t k) j:Nat):Int)≤2862423051509815793:=fun j hj=>by
  have h1:=prod_mono (packsL_ne hs ht hk hg) hj (Nat.le_refl _)
  have h2:=prod_few hs ht k hk
  have h3:17 ^ (sumR s t k - 1)≤17 ^ 15:=Nat.pow_le_pow_right qj (by have:=sumR_le (t:=t) hs k;omega)
  have h4:17 ^ 15=2862423051509815793:=by decide
  omega

def setTo (o r x:yLI):Nat→yLI
  | 0=>o
  | k+1=>(setTo o r x k).set (r[k]!).toNat (x[k]!)
theorem setTo_len (o r x:yLI):∀ k,(setTo o r x k).length=o.length
  | 0=>rfl
  | k+1=>by rw [setTo,List.length_set,setTo_len o r x k]
def setAll (o r x:yLI):yLI:=setTo o r x r.length
theorem setAll_len (o r x:yLI):(setAll o r x).length=o.length:=setTo_len o r x _
def nextK (G:yLL) (r:yLI) (P:yLL) (k:Nat):yLL:=(G.take k).flatMap fun o=>P.map (setAll o r)
def nextX (G:yLL) (r:yLI) (P:yLL) (k x:Nat):yLL:=nextK G r P k++(P.take x).map (setAll (G[k]!) r)
theorem nextX_zero (G:yLL) (r:yLI) (P:yLL) (k:Nat):nextK G r P k=nextX G r P k 0:=by simp [nextX]
theorem nextX_succ {G:yLL} {r:yLI} {P:yLL} {k x:Nat} (h:x < P.length) {v:yLI} (hv:v=setAll (G[k]!) r (P[x]!)):nextX G r P k x++[v]=nextX G r P k (x+1):=by
  subst hv;unfold nextX;rw [List.append_assoc,← take_snoc h,List.map_append];rfl
theorem nextX_end {G:yLL} {r:yLI} {P:yLL} {k x:Nat} (hk:k < G.length) (h:x=P.length):nextX G r P k x=nextK G r P (k+1):=by
  subst h;unfold nextX nextK;rw [List.take_length,← take_snoc hk,List.flatMap_append];simp
theorem nextK_len {G:yLL} {r:yLI} {P:yLL}:∀ {k:Nat},k≤G.length→(nextK G r P k).length=k * P.length
  | 0,_=>by simp [nextK]
  | k+1,h=>by
    rw [← nextX_end (show k < G.length by omega) rfl,nextX,List.length_append,nextK_len qf,List.take_length,List.length_map,Nat.add_mul,Nat.one_mul]
theorem nextX_len {G:yLL} {r:yLI} {P:yLL} {k x:Nat} (hk:k < G.length) (hx:x≤P.length):(nextX G r P k x).length=k * P.length+x:=by
  rw [nextX,List.length_append,nextK_len qf,List.length_map,List.length_take];omega
theorem nextX_le {G:yLL} {r:yLI} {P:yLL} {k x:Nat} (hk:k < G.length) (hx:x≤P.length):(nextX G r P k x).length≤G.length * P.length:=by
  rw [nextX_len hk hx]
  have:=Nat.mul_le_mul_right P.length (show k+1≤G.length from hk)
  rw [Nat.add_mul,Nat.one_mul] at this
  omega
def jv (n:Nat) (rs:yLL) (all:List yLL):Nat→yLL
  | 0=>[List.replicate n 0]
  | i+1=>nextK (jv n rs all i) (rs[i]!) (all[i]!) (jv n rs all i).length
theorem X5 {n:Nat} {rs:yLL} {all:List yLL}:∀ i,(jv n rs all i).length=Xz all i
  | 0=>rfl
  | i+1=>by rw [jv,nextK_len (Nat.le_refl _),X5 i,Xz]
theorem mem_at_L {l:yLL} {k:Nat} (h:k < l.length):l[k]! ∈l:=by rw [getElem!_pos l k h];exact List.getElem_mem h
theorem prodG_row {n:Nat} {rs:yLL} {all:List yLL}:∀ i,∀ x∈jv n rs all i,x.length=n
  | 0,x,h=>by obtain rfl:=List.mem_singleton.1 h;simp
  | i+1,x,h=>by
    rw [jv,nextK,List.mem_flatMap] at h
    obtain ⟨o,ho,h⟩:=h
    obtain ⟨y,_,rfl⟩:=List.mem_map.1 h
    rw [setAll_len]
    exact prodG_row i o (List.mem_of_mem_take ho)
theorem prodG_at {n:Nat} {rs:yLL} {all:List yLL} {i k:Nat} (h:k < (jv n rs all i).length):((jv n rs all i)[k]!).length=n:=prodG_row i _ (mem_at_L h)
open Classical in
noncomputable def inOrder (l:yLL):yLL:=if h:∃ m,l.Perm m∧InOrder m then Classical.choose h else l
theorem inOrder_eq {n:Nat} {l m:yLL} (hn:∀ x∈l,x.length=n) (hp:l.Perm m) (ho:InOrder m):inOrder l=m:=by
  have h:∃ m,l.Perm m∧InOrder m:=⟨m,hp,ho⟩
  unfold inOrder
  rw [dif_pos h]
  have hc:=Classical.choose_spec h
  exact order_one (n:=n) (fun x hx=>hn x (hc.1.symm.subset hx)) (hc.1.symm.trans hp) hc.2 ho
open Classical in
noncomputable def vF (s:qI) (t:qH):yLL×Int:=
  if ¬ GoodP s t s.qw.length then ([],3) else if Xz (xH s t s.qw.length) (xH s t s.qw.length).length > 300 then ([],3)
  else (inOrder (jv s.qx.length (xh s t s.qw.length) (xH s t s.qw.length) (xH s t s.qw.length).length),0)
theorem cho_3 {s:qI} {t:qH} (h:¬ GoodP s t s.qw.length∨Xz (xH s t s.qw.length) (xH s t s.qw.length).length > 300):vF s t=([],3):=by
  unfold vF
  by_cases h1:GoodP s t s.qw.length
  · rw [if_neg (by simpa using h1),if_pos (h.resolve_left (by simpa using h1))]
  · rw [if_pos h1]
theorem cho_0 {s:qI} {t:qH} {m:yLL} (h:GoodP s t s.qw.length) (h1:¬ Xz (xH s t s.qw.length) (xH s t s.qw.length).length > 300)
    (hp:(jv s.qx.length (xh s t s.qw.length) (xH s t s.qw.length) (xH s t s.qw.length).length).Perm m) (ho:InOrder m):vF s t=(m,0):=by
  unfold vF
  rw [if_neg (by simpa using h),if_neg h1,inOrder_eq (prodG_row _) hp ho]
theorem in_order {l:yLL} {i:Nat} (hi:l.length≤i) (h:∀ a b,a < b→b < i→¬ ahead (l[b]!) (l[a]!)):InOrder l:=by
  have:=(orderTo_iff (l:=l) (k:=l.length) (Nat.le_refl _)).2 fun a b hab hb=>h a b hab qf
  unfold OrderTo at this
  rwa [List.take_length] at this
theorem cho_code {s:qI} {t:qH} {b:yLI} {p:yLL} (h:¬ GoodP s t s.qw.length) (h1:¬ (vC b p).2=0):vF s t=([],(vC b p).2):=by rw [cho_3 (.inl h),all_code h1]
theorem next_le {n i k x:Nat} {rs:yLL} {all:List yLL} (h:∀ j,j < all.length→all[j]! ≠[]) (h1:¬ Xz all all.length > 300) (hi:i < all.length) (hk:k < (jv n rs all i).length) (hx:x≤(all[i]!).length):(nextX (jv n rs all i) (rs[i]!) (all[i]!) k x).length≤300:=by
  have h2:=nextX_le (r:=rs[i]!) hk hx
  have h3:=prod_mono h (show i+1≤all.length from hi) (Nat.le_refl _)
  rw [Xz,← X5 (n:=n) (rs:=rs) i] at h3
  omega
theorem G_le {n i:Nat} {rs:yLL} {all:List yLL} (h:∀ j,j < all.length→all[j]! ≠[]) (h1:¬ Xz all all.length > 300) (hi:i≤all.length):(jv n rs all i).length≤300:=by
  have h3:=prod_mono h hi (Nat.le_refl _)
  rw [X5];omega
theorem cell_few {s:qI} {t:qH} {n i:Nat} (hs:jE s) (hi:i < (xh s t n).length):((xh s t n)[i]!).length≤8∧((xH s t n)[i]!).length≤2000:=by
  obtain ⟨c,_,_,e,e1⟩:=live_at hi
  rw [e,e1]
  exact ⟨cellR_len hs c,all_len _ _⟩
theorem choice_at {s:qI} {t:qH} {n i r:Nat} (hi:i < (xh s t n).length) (hr:r < ((xh s t n)[i]!).length):0≤((xh s t n)[i]!)[r]! ∧(((xh s t n)[i]!)[r]!).toNat < s.qx.length:=by
  obtain ⟨c,_,_,e,_⟩:=live_at hi
  rw [e] at hr ⊢
  have:=cellR_at hr
  exact ⟨this.1,this.2.1⟩
theorem pack_at {s:qI} {t:qH} {n i x:Nat} (hi:i < (xh s t n).length) (hx:x < ((xH s t n)[i]!).length):(((xH s t n)[i]!)[x]!).length=((xh s t n)[i]!).length:=by
  obtain ⟨c,_,_,e,e1⟩:=live_at hi
  rw [e1] at hx ⊢
  rw [e]
  exact (all_at hx).trans (VO _ _)
theorem perm_rows {n m:Nat} {rs:yLL} {all:List yLL} {l:yLL} (h:(jv n rs all m).Perm l):∀ j,j < l.length→(l[j]!).length=n:=fun j hj=>prodG_row m _ (h.symm.subset (mem_at_L hj))
theorem perm_swap {l m:yLL} {k:Nat} (h:l.Perm m) (hk:0 < k) (hl:k < m.length):l.Perm (swapAt m k):=h.trans (swap_perm hk hl).symm
theorem cho_len (s:qI) (t:qH):(vF s t).1.length≤300:=by
  unfold vF
  split
  · simp
  · split
    · simp
    · next h1 h2=>
      show (inOrder _).length≤300
      unfold inOrder
      split
      · next h=>rw [← (Classical.choose_spec h).1.length_eq,X5];omega
      · rw [X5];omega
noncomputable def ownL (e:TypeId) (s:qI) (t:qH) (n q:Nat):List (OwnI e):=(List.range n).map fun (c:Nat)=>⟨((appls s t).take q).filter fun x=>decide ((s.qx[x.toNat]!).qG=(c:Int))⟩
theorem ownL_len (e:TypeId) (s:qI) (t:qH) (n q:Nat):(ownL e s t n q).length=n:=by simp [ownL]
theorem ownL_get {e:TypeId} {s:qI} {t:qH} {n q c:Nat} (h:c < n):(ownL e s t n q)[c]! =⟨((appls s t).take q).filter fun x=>decide ((s.qx[x.toNat]!).qG=(c:Int))⟩:=by
  rw [getElem!_pos (ownL e s t n q) c (by rw [ownL_len];exact h)];simp [ownL]
theorem ownL_zero (e:TypeId) (s:qI) (t:qH) (n:Nat):List.replicate n (⟨[]⟩:OwnI e)=ownL e s t n 0:=by
  refine List.ext_getElem (by simp [ownL]) fun i h1 h2=>by simp [ownL]
theorem ownL_set {e:TypeId} {s:qI} {t:qH} {n q c:Nat} (hq:q < (appls s t).length) (hc:(s.qx[((appls s t)[q]!).toNat]!).qG.toNat=c) (h0:0≤(s.qx[((appls s t)[q]!).toNat]!).qG) (hn:c < n)
    {l:List (OwnI e)} (hl:l=(ownL e s t n q).set c ⟨((ownL e s t n q)[c]!).l++[(appls s t)[q]!]⟩):l=ownL e s t n (q+1):=by
  subst hl
  refine List.ext_getElem (by simp [ownL]) fun i h1 h2=>?_
  have hi:i < n:=by simpa [ownL] using h1
  rw [← getElem!_pos _ i h1,← getElem!_pos _ i h2,getset (by rw [ownL_len];exact hn),ownL_get (q:=q+1) hi]
  rw [← take_snoc hq,List.filter_append]
  by_cases e' :i=c
  · subst e'
    rw [if_pos rfl,ownL_get hi,List.filter_cons_of_pos (a:=(appls s t)[q]!) (decide_eq_true qf),List.filter_nil]
  · rw [if_neg e',ownL_get hi]
    rw [List.filter_cons_of_neg (a:=(appls s t)[q]!) (fun h=>by have:=of_decide_eq_true h;omega),List.filter_nil,List.append_nil]
theorem ownL_le {e:TypeId} {s:qI} {t:qH} {n q c:Nat} (h:c < n):((ownL e s t n q)[c]!).l.length≤(appls s t).length:=by
  rw [ownL_get h]
  exact Nat.le_trans (List.length_filter_le _ _) (by rw [List.length_take];omega)
noncomputable def cellsR (s:qI) (t:qH) (n:Nat):yLL:=(List.range n).map (zN s t)
theorem cellsR_len (s:qI) (t:qH) (n:Nat):(cellsR s t n).length=n:=by simp [cellsR]
theorem cellsR_get {s:qI} {t:qH} {n c:Nat} (h:c < n):(cellsR s t n)[c]! =zN s t c:=by
  rw [getElem!_pos (cellsR s t n) c (by rw [cellsR_len];exact h)];simp [cellsR]
theorem ownL_end {e:TypeId} {s:qI} {t:qH} {n q:Nat} (h:(appls s t).length≤q):(ownL e s t n q).map OwnI.l=cellsR s t n:=by
  unfold ownL cellsR
  rw [List.take_of_length_le h,List.map_map]
  rfl
theorem own_bad {s:qI} {t:qH} (hs:jE s) {q:Nat} (hq:q < (appls s t).length) (h1:Yd (t.qE[(s.qx[((appls s t)[q]!).toNat]!).qG.toNat]!) > 16):¬ GoodP s t s.qw.length:=by
  have hm:(appls s t)[q]! ∈appls s t:=by rw [getElem!_pos _ q hq];exact List.getElem_mem hq
  obtain ⟨a,b,d⟩:=mem_applL.1 hm
  have hc:=(hs.rule b).1
  have hcl:=(hs.rule b).cell
  refine bad_sum (c:=(s.qx[((appls s t)[q]!).toNat]!).qG.toNat) hcl (fun h0=>?_) h1
  have:(appls s t)[q]! ∈zN s t (s.qx[((appls s t)[q]!).toNat]!).qG.toNat:=by
    unfold zN cellT
    exact List.mem_filter.2 ⟨hm,decide_eq_true (Int.toNat_of_nonneg hc.1).symm⟩
  rw [List.eq_nil_of_length_eq_zero h0] at this
  simp at this
noncomputable def Xf (s:qI) (t:qH) (k:Nat):List inCellD:=(Ye s t k).map fun c=>⟨zN s t c,(cellP s t c).1⟩
theorem cells_len (s:qI) (t:qH) (k:Nat):(Xf s t k).length=(xh s t k).length:=by simp [Xf,xh]
theorem cells_yes {s:qI} {t:qH} {k:Nat} (h:¬ (zN s t k).length=0):Xf s t k++[⟨zN s t k,(cellP s t k).1⟩]=Xf s t (k+1):=by simp [Xf,live_yes h]
theorem cells_no {s:qI} {t:qH} {k:Nat} (h:(zN s t k).length=0):Xf s t k=Xf s t (k+1):=by simp [Xf,live_no h]
theorem cells_at {s:qI} {t:qH} {k i:Nat} (h:i < (Xf s t k).length):((Xf s t k)[i]!).frules=(xh s t k)[i]! ∧((Xf s t k)[i]!).fpackings=(xH s t k)[i]! :=by
  have h1:i < (xh s t k).length:=by rw [← cells_len];exact h
  have h2:i < (xH s t k).length:=by rw [packsL_le];exact h1
  rw [getElem!_pos _ i h,getElem!_pos _ i h1,getElem!_pos _ i h2]
  simp [Xf,xh,xH]
theorem prod_stop {all:List yLL} {n i k:Nat} (h:∀ j,j < n→all[j]! ≠[]) (hi:i < n) {G:yLL} {r:yLI} (hG:G.length=Xz all i) (hk:k≤G.length) (h1:(nextK G r (all[i]!) k).length > 300):Xz all n > 300:=by
  rw [nextK_len hk] at h1
  have h2:=prod_mono h (show i+1≤n from hi) (Nat.le_refl _)
  rw [Xz,← hG] at h2
  have h3:=Nat.mul_le_mul_right (all[i]!).length hk
  omega
theorem appls_inH {s:qI} {t:qH} {q:Nat} (hq:q < (appls s t).length):0≤(appls s t)[q]! ∧((appls s t)[q]!).toNat < s.qx.length∧Appl s t ((appls s t)[q]!).toNat:=by
  have hm:(appls s t)[q]! ∈appls s t:=by rw [getElem!_pos _ q hq];exact List.getElem_mem hq
  exact mem_applL.1 hm
theorem bagAny_okH {l:yLI}:vI (l.length:Int) l↔Yg l:=⟨fun h=>h.1,fun h=>⟨h,rfl⟩⟩
theorem sumTo_ge {l:yLI} (h:∀ k,k < l.length→0≤l[k]!):∀ n,n≤l.length→0≤sumTo l n∧∀ j,j < n→l[j]! ≤sumTo l n
  | 0,_=>⟨by simp [sumTo],fun j hj=>by omega⟩
  | n+1,hn=>by
    obtain ⟨h1,h2⟩:=sumTo_ge h n qf
    have h3:=h n qf
    rw [sumTo]
    refine ⟨by omega,fun j hj=>?_⟩
    by_cases e:j=n
    · subst e;omega
    · have:=h2 j qf;omega
theorem YL.bags {parts:yLL} {rest:yLI} (h:YL parts rest) (h1:1≤parts.length):
    Yg rest∧parts.length≤8∧∀ i,i < parts.length→Yg (parts[i]!)∧(parts[i]!).length=rest.length∧Yd (parts[i]!)≠0:=by
  obtain ⟨K,hK,hP,hR,hn⟩:=h
  have bag:∀ i,i < parts.length→Yg (parts[i]!)∧(parts[i]!).length=rest.length∧Yd (parts[i]!)≠0:=fun i hi=>by
    obtain ⟨hl,hb,j,hj,hp⟩:=hP i hi
    refine ⟨⟨fun k hk=>hb k qf,by omega,by omega⟩,by have:=hR.1;omega,?_⟩
    have:=(sumTo_ge (l:=parts[i]!) (fun k hk=>(hb k qf).1) _ (Nat.le_refl _)).2 j qf
    unfold Yd;omega
  obtain ⟨hl,_,j,hj,_⟩:=hP 0 qf
  exact ⟨⟨fun k hk=>hR.2 k (by have:=hR.1;omega),by have:=hR.1;omega,by have:=hR.1;omega⟩,hn,bag⟩
theorem pack_begin {cs cn:yLI} {i:Nat} {n:Int} (hc:i < cn.length) (h2:cn.take i=cs.take i):(cn.set i n).take (i+1)=cs.take i++[n]:=by
  rw [List.take_add_one,List.take_set_of_le (Nat.le_refl _),h2,List.getElem?_set_self hc];rfl
theorem pack_keep {cs cn c2:yLI} {i:Nat} {n:Int} (h:c2.take (i+1)=(cn.set i n).take (i+1)) (h2:cn.take i=cs.take i):c2.take i=cs.take i:=by
  have:=congrArg (List.take i) h
  rwa [List.take_take,List.take_take,Nat.min_eq_left qf,List.take_set_of_le (Nat.le_refl _),h2] at this
theorem pack_stepI {parts:yLL} {rest cs cn:yLI} {out:yLL} {f i n:Nat} (hf:i+f=parts.length) (hp:i < parts.length) (hc:cn.length=parts.length) (h2:cn.take i=cs.take i)
    (h:(gath out (begins (cs.take i) (jM parts (f - 1) i rest n))).length≤2000):
    gath (gath out (begins (cs.take i) (jM parts (f - 1) i rest n))) (begins ((cn.set i (n:Int)).take (i+1)) (packs parts (parts.length - (i+1)) (i+1) (ji rest (parts[i]!) (-(n:Int)))))=gath out (begins (cs.take i) (jM parts (f - 1) i rest (n+1))):=by
  rw [pack_begin qf h2,← gath_step h,show parts.length - (i+1)=f - 1 by omega]
theorem pack_startI {parts:yLL} {rest cs:yLI} {out:yLL} {f i:Nat} (h:out.length≤2000):out=gath out (begins (cs.take i) (jM parts f i rest 0)):=by
  rw [packsTo_zero];exact (gath_nil qf).symm
theorem pack_fullI {parts:yLL} {rest cs:yLI} {out:yLL} {i:Nat} (hl:i=parts.length) (hc:cs.length=parts.length) (h:FullOk parts rest) (ho:out.length≤2000):
    gath out (begins (cs.take i) (packs parts (parts.length - i) i rest))=out++[cs]:=by
  rw [show parts.length - i=0 by omega,packs_full h,begins_one,gath_one ho,List.take_of_length_le qf]
theorem pack_noneI {parts:yLL} {rest cs:yLI} {out:yLL} {i:Nat} (hl:i=parts.length) (h:¬ FullOk parts rest) (ho:out.length≤2000):
    gath out (begins (cs.take i) (packs parts (parts.length - i) i rest))=out:=by
  rw [show parts.length - i=0 by omega,packs_none h];exact gath_nil qf
theorem pack_endI {parts:yLL} {rest cs:yLI} {out:yLL} {f i n:Nat} (hf:i+f=parts.length) (hp:i < parts.length) (hn:(n:Int)≤jD (parts[i]!) rest+1)
    (h0:0≤jD (parts[i]!) rest) (h:¬ (n:Int)≤jD (parts[i]!) rest∨¬ (gath out (begins (cs.take i) (jM parts (f - 1) i rest n))).length≤2000):
    gath out (begins (cs.take i) (packs parts (parts.length - i) i rest))=gath out (begins (cs.take i) (jM parts (f - 1) i rest n)):=by
  obtain ⟨f,rfl⟩:∃ g,f=g+1:=⟨f - 1,by omega⟩
  rw [show parts.length - i=f+1 by omega]
  rw [show f+1 - 1=f from rfl] at h ⊢
  exact (gath_end qf (by rcases h with h | h;(left;omega);(right;omega))).symm
theorem all_bI {b cs:yLI} {parts:yLL} (h:¬ Yd b > 16) (h1:(gath ([]:yLL) (begins (cs.take 0) (packs parts (parts.length - 0) 0 b))).length > 2000):vC b parts=([],3):=by
  rw [show cs.take 0=[] from rfl,begins_nil] at h1
  have h2:(packs parts parts.length 0 b).length > 2000:=gath_all.1 h1
  rw [vC,if_neg h,if_pos h2]
theorem all_0I {b cs:yLI} {parts:yLL} (h:¬ Yd b > 16) (h1:¬ (gath ([]:yLL) (begins (cs.take 0) (packs parts (parts.length - 0) 0 b))).length > 2000):vC b parts=(gath ([]:yLL) (begins (cs.take 0) (packs parts (parts.length - 0) 0 b)),0):=by
  rw [show cs.take 0=[] from rfl,begins_nil] at h1 ⊢
  have h2:¬ (packs parts parts.length 0 b).length > 2000:=fun h=>h1 (gath_all.2 h)
  rw [vC,if_neg h,if_neg h2,show parts.length - 0=parts.length from rfl,gath_few h2]
def dotP:yLI→yLL→Nat→Int
  | n :: y,p :: ps,q=>n * p[q]! +dotP y ps q
  | _,_,_=>0
theorem packs_mem {K:Nat} {parts:yLL} (hP:PartsOk K parts):∀ (f k:Nat) (rest y:yLI),k+f=parts.length→RestOk K rest→y∈packs parts f k rest→
    (∀ v∈y,0≤v∧v≤1000)∧∀ q,q < K→0≤rest[q]! - dotP y (parts.drop k) q
  | 0,k,rest,y,hk,hR,h=>by
    rw [packs] at h
    split at h
    · obtain rfl:=List.mem_singleton.1 h
      refine ⟨fun v hv=>by simp at hv,fun q hq=>?_⟩
      have:=(hR.2 q hq).1
      simp only [dotP];omega
    · simp at h
  | f+1,k,rest,y,hk,hR,h=>by
    rw [packs,List.mem_flatMap] at h
    obtain ⟨n,hn,h⟩:=h
    obtain ⟨y',hy,rfl⟩:=List.mem_map.1 h
    have hb:=times_bd hP hR (k:=k) qf
    rw [List.mem_range] at hn
    obtain ⟨h1,h2⟩:=packs_mem hP f (k+1) _ y' qf (hR.take hP qf (n:=(n:Int)) qf qf) hy
    refine ⟨fun v hv=>?_,fun q hq=>?_⟩
    · rcases List.mem_cons.1 hv with rfl | hv
      · omega
      · exact h1 v hv
    · have h3:=h2 q hq
      rw [plus_get (by have:=hR.1;omega),Int.neg_mul] at h3
      rw [drop_cons' (show k < parts.length by omega),dotP]
      omega
where
  drop_cons' {l:yLL} {i:Nat} (h:i < l.length):l.drop i=l[i]! :: l.drop (i+1):=by
    rw [getElem!_pos l i h];exact (List.drop_eq_getElem_cons h)
def YW (s:qI) (x:yLI) (q:Nat):yLI→Int
  | []=>0
  | r :: l=>x[r.toNat]! * ((s.qx[r.toNat]!).xn)[q]! +YW s x q l
theorem sumOver_cat (s:qI) (x:yLI) (q:Nat):∀ (l m:yLI),YW s x q (l++m)=YW s x q l+YW s x q m
  | [],m=>by simp [YW]
  | r :: l,m=>by rw [List.cons_append,YW,YW,sumOver_cat s x q l m];omega
theorem sumOver_dot {s:qI} {x:yLI} {q:Nat}:∀ {l y:yLI},y.length=l.length→(∀ j,j < l.length→x[(l[j]!).toNat]! =y[j]!)→YW s x q l=dotP y (zt s l) q
  | [],[],_,_=>rfl
  | [],_ :: _,h,_=>by simp at h
  | _ :: _,[],h,_=>by simp at h
  | r :: l,v :: y,h,h1=>by
    have h0:=h1 0 qm
    simp only [List.getElem!_cons_zero] at h0
    show _=dotP (v :: y) ((s.qx[r.toNat]!).xn :: zt s l) q
    rw [YW,dotP,h0,sumOver_dot (by simpa using h) fun j hj=>by simpa using h1 (j+1) (by simp;omega)]
theorem needS_cell {s:qI} {t:qH} {x:yLI} {c q:Nat} (hs:jE s):∀ k,k≤s.qx.length→(∀ i,i < k→(s.qx[i]!).qG=(c:Int)→¬ Appl s t i→x[i]! =0)→needS s x k c q= -(YW s x q (cellT s t k c))
  | 0,_,_=>by simp [needS,cellT,applL,YW]
  | k+1,hk,h=>by
    have ih:=needS_cell (t:=t) (c:=c) (q:=q) hs k qf fun i hi=>h i qf
    rw [needS,ih,needF,at']
    by_cases e:(s.qx[k]!).qG=(c:Int)
    · rw [if_pos qf]
      by_cases ha:Appl s t k
      · rw [← cellT_yes ha e,sumOver_cat]
        simp only [YW,Int.toNat_natCast]
        rw [Int.neg_mul];omega
      · rw [← Vj ha,h k qf e ha]
        simp
    · rw [if_neg (fun h' =>e (by have:=(hs.rule (i:=k) qf).1.1;omega)),← XE e];omega

theorem setTo_ne {o r x:yLI} {p:Nat}:∀ {k:Nat},(∀ j,j < k→(r[j]!).toNat≠p)→(∀ j,j < k→(r[j]!).toNat < o.length)→(setTo o r x k)[p]! =o[p]!
  | 0,_,_=>rfl
  | k+1,h,h1=>by
    rw [setTo,getset (by rw [setTo_len];exact h1 k qf),if_neg (fun e=>h k qf e.symm)]
    exact setTo_ne (fun j hj=>h j qf) fun j hj=>h1 j qf
theorem setTo_eq {o r x:yLI} {j:Nat}:∀ {k:Nat},(∀ a b,a < k→b < k→(r[a]!).toNat=(r[b]!).toNat→a=b)→(∀ j,j < k→(r[j]!).toNat < o.length)→j < k→(setTo o r x k)[(r[j]!).toNat]! =x[j]!
  | 0,_,_,h=>by omega
  | k+1,hi,h1,hj=>by
    rw [setTo,getset (by rw [setTo_len];exact h1 k qf)]
    by_cases e:j=k
    · subst e;rw [if_pos rfl]
    · rw [if_neg (fun e' =>e (hi j k qf qf e'))]
      exact setTo_eq (fun a b ha hb=>hi a b qf qf) (fun j hj=>h1 j qf) qf
theorem inj_lt {α:Type} [LT α] {l:List α} (irr:∀ x:α,¬ x < x) (h:l.Pairwise (· < ·)) {a b:Nat} (ha:a < l.length) (hb:b < l.length) (e:l[a]=l[b]):a=b:=by
  rw [List.pairwise_iff_getElem] at h
  rcases Nat.lt_trichotomy a b with h1 | h1 | h1
  · have:=h a b ha hb h1;rw [e] at this;exact absurd this (irr _)
  · exact h1
  · have:=h b a hb ha h1;rw [e] at this;exact absurd this (irr _)
theorem applL_lt (s:qI) (t:qH) (k:Nat):(applL s t k).Pairwise (· < ·):=by
  unfold applL
  rw [List.pairwise_map]
  exact (List.pairwise_lt_range.filter _).imp fun h=>by simpa using h
theorem cellR_inj {s:qI} {t:qH} {c a b:Nat} (ha:a < (zN s t c).length) (hb:b < (zN s t c).length) (h:((zN s t c)[a]!).toNat=((zN s t c)[b]!).toNat):a=b:=by
  have h1:=(cellR_at ha).1
  have h2:=(cellR_at hb).1
  have hn:(zN s t c).Pairwise (· < ·):=by unfold zN cellT;exact (applL_lt s t _).filter _
  have e:(zN s t c)[a]! =(zN s t c)[b]! :=by omega
  rw [getElem!_pos _ a ha,getElem!_pos _ b hb] at e
  exact inj_lt (fun x=>by omega) hn ha hb e
theorem live_cell {s:qI} {t:qH} {k i i' :Nat} (h:i < (xh s t k).length) (h' :i' < (xh s t k).length):∃ c c',(xh s t k)[i]! =zN s t c∧(xh s t k)[i']! =zN s t c' ∧(c=c' →i=i'):=by
  have hl:i < (Ye s t k).length:=by simpa [xh] using h
  have hl' :i' < (Ye s t k).length:=by simpa [xh] using h'
  have hn:(Ye s t k).Pairwise (· < ·):=by unfold Ye;exact List.pairwise_lt_range.filter _
  refine ⟨(Ye s t k)[i],(Ye s t k)[i'],?_,?_,fun e=>inj_lt (fun x=>by omega) hn hl hl' e⟩
  · rw [getElem!_pos _ i h];simp [xh]
  · rw [getElem!_pos _ i' h'];simp [xh]
theorem rules_inj {s:qI} {t:qH} {k i i' j j' :Nat} (h:i < (xh s t k).length) (h' :i' < (xh s t k).length) (hj:j < ((xh s t k)[i]!).length) (hj' :j' < ((xh s t k)[i']!).length)
    (e:(((xh s t k)[i]!)[j]!).toNat=(((xh s t k)[i']!)[j']!).toNat):i=i' ∧j=j' :=by
  obtain ⟨c,c',e1,e2,e3⟩:=live_cell h h'
  rw [e1] at hj e
  rw [e2] at hj' e
  have h1:=cellR_at hj
  have h2:=cellR_at hj'
  have hc:c=c' :=by
    have a:=h1.2.2.2
    have b:=h2.2.2.2
    rw [e] at a
    omega
  subst hc
  exact ⟨e3 rfl,cellR_inj hj hj' e⟩
def Says (s:qI) (t:qH) (k m:Nat) (x:yLI):Prop:=
  x.length=s.qx.length∧(∀ i,i < m→∃ y,y∈(xH s t k)[i]! ∧∀ j,j < ((xh s t k)[i]!).length→x[(((xh s t k)[i]!)[j]!).toNat]! =y[j]!)∧
  ∀ r,r < s.qx.length→(∀ i,i < m→∀ j,j < ((xh s t k)[i]!).length→(((xh s t k)[i]!)[j]!).toNat≠r)→x[r]! =0
theorem prodG_says {s:qI} {t:qH} {k:Nat}:∀ m,m≤(xh s t k).length→∀ x∈jv s.qx.length (xh s t k) (xH s t k) m,Says s t k m x
  | 0,_,x,h=>by
    obtain rfl:=List.mem_singleton.1 h
    refine ⟨by simp,fun i hi=>by omega,fun r hr _=>?_⟩
    rw [getElem!_pos _ r (by simpa using hr)];simp
  | m+1,hm,x,h=>by
    rw [jv,nextK,List.mem_flatMap] at h
    obtain ⟨o,ho,h⟩:=h
    obtain ⟨y,hy,rfl⟩:=List.mem_map.1 h
    obtain ⟨h1,h2,h3⟩:=prodG_says m qf o (List.mem_of_mem_take ho)
    have hb:∀ j,j < ((xh s t k)[m]!).length→(((xh s t k)[m]!)[j]!).toNat < o.length:=fun j hj=>by rw [h1];exact (choice_at qf hj).2
    have hn:∀ a b,a < ((xh s t k)[m]!).length→b < ((xh s t k)[m]!).length→(((xh s t k)[m]!)[a]!).toNat=(((xh s t k)[m]!)[b]!).toNat→a=b:=fun a b ha hb' e=>(rules_inj (show m < _ by omega) (show m < _ by omega) ha hb' e).2
    refine ⟨by rw [setAll_len];exact h1,fun i hi=>?_,fun r hr hne=>?_⟩
    · by_cases e:i=m
      · subst e
        exact ⟨y,hy,fun j hj=>setTo_eq hn hb hj⟩
      · obtain ⟨y',hy',h4⟩:=h2 i qf
        refine ⟨y',hy',fun j hj=>?_⟩
        rw [← h4 j hj]
        exact setTo_ne (fun a ha e' =>e (rules_inj (show m < _ by omega) (show i < _ by omega) ha hj e').1.symm) hb
    · rw [← h3 r hr fun i hi j hj=>hne i qf j hj]
      exact setTo_ne (fun a ha=>hne m qf a ha) hb
theorem cell_live {s:qI} {t:qH} {k c:Nat} (hk:c < k) (h:¬ (zN s t c).length=0):∃ i,i < (xh s t k).length∧(xh s t k)[i]! =zN s t c∧(xH s t k)[i]! =(cellP s t c).1:=by
  have hm:c∈Ye s t k:=List.mem_filter.2 ⟨List.mem_range.2 hk,decide_eq_true h⟩
  obtain ⟨i,hi,e⟩:=List.mem_iff_getElem.1 hm
  refine ⟨i,by simpa [xh] using hi,?_,?_⟩
  · rw [getElem!_pos _ i (by simpa [xh] using hi)];simp [xh,e]
  · rw [getElem!_pos _ i (by simpa [xH] using hi)];simp [xH,e]
theorem says_choice {s:qI} {t:qH} (hs:jE s) (ht:zu s t) {x:yLI} (h:Says s t s.qw.length (xh s t s.qw.length).length x):CntOk s x∧IsCh s t x:=by
  obtain ⟨h1,h2,h3⟩:=h
  have hB:=ht.2.1
  -- a packing of a cell
  have cell:∀ c,c < s.qw.length→¬ (zN s t c).length=0→∃ y,y.length=(zN s t c).length∧(∀ v∈y,0≤v∧v≤1000)∧(∀ j,j < (zN s t c).length→x[((zN s t c)[j]!).toNat]! =y[j]!)∧∀ q,q < QY s→0≤(t.qE[c]!)[q]! - dotP y (zt s (zN s t c)) q:=fun c hc hr=>by
    obtain ⟨i,hi,e1,e2⟩:=cell_live (s:=s) (t:=t) hc hr
    obtain ⟨y,hy,h4⟩:=h2 i hi
    rw [e1] at h4
    rw [e2] at hy
    unfold cellP at hy
    rcases all_cases (b:=t.qE[c]!) (parts:=zt s (zN s t c)) with h5 | ⟨_,h5,_⟩
    · rw [h5] at hy;simp at hy
    · rw [h5] at hy
      have h6:=packs_mem (cell_parts (t:=t) hs c) _ 0 _ y (Nat.zero_add _) (cell_rest ht qf) hy
      exact ⟨y,(packs_len hy).trans (VO _ _),h6.1,h4,h6.2⟩
  have at' :∀ i,i < s.qx.length→(x[i]! =0∨Appl s t i)∧0≤x[i]! ∧x[i]! ≤1000:=fun i hi=>by
    by_cases hex:∃ a b,a < (xh s t s.qw.length).length∧b < ((xh s t s.qw.length)[a]!).length∧(((xh s t s.qw.length)[a]!)[b]!).toNat=i
    · obtain ⟨a,b,ha,hb,e⟩:=hex
      obtain ⟨c,hc,hr,e1,_⟩:=live_at ha
      rw [e1] at hb e
      obtain ⟨y,hl,hv,hx,_⟩:=cell c hc hr
      have h5:=cellR_at hb
      have h6:=hx b hb
      rw [e] at h5 h6
      have h7:=hv (y[b]!) (by rw [getElem!_pos y b qf];exact List.getElem_mem _)
      rw [h6]
      exact ⟨.inr h5.2.2.1,h7⟩
    · have h5:=h3 i hi fun a ha b hb e=>hex ⟨a,b,ha,hb,e⟩
      rw [h5]
      exact ⟨.inl rfl,by omega,by omega⟩
  have hc:CntOk s x:=⟨h1,fun i hi=>(at' i qf).2⟩
  refine ⟨hc,fun i hi hb=>?_,fun p hp q hq=>?_⟩
  · rcases (at' i qf).1 with h5 | h5
    · have:=hb.1;omega
    · exact hb.2 h5
  · rw [h1] at hq ⊢
    have he:=restR_ent hs ht hc s.qx.length (Nat.le_refl _)
    have hl:((Qz s t x s.qx.length)[p]!).length=QY s:=(he.sh.2 p (by unfold jr;omega)).1
    have heq:=he.eq p q (by unfold jr;omega) qf
    rw [heq]
    have hn:=needS_cell (t:=t) (x:=x) (c:=p) (q:=q) hs s.qx.length (Nat.le_refl _) fun i hi _ ha=>((at' i hi).1).resolve_right ha
    rw [hn]
    have hbag:=(cell_rest (s:=s) ht hp).2 q qf
    by_cases hr:(zN s t p).length=0
    · show 0≤(t.qE[p]!)[q]! + -(YW s x q (zN s t p))
      rw [List.eq_nil_of_length_eq_zero hr]
      simp only [YW];omega
    · obtain ⟨y,hy,_,hx,hd⟩:=cell p qf hr
      have h6:=hd q qf
      rw [← sumOver_dot hy hx] at h6
      show 0≤(t.qE[p]!)[q]! + -(YW s x q (zN s t p))
      omega
theorem cho_ok {s:qI} {t:qH} (hs:jE s) (ht:zu s t) {k:Nat} (hk:k < (vF s t).1.length):CntOk s ((vF s t).1[k]!)∧IsCh s t ((vF s t).1[k]!):=by
  have hm:(vF s t).1[k]! ∈(vF s t).1:=mem_at_L hk
  generalize (vF s t).1[k]! =x at hm
  unfold vF at hm
  split at hm
  · simp at hm
  · split at hm
    · simp at hm
    · have hx:x∈inOrder (jv s.qx.length (xh s t s.qw.length) (xH s t s.qw.length) (xH s t s.qw.length).length):=hm
      unfold inOrder at hx
      have hle:=packsL_le s t s.qw.length
      split at hx
      · next h=>exact says_choice hs ht (by rw [← hle];exact prodG_says _ qf x ((Classical.choose_spec h).1.symm.subset hx))
      · exact says_choice hs ht (by rw [← hle];exact prodG_says _ qf x hx)
theorem halt_cells {s:qI} {t:qH} (h:Halted s t) (c:Nat):(zN s t c).length=0:=by
  have h1:=appls_halt.2 h
  have h2:(zN s t c).length≤(appls s t).length:=List.length_filter_le _ _
  omega
theorem halt_live {s:qI} {t:qH} (h:Halted s t):∀ k,xH s t k=[]
  | 0=>rfl
  | k+1=>by rw [← packsL_no (halt_cells h k)];exact halt_live h k
theorem halt_cho {s:qI} {t:qH} (h:Halted s t):(vF s t).2=0:=by
  unfold vF
  rw [if_neg (fun h' =>h' fun c _=>.inl (halt_cells h c)),halt_live h,if_neg (by show ¬ 1 > 300;omega)]
open Classical in
noncomputable def xe (s:qI) (t:qH):List qH×Int:=if Halted s t then ([],0) else if (vF s t).2≠0 then ([],(vF s t).2) else QH s t (vF s t).1
theorem succ_h {s:qI} {t:qH} (h:Halted s t):xe s t=([],0):=by rw [xe,if_pos h]
theorem succ_c {s:qI} {t:qH} (h:(vF s t).2≠0):xe s t=([],(vF s t).2):=by rw [xe,if_neg (fun h' =>h (halt_cho h')),if_pos h]
theorem succ_0 {s:qI} {t:qH} (h:¬ Halted s t) (h1:(vF s t).2=0):xe s t=QH s t (vF s t).1:=by rw [xe,if_neg h,if_neg (fun x=>x h1)]
theorem nextTo_ok {s:qI} {t:qH} {cs:yLL}:∀ {k:Nat},NoBad s t cs k→∀ u∈yc s t cs k,zu s u
  | 0,_,u,hu=>by simp [yc] at hu
  | k+1,h,u,hu=>by
    have ih:=nextTo_ok (s:=s) (t:=t) (cs:=cs) (k:=k) fun j hj=>h j qf
    rw [yc] at hu
    split at hu
    · exact ih u hu
    · rcases List.mem_append.1 hu with h1 | h1
      · exact ih u h1
      · obtain rfl:=List.mem_singleton.1 h1
        exact stepBy_ok (Classical.byContradiction fun hc=>h k qf hc)
theorem succ_ok {s:qI} {t:qH}:∀ u∈(xe s t).1,zu s u:=fun u hu=>by
  rw [xe] at hu
  split at hu
  · simp at hu
  · split at hu
    · simp at hu
    · rw [QH] at hu
      split at hu
      · next h=>exact nextTo_ok h u hu
      · simp at hu
theorem least_of {g:Nat→Bool}:∀ k,g k=true→∃ m,m≤k∧g m=true∧∀ j,j < m→g j=false:=fun k=>Nat.strongRecOn k fun k ih h=>by
  by_cases hx:∃ j,j < k∧g j=true
  · obtain ⟨j,hj,h1⟩:=hx
    obtain ⟨m,a,b,c⟩:=ih j hj h1
    exact ⟨m,by omega,b,c⟩
  · exact ⟨k,Nat.le_refl _,h,fun j hj=>by
      cases e:g j with
      | false=>rfl
      | true=>exact absurd ⟨j,hj,e⟩ hx⟩
theorem firstIdx_lt {g:Nat→Bool} {n:Nat} (h:0≤firstIdx g n):(firstIdx g n).toNat < n:=by
  by_cases hx:∃ k,k < n∧g k=true
  · obtain ⟨k,hk,h1⟩:=hx
    obtain ⟨m,a,b,c⟩:=least_of k h1
    rw [firstIdx_some (show m < n by omega) c b];omega
  · rw [firstIdx_none (fun j hj=>by
      cases e:g j with
      | false=>rfl
      | true=>exact absurd ⟨j,hj,e⟩ hx)] at h
    omega
def vz (S nx:List qH):Nat→List qH×yLI
  | 0=>(S,[])
  | k+1=>if firstIdx (fun j=>decide ((vz S nx k).1[j]! =nx[k]!)) (vz S nx k).1.length < 0 then ((vz S nx k).1++[nx[k]!],(vz S nx k).2++[((vz S nx k).1.length:Int)])
    else ((vz S nx k).1,(vz S nx k).2++[firstIdx (fun j=>decide ((vz S nx k).1[j]! =nx[k]!)) (vz S nx k).1.length])
theorem YK {S nx:List qH} {k:Nat} (h:firstIdx (fun j=>decide ((vz S nx k).1[j]! =nx[k]!)) (vz S nx k).1.length < 0):
    (vz S nx k).1++[nx[k]!]=(vz S nx (k+1)).1∧(vz S nx k).2++[((vz S nx k).1.length:Int)]=(vz S nx (k+1)).2:=by
  rw [vz,if_pos h];exact ⟨rfl,rfl⟩
theorem YJ {S nx:List qH} {k:Nat} (h:¬ firstIdx (fun j=>decide ((vz S nx k).1[j]! =nx[k]!)) (vz S nx k).1.length < 0):
    (vz S nx k).1=(vz S nx (k+1)).1∧(vz S nx k).2++[firstIdx (fun j=>decide ((vz S nx k).1[j]! =nx[k]!)) (vz S nx k).1.length]=(vz S nx (k+1)).2:=by
  rw [vz,if_neg h];exact ⟨rfl,rfl⟩
theorem addSt_len {S nx:List qH}:∀ k,S.length≤(vz S nx k).1.length∧(vz S nx k).1.length≤S.length+k∧(vz S nx k).2.length=k
  | 0=>⟨Nat.le_refl _,Nat.le_refl _,rfl⟩
  | k+1=>by
    have h:=addSt_len (S:=S) (nx:=nx) k
    rw [vz]
    split <;> simp only [List.length_append,List.length_cons,List.length_nil] <;> omega
theorem addSt_mem {S nx:List qH} {p:qH→Prop} (h1:∀ u∈S,p u) (h2:∀ u∈nx,p u):∀ k,k≤nx.length→∀ u∈(vz S nx k).1,p u
  | 0,_,u,hu=>h1 u hu
  | k+1,hk,u,hu=>by
    have ih:=addSt_mem h1 h2 k qf
    rw [vz] at hu
    split at hu
    · rcases List.mem_append.1 hu with h | h
      · exact ih u h
      · obtain rfl:=List.mem_singleton.1 h
        exact h2 _ (by rw [getElem!_pos nx k qf];exact List.getElem_mem _)
    · exact ih u hu
noncomputable def grGo (s:qI):Nat→Nat→List qH→yLL→(List qH×yLL)×Int
  | 0,_,S,R=>((S,R),0)
  | f+1,i,S,R=>if S.length≤i then ((S,R),0) else if (xe s (S[i]!)).2≠0 then (([],[]),(xe s (S[i]!)).2)
    else if (vz S (xe s (S[i]!)).1 (xe s (S[i]!)).1.length).1.length > 300 then (([],[]),3)
    else grGo s f (i+1) (vz S (xe s (S[i]!)).1 (xe s (S[i]!)).1.length).1 (R++[(vz S (xe s (S[i]!)).1 (xe s (S[i]!)).1.length).2])
noncomputable def grRes (s:qI) (t:qH):(List qH×yLL)×Int:=grGo s 302 0 [t] []
theorem gr_end {s:qI} {f i:Nat} {S:List qH} {R:yLL} (h:S.length≤i):grGo s f i S R=((S,R),0):=by
  cases f with
  | zero=>rfl
  | succ f=>rw [grGo,if_pos h]
theorem gr_code {s:qI} {f i:Nat} {S:List qH} {R:yLL} (hf:0 < f) (h:i < S.length) (h1:(xe s (S[i]!)).2≠0):grGo s f i S R=(([],[]),(xe s (S[i]!)).2):=by
  obtain ⟨f,rfl⟩:∃ g,f=g+1:=⟨f - 1,by omega⟩
  rw [grGo,if_neg qf,if_pos h1]
theorem gr_many {s:qI} {f i:Nat} {S:List qH} {R:yLL} (hf:0 < f) (h:i < S.length) (h1:(xe s (S[i]!)).2=0) {k:Nat} (hk:k=(xe s (S[i]!)).1.length) (h2:(vz S (xe s (S[i]!)).1 k).1.length > 300):grGo s f i S R=(([],[]),3):=by
  obtain ⟨f,rfl⟩:∃ g,f=g+1:=⟨f - 1,by omega⟩
  subst hk
  rw [grGo,if_neg qf,if_neg (fun x=>x h1),if_pos h2]
theorem gr_go {s:qI} {f i:Nat} {S:List qH} {R:yLL} (hf:0 < f) (h:i < S.length) (h1:(xe s (S[i]!)).2=0) {k:Nat} (hk:k=(xe s (S[i]!)).1.length) (h2:¬ (vz S (xe s (S[i]!)).1 k).1.length > 300):
    grGo s f i S R=grGo s (f - 1) (i+1) (vz S (xe s (S[i]!)).1 k).1 (R++[(vz S (xe s (S[i]!)).1 k).2]):=by
  obtain ⟨f,rfl⟩:∃ g,f=g+1:=⟨f - 1,by omega⟩
  subst hk
  rw [grGo,if_neg qf,if_neg (fun x=>x h1),if_neg h2]
  rfl
structure GrOk (S:List qH) (R:yLL):Prop where
  rows:∀ i,i < R.length→∀ k,k < (R[i]!).length→0≤(R[i]!)[k]! ∧((R[i]!)[k]!).toNat < S.length
  lens:∀ i,i < R.length→(R[i]!).length≤300
  from' :∀ j,0 < j→j < S.length→∃ i,i < R.length∧i < j∧∃ k,k < (R[i]!).length∧(R[i]!)[k]! =(j:Int)
theorem addSt_rows {S nx:List qH}:∀ k,(∀ q,q < k→0≤(vz S nx k).2[q]! ∧((vz S nx k).2[q]!).toNat < (vz S nx k).1.length)∧∀ j,S.length≤j→j < (vz S nx k).1.length→∃ q,q < k∧(vz S nx k).2[q]! =(j:Int)
  | 0=>⟨fun q hq=>by omega,fun j h1 h2=>by have:j < S.length:=h2;omega⟩
  | k+1=>by
    obtain ⟨h1,h2⟩:=addSt_rows (S:=S) (nx:=nx) k
    obtain ⟨l1,l2,l3⟩:=addSt_len (S:=S) (nx:=nx) k
    have hg:∀ (x:Int) q,q < k→((vz S nx k).2++[x])[q]! =(vz S nx k).2[q]! :=fun x q hq=>by
      rw [getElem!_pos _ q (by simp;omega),getElem!_pos _ q qf,List.getElem_append_left]
    have hk:∀ (x:Int),((vz S nx k).2++[x])[k]! =x:=fun x=>by
      rw [getElem!_pos _ k (by simp;omega),List.getElem_append_right qf];simp [l3]
    rw [vz]
    split
    · refine ⟨fun q hq=>?_,fun j hj hj2=>?_⟩
      · show 0≤((vz S nx k).2++[_])[q]! ∧(((vz S nx k).2++[_])[q]!).toNat < ((vz S nx k).1++[_]).length
        rw [List.length_append,List.length_singleton]
        by_cases e:q=k
        · subst e;rw [hk];omega
        · rw [hg _ q qf];have:=h1 q qf;omega
      · have hj3:j < (vz S nx k).1.length+1:=by simpa using hj2
        by_cases e:j=(vz S nx k).1.length
        · exact ⟨k,by omega,by subst e;exact hk _⟩
        · obtain ⟨q,hq,e2⟩:=h2 j hj qf
          exact ⟨q,by omega,by rw [← e2];exact hg _ q hq⟩
    · next hn=>
      have hb:0≤firstIdx (fun j=>decide ((vz S nx k).1[j]! =nx[k]!)) (vz S nx k).1.length:=by omega
      have hb2:(firstIdx (fun j=>decide ((vz S nx k).1[j]! =nx[k]!)) (vz S nx k).1.length).toNat < (vz S nx k).1.length:=firstIdx_lt hb
      refine ⟨fun q hq=>?_,fun j hj hj2=>?_⟩
      · show 0≤((vz S nx k).2++[_])[q]! ∧(((vz S nx k).2++[_])[q]!).toNat < (vz S nx k).1.length
        by_cases e:q=k
        · subst e;rw [hk];exact ⟨hb,hb2⟩
        · rw [hg _ q qf];exact h1 q qf
      · obtain ⟨q,hq,e2⟩:=h2 j hj hj2
        exact ⟨q,by omega,by rw [← e2];exact hg _ q hq⟩
theorem GrOk.start (t:qH):GrOk [t] []:=⟨fun i hi=>by simp at hi,fun i hi=>by simp at hi,fun j h1 h2=>by simp at h2;omega⟩
theorem GrOk.next {S:List qH} {R:yLL} (h:GrOk S R) (hR:R.length < S.length) {nx:List qH} {k:Nat} (hk:k≤300):GrOk (vz S nx k).1 (R++[(vz S nx k).2]):=by
  obtain ⟨h1,h2⟩:=addSt_rows (S:=S) (nx:=nx) k
  obtain ⟨l1,l2,l3⟩:=addSt_len (S:=S) (nx:=nx) k
  have hg:∀ i,i < R.length→(R++[(vz S nx k).2])[i]! =R[i]! :=fun i hi=>by
    rw [getElem!_pos _ i (by simp;omega),getElem!_pos _ i hi,List.getElem_append_left]
  have he:(R++[(vz S nx k).2])[R.length]! =(vz S nx k).2:=by
    rw [getElem!_pos _ R.length qm];simp
  refine ⟨fun i hi q hq=>?_,fun i hi=>?_,fun j hj hj2=>?_⟩
  · rw [List.length_append,List.length_singleton] at hi
    by_cases e:i=R.length
    · subst e;rw [he] at hq ⊢;exact h1 q qf
    · rw [hg i qf] at hq ⊢;have:=h.rows i qf q hq;omega
  · rw [List.length_append,List.length_singleton] at hi
    by_cases e:i=R.length
    · subst e;rw [he];omega
    · rw [hg i qf];exact h.lens i qf
  · rw [List.length_append,List.length_singleton]
    by_cases e:j < S.length
    · obtain ⟨i,hi,hij,q,hq,e2⟩:=h.from' j hj e
      exact ⟨i,by omega,hij,q,by rw [hg i hi];exact hq,by rw [hg i hi];exact e2⟩
    · obtain ⟨q,hq,e2⟩:=h2 j qf hj2
      exact ⟨R.length,by omega,by omega,q,by rw [he];omega,by rw [he];exact e2⟩
def HaltIn (R:yLL):Nat→Nat→Prop
  | 0,_=>False
  | f+1,i=>∀ k,k < (R[i]!).length→HaltIn R f ((R[i]!)[k]!).toNat
def mxF (g:Nat→Int) (r:yLI):Nat→Int
  | 0=>0
  | k+1=>max (mxF g r k) (g ((r[k]!).toNat)+1)
def dpN (R:yLL):Nat→Nat→Int
  | 0,_=>0
  | f+1,i=>mxF (dpN R f) (R[i]!) (R[i]!).length
def Fi (R:yLL) (i:Nat) (d:Int):Prop:=∃ f,HaltIn R f i∧dpN R f i=d
def Halts (R:yLL) (i:Nat):Prop:=∃ f,HaltIn R f i
theorem mxF_congr {g g' :Nat→Int} {r:yLI}:∀ k:Nat,(∀ q,q < k→g ((r[q]!).toNat)=g' ((r[q]!).toNat))→mxF g r k=mxF g' r k
  | 0,_=>rfl
  | k+1,h=>by rw [mxF,mxF,mxF_congr k fun q hq=>h q qf,h k qf]
theorem haltIn_mono {R:yLL}:∀ f i,HaltIn R f i→∀ f',f≤f' →HaltIn R f' i∧dpN R f' i=dpN R f i
  | 0,_,h,_,_=>h.elim
  | f+1,i,h,f',hf=>by
    obtain ⟨f',rfl⟩:∃ x,f' =x+1:=⟨f' - 1,by omega⟩
    exact ⟨fun k hk=>(haltIn_mono f _ (h k hk) f' qf).1,mxF_congr _ fun q hq=>(haltIn_mono f _ (h q hq) f' qf).2⟩
theorem Fi.same {R:yLL} {i:Nat} {d d' :Int} (h:Fi R i d) (h' :Fi R i d'):d=d' :=by
  obtain ⟨f,h1,rfl⟩:=h
  obtain ⟨f',h2,rfl⟩:=h'
  by_cases hx:f≤f'
  · exact (haltIn_mono f i h1 f' hx).2.symm
  · exact (haltIn_mono f' i h2 f qf).2
theorem Fi.halts {R:yLL} {i:Nat} {d:Int} (h:Fi R i d):Halts R i:=⟨h.choose,h.choose_spec.1⟩
theorem fi_all {R:yLL} {g:Nat→Int} {r:yLI}:∀ k:Nat,(∀ q,q < k→Fi R ((r[q]!).toNat) (g ((r[q]!).toNat)))→∃ f,∀ q,q < k→HaltIn R f ((r[q]!).toNat)∧dpN R f ((r[q]!).toNat)=g ((r[q]!).toNat)
  | 0,_=>⟨0,fun q hq=>by omega⟩
  | k+1,h=>by
    obtain ⟨f,hf⟩:=fi_all k fun q hq=>h q qf
    obtain ⟨f',h1,h2⟩:=h k qf
    refine ⟨max f f',fun q hq=>?_⟩
    by_cases e:q=k
    · subst e
      obtain ⟨a,b⟩:=haltIn_mono f' _ h1 (max f f') (Nat.le_max_right ..)
      exact ⟨a,b.trans h2⟩
    · obtain ⟨c,d⟩:=hf q qf
      obtain ⟨a,b⟩:=haltIn_mono f _ c (max f f') (Nat.le_max_left ..)
      exact ⟨a,b.trans d⟩
theorem fi_step {R:yLL} {g:Nat→Int} {i:Nat} (h:∀ q,q < (R[i]!).length→Fi R (((R[i]!)[q]!).toNat) (g (((R[i]!)[q]!).toNat))):Fi R i (mxF g (R[i]!) (R[i]!).length):=by
  obtain ⟨f,hf⟩:=fi_all _ h
  exact ⟨f+1,fun k hk=>(hf k hk).1,mxF_congr _ fun q hq=>(hf q hq).2⟩
theorem not_halt {R:yLL} {p:Nat→Prop} (h:∀ j,p j→∃ k,k < (R[j]!).length∧p (((R[j]!)[k]!).toNat)) {i:Nat} (hi:p i):¬ Halts R i:=by
  rintro ⟨f,hf⟩
  induction f generalizing i with
  | zero=>exact hf
  | succ f ih=>
    obtain ⟨k,hk,hp⟩:=h i hi
    exact ih hp (hf k hk)
theorem Halts.go {R:yLL} {i k:Nat} (h:Halts R i) (hk:k < (R[i]!).length):Halts R (((R[i]!)[k]!).toNat):=by
  obtain ⟨f,hf⟩:=h
  cases f with
  | zero=>exact hf.elim
  | succ f=>exact ⟨f,hf k hk⟩
structure LayI (R:yLL) (D:yLI) (O:List Bool) (left:Int):Prop where
  dl:D.length=R.length
  ol:O.length=R.length
  fi:∀ j,j < R.length→O[j]! =true→Fi R j (D[j]!)
  nn:∀ j,j < R.length→0≤D[j]! ∧D[j]! ≤R.length - left
  lf:left=R.length - (O.count true:Int)
theorem repAt1 {α:Type} [Inhabited α] {n j:Nat} {a:α} (h:j < n):(List.replicate n a)[j]! =a:=by rw [getElem!_pos _ j (by simpa using h)];simp
theorem LayI.start (R:yLL):LayI R (List.replicate R.length 0) (List.replicate R.length false) R.length:=
  ⟨by simp,by simp,fun j hj h=>by rw [repAt1 hj] at h;exact absurd h qj,fun j hj=>by rw [repAt1 hj];omega,by simp [List.count_replicate]⟩
theorem mxF_le {g:Nat→Int} {r:yLI} {m:Int} (hm:0≤m):∀ k:Nat,(∀ q,q < k→g ((r[q]!).toNat)+1≤m)→0≤mxF g r k∧mxF g r k≤m
  | 0,_=>⟨Int.le_refl _,hm⟩
  | k+1,h=>by
    have h1:=mxF_le hm k fun q hq=>h q qf
    have h2:=h k qf
    rw [mxF];omega
theorem count_set {O:List Bool}:∀ {i:Nat},i < O.length→O[i]! =false→(O.set i true).count true=O.count true+1:=by
  induction O with
  | nil=>intro i h;simp at h
  | cons a O ih=>
    intro i h h1
    cases i with
    | zero=>simp at h1;subst h1;simp
    | succ i=>
      have:=ih (i:=i) (by simpa using h) (by simpa using h1)
      rw [List.set_cons_succ,List.count_cons,List.count_cons,this];omega
theorem setAt1 {α:Type} [Inhabited α] {l:List α} {i j:Nat} {a:α} (h:j < l.length):(l.set i a)[j]! =if i=j then a else l[j]! :=by
  rw [getElem!_pos _ j (by simpa using h),List.getElem_set,getElem!_pos l j h]
theorem LayI.set {R:yLL} {D:yLI} {O:List Bool} {left:Int} (h:LayI R D O left) {i:Nat} (hi:i < R.length) (h1:O[i]! =false) (hr:∀ k,k < (R[i]!).length→(((R[i]!)[k]!).toNat) < R.length)
    (ha:∀ k,k < (R[i]!).length→O[((R[i]!)[k]!).toNat]! =true) {m:Nat} (hm:m=(R[i]!).length):LayI R (D.set i (mxF (fun j=>D[j]!) (R[i]!) m)) (O.set i true) (left - 1):=by
  subst hm
  have hb:=mxF_le (g:=fun j=>D[j]!) (r:=R[i]!) (m:=(R.length:Int) - (left - 1)) (by have:=h.nn i hi;omega) (R[i]!).length fun q hq=>by have:=h.nn _ (hr q hq);show D[_]! +1≤_;omega
  refine ⟨by simp [h.dl],by simp [h.ol],fun j hj ho=>?_,fun j hj=>?_,?_⟩
  · rw [setAt1 (by rw [h.dl];exact hj)]
    by_cases e:i=j
    · subst e;rw [if_pos rfl];exact fi_step fun q hq=>h.fi _ (hr q hq) (ha q hq)
    · rw [if_neg e];rw [setAt1 (by rw [h.ol];exact hj),if_neg e] at ho;exact h.fi j hj ho
  · rw [setAt1 (by rw [h.dl];exact hj)]
    by_cases e:i=j
    · rw [if_pos e];exact hb
    · rw [if_neg e];have:=h.nn j hj;omega
  · rw [count_set (by rw [h.ol];exact hi) h1];have:=h.lf;omega
def NoneR (R:yLL) (O:List Bool) (i:Nat):Prop:=∀ j,j < i→O[j]! =false→∃ k,k < (R[j]!).length∧O[((R[j]!)[k]!).toNat]! =false
theorem NoneR.succ {R:yLL} {O:List Bool} {i:Nat} (h:NoneR R O i) (h1:O[i]! =true∨∃ k,k < (R[i]!).length∧O[((R[i]!)[k]!).toNat]! =false):NoneR R O (i+1):=fun j hj ho=>by
  by_cases e:j=i
  · subst e
    rcases h1 with h1 | h1
    · rw [h1] at ho;cases ho
    · exact h1
  · exact h j qf ho
theorem succ_len (s:qI) (t:qH):(xe s t).1.length≤300:=by
  rw [xe]
  split
  · simp
  · split
    · simp
    · have:=cho_len s t
      rw [QH]
      split
      · have:=nextTo_len (s:=s) (t:=t) (cs:=(vF s t).1) (vF s t).1.length;show (yc ..).length≤_;omega
      · simp
inductive Rch (R:yLL):Nat→Nat→Prop
  | refl (j:Nat):Rch R j j
  | step {j i:Nat} (k:Nat):k < (R[j]!).length→Rch R (((R[j]!)[k]!).toNat) i→Rch R j i
theorem Rch.one {R:yLL} {j i:Nat} (h:Rch R j i) {k:Nat} (hk:k < (R[i]!).length):Rch R j (((R[i]!)[k]!).toNat):=by
  induction h with
  | refl j=>exact .step k hk (.refl _)
  | step q hq _ ih=>exact .step q hq (ih hk)
theorem Rch.not {R:yLL} {i k:Nat} (hk:k < (R[i]!).length) (h:Rch R (((R[i]!)[k]!).toNat) i):¬ Halts R i:=
  not_halt (p:=fun j=>Rch R j i) (fun j hj=>by
    cases hj with
    | refl=>exact ⟨k,hk,h⟩
    | step q hq h1=>exact ⟨q,hq,h1⟩) (.refl i)
def RowsIn (R:yLL):Prop:=R.length≤300∧∀ j,j < R.length→(R[j]!).length≤300∧∀ k,k < (R[j]!).length→0≤(R[j]!)[k]! ∧((R[j]!)[k]!).toNat < R.length
structure VisI (R:yLL) (M D:yLI):Prop where
  ml:M.length=R.length
  dl:D.length=R.length
  mr:∀ j,j < R.length→M[j]! =0∨M[j]! =1∨M[j]! =2
  fi:∀ j,j < R.length→M[j]! =2→Fi R j (D[j]!)
  nz:∀ j,j < R.length→M[j]! =0→D[j]! =0
  bd:∀ j,j < R.length→0≤D[j]! ∧D[j]! ≤M.count 2∧(M[j]! =2→D[j]! +1≤M.count 2)
structure VisEnd (R:yLL) (M D M' D' :yLI) (i:Nat):Prop where
  vi:VisI R M' D'
  me:M'[i]! =2
  kp:∀ j:Nat,M[j]! ≠0→M'[j]! =M[j]! ∧D'[j]! =D[j]!
  op:∀ j:Nat,M'[j]! =1→M[j]! =1
  c0:M'.count 0≤M.count 0
  c2:M.count 2≤M'.count 2
structure VisL (R:yLL) (M D M' D' :yLI) (i k:Nat):Prop where
  vi:VisI R M' D'
  m0:M[i]! =0
  me:M'[i]! =1
  kp:∀ j:Nat,M[j]! ≠0→M'[j]! =M[j]! ∧D'[j]! =D[j]!
  op:∀ j:Nat,M'[j]! =1→M[j]! =1∨j=i
  dn:∀ q:Nat,q < k→M'[((R[i]!)[q]!).toNat]! =2
  mx:D'[i]! =mxF (fun j=>D'[j]!) (R[i]!) k
  c0:M'.count 0 < M.count 0
  c2:M.count 2≤M'.count 2
theorem count_setI {l:yLI} {a b c:Int}:∀ {i:Nat},i < l.length→l[i]! =b→b≠a→((l.set i a).count c:Int)=l.count c+(if a=c then 1 else 0) - (if b=c then 1 else 0):=by
  induction l with
  | nil=>intro i h;simp at h
  | cons x l ih=>
    intro i h h1 hab
    cases i with
    | zero=>simp at h1;subst h1;rw [List.set_cons_zero,List.count_cons,List.count_cons];simp only [beq_iff_eq];split <;> split <;> omega
    | succ i=>
      have:=ih (i:=i) (by simpa using h) (by simpa using h1) hab
      rw [List.set_cons_succ,List.count_cons,List.count_cons];omega
theorem setAt0 {l:yLI} {i j:Nat} {a:Int}:(l.set i a)[j]! =if i=j∧j < l.length then a else l[j]! :=by
  by_cases h:j < l.length
  · rw [setAt1 h];simp [h]
  · rw [if_neg qf,getElem!_neg _ j (by simpa using h),getElem!_neg _ j (by simpa using h)]
theorem VisI.start (R:yLL):VisI R (List.replicate R.length 0) (List.replicate R.length 0):=
  ⟨by simp,by simp,fun j hj=>by rw [repAt1 hj];omega,fun j hj h=>by rw [repAt1 hj] at h;exact absurd h qj,fun j hj _=>repAt1 hj,fun j hj=>by rw [repAt1 hj];exact ⟨by omega,by omega,fun h=>absurd h qj⟩⟩
theorem VisL.start {R:yLL} {M D:yLI} (h:VisI R M D) {i:Nat} (hi:i < R.length) (h0:M[i]! =0):VisL R M D (M.set i 1) D i 0:=by
  have hm:=h.ml
  have c2:=count_setI (c:=2) (a:=1) (show i < M.length by omega) h0 qj
  have c0:=count_setI (c:=0) (a:=1) (show i < M.length by omega) h0 qj
  simp only [Int.reduceEq,if_false,if_true] at c0 c2
  refine ⟨⟨by simp [h.ml],h.dl,fun j hj=>?_,fun j hj hx=>?_,fun j hj hx=>?_,fun j hj=>?_⟩,h0,by rw [setAt0,if_pos ⟨rfl,by omega⟩],fun j hj=>?_,fun j hj=>?_,fun q hq=>by omega,h.nz i hi h0,by omega,by omega⟩
  · rw [setAt0];split
    · omega
    · exact h.mr j hj
  · rw [setAt0] at hx;split at hx
    · omega
    · exact h.fi j hj hx
  · rw [setAt0] at hx;split at hx
    · omega
    · exact h.nz j hj hx
  · have hb:=h.bd j hj
    rw [setAt0];split
    · exact ⟨hb.1,by omega,fun hx=>absurd hx qj⟩
    · exact ⟨hb.1,by omega,fun hx=>by have:=hb.2.2 hx;omega⟩
  · rw [setAt0,if_neg (by rintro ⟨rfl,_⟩;exact hj h0)];exact ⟨rfl,rfl⟩
  · rw [setAt0] at hj;split at hj
    · exact .inr qf
    · exact .inl hj
theorem VisL.go {R:yLL} {M D M' D' :yLI} {i k:Nat} (h:VisL R M D M' D' i k) (hk:k < (R[i]!).length) (hi:i < R.length) (hR:RowsIn R) (h1:M'[((R[i]!)[k]!).toNat]! =2):VisL R M D M' (D'.set i (max (D'[i]!) (D'[((R[i]!)[k]!).toNat]! +1))) i (k+1):=by
  have hv:=h.vi
  have hk1:=((hR.2 i hi).2 k hk).2
  have hne:i≠((R[i]!)[k]!).toNat:=fun e=>by have:=h.me;rw [e,h1] at this;exact absurd this qj
  have hb:=hv.bd i hi
  have hb1:=hv.bd _ hk1
  have hb2:=hb1.2.2 h1
  have hs:∀ j,j≠i→(D'.set i (max (D'[i]!) (D'[((R[i]!)[k]!).toNat]! +1)))[j]! =D'[j]! :=fun j hj=>by rw [setAt0,if_neg qf]
  have hme:(D'.set i (max (D'[i]!) (D'[((R[i]!)[k]!).toNat]! +1)))[i]! =max (D'[i]!) (D'[((R[i]!)[k]!).toNat]! +1):=by rw [setAt0,if_pos ⟨rfl,by rw [hv.dl];exact hi⟩]
  have hdn:∀ q,q < k+1→M'[((R[i]!)[q]!).toNat]! =2:=fun q hq=>by
    by_cases e:q=k
    · subst e;exact h1
    · exact h.dn q qf
  refine ⟨⟨hv.ml,by simp [hv.dl],hv.mr,fun j hj hx=>?_,fun j hj hx=>?_,fun j hj=>?_⟩,h.m0,h.me,fun j hj=>?_,h.op,hdn,?_,h.c0,h.c2⟩
  · rw [hs j (fun e=>by subst e;rw [h.me] at hx;exact absurd hx qj)];exact hv.fi j hj hx
  · rw [hs j (fun e=>by subst e;rw [h.me] at hx;exact absurd hx qj)];exact hv.nz j hj hx
  · by_cases e:j=i
    · subst e;rw [hme];exact ⟨by omega,by omega,fun hx=>by rw [h.me] at hx;exact absurd hx qj⟩
    · rw [hs j e];exact hv.bd j hj
  · have h2:=h.kp j hj
    by_cases e:j=i
    · subst e;exact absurd h.m0 hj
    · rw [hs j e];exact h2
  · rw [hme,mxF,hs _ (Ne.symm hne)]
    rw [mxF_congr (g' :=fun j=>D'[j]!) k fun q hq=>hs _ (fun e=>by have:=h.dn q hq;rw [e,h.me] at this;exact absurd this qj)]
    rw [← h.mx]
theorem VisL.sub {R:yLL} {M D M' D' M2 D2:yLI} {i k j' :Nat} (h:VisL R M D M' D' i k) (e:VisEnd R M' D' M2 D2 j'):VisL R M D M2 D2 i k:=by
  have hi:=e.kp i (by rw [h.me];decide)
  have hq:∀ q,q < k→M2[((R[i]!)[q]!).toNat]! =2∧D2[((R[i]!)[q]!).toNat]! =D'[((R[i]!)[q]!).toNat]! :=fun q hq=>by
    have h1:=h.dn q hq
    obtain ⟨a,b⟩:=e.kp _ (show M'[((R[i]!)[q]!).toNat]! ≠0 by rw [h1];decide)
    exact ⟨a.trans h1,b⟩
  refine ⟨e.vi,h.m0,hi.1.trans h.me,fun j hj=>?_,fun j hj=>h.op j (e.op j hj),fun q hk=>(hq q hk).1,?_,by have:=e.c0;have:=h.c0;omega,by have:=e.c2;have:=h.c2;omega⟩
  · obtain ⟨a,b⟩:=h.kp j hj
    obtain ⟨c,d⟩:=e.kp j (by rw [a];exact hj)
    exact ⟨c.trans a,d.trans b⟩
  · rw [hi.2,h.mx];exact mxF_congr k fun q hk=>(hq q hk).2.symm
theorem VisL.fin {R:yLL} {M D M' D' :yLI} {i k:Nat} (h:VisL R M D M' D' i k) (hi:i < R.length) (hk:k=(R[i]!).length):VisEnd R M D (M'.set i 2) D' i∧Halts R i:=by
  subst hk
  have hv:=h.vi
  have hl:=hv.ml
  have hf:Fi R i (D'[i]!):=by
    rw [h.mx];exact fi_step fun q hq=>by
      have h1:=h.dn q hq
      have:((R[i]!)[q]!).toNat < R.length:=by
        rcases Nat.lt_or_ge ((R[i]!)[q]!).toNat R.length with a | a
        · exact a
        · rw [getElem!_neg _ _ qf] at h1;exact absurd h1 qj
      exact hv.fi _ this h1
  have c2:=count_setI (c:=2) (a:=2) (show i < M'.length by omega) h.me qj
  have c0:=count_setI (c:=0) (a:=2) (show i < M'.length by omega) h.me qj
  simp only [Int.reduceEq,if_false,if_true] at c0 c2
  refine ⟨⟨⟨by simp [hl],hv.dl,fun j hj=>?_,fun j hj hx=>?_,fun j hj hx=>?_,fun j hj=>?_⟩,by rw [setAt0,if_pos ⟨rfl,by omega⟩],fun j hj=>?_,fun j hj=>?_,by have:=h.c0;omega,by have:=h.c2;omega⟩,hf.halts⟩
  · rw [setAt0];split
    · omega
    · exact hv.mr j hj
  · by_cases e:j=i
    · subst e;exact hf
    · rw [setAt0,if_neg qf] at hx;exact hv.fi j hj hx
  · by_cases e:j=i
    · subst e;rw [setAt0,if_pos ⟨rfl,by omega⟩] at hx;exact absurd hx qj
    · rw [setAt0,if_neg qf] at hx;exact hv.nz j hj hx
  · have hb:=hv.bd j hj
    exact ⟨hb.1,by omega,fun hx=>by
      by_cases e:j=i
      · omega
      · rw [setAt0,if_neg qf] at hx;have:=hb.2.2 hx;omega⟩
  · rw [setAt0,if_neg (by rintro ⟨rfl,_⟩;exact hj h.m0)];exact h.kp j hj
  · rw [setAt0] at hj;split at hj
    · omega
    · rename_i hx;rcases h.op j hj with h1 | h1
      · exact h1
      · omega
theorem VisI.top {R:yLL} {M D:yLI} (h:VisI R M D) (hR:RowsIn R) {j:Nat} (hj:j < R.length):0≤D[j]! ∧D[j]! ≤300:=by
  have h1:=h.bd j hj
  have h2:=List.count_le_length (a:=2) (l:=M)
  have h3:=h.ml
  have h4:=hR.1
  omega
theorem St.rowel_StateD {W0 w:World} {ps:List Prv} {Γ:List Fact} (H:St W0 w ps Γ) (k:Nat) {b c:Nat} {e:TypeId} {nn:Nat} {xs:List Value} (hp:ps[k]? =some (.row (Sv (some ⟨b,0,none⟩) nn c) e 3 nn xs)) (j:Nat) {fr:Bool} {F:yLN} {l:List qH}
    (hf:Γ[j]? =some (zf fr F xs l)) {iv:Int} (i:Nat) (h:iv.toNat=i) (h1:i < nn):
    ∃ (aA:yOA) (cA:Nat) (FA:yLN) (aB:yOA) (cB:Nat) (FB:yLN) (aO:yOA) (cO:Nat) (FO:yLN),
      (∀ (q:Nat) (v:Value),([Sv aA ((l[i]!).qA.length) cA,Sv aB ((l[i]!).qE.length) cB,Sv aO ((l[i]!).qy.length) cO]:List Value)[q]? =some v→xs[0+iv.toNat * 3+q]? =some v)∧
      St W0 w ps (isF fr FA (Sv aA ((l[i]!).qA.length) cA) ((l[i]!).qA) :: isF fr FB (Sv aB ((l[i]!).qE.length) cB) ((l[i]!).qE) :: isF fr FO (Sv aO ((l[i]!).qy.length) cO) ((l[i]!).qy) :: Γ):=by
  obtain ⟨cs,G,hc,hr,hsub,hfr,v1,v2,hv,hv1⟩:=St.rowElem (α:=qH) H k hp j hf qj h h1
  obtain ⟨vA,vB,vO,FA,FB,FO,rfl,hFF,hA,hB,hO⟩:=id hr
  obtain ⟨aA,cA,rfl⟩:=slice_form hA
  obtain ⟨aB,cB,rfl⟩:=slice_form hB
  obtain ⟨aO,cO,rfl⟩:=slice_form hO
  refine ⟨aA,cA,FA,aB,cB,FB,aO,cO,FO,fun q v hq=>?_,?_⟩
  · have hv1:v1.length=i * 3:=hv1
    have hlt:q < 3:=by
      rcases Nat.lt_or_ge q 3 with h | h
      · exact h
      · rw [List.getElem?_eq_none (by simpa using h)] at hq;cases hq
    rw [hv,List.append_assoc,Nat.zero_add,h,← hv1,List.getElem?_append_right qf,Nat.add_sub_cancel_left,List.getElem?_append_left (by simpa using hlt)]
    exact hq
  · have s3:=H.jC j hf (isF fr FO (Sv aO ((l[i]!).qy.length) cO) ((l[i]!).qy)) ⟨hO,fun e=>(hfr e).sub (by rw [hFF];intro x hx;simp [hx])⟩ (fun x hx=>hsub x (by rw [hFF];have hx:x∈FO:=hx;simp [hx]))
    have s2:=s3.jC (j+1) hf (isF fr FB (Sv aB ((l[i]!).qE.length) cB) ((l[i]!).qE)) ⟨hB,fun e=>(hfr e).sub (by rw [hFF];intro x hx;simp [hx])⟩ (fun x hx=>hsub x (by rw [hFF];have hx:x∈FB:=hx;simp [hx]))
    exact s2.jC (j+2) hf (isF fr FA (Sv aA ((l[i]!).qA.length) cA) ((l[i]!).qA)) ⟨hA,fun e=>(hfr e).sub (by rw [hFF];intro x hx;simp [hx])⟩ (fun x hx=>hsub x (by rw [hFF];have hx:x∈FA:=hx;simp [hx]))
end
section
open Go.RowKit
section
variable {α : Type} [qO α]
theorem reps_perm {w:World} (h1:qO.size α=1):∀ {z z' :List (Value×α)},z.Perm z' →∀ {F:yLN},reps w F (z.map Prod.fst) (z.map Prod.snd)→∃ F',F'.Perm F∧reps w F' (z'.map Prod.fst) (z'.map Prod.snd):=by
  intro z z' hp
  have one:∀ {c:List Value} {G:yLN} {x:α},qO.rep w G c x→∃ v,c=[v]:=fun h=>List.length_eq_one_iff.1 ((qO.len h).trans h1)
  induction hp with
  | nil=>intro F h;exact ⟨F,.refl _,h⟩
  | cons x _ ih=>
    rintro F ⟨F1,F2,c1,c2,rfl,hv,hx,hr⟩
    obtain ⟨v,rfl⟩:=one hx
    obtain ⟨rfl,rfl⟩:=List.cons.inj hv
    obtain ⟨F',hF,hr'⟩:=ih hr
    exact ⟨F1++F',hF.append_left F1,F1,F',[x.1],_,rfl,rfl,hx,hr'⟩
  | swap x y l=>
    rintro F ⟨F1,F2,c1,c2,rfl,hv,hx,F3,F4,c3,c4,rfl,hv2,hy,hr⟩
    obtain ⟨v,rfl⟩:=one hx
    obtain ⟨u,rfl⟩:=one hy
    subst hv2
    obtain ⟨e1,e2⟩:=List.cons.inj hv
    obtain ⟨e3,e4⟩:=List.cons.inj e2
    subst e1 e3 e4
    refine ⟨F3++(F1++F4),?_,F3,F1++F4,[x.1],y.1 :: _,rfl,rfl,hy,F1,F4,[y.1],_,rfl,rfl,hx,hr⟩
    rw [← List.append_assoc,← List.append_assoc]
    exact List.perm_append_comm.append_right F4
  | trans _ _ ih1 ih2=>
    intro F h
    obtain ⟨F1,h1,h2⟩:=ih1 h
    obtain ⟨F2,h3,h4⟩:=ih2 h2
    exact ⟨F2,h3.trans h1,h4⟩
end
theorem swapZ {α:Type}:∀ {l:List α} {i:Nat} {a b:α},l[i]? =some a→l[i+1]? =some b→l.Perm ((l.set (i+1) a).set i b)
  | [],_,_,_,h,_=>by simp at h
  | x :: l,0,a,b,h,h1=>by
    cases l with
    | nil=>simp at h1
    | cons y l=>
      simp only [List.getElem?_cons_zero,Option.some.injEq] at h
      simp only [List.getElem?_cons_succ,List.getElem?_cons_zero,Option.some.injEq,Nat.zero_add] at h1
      subst h h1
      exact List.Perm.swap ..
  | x :: l,i+1,a,b,h,h1=>by
    simp only [List.getElem?_cons_succ] at h h1
    exact (swapZ h h1).cons x
theorem zip_at {α β:Type}:∀ {xs:List α} {l:List β} {i:Nat} {a:α} {b:β},xs[i]? =some a→l[i]? =some b→(xs.zip l)[i]? =some (a,b):=by
  intro xs l i a b h h1
  rw [List.getElem?_zip_eq_some]
  exact ⟨h,h1⟩
theorem zip_fst {α β:Type}:∀ {xs:List α} {l:List β},xs.length=l.length→(xs.zip l).map Prod.fst=xs:=by
  intro xs l h;exact List.map_fst_zip qf
theorem zip_snd {α β:Type}:∀ {xs:List α} {l:List β},xs.length=l.length→(xs.zip l).map Prod.snd=l:=by
  intro xs l h;exact List.map_snd_zip qf
section
variable {W0 w : World} {ps : List Prv} {Γ : List Fact}
theorem St.rowElemX {α:Type} [qO α] (H:St W0 w ps Γ) (k:Nat) {b c:Nat} {e:TypeId} {nn:Nat} {xs:List Value} (hp:ps[k]? =some (.row (Sv (some ⟨b,0,none⟩) nn c) e 1 nn xs)) (j:Nat) {fr:Bool} {F:yLN} {l:List (List α)}
    (hf:Γ[j]? =some (zf fr F xs l)) {iv:Int} (i:Nat) (h:iv.toNat=i) (h1:i < nn):
    ∃ (a:yOA) (c' :Nat) (G:yLN),(∀ x∈G,x∈F)∧w.cell? ⟨b,0+iv.toNat * 1,none⟩=some (Sv a (l[i]!).length c')∧xs[0+iv.toNat * 1]? =some (Sv a (l[i]!).length c')∧xs[iv.toNat]? =some (Sv a (l[i]!).length c')∧St W0 w ps (isF fr G (Sv a (l[i]!).length c') (l[i]!) :: Γ):=by
  obtain ⟨cs,G,hc,hr,hsub,hfr,v1,v2,hx,hv⟩:=H.rowElem k hp j hf Nat.one_pos h h1
  obtain ⟨a,c',rfl,hx'⟩:=id hr
  have hxi:xs[i]? =some (Sv a (l[i]!).length c'):=by
    have hl1:v1.length=i:=by rw [hv];exact Nat.mul_one _
    rw [hx,List.append_assoc,List.getElem?_append_right qf]
    simp [hl1]
  exact ⟨a,c',G,hsub,by simpa [qO.size] using hc 0 _ rfl,by rw [show 0+iv.toNat * 1=i by omega];exact hxi,by rw [h];exact hxi,H.jC j hf _ ⟨hr,hfr⟩ hsub⟩
theorem St.swapR (H:St W0 w ps Γ) (j:Nat) {fr:Bool} {F:yLN} {xs:List Value} {l:yLL} (hf:Γ[j]? =some (zf fr F xs l)) {k i:Nat} (hk:0 < k) (hkl:k < l.length) (hi:i=k - 1) {v0 v1:Value} (h0:xs[i]? =some v0) (h1:xs[k]? =some v1):
    ∃ F',F'.Perm F∧St W0 w ps (zf fr F' ((xs.set k v0).set i v1) (swapAt l k) :: Γ):=by
  obtain ⟨hr,hfr⟩:=H.get j hf
  obtain ⟨i,rfl⟩:∃ i,k=i+1:=⟨k - 1,by omega⟩
  rw [show i+1 - 1=i from rfl] at hi
  subst hi
  have hl:xs.length=l.length:=by have:=XU hr;simpa [qO.size] using this
  have e0:l[i]? =some (l[i]!):=by rw [getElem!_pos l i qf];exact List.getElem?_eq_getElem qf
  have e1:l[i+1]? =some (l[i+1]!):=by rw [getElem!_pos l (i+1) hkl];exact List.getElem?_eq_getElem hkl
  have hp:=swapZ (zip_at h0 e0) (zip_at h1 e1)
  have hr' :reps w F ((xs.zip l).map Prod.fst) ((xs.zip l).map Prod.snd):=by
    rw [zip_fst hl,zip_snd hl]
    exact hr
  obtain ⟨F',hF,h2⟩:=reps_perm rfl hp hr'
  refine ⟨F',hF,H.jC j hf _ ⟨?_,fun e x hx=>hfr e x (hF.subset hx)⟩ fun x hx=>hF.subset hx⟩
  rw [List.map_set,List.map_set,List.map_set,List.map_set,zip_fst hl,zip_snd hl] at h2
  exact h2
theorem Fresh.perm {B:Nat} {L:List yLN} {F F' :yLN} (N:Fresh B (F :: L)) (h:F'.Perm F):Fresh B (F' :: L):=N.less (fun b hb=>h.subset hb) fun hn=>h.nodup_iff.2 hn
end
section
variable {P : Program} {n : Nat} {ρ : Env} {w : World}
theorem ret3 {fn:Func} {R:Ending→World→Prop} {t u z:Nat} (v x y:Value) (hr:fn.results=#[.tmp t,.tmp u,.tmp z]) (hv:ev n ρ (.tmp t)=v) (hx:ev n ρ (.tmp u)=x) (hy:ev n ρ (.tmp z)=y) (h:R (.returned (.tuple #[v,x,y])) w):bodyPost P fn R .ret (mk n ρ) w:=by
  refine bodyPost_ret (results_tmp3 hr _ _ _) rfl ?_
  have e:=congrFun (XM n ρ) (.tmp t)
  have e' :=congrFun (XM n ρ) (.tmp u)
  have e'' :=congrFun (XM n ρ) (.tmp z)
  simp only [Act.eval] at e e' e''
  rw [e,hv,e',hx,e'',hy]
  exact h
end
end
section
open Go.RowKit Go.Shelf Go.Lib Go.Sort
def cmpL:yLI→yLI→Int
  | [],[]=>0
  | [],_ :: _=> -1
  | _ :: _,[]=>1
  | x :: a,y :: b=>if x < y then -1 else if y < x then 1 else cmpL a b
theorem cmpL_refl:∀ a,cmpL a a=0
  | []=>rfl
  | x :: a=>by rw [cmpL,if_neg (Int.lt_irrefl x),if_neg (Int.lt_irrefl x),cmpL_refl a]
theorem cmpL_trans:∀ {a b c:yLI},cmpL a b < 0→cmpL b c < 0→cmpL a c < 0
  | [],[],_,h,_=>by simp [cmpL] at h
  | [],_ :: _,[],_,h=>by simp [cmpL] at h
  | [],_ :: _,_ :: _,_,_=>by simp [cmpL]
  | _ :: _,[],_,h,_=>by simp [cmpL] at h
  | _ :: _,_ :: _,[],_,h=>by simp [cmpL] at h
  | x :: a,y :: b,z :: c,h1,h2=>by
    rw [cmpL] at h1 h2 ⊢
    by_cases e1:x < y
    · by_cases e2:y < z
      · rw [if_pos qf];omega
      · rw [if_neg e2] at h2
        by_cases e3:z < y
        · rw [if_pos e3] at h2;omega
        · rw [if_pos qf];omega
    · rw [if_neg e1] at h1
      by_cases e2:y < x
      · rw [if_pos e2] at h1;omega
      · rw [if_neg e2] at h1
        by_cases e3:y < z
        · rw [if_pos qf];omega
        · rw [if_neg e3] at h2
          by_cases e4:z < y
          · rw [if_pos e4] at h2;omega
          · rw [if_neg e4] at h2
            rw [if_neg qf,if_neg qf]
            exact cmpL_trans h1 h2
theorem cmpL_ntrans:∀ {a b c:yLI},¬ cmpL a b < 0→¬ cmpL b c < 0→¬ cmpL a c < 0
  | [],[],[],_,_=>by simp [cmpL]
  | _ :: _,_,[],_,_=>by simp [cmpL]
  | [],_ :: _,_,h,_=>by simp [cmpL] at h
  | _,[],_ :: _,_,h=>by simp [cmpL] at h
  | x :: a,y :: b,z :: c,h1,h2=>by
    rw [cmpL] at h1 h2 ⊢
    by_cases e1:x < y
    · rw [if_pos e1] at h1;omega
    · rw [if_neg e1] at h1
      by_cases e2:y < z
      · rw [if_pos e2] at h2;omega
      · rw [if_neg e2] at h2
        rw [if_neg qf]
        by_cases e3:z < x
        · rw [if_pos e3];omega
        · rw [if_neg e3]
          have ey:¬ y < x:=by omega
          have ez:¬ z < y:=by omega
          rw [if_neg ey] at h1
          rw [if_neg ez] at h2
          exact cmpL_ntrans h1 h2
theorem drop_cons {l:yLI} {i:Nat} (h:i < l.length):l.drop i=l[i]! :: l.drop (i+1):=by
  rw [getElem!_pos l i h];exact (List.drop_eq_getElem_cons h)
theorem cmp_a {a b:yLI} {i:Nat} (h:i < a.length) (h1:b.length≤i):cmpL (a.drop i) (b.drop i)=1:=by rw [drop_cons h,List.drop_eq_nil_of_le h1,cmpL]
theorem cmp_b {a b:yLI} {i:Nat} (h:a.length≤i) (h1:i < b.length):cmpL (a.drop i) (b.drop i)= -1:=by rw [drop_cons h1,List.drop_eq_nil_of_le h,cmpL]
theorem cmp_c {a b:yLI} {i:Nat} (h:a.length≤i) (h1:b.length≤i):cmpL (a.drop i) (b.drop i)=0:=by rw [List.drop_eq_nil_of_le h,List.drop_eq_nil_of_le h1,cmpL]
theorem cmp_d {a b:yLI} {i:Nat} (h:i < a.length) (h1:i < b.length) (h2:a[i]! < b[i]!):cmpL (a.drop i) (b.drop i)= -1:=by rw [drop_cons h,drop_cons h1,cmpL,if_pos h2]
theorem cmp_e {a b:yLI} {i:Nat} (h:i < a.length) (h1:i < b.length) (h2:a[i]! > b[i]!):cmpL (a.drop i) (b.drop i)=1:=by rw [drop_cons h,drop_cons h1,cmpL,if_neg qf,if_pos h2]
theorem cmp_f {a b:yLI} {i:Nat} (h:i < a.length) (h1:i < b.length) (h2:¬ a[i]! < b[i]!) (h3:¬ a[i]! > b[i]!):cmpL (a.drop i) (b.drop i)=cmpL (a.drop (i+1)) (b.drop (i+1)):=by rw [drop_cons h,drop_cons h1,cmpL,if_neg h2,if_neg h3]
theorem cmpL_ahead:∀ {a b:yLI},a.length=b.length→(cmpL a b < 0↔ahead a b)
  | [],[],_=>⟨fun h=>by simp [cmpL] at h,fun ⟨i,h,_⟩=>by simp at h⟩
  | x :: a,[],h=>by simp at h
  | [],y :: b,h=>by simp at h
  | x :: a,y :: b,h=>by
    have ih:=cmpL_ahead (a:=a) (b:=b) (by simpa using h)
    rw [cmpL]
    constructor
    · intro h1
      by_cases e:x < y
      · exact ⟨0,by simp,fun j hj=>by omega,by simpa using e⟩
      · rw [if_neg e] at h1
        by_cases e2:y < x
        · rw [if_pos e2] at h1;omega
        · rw [if_neg e2] at h1
          obtain ⟨i,h2,h3,h4⟩:=ih.1 h1
          refine ⟨i+1,by simp;omega,fun j hj=>?_,by simpa using h4⟩
          cases j with
          | zero=>simp;omega
          | succ j=>simpa using h3 j qf
    · rintro ⟨i,h2,h3,h4⟩
      cases i with
      | zero=>rw [if_pos (by simpa using h4)];omega
      | succ i=>
        have h0:=h3 0 qf
        simp only [List.getElem!_cons_zero] at h0
        rw [if_neg qf,if_neg qf]
        exact ih.2 ⟨i,by simpa using h2,fun j hj=>by simpa using h3 (j+1) qf,by simpa using h4⟩

section
variable {W0 w : World} {ps : List Prv} {Γ : List Fact}
theorem sw_block {α:Type} [Inhabited α] {enc:α→Value} {blk m:Nat} {d:Array α} {os:Array Obj} {k:Nat} (hk:k < w.heap.size) (hne:k≠blk):(sortWorld enc w blk 0 m d os).heap[k]? =w.heap[k]? :=by
  unfold sortWorld putRow mapBlock grow
  show ((Sort.ahead w m).heap.modify blk _++os)[k]? =_
  have hs:((Sort.ahead w m).heap.modify blk (onCells (putCells enc 0 d))).size=w.heap.size:=by rw [Array.size_modify];rfl
  rw [Array.getElem?_append_left (by rw [hs];exact hk),Array.getElem?_modify,if_neg (Ne.symm hne)]
  rfl
theorem sw_row {α:Type} [Inhabited α] {enc:α→Value} {blk m:Nat} {d:Array α} {os:Array Obj} {cur:Array Value} {e:TypeId} (h:w.heap[blk]? =some (.cells cur e (0,0))):(sortWorld enc w blk 0 m d os).heap[blk]? =some (.cells (putCells enc 0 d cur) e (0,0)):=by
  have hk:blk < w.heap.size:=(Array.getElem?_eq_some_iff.1 h).1
  unfold sortWorld putRow mapBlock grow
  show ((Sort.ahead w m).heap.modify blk _++os)[blk]? =_
  have hs:((Sort.ahead w m).heap.modify blk (onCells (putCells enc 0 d))).size=w.heap.size:=by rw [Array.size_modify];rfl
  rw [Array.getElem?_append_left (by rw [hs];exact hk),Array.getElem?_modify,if_pos rfl]
  show (w.heap[blk]?).map _=_
  rw [h]
  rfl
theorem sortRow {P:Program} {ρ:Ren} (L:SlLaysF.n6 P ρ) {g:Nat} (eg:∀ args w,(callFunc g args).run P w=.ok (.enter g args) w)
    (cmp:∀ (W:World) (x y:yLI) (a:yOA) (c:Nat) (F:yLN) (a' :yOA) (c' :Nat) (F' :yLN),qO.rep W F [Sv a x.length c] x→qO.rep W F' [Sv a' y.length c'] y→
      Calls P g #[Sv a x.length c,Sv a' y.length c'] W fun e w' =>e=.returned (.int .i64 (cmpL x y))∧w' =W)
    (H:St W0 w ps Γ) (k:Nat) {b c:Nat} {e:TypeId} {nn:Nat} {xs:List Value} (hp:ps[k]? =some (.row (Sv (some ⟨b,0,none⟩) nn c) e 1 nn xs)) (j:Nat) {fr:Bool} {F:yLN} {l:yLL} (hf:Γ[j]? =some (zf fr F xs l)) (h0:0 < l.length) (hsz:l.length < 4611686018427387904):
    Calls P (ρ.f 6) #[Sv (some ⟨b,0,none⟩) nn c,.func (.func g) #[] #[]] w fun e' w' =>∃ v,e' =.returned v∧∃ xs' F' l',v=.tuple #[]∧F'.Perm F∧l.Perm l' ∧(∀ i j,i < j→j < l'.length→¬ cmpL (l'[j]!) (l'[i]!) < 0)∧
      St W0 w' (ps.set k (.row (Sv (some ⟨b,0,none⟩) nn c) e 1 nn xs')) (zf fr F' xs' l' :: Γ):=by
  have ho:=(H.has _ (List.mem_of_getElem? hp):w.ownsRow W0.heap.size e 1 _ nn xs)
  obtain ⟨hr,hfr⟩:=H.get j hf
  have hxl:xs.length=l.length:=by have:=XU hr;simpa [qO.size] using this
  have hnn:nn=l.length:=by have:=ho.1;omega
  subst hnn
  obtain ⟨hl,h | ⟨g',cap,cur,hv,hB,hg,hn,hm,hcs,ht⟩⟩:=ho
  · simp at h
  simp only [Value.slice.injEq,Option.some.injEq,Addr.mk.injEq,and_true] at hv
  obtain ⟨rfl,_,rfl⟩:=hv
  have hF:=(H.facts _ (List.mem_of_getElem? hf)).2
  have hbF:∀ x∈F,x≠b:=fun x hx e' =>(hF x hx).2 k (by simp [jS,hp,Prv.blk,Value.ownBlock,e'])
  let enc:Nat→Value:=fun i=>xs[i % l.length]!
  let cf:Nat→Nat→Int:=fun i j=>cmpL (l[i % l.length]!) (l[j % l.length]!)
  have hmod:∀ i,i % l.length < l.length:=fun i=>Nat.mod_lt _ h0
  have hrep:∀ i,∃ a c' G,(∀ x∈G,x∈F)∧enc i=Sv a (l[i % l.length]!).length c' ∧qO.rep w G [Sv a (l[i % l.length]!).length c'] (l[i % l.length]!):=fun i=>by
    obtain ⟨F1,Fk,F2,v1,cs,v2,hFe,hxe,hl1,hl2,hu,_,_⟩:=reps_get hr (i % l.length) (hmod i)
    obtain ⟨a,c',rfl,hx⟩:=id hu
    have hl1' :v1.length=i % l.length:=by rw [hl1];exact Nat.mul_one _
    refine ⟨a,c',Fk,fun x hx=>by rw [hFe];simp [hx],?_,?_⟩
    · show xs[i % l.length]! =_
      rw [getElem!_pos l _ (hmod i),getElem!_pos xs _ (by rw [hxl];exact hmod i)]
      have:xs[i % l.length]? =some (Sv a (l[i % l.length]'(hmod i)).length c'):=by
        refine (congrArg (fun z:List Value=>z[i % l.length]?) hxe).trans ?_
        show (v1++[_]++v2)[i % l.length]? =_
        rw [List.append_assoc,List.getElem?_append_right qf]
        simp [hl1']
      exact (List.getElem?_eq_some_iff.1 this).2
    · rw [getElem!_pos l _ (hmod i)];exact hu
  have hO:OneCell enc:=fun i=>by obtain ⟨a,c',G,_,he,_⟩:=hrep i;show Value.oneCell' (enc i)=true;rw [he];rfl
  have hS:SWO (ltOf cf):=by
    refine ⟨fun x=>?_,fun x y z h1 h2=>?_,fun x y z h1 h2=>?_⟩ <;> unfold ltOf at *
    · show decide (cmpL _ _ < 0)=false
      rw [cmpL_refl];rfl
    · exact decide_eq_true (cmpL_trans (of_decide_eq_true h1) (of_decide_eq_true h2))
    · exact decide_eq_false (cmpL_ntrans (of_decide_eq_false h1) (of_decide_eq_false h2))
  let d:Array Nat:=Array.range l.length
  have hds:d.size=l.length:=Array.size_range
  have hdi:∀ i,i < l.length→d[i]! =i:=fun i hi=>by rw [getElem!_pos d i (by rw [hds];exact hi)];exact Array.getElem_range _
  have hcx:∀ i,i < l.length→cur[i]? =some (enc i):=fun i hi=>by
    have h1:xs[i]? =some (enc i):=by
      show xs[i]? =some (xs[i % l.length]!)
      rw [Nat.mod_eq_of_lt hi,getElem!_pos xs i qf]
      exact List.getElem?_eq_getElem qf
    rw [← ht,List.getElem?_take,if_pos qf] at h1
    simpa using h1
  have hH:Holds enc w b 0 d:=fun i hi=>by
    have hi' :i < l.length:=by rw [hds] at hi;exact hi
    rw [hdi i hi',Nat.zero_add]
    constructor
    · rw [World.cell?,hg];exact hcx i hi'
    · rw [World.frozen?,hg];simp
  have hcmp:CmpLays1 P g #[] enc cf b 0 d.size w:=fun m os dk hs x y=>by
    obtain ⟨a,c1,G,hG,he,hx⟩:=hrep x
    obtain ⟨a2,c2,G2,hG2,he2,hy⟩:=hrep y
    have st:∀ z∈F,(sortWorld enc w b 0 m dk os).heap[z]? =w.heap[z]? :=fun z hz=>sw_block (hF z hz).1 (hbF z hz)
    rw [he,he2]
    refine (cmp _ _ _ a c1 G a2 c2 G2 (qO.stay hx fun z hz=>st z (hG z hz)) (qO.stay hy fun z hz=>st z (hG2 z hz))).mono fun e' w' h=>⟨h.1,0,#[],?_⟩
    rw [grow_empty];exact h.2
  have hblk:b < w.heap.size:=(Array.getElem?_eq_some_iff.1 hg).1
  have hc:=Any.slices_SortFunc L enc hO cf hS g #[] b 0 c d w eg hcmp hH hblk (by rw [hds];exact hsz)
  rw [hds] at hc
  refine hc.mono fun e' w' ⟨he,d',n,os,hpm,hso,hw⟩=>⟨_,he,?_⟩
  have hd' :d'.size=l.length:=hpm.1.trans hds
  have hperm:d'.toList.Perm (List.range l.length):=by
    have:=hpm.2.2
    rw [Array.extract_eq_self_of_le qf,Array.extract_eq_self_of_le qf] at this
    simpa [d] using this
  have hlt:∀ x∈d'.toList,x < l.length:=fun x hx=>List.mem_range.1 (hperm.subset hx)
  -- the pairs
  have hz:(xs.zip l).Perm (d'.toList.map fun i=>(xs[i]!,l[i]!)):=by
    have e1:xs.zip l=(List.range l.length).map fun i=>(xs[i]!,l[i]!):=by
      refine List.ext_getElem (by simp [hxl]) fun i h1 h2=>?_
      have hi:i < l.length:=by simpa using h2
      rw [List.getElem_zip,List.getElem_map,List.getElem_range,getElem!_pos xs i qf,getElem!_pos l i hi]
    rw [e1]
    exact (hperm.map _).symm
  have hr' :reps w F ((xs.zip l).map Prod.fst) ((xs.zip l).map Prod.snd):=by rw [zip_fst hxl,zip_snd hxl];exact hr
  obtain ⟨F',hF',hr2⟩:=reps_perm rfl hz hr'
  rw [List.map_map,List.map_map] at hr2
  refine ⟨d'.toList.map fun i=>xs[i]!,F',d'.toList.map fun i=>l[i]!,rfl,hF',?_,?_,?_⟩
  · have:=hz.map Prod.snd
    rw [zip_snd hxl,List.map_map] at this
    exact this
  · intro i j hij hj
    rw [List.length_map,Array.length_toList,hd'] at hj
    have hge:∀ q,q < l.length→(d'.toList.map fun i=>l[i]!)[q]! =l[d'[q]! % l.length]! :=fun q hq=>by
      rw [getElem!_pos _ q (by simp [hd',hq]),List.getElem_map,Array.getElem_toList]
      have:d'[q]! =d'[q]:=getElem!_pos d' q qf
      rw [this,Nat.mod_eq_of_lt (hlt _ qm)]
    rw [hge i qf,hge j hj]
    exact of_decide_eq_false (hso i j (Nat.zero_le _) hij hj)
  · subst hw
    have hcells:∀ q,q < l.length→(putCells enc 0 d' cur)[q]? =some (xs[d'[q]!]!):=fun q hq=>by
      unfold putCells
      rw [Array.getElem?_mapIdx]
      have hcq:=hcx q hq
      rw [hcq]
      simp only [Option.map_some,Nat.zero_le,true_and,Nat.zero_add,hd',if_pos hq,Nat.sub_zero]
      show some (xs[d'[q]! % l.length]!)=_
      have:d'[q]! =d'[q]:=getElem!_pos d' q qf
      rw [this,Nat.mod_eq_of_lt (hlt _ qm)]
    have hown:(sortWorld enc w b 0 n d' os).ownsRow W0.heap.size e 1 (Sv (some ⟨b,0,none⟩) l.length c) l.length (d'.toList.map fun i=>xs[i]!):=by
      refine ⟨by simp [hd'],Or.inr ⟨b,c,putCells enc 0 d' cur,rfl,hB,sw_row hg,hn,hm,by unfold putCells;rw [Array.size_mapIdx];exact hcs,?_⟩⟩
      rw [Nat.mul_one]
      refine List.ext_getElem? fun q=>?_
      rw [List.getElem?_take]
      split
      · next hq=>
        rw [Array.getElem?_toList,hcells q hq,List.getElem?_map,Array.getElem?_toList]
        have:d'[q]! =d'[q]:=getElem!_pos d' q qf
        rw [this,Array.getElem?_eq_getElem qf]
        rfl
      · next hq=>rw [List.getElem?_eq_none (by simp;omega)]
    have hsize:w.heap.size≤(sortWorld enc w b 0 n d' os).heap.size:=by
      unfold sortWorld putRow mapBlock grow
      show _≤((Sort.ahead w n).heap.modify b _++os).size
      rw [Array.size_append,Array.size_modify]
      exact Nat.le_add_right _ _
    have H1:=H.change k hp (w' :=sortWorld enc w b 0 n d' os) (p' :=.row (Sv (some ⟨b,0,none⟩) l.length c) e 1 l.length (d'.toList.map fun i=>xs[i]!)) rfl rfl rfl hsize (fun i hi hne=>sw_block hi (fun e2=>hne (by subst e2;rfl))) hown (Or.inl rfl)
    refine H1.add _ ⟨?_,fun e2 x hx=>?_⟩ fun x hx=>?_
    · exact reps_stay hr2 fun z hz=>sw_block (hF z (hF'.subset hz)).1 (hbF z (hF'.subset hz))
    · have h2:=hfr e2 x (hF'.subset hx)
      obtain ⟨o1,o2,ho⟩:=h2
      exact ⟨o1,o2,(sw_block (hF x (hF'.subset hx)).1 (hbF x (hF'.subset hx))).trans ho⟩
    · refine ⟨Nat.lt_of_lt_of_le (hF x (hF'.subset hx)).1 hsize,fun i hi=>?_⟩
      have h3:=(hF x (hF'.subset hx)).2
      by_cases e3:i=k
      · subst e3
        have:(ps.set i (Prv.row (Sv (some ⟨b,0,none⟩) l.length c) e 1 l.length (d'.toList.map fun i=>xs[i]!)))[i]? =some (Prv.row (Sv (some ⟨b,0,none⟩) l.length c) e 1 l.length (d'.toList.map fun i=>xs[i]!)):=set_at hp
        simp only [jS,this,Option.bind_some,Prv.blk,Value.ownBlock,Option.some.injEq] at hi
        exact hbF x (hF'.subset hx) hi.symm
      · have:jS (ps.set k (Prv.row (Sv (some ⟨b,0,none⟩) l.length c) e 1 l.length (d'.toList.map fun i=>xs[i]!))) i=jS ps i:=by unfold jS;rw [List.getElem?_set_ne (Ne.symm e3)]
        rw [this] at hi
        exact h3 i hi
end
end
section
open Go.RowKit
set_option linter.unusedVariables false
set_option linter.unusedSimpArgs false
set_option maxRecDepth 100000
set_option maxHeartbeats 4000000
structure GraphD where
  qP:List qH
  fNext:yLL
  deriving DecidableEq
instance:Inhabited GraphD:=⟨⟨[],[]⟩⟩
instance:Tot GraphD:=⟨fun x=>tot x.qP+tot x.fNext⟩
instance:qO GraphD where
  size:=2
  rep:=fun w F cs x=>∃ (vStates vNext:Value) (FStates FNext:yLN),cs=[vStates,vNext]∧F=FStates++FNext∧qO.rep w FStates [vStates] x.qP∧qO.rep w FNext [vNext] x.fNext
  len:=by rintro w F cs x ⟨vStates,vNext,FStates,FNext,rfl,_,hStates,hNext⟩;rfl
  one:=by
    rintro w F cs x ⟨vStates,vNext,FStates,FNext,rfl,rfl,hStates,hNext⟩ u hu
    simp only [List.mem_cons,List.not_mem_nil,or_false] at hu
    rcases hu with rfl | rfl <;> first | rfl | exact one_of ql
  stay:=by
    rintro w w' F cs x ⟨vStates,vNext,FStates,FNext,rfl,rfl,hStates,hNext⟩ hs
    exact ⟨_,_,_,_,rfl,rfl,qO.stay hStates fun b hb=>hs b (by simp [hb]),qO.stay hNext fun b hb=>hs b (by simp [hb])⟩
  lt:=by
    rintro w F cs x ⟨vStates,vNext,FStates,FNext,rfl,rfl,hStates,hNext⟩ b hb
    simp only [List.mem_append] at hb
    rcases hb with (hb | hb)
    · exact qO.lt hStates b hb
    · exact qO.lt hNext b hb
end
section

theorem nextTo_pos {s:qI} {t:qH} {cs:yLL}:∀ {k:Nat},0 < k→0 < (yc s t cs k).length
  | 0,h=>by omega
  | k+1,_=>by
    rw [yc]
    split
    · next h=>exact List.length_pos_of_mem h
    · simp
open Classical in
theorem next_pos {s:qI} {t:qH} {cs:yLL} (h0:0 < cs.length) (hc:(QH s t cs).2=0):0 < (QH s t cs).1.length:=by
  by_cases h:NoBad s t cs cs.length
  · rw [next_ok h];exact nextTo_pos h0
  · exfalso
    obtain ⟨k,hk,hb⟩:∃ k,k < cs.length∧CodeBad s t cs k:=Classical.byContradiction fun hx=>h fun k hk hb=>hx ⟨k,hk,hb⟩
    obtain ⟨m,h1,h2,h3⟩:=least_of (g:=fun k=>decide (CodeBad s t cs k)) k (decide_eq_true hb)
    have h2:CodeBad s t cs m:=of_decide_eq_true h2
    rw [next_bad (fun j hj=>of_decide_eq_false (h3 j hj)) qf h2] at hc
    exact h2 hc
theorem cho_pos {s:qI} {t:qH} (hs:jE s) (ht:zu s t) (h:(vF s t).2=0):0 < (vF s t).1.length:=by
  by_cases h1:GoodP s t s.qw.length
  · by_cases h2:Xz (xH s t s.qw.length) (xH s t s.qw.length).length > 300
    · rw [cho_3 (.inr h2)] at h;exact absurd h qj
    · have hp:0 < Xz (xH s t s.qw.length) (xH s t s.qw.length).length:=
        Nat.lt_of_lt_of_le Nat.one_pos (prod_mono (packsL_ne hs ht (by have:=ht.2.1;omega) h1) (Nat.zero_le _) (Nat.le_refl _))
      unfold vF
      rw [if_neg (fun h' =>h' h1),if_neg h2]
      show 0 < (inOrder _).length
      unfold inOrder
      split
      · next h=>rw [← (Classical.choose_spec h).1.length_eq,X5];exact hp
      · rw [X5];exact hp
  · rw [cho_3 (.inl h1)] at h;exact absurd h qj
theorem succ_halt {s:qI} {t:qH} (hs:jE s) (ht:zu s t) (h:(xe s t).2=0):(xe s t).1.length=0↔Halted s t:=by
  constructor
  · intro h1
    refine Classical.byContradiction fun hh=>?_
    by_cases h2:(vF s t).2=0
    · rw [succ_0 hh h2] at h h1
      have:=next_pos (cho_pos hs ht h2) h
      omega
    · rw [succ_c h2] at h;exact h2 h
  · intro hh;rw [succ_h hh];rfl
theorem addSt_get {S nx:List qH} {j:Nat} (hj:j < S.length):∀ k,(vz S nx k).1[j]! =S[j]!
  | 0=>rfl
  | k+1=>by
    have ih:=addSt_get (nx:=nx) hj k
    have hl:=(addSt_len (S:=S) (nx:=nx) k).1
    rw [vz]
    split
    · show ((vz S nx k).1++[_])[j]! =_
      rw [getElem!_pos _ j (by simp;omega),List.getElem_append_left qf,← getElem!_pos _ j qf];exact ih
    · exact ih
structure GrAll (s:qI) (S:List qH) (R:yLL):Prop where
  ok:GrOk S R
  len:R.length=S.length
  pos:0 < S.length
  le:S.length≤300
  st:∀ u∈S,zu s u
  ht:∀ j,j < R.length→((R[j]!).length=0↔Halted s (S[j]!))
theorem grGo_all {s:qI} (hs:jE s):∀ (f i:Nat) (S:List qH) (R:yLL),f+i=302→R.length=i→i≤S.length→0 < S.length→S.length≤300→(∀ u∈S,zu s u)→GrOk S R→
    (∀ j,j < R.length→((R[j]!).length=0↔Halted s (S[j]!)))→(grGo s f i S R).2=0→GrAll s (grGo s f i S R).1.1 (grGo s f i S R).1.2
  | f,i,S,R,hf,hR,hi,hp,hl,ha,hk,hh,h=>by
    by_cases hx:S.length≤i
    · rw [gr_end hx];show GrAll s S R;exact ⟨hk,by omega,hp,hl,ha,hh⟩
    · by_cases hc:(xe s (S[i]!)).2=0
      · by_cases hm:(vz S (xe s (S[i]!)).1 (xe s (S[i]!)).1.length).1.length > 300
        · rw [gr_many qf qf hc rfl hm] at h;exact absurd h qj
        · obtain ⟨f,rfl⟩:∃ g,f=g+1:=⟨f - 1,by omega⟩
          have e:=gr_go (R:=R) (show 0 < f+1 by omega) (show i < S.length by omega) hc rfl hm
          rw [show f+1 - 1=f from rfl] at e
          rw [e] at h ⊢
          obtain ⟨l1,l2,l3⟩:=addSt_len (S:=S) (nx:=(xe s (S[i]!)).1) (xe s (S[i]!)).1.length
          have hsi:zu s (S[i]!):=ha _ (by rw [getElem!_pos S i qf];exact List.getElem_mem _)
          refine grGo_all hs f (i+1) _ _ qf (by simp;omega) qf qf qf (addSt_mem ha succ_ok _ (Nat.le_refl _)) (hk.next qf (succ_len s _)) (fun j hj=>?_) h
          rw [List.length_append,List.length_singleton] at hj
          rw [addSt_get qf]
          by_cases ej:j=i
          · subst ej
            rw [getElem!_pos _ j (by simp;omega),List.getElem_append_right qf]
            simp only [hR,Nat.sub_self,List.getElem_cons_zero,l3]
            exact succ_halt hs hsi hc
          · rw [getElem!_pos _ j (by simp;omega),List.getElem_append_left qf,← getElem!_pos R j qf]
            exact hh j qf
      · rw [gr_code qf qf hc] at h;exact absurd h hc
theorem gr_all {s:qI} {t:qH} (hs:jE s) (ht:zu s t) (h:(grRes s t).2=0):GrAll s (grRes s t).1.1 (grRes s t).1.2:=
  grGo_all hs 302 0 [t] [] rfl rfl (Nat.zero_le _) qm qm (fun u hu=>by obtain rfl:=List.mem_singleton.1 hu;exact ht) (GrOk.start t) (fun j hj=>by simp at hj) h

open Classical in
noncomputable def Xp (s:qI) (t:qH):(List qH×yLL)×Int:=if jE s∧zu s t then grRes s t else (([],[]),1)
noncomputable def exG (s:qI) (t:qH):GraphD:=⟨(Xp s t).1.1,(Xp s t).1.2⟩
theorem ex_1 {s:qI} {t:qH} (h:¬ (jE s∧zu s t)):Xp s t=(([],[]),1):=by rw [Xp,if_neg h]
theorem ex_0 {s:qI} {t:qH} (h:jE s∧zu s t) {x:(List qH×yLL)×Int} (hx:grRes s t=x):Xp s t=x:=by rw [Xp,if_pos h,hx]
theorem exG_of {s:qI} {t:qH} {S:List qH} {R:yLL} {c:Int} (h:Xp s t=((S,R),c)):exG s t=⟨S,R⟩∧(Xp s t).2=c:=by rw [exG,h];exact ⟨rfl,rfl⟩
theorem ex_valid {s:qI} {t:qH} (h:(Xp s t).2=0):jE s∧zu s t:=Classical.byContradiction fun hx=>by rw [ex_1 hx] at h;exact absurd h qj
theorem ex_all {s:qI} {t:qH} (h:(Xp s t).2=0):GrAll s (exG s t).qP (exG s t).fNext:=by
  have hv:=ex_valid h
  have e:=ex_0 hv rfl
  rw [e] at h
  have:=gr_all hv.1 hv.2 h
  rw [← e] at this;exact this

noncomputable def xU (s:qI) (S:List qH) (k:Nat):List qH:=(S.take k).filter fun u=>dec (Halted s u)
theorem ends_yes {s:qI} {S:List qH} {k:Nat} (hk:k < S.length) (h:Halted s (S[k]!)):xU s S k++[S[k]!]=xU s S (k+1):=by
  unfold xU
  rw [← take_snoc hk,List.filter_append,List.filter_cons_of_pos (by simpa using yH h),List.filter_nil]
theorem ends_no {s:qI} {S:List qH} {k:Nat} (hk:k < S.length) (h:¬ Halted s (S[k]!)):xU s S k=xU s S (k+1):=by
  unfold xU
  rw [← take_snoc hk,List.filter_append,List.filter_cons_of_neg (by rw [xx h];decide),List.filter_nil,List.append_nil]
theorem ends_len (s:qI) (S:List qH) (k:Nat):(xU s S k).length≤S.length:=Nat.le_trans (List.length_filter_le _ _) (by rw [List.length_take];omega)
def idxL (R:yLL) (k:Nat):yLI:=((List.range k).filter fun i=>decide ((R[i]!).length=0)).map fun (i:Nat)=>(i:Int)
theorem idx_yes {R:yLL} {k:Nat} (h:(R[k]!).length=0):idxL R k++[(k:Int)]=idxL R (k+1):=by
  unfold idxL
  rw [List.range_succ,List.filter_append,List.filter_cons_of_pos (by simpa using h),List.filter_nil,List.map_append];rfl
theorem idx_no {R:yLL} {k:Nat} (h:¬ (R[k]!).length=0):idxL R k=idxL R (k+1):=by
  unfold idxL
  rw [List.range_succ,List.filter_append,List.filter_cons_of_neg (by simpa using h),List.filter_nil,List.append_nil]
theorem idx_len (R:yLL) (k:Nat):(idxL R k).length≤k:=by
  unfold idxL;rw [List.length_map];exact Nat.le_trans (List.length_filter_le _ _) qm
theorem idx_at {R:yLL} {k q:Nat} (hq:q < (idxL R k).length):0≤(idxL R k)[q]! ∧((idxL R k)[q]!).toNat < k:=by
  have hm:(idxL R k)[q]! ∈idxL R k:=by rw [getElem!_pos _ q hq];exact List.getElem_mem hq
  unfold idxL at hm
  obtain ⟨i,hi,e⟩:=List.mem_map.1 hm
  have:=List.mem_range.1 (List.mem_filter.1 hi).1
  unfold idxL
  omega
theorem idx_up {R:yLL} {k p q:Nat} (hpq:p < q) (hq:q < (idxL R k).length):((idxL R k)[p]!).toNat < ((idxL R k)[q]!).toNat:=by
  have h:=(List.pairwise_lt_range (n:=k)).filter (fun i=>decide ((R[i]!).length=0))
  rw [getElem!_pos _ p qf,getElem!_pos _ q hq]
  unfold idxL at hq ⊢
  rw [List.length_map] at hq
  rw [List.getElem_map,List.getElem_map]
  have:=List.pairwise_iff_getElem.1 h p q qf hq hpq
  omega
theorem idx_ends {s:qI} {S:List qH} {R:yLL} (h:GrAll s S R):∀ k,k≤R.length→(idxL R k).map (fun i=>S[i.toNat]!)=xU s S k
  | 0,_=>rfl
  | k+1,hk=>by
    have ih:=idx_ends h k qf
    have hl:=h.len
    by_cases e:(R[k]!).length=0
    · rw [← idx_yes e,List.map_append,ih,← ends_yes qf ((h.ht k qf).1 e)];rfl
    · rw [← idx_no e,ih,ends_no qf (fun hh=>e ((h.ht k qf).2 hh))]
theorem map_snoc! {α β:Type} [Inhabited α] {f:α→β} {l:List α} {q:Nat} (h:q < l.length):(l.take q).map f++[f (l[q]!)]=(l.take (q+1)).map f:=by
  rw [← take_snoc h,List.map_append];rfl
noncomputable def Qk (s:qI) (t:qH):List qH×Int:=if (Xp s t).2=0 then (xU s (exG s t).qP (exG s t).qP.length,0) else ([],(Xp s t).2)
theorem hs_c {s:qI} {t:qH} (h:(Xp s t).2≠0):Qk s t=([],(Xp s t).2):=by rw [Qk,if_neg h]
theorem hs_0 {s:qI} {t:qH} (h:(Xp s t).2=0):Qk s t=(xU s (exG s t).qP (exG s t).qP.length,0):=by rw [Qk,if_pos h]
theorem hs_i {s:qI} {t:qH} (h:(Xp s t).2=0) {q:Nat} (hq:(idxL (exG s t).fNext (exG s t).fNext.length).length≤q):Qk s t=(((idxL (exG s t).fNext (exG s t).fNext.length).take q).map (fun i=>(exG s t).qP[i.toNat]!),0):=by
  have ga:=ex_all h
  rw [hs_0 h,List.take_of_length_le hq,idx_ends ga _ (Nat.le_refl _),ga.len]
theorem snoc_lt {α:Type} [Inhabited α] {l:List α} {x:α} {q:Nat} (h:q < l.length):(l++[x])[q]! =l[q]! :=by
  rw [getElem!_pos _ q (by simp;omega),getElem!_pos _ q h,List.getElem_append_left]
theorem snoc_eq {α:Type} [Inhabited α] {l:List α} {x:α}:(l++[x])[l.length]! =x:=by
  rw [getElem!_pos _ l.length qm];simp
def InTo (R:yLL) (i j q:Nat):Prop:=∃ k,k < q∧((R[i]!)[k]!).toNat=j
def InRow (R:yLL) (i j:Nat):Prop:=InTo R i j (R[i]!).length
def FromGe (R:yLL) (lo j i:Nat):Prop:=lo≤i∧i < R.length∧InRow R i j∧∀ i',lo≤i' →i' < i→¬ InRow R i' j
open Classical in
noncomputable def frm (R:yLL) (j:Nat):Nat:=if h:∃ i,FromGe R 0 j i then h.choose else 0
theorem FromGe.same {R:yLL} {lo j i i' :Nat} (h:FromGe R lo j i) (h' :FromGe R lo j i'):i=i' :=by
  rcases Nat.lt_trichotomy i i' with h1 | h1 | h1
  · exact absurd h.2.2.1 (h'.2.2.2 i h.1 h1)
  · exact h1
  · exact absurd h'.2.2.1 (h.2.2.2 i' h'.1 h1)
theorem frm_of {R:yLL} {j i:Nat} (h:FromGe R 0 j i):frm R j=i:=by
  have hx:∃ i,FromGe R 0 j i:=⟨i,h⟩
  rw [frm,dif_pos hx];exact hx.choose_spec.same h
open Classical in
theorem frm_ok {S:List qH} {R:yLL} (h:GrOk S R) {j:Nat} (h0:0 < j) (hj:j < S.length):FromGe R 0 j (frm R j)∧frm R j < j:=by
  obtain ⟨i,h1,h2,k,hk,he⟩:=h.from' j h0 hj
  obtain ⟨m,a,b,c⟩:=least_of (g:=fun i=>decide (InRow R i j)) i (decide_eq_true ⟨k,hk,by omega⟩)
  have hf:FromGe R 0 j m:=⟨Nat.zero_le _,by omega,of_decide_eq_true b,fun i' _ hi' =>of_decide_eq_false (c i' hi')⟩
  rw [frm_of hf];exact ⟨hf,by omega⟩
def FGe (R:yLL) (F:yLI) (lo:Nat):Prop:=∀ j,j < F.length→∀ i,FromGe R lo j i→F[j]! =(i:Int)
def FMid (R:yLL) (F:yLI) (i q:Nat):Prop:=∀ j,j < F.length→(InTo R i j q→F[j]! =(i:Int))∧(¬ InTo R i j q→∀ i',FromGe R (i+1) j i' →F[j]! =(i' :Int))
theorem FGe.start {R:yLL} {F:yLI} {lo:Nat} (h:R.length≤lo):FGe R F lo:=fun j _ i hi=>by have:=hi.1;have:=hi.2.1;omega
theorem FMid.start {R:yLL} {F:yLI} {i:Nat} (h:FGe R F (i+1)):FMid R F i 0:=fun j hj=>⟨fun ⟨k,hk,_⟩=>by omega,fun _=>h j hj⟩
theorem FMid.step {R:yLL} {F:yLI} {i q:Nat} (h:FMid R F i q) {c:Nat} (hc:((R[i]!)[q]!).toNat=c):FMid R (F.set c (i:Int)) i (q+1):=fun j hj=>by
  subst hc
  rw [List.length_set] at hj
  obtain ⟨a,b⟩:=h j hj
  have hg:(F.set ((R[i]!)[q]!).toNat (i:Int))[j]! =if ((R[i]!)[q]!).toNat=j∧j < F.length then (i:Int) else F[j]! :=setAt0
  rw [hg]
  by_cases e:((R[i]!)[q]!).toNat=j
  · rw [if_pos ⟨e,hj⟩];exact ⟨fun _=>rfl,fun hn=>absurd ⟨q,by omega,e⟩ hn⟩
  · rw [if_neg (fun hx=>e hx.1)]
    have hi:InTo R i j (q+1)↔InTo R i j q:=⟨fun ⟨k,hk,he⟩=>⟨k,by
      by_cases ek:k=q
      · subst ek;exact absurd he e
      · omega,he⟩,fun ⟨k,hk,he⟩=>⟨k,by omega,he⟩⟩
    rw [hi];exact ⟨a,b⟩
theorem FMid.fin {R:yLL} {F:yLI} {i q:Nat} (h:FMid R F i q) (hq:q=(R[i]!).length) (hi:i < R.length):FGe R F i:=fun j hj i' hf=>by
  subst hq
  obtain ⟨a,b⟩:=h j hj
  by_cases e:InRow R i j
  · rw [a e,hf.same ⟨Nat.le_refl _,hi,e,fun i'' h1 h2=>by omega⟩]
  · refine b e i' ⟨?_,hf.2.1,hf.2.2.1,fun i'' h1 h2=>hf.2.2.2 i'' qf h2⟩
    rcases Nat.lt_or_ge i i' with h1 | h1
    · omega
    · have:i=i' :=by have:=hf.1;omega
      subst this;exact absurd hf.2.2.1 e
theorem FGe.at' {S:List qH} {R:yLL} {F:yLI} (h:FGe R F 0) (g:GrOk S R) {j:Nat} (h0:0 < j) (hj:j < S.length) (hl:F.length=S.length):F[j]! =(frm R j:Int):=h j qf _ (frm_ok g h0 hj).1
structure FromOk (S:List qH) (R:yLL) (F:yLI):Prop where
  len:F.length=S.length
  fst:F[0]! = -1
  all:∀ j,0 < j→j < S.length→0≤F[j]! ∧FromGe R 0 j (F[j]!).toNat
theorem FromOk.start (t:qH):FromOk [t] [] [-1]:=⟨rfl,rfl,fun j h1 h2=>by simp at h2;omega⟩
theorem FromOk.next {S:List qH} {R:yLL} {F:yLI} (h:FromOk S R F) (g:GrOk S R) {nx:List qH} {k i:Nat} (hp:0 < S.length) (hi:i=R.length):FromOk (vz S nx k).1 (R++[(vz S nx k).2]) (F++List.replicate ((vz S nx k).1.length - S.length) (i:Int)):=by
  subst hi
  obtain ⟨h1,h2⟩:=addSt_rows (S:=S) (nx:=nx) k
  obtain ⟨l1,l2,l3⟩:=addSt_len (S:=S) (nx:=nx) k
  have hl:=h.len
  have hold:∀ j,j < S.length→(F++List.replicate ((vz S nx k).1.length - S.length) (R.length:Int))[j]! =F[j]! :=fun j hj=>by
    rw [getElem!_pos _ j (by simp;omega),getElem!_pos _ j qf,List.getElem_append_left]
  have hrow:∀ i j,i < R.length→(InRow (R++[(vz S nx k).2]) i j↔InRow R i j):=fun i j hi=>by
    unfold InRow InTo;rw [snoc_lt hi]
  refine ⟨by simp;omega,by rw [hold 0 hp];exact h.fst,fun j hj0 hj=>?_⟩
  by_cases e:j < S.length
  · rw [hold j e]
    obtain ⟨a,b,c,d,f⟩:=h.all j hj0 e
    exact ⟨a,b,by rw [List.length_append,List.length_singleton];omega,(hrow _ _ c).2 d,fun i' h3 h4 hx=>f i' h3 h4 ((hrow _ _ qf).1 hx)⟩
  · have hv:(F++List.replicate ((vz S nx k).1.length - S.length) (R.length:Int))[j]! =(R.length:Int):=by
      rw [getElem!_pos _ j (by simp;omega),List.getElem_append_right qf,List.getElem_replicate]
    rw [hv,Int.toNat_natCast]
    refine ⟨by omega,Nat.zero_le _,by simp,?_,fun i' _ h4 hx=>?_⟩
    · obtain ⟨q,hq,he⟩:=h2 j qf hj
      unfold InRow;rw [snoc_eq];exact ⟨q,by omega,by rw [snoc_eq,he];omega⟩
    · obtain ⟨q,hq,he⟩:=(hrow _ _ h4).1 hx
      have:=(g.rows i' h4 q hq).2
      omega
theorem FromOk.at' {S:List qH} {R:yLL} {F:yLI} (h:FromOk S R F) {j:Nat} (hj:j < S.length):(0≤F[j]! ↔0 < j)∧(0 < j→F[j]! =(frm R j:Int)):=by
  by_cases e:j=0
  · subst e;rw [h.fst];exact ⟨by omega,by omega⟩
  · obtain ⟨a,b⟩:=h.all j qf hj
    rw [frm_of b];exact ⟨by omega,by omega⟩
end
section
open Go.RowKit
def Yf (B:yLN) (v:Value) (xs:List Value):Fact where
  F:=B
  φ:=fun w=>xs=[]∨∃ b o m c,v=Sv (some ⟨b,o,none⟩) m c∧B=[b]∧vN w b o xs
  stay:=by
    rintro w w' (h | ⟨b,o,m,c,h1,h2,h3⟩) hs
    · exact Or.inl h
    · exact Or.inr ⟨b,o,m,c,h1,h2,cellsAt_stay h3 (hs b (by simp [h2]))⟩

section
variable {W0 w : World} {ps : List Prv} {Γ : List Fact} {L : List yLN}
theorem St.pool {α:Type} [qO α] (H:St W0 w ps Γ) (i:Nat) {F:yLN} {v:Value} {l:List α} (hf:Γ[i]? =some (isF true F v l)) (N:Fresh W0.heap.size (F :: L)):
    ∃ (xs:List Value) (B P:yLN),Fresh W0.heap.size (P :: L)∧St W0 w ps (zf true P (xs.drop (0 * qO.size α)) (l.drop 0) :: Yf B v xs :: Γ):=by
  obtain ⟨⟨a,cap,hc,_,h⟩,hfr⟩:=H.get i hf
  simp only [List.cons.injEq,and_true] at hc
  rcases h with ⟨hl,hF⟩ | ⟨b,o,F',vs,ha,hF,_,hr,hcl⟩
  · refine ⟨[],[],[],N.less qm qm,?_⟩
    subst hl
    exact (H.add (Yf [] v []) (Or.inl rfl) (by simp [Yf])).add _ ⟨by simp [reps],fun _=>vg.nil _⟩ (by simp [zf])
  · refine ⟨vs,[b],F',N.less (fun x hx=>by rw [hF];simp [hx]) (fun hn=>by rw [hF] at hn;exact (List.nodup_cons.1 hn).2),?_⟩
    have h1:=H.jC i hf (Yf [b] v vs) (Or.inr ⟨b,o,l.length,cap,by rw [hc,ha],rfl,hcl⟩) (fun x hx=>by have hx:x∈[b]:=hx;show x∈F;rw [hF];simp at hx;simp [hx])
    refine h1.jC (i+1) hf (zf true F' (vs.drop (0 * qO.size α)) (l.drop 0)) ⟨?_,fun _=>(hfr rfl).sub fun x hx=>by rw [hF];simp [hx]⟩ fun x hx=>by have hx:x∈F' :=hx;show x∈F;rw [hF];simp [hx]
    rw [Nat.zero_mul];exact hr
theorem St.drain {α:Type} [qO α] [Inhabited α] (H:St W0 w ps Γ) (j:Nat) {B:yLN} {b o m c:Nat} {xs:List Value} (hx:Γ[j]? =some (Yf B (Sv (some ⟨b,o,none⟩) m c) xs)) (i:Nat) {P:yLN} {l:List α} {k0:Nat}
    (hf:Γ[i]? =some (zf true P (xs.drop (k0 * qO.size α)) (l.drop k0))) (N:Fresh W0.heap.size (P :: L)) (hz:0 < qO.size α) (k:Nat) (h0:k0≤k) (hk:k < l.length):
    ∃ cs G P',vN w b (o+k * qO.size α) cs∧qO.rep w G cs (l[k]!)∧vg w G∧(∀ x∈G,x∈P)∧b∈B∧Fresh W0.heap.size (G :: P' :: L)∧(∀ x∈P',x∈P)∧reps w P' (xs.drop ((k+1) * qO.size α)) (l.drop (k+1))∧vg w P' :=by
  obtain ⟨d,rfl⟩:∃ d,k=k0+d:=⟨k - k0,by omega⟩
  obtain ⟨hr,hfr⟩:=H.get i hf
  obtain ⟨F1,Fk,F2,v1,cs,v2,hP,hv,hv1,hcs,hrep,_,h2⟩:=reps_get hr d (by rw [List.length_drop];omega)
  have hlen:=congrArg List.length hv
  simp only [List.length_append,List.length_drop] at hlen
  have e1:(k0+d+1) * qO.size α=k0 * qO.size α+(d * qO.size α+qO.size α):=by rw [Nat.add_mul,Nat.add_mul,Nat.one_mul];omega
  have e2:(k0+d) * qO.size α=k0 * qO.size α+d * qO.size α:=Nat.add_mul ..
  have hxs:xs.take (k0 * qO.size α)++v1++cs++v2=xs:=by rw [List.append_assoc,List.append_assoc,← List.append_assoc v1,← hv,List.take_append_drop]
  have hgl:(l.drop k0)[d]'(by rw [List.length_drop];omega)=l[k0+d]! :=by rw [List.getElem_drop,getElem!_pos l _ hk]
  rw [hgl] at hrep
  obtain ⟨m',c',hB,hcl⟩:∃ m' c' :Nat,B=[b]∧vN w b o xs:=by
    rcases H.get j hx with h | ⟨b',o',m',c',h1,h2',h3⟩
    · rw [h] at hlen;simp at hlen;omega
    · simp only [Value.slice.injEq,Option.some.injEq,Addr.mk.injEq,and_true] at h1
      obtain ⟨⟨rfl,rfl⟩,_⟩:=h1
      exact ⟨m',c',h2',h3⟩
  have hd:(l.drop k0).drop (d+1)=l.drop (k0+d+1):=by rw [List.drop_drop];congr 1
  rw [hd] at h2
  have hv2:xs.drop ((k0+d+1) * qO.size α)=v2:=by
    rw [e1,← List.drop_drop,hv,List.drop_append,List.drop_of_length_le (by simp only [List.length_append];omega),List.nil_append]
    simp only [List.length_append]
    rw [show d * qO.size α+qO.size α - (v1.length+cs.length)=0 by omega];rfl
  have hndP:P.Nodup:=N.nd P qm
  have hsub:∀ x∈Fk++F2,x∈P:=fun x hx=>by
    rw [hP,List.append_assoc];exact List.mem_append_right _ hx
  refine ⟨cs,Fk,F2,?_,hrep,(hfr rfl).sub fun x hx=>hsub x (by simp [hx]),fun x hx=>hsub x (by simp [hx]),by simp [hB],(N.less hsub fun hn=>?_).split,fun x hx=>hsub x (by simp [hx]),by rw [hv2];exact h2,(hfr rfl).sub fun x hx=>hsub x (by simp [hx])⟩
  · rw [← hxs] at hcl
    have:=cells_mid hcl
    rw [List.length_append,hv1,List.length_take_of_le qf,← e2] at this
    exact this
  · rw [hP,List.append_assoc] at hn;exact (List.nodup_append.1 hn).2.1

theorem St.drainList {α:Type} [qO α] (H:St W0 w ps Γ) (j:Nat) {B:yLN} {b o m c:Nat} {xs:List Value} (hx:Γ[j]? =some (Yf B (Sv (some ⟨b,o,none⟩) m c) xs)) (i:Nat) {P:yLN} {l:List (List α)} {k0:Nat}
    (hf:Γ[i]? =some (zf true P (xs.drop (k0 * 1)) (l.drop k0))) (N:Fresh W0.heap.size (P :: L)) (iv:Int) (k:Nat) (hi:iv.toNat=k) (h0:k0≤k) (hk:k < l.length):
    ∃ (a:yOA) (c' :Nat) (G P' :yLN),Fresh W0.heap.size (G :: P' :: L)∧St W0 w ps (isF true G (Sv a (l[k]!).length c') (l[k]!) :: atF b (o+iv.toNat * 1) [Sv a (l[k]!).length c'] :: zf true P' (xs.drop ((k+1) * 1)) (l.drop (k+1)) :: Γ):=by
  subst hi
  obtain ⟨cs,G,P',hc,hr,hfr,hsub,hB,N',hs2,h2,hf2⟩:=St.drain (α:=List α) H j hx i hf N (show 0 < 1 by decide) iv.toNat h0 hk
  obtain ⟨a,c',rfl,hh⟩:=id hr
  have s1:=H.jC i hf (zf true P' (xs.drop ((iv.toNat+1) * 1)) (l.drop (iv.toNat+1))) ⟨h2,fun _=>hf2⟩ hs2
  have s2:=s1.jC (j+1) hx (atF b (o+iv.toNat * 1) [Sv a (l[iv.toNat]!).length c']) hc (fun x hx=>by have hx:x∈[b]:=hx;simp at hx;subst hx;exact hB)
  exact ⟨a,c',G,P',N',s2.jC (i+2) hf (isF true G (Sv a (l[iv.toNat]!).length c') (l[iv.toNat]!)) ⟨hr,fun _=>hfr⟩ hsub⟩
theorem St.Y8 (H:St W0 w ps Γ) (j:Nat) {B:yLN} {b o m c:Nat} {xs:List Value} (hx:Γ[j]? =some (Yf B (Sv (some ⟨b,o,none⟩) m c) xs)) (i:Nat) {P:yLN} {l:List qH} {k0:Nat}
    (hf:Γ[i]? =some (zf true P (xs.drop (k0 * 3)) (l.drop k0))) (N:Fresh W0.heap.size (P :: L)) (iv:Int) (k:Nat) (hi:iv.toNat=k) (h0:k0≤k) (hk:k < l.length):
    ∃ (aA:yOA) (cA:Nat) (FA:yLN) (aB:yOA) (cB:Nat) (FB:yLN) (aO:yOA) (cO:Nat) (FO P' :yLN),Fresh W0.heap.size (FA :: FB :: FO :: P' :: L)∧
      St W0 w ps (isF true FA (Sv aA ((l[k]!).qA.length) cA) ((l[k]!).qA) :: isF true FB (Sv aB ((l[k]!).qE.length) cB) ((l[k]!).qE) :: isF true FO (Sv aO ((l[k]!).qy.length) cO) ((l[k]!).qy) ::
        atF b (o+iv.toNat * 3) [Sv aA ((l[k]!).qA.length) cA,Sv aB ((l[k]!).qE.length) cB,Sv aO ((l[k]!).qy.length) cO] :: zf true P' (xs.drop ((k+1) * 3)) (l.drop (k+1)) :: Γ):=by
  subst hi
  obtain ⟨cs,G,P',hc,hr,hfr,hsub,hB,N',hs2,h2,hf2⟩:=St.drain (α:=qH) H j hx i hf N (show 0 < 3 by decide) iv.toNat h0 hk
  obtain ⟨vA,vB,vO,FA,FB,FO,rfl,hFF,hA,hBb,hO⟩:=id hr
  obtain ⟨aA,cA,rfl⟩:=slice_form hA
  obtain ⟨aB,cB,rfl⟩:=slice_form hBb
  obtain ⟨aO,cO,rfl⟩:=slice_form hO
  subst hFF
  have s1:=H.jC i hf (zf true P' (xs.drop ((iv.toNat+1) * 3)) (l.drop (iv.toNat+1))) ⟨h2,fun _=>hf2⟩ hs2
  have s2:=s1.jC (j+1) hx (atF b (o+iv.toNat * 3) [Sv aA _ cA,Sv aB _ cB,Sv aO _ cO]) hc (fun x hx=>by have hx:x∈[b]:=hx;simp at hx;subst hx;exact hB)
  have s3:=s2.jC (i+2) hf (isF true FO _ ((l[iv.toNat]!).qy)) ⟨hO,fun _=>hfr.sub fun x hx=>by simp [hx]⟩ (fun x hx=>hsub x (by have hx:x∈FO:=hx;simp [hx]))
  have s4:=s3.jC (i+3) hf (isF true FB _ ((l[iv.toNat]!).qE)) ⟨hBb,fun _=>hfr.sub fun x hx=>by simp [hx]⟩ (fun x hx=>hsub x (by have hx:x∈FB:=hx;simp [hx]))
  exact ⟨aA,cA,FA,aB,cB,FB,aO,cO,FO,P',N'.split.split,s4.jC (i+4) hf (isF true FA _ ((l[iv.toNat]!).qA)) ⟨hA,fun _=>hfr.sub fun x hx=>by simp [hx]⟩ (fun x hx=>hsub x (by have hx:x∈FA:=hx;simp [hx]))⟩
end
end
section
open Go.RowKit Go.Shelf Go.Lib Go.Sort
section
variable {W0 w : World} {ps : List Prv} {Γ : List Fact}
end
end
section
open Go.ChangeShapes Go.WideShapes Go.ChangeAt Go.RowKit Go.Joins
set_option linter.unusedVariables false
set_option linter.unusedSimpArgs false
def Reads (P:Program) (t:TypeId) (α:Type) [qO α]:Prop:=
  ∀ {H:Type} {enc:TypeId×Value→H} {w:World} {spare:Nat→Bool} {held:Bool} {fuel:Nat} {cs:List Value} {x:DataW H×List MemPlace},
    DataW.trod enc P w 0 spare held fuel t cs=some x→∃ F,∃ y:α,qO.rep w F cs y

theorem X4 {P:Program} {t:TypeId} (hu:P.underlying t=some (.int .i64)):Reads P t Int:=fun h=>by
  obtain ⟨n,rfl,_⟩:=DataW.trod_int hu h
  exact ⟨[],n,rfl,rfl⟩
theorem reads_bool {P:Program} {t:TypeId} (hu:P.underlying t=some .bool):Reads P t Bool:=fun h=>by
  obtain ⟨b,rfl,_⟩:=DataW.trod_bool hu h
  exact ⟨[],b,rfl,rfl⟩

theorem cell_spot {w:World} {a:Addr} {v:Value} (h:w.cell? a=some v):a.spot=none:=by
  unfold World.cell? at h
  split at h
  · split at h
    · cases h
    · rename_i hs;simpa using hs
  · cases h

theorem QN {α:Type} [qO α] {P:Program} {t e:TypeId} (hu:P.underlying t=some (.slice e)) (hc:P.cellsOf e=qO.size α) (hz:0 < qO.size α) (he:Reads P e α):Reads P t (List α):=by
  intro H enc w spare held fuel cs x h
  rcases DataW.trod_slice hu h with ⟨rfl,_⟩ | ⟨a,len,cap,elems,rest,n,_,rfl,_,_,hlc,hcm,hel,hget,_⟩
  · exact ⟨[],[],none,0,rfl,by simp,Or.inl ⟨rfl,rfl⟩⟩
  · have hm:cap≤9223372036854775807:=by unfold maxLen at hcm;omega
    rcases Nat.eq_zero_or_pos len with h0 | h0
    · subst h0
      exact ⟨[],[],some a,cap,rfl,by simp,Or.inl ⟨rfl,rfl⟩⟩
    · have hone:∀ i,i < len→∃ ci Fi,∃ y:α,w.cells? 0 (a.add (i * qO.size α)) (qO.size α)=some ci∧qO.rep w Fi ci y:=by
        intro i hi
        have hg:=hget i hi
        rw [hc] at hg
        have hs:elems[i]? =some (elems[i]'(by omega)):=List.getElem?_eq_getElem qf
        rw [hs] at hg
        obtain ⟨ci,h1,h2⟩:=Option.bind_eq_some_iff.1 hg
        obtain ⟨Fi,y,hr⟩:=he h2
        exact ⟨ci,Fi,y,h1,hr⟩
      have hsp:a.spot=none:=by
        obtain ⟨ci,Fi,y,h1,_⟩:=hone 0 h0
        obtain ⟨_,hl,hcell⟩:=World.cells?_some h1
        have:=hcell 0 hz
        rw [List.getElem?_eq_getElem (show 0 < ci.length by omega)] at this
        have:=cell_spot this
        simpa [Addr.add] using this
      obtain ⟨b,off,sp⟩:=a
      simp only at hsp
      subst hsp
      have hadd:∀ i j:Nat,((⟨b,off,none⟩:Addr).add (i * qO.size α)).add j=⟨b,off+i * qO.size α+j,none⟩:=fun i j=>by simp [Addr.add_mid]
      have hall:∀ m,m≤len→∃ F vs,∃ l:List α,l.length=m∧reps w F vs l∧vN w b off vs:=by
        intro m
        induction m with
        | zero=>exact fun _=>⟨[],[],[],rfl,⟨rfl,rfl⟩,fun i v hv=>by simp at hv⟩
        | succ m ih=>
          intro hm'
          obtain ⟨F,vs,l,hl,hr,hcl⟩:=ih qf
          obtain ⟨ci,Fi,y,h1,h2⟩:=hone m qf
          obtain ⟨_,hcl2,hcell⟩:=World.cells?_some h1
          refine ⟨F++Fi,vs++ci,l++[y],by simp [hl],QM hr (reps_one h2),fun i v hv=>?_⟩
          have hvl:=XU hr
          rw [hl] at hvl
          rcases Nat.lt_or_ge i vs.length with hi | hi
          · rw [List.getElem?_append_left hi] at hv
            exact hcl i v hv
          · rw [List.getElem?_append_right hi] at hv
            have hi2:i - vs.length < ci.length:=by
              rcases Nat.lt_or_ge (i - vs.length) ci.length with h | h
              · exact h
              · simp [h] at hv
            have:=hcell (i - vs.length) qf
            rw [hadd,hv] at this
            rw [← this]
            congr 1
            rw [show off+i=off+m * qO.size α+(i - vs.length) by omega]
      obtain ⟨F,vs,l,hl,hr,hcl⟩:=hall len (Nat.le_refl _)
      have hb:b < w.heap.size:=by
        have h1:0 < vs.length:=by rw [XU hr,hl];exact Nat.mul_pos h0 hz
        exact World.block_lt_of_cell? w _ (hcl 0 _ (List.getElem?_eq_getElem h1))
      subst hl
      exact ⟨b :: F,l,some ⟨b,off,none⟩,cap,rfl,⟨by omega,hlc⟩,Or.inr ⟨b,off,F,vs,rfl,rfl,hb,hr,hcl⟩⟩

theorem jZ {n:Nat} {cs:List Value} (h:cs.length=n+1):∃ c cs',cs=c :: cs' ∧cs'.length=n:=by
  cases cs with
  | nil=>simp at h
  | cons c cs=>exact ⟨c,cs,rfl,by simpa using h⟩
theorem yA {P:Program} {H:Type} {enc:TypeId×Value→H} {w:World} {spare:Nat→Bool} {held:Bool} {fuel:Nat} {t:TypeId} {fs:Array Field} {cs:List Value} {x:DataW H×List MemPlace} (hu:P.underlying t=some (.struct fs))
    (h:DataW.trod enc P w 0 spare held fuel t cs=some x) (i off:Nat) {f:Field} (hf:fs[i]? =some f) (ho:f.offset=off) {α:Type} [qO α] (hr:Reads P f.type α) (h1:qO.size α=1) (hc:P.cellsOf f.type=1):
    ∃ F,∃ y:α,∃ v,cs[off]? =some v∧qO.rep w F [v] y:=by
  obtain ⟨xs,n,_,_,hl,hxl,hall⟩:=DataW.trod_struct hu h
  have hi:i < xs.length:=by
    rw [hxl]
    exact (Array.getElem?_eq_some_iff.1 hf).1
  have hg:=hall i f hf
  rw [List.getElem?_eq_getElem hi,hc,ho] at hg
  obtain ⟨F,y,hy⟩:=hr hg
  have hlen:=qO.len hy
  rw [h1] at hlen
  obtain ⟨v,cs',e,hl'⟩:=jZ hlen
  obtain rfl:=List.eq_nil_of_length_eq_zero hl'
  rw [e] at hy
  refine ⟨F,y,v,?_,hy⟩
  have:(List.take 1 (List.drop off cs))[0]? =some v:=by rw [e];rfl
  simpa using this
theorem arg_int {P:Program} {H:Type} {enc:TypeId×Value→H} {w:World} {spare:Nat→Bool} {held:Bool} {b0:Nat} {t:TypeId} {v:Value} {d:DataW H} {p:List MemPlace} (hu:P.underlying t=some (.int .i64))
    (hv:Value.okWide P w .any b0 t v) (h:DataW.Trod enc P w 0 spare held t v d p):∃ n:Int,v=.int .i64 n∧ -9223372036854775808≤n∧n≤9223372036854775807:=by
  obtain ⟨n,rfl⟩:=okWide_int hu hv
  obtain ⟨fuel,hf⟩:=h
  obtain ⟨m,hm,_,hw⟩:=DataW.trod_int hu hf
  have hm' :n=m:=by simpa [Value.cells] using hm
  subst hm'
  exact ⟨n,rfl,by simp [Lit.wf,IntKind.min,IntKind.max,IntKind.signed,IntKind.bits] at hw;omega⟩
theorem arg_struct {P:Program} {α:Type} [qO α] {H:Type} {enc:TypeId×Value→H} {w:World} {spare:Nat→Bool} {held:Bool} {b0:Nat} {t:TypeId} {fs:Array Field} {v:Value} {d:DataW H} {p:List MemPlace} (hu:P.underlying t=some (.struct fs)) (hr:Reads P t α)
    (hv:Value.okWide P w .any b0 t v) (h:DataW.Trod enc P w 0 spare held t v d p):∃ (cs:List Value) (F:yLN) (x:α),v=.agg cs.toArray∧qO.rep w F cs x:=by
  obtain ⟨cs,rfl,_⟩:=okWide_struct hu hv
  obtain ⟨fuel,hf⟩:=h
  obtain ⟨F,x,hx⟩:=hr hf
  exact ⟨cs.toList,F,x,by simp,hx⟩
theorem slice_is {α:Type} [qO α] {w:World} {F:yLN} {v:Value} {l:List α} (h:qO.rep w F [v] l):∃ a c,v=Sv a l.length c∧qO.rep w F [Sv a l.length c] l:=by
  obtain ⟨a,c,hc,_⟩:=id h
  simp only [List.cons.injEq,and_true] at hc
  exact ⟨a,c,hc,hc▸h⟩
section
variable {H : Type} {enc : TypeId × Value → H} {P : Program}

theorem trodAll_below (hl:laidOutB P=true) {W W' :World} (hb:Below W.heap.size W W'):
    ∀ (ts:List TypeId) (vs:List Value) (ds:List (DataW H)) (ps:List MemPlace),(∀ t∈ts,P.readableRec t=true∧t < P.types.size)→
      DataW.TrodAll enc P W 0 (fun _=>true) true ts vs ds ps→(∀ x∈ps,x.block < W.heap.size)→
      DataW.TrodAll enc P W' 0 (fun b=>decide (b < W.heap.size)) true ts vs ds ps
  | [],vs,ds,ps,_,h,_=>by
    obtain ⟨rfl,rfl,rfl⟩:=trodAll_nil h
    exact trodAll_mk0
  | t :: ts,vs,ds,ps,hr,h,hp=>by
    obtain ⟨v,vs',d,ds',p,q,rfl,rfl,rfl,h0,h1⟩:=trodAll_cons h
    have ht:=hr t (List.mem_cons_self ..)
    exact trodAll_cons_mk (Below.trod hl ht.1 ht.2 h0 hb (fun x hx=>hp x (List.mem_append_left _ hx)))
      (trodAll_below hl hb ts vs' ds' q (fun t' ht' =>hr t' (List.mem_cons_of_mem _ ht')) h1 (fun x hx=>hp x (List.mem_append_right _ hx)))

theorem post_law {f:Func} {s:ChangeSpec} {W W' :World} {args:Array Value} {tb:TypeId} {ds gs:List (DataW H)} {before:List MemPlace}
    (hW:DataW.Whole enc P f.params.toList s.vars false W args.toList ds gs before) (hv:s.vars=[])
    (hs:s.fn H (ds++[])={ results:=[.lit (.bool true)],args:=ds }) (hr:f.resultTypes=#[tb]) (hu:P.underlying tb=some .bool)
    (hl:laidOutB P=true) (hts:∀ t∈f.params.toList,P.readableRec t=true∧t < P.types.size) (hb:Below W.heap.size W W'):
    s.post enc P f false true false false W args (Bv true) W' :=by
  have hW' :=hW
  obtain ⟨p,q,hA,hV,rfl,hz,hn⟩:=hW
  rw [hv] at hV
  obtain ⟨rfl,rfl⟩:=trodVars_none hV
  have hlt:∀ x∈p++[],x.block < W.heap.size:=fun x hx=>hW'.lt x hx
  refine ⟨ds,[],p++[],[],p,[],hW',?_,?_,?_,World.keptBut_mono (fun x hx=>⟨hx,Or.inr (Or.inl (by simpa using hx))⟩) (hb.frame (·∈p++[])),fun h=>by cases h⟩
  · rw [hs,hr]
    simp only [Value.resultList]
    exact trodAll_mk1 (shut_bool hu true)
  · rw [hs]
    exact trodAll_below hl hb _ _ _ _ hts hA (fun x hx=>hlt x (by simpa using hx))
  · rw [hv,hs]
    exact rfl
end
end
section
open Go.Proofs.Tryz
open Go.RowKit
set_option linter.unusedVariables false
set_option linter.unusedSimpArgs false
set_option maxRecDepth 100000
set_option maxHeartbeats 4000000
variable {cx cl bs os qB qJ bt ot qR xk qK : Nat}
theorem Xe (w:World) (x:yLI) (kk:Int) (ax:yOA) (cx:Nat) (Fx:yLN) (hx:qO.rep w Fx [Sv ax x.length cx] x) (nd:Fx.Nodup) (fr:vg w Fx) (p0:0≤kk) (p1:kk+(cnt x:Nat)≤4611686018427387904):Calls Tryz.prog 68 #[Sv ax x.length cx,yI kk] w (RetM (fun v w' =>v=yI (kk+(cnt x:Nat))∧(isF true Fx (Sv ax x.length cx) (mrk x kk)).φ w') Fx w):=by
 refine en func68 ntmps68 ?_
 have H:=St.start w
 replace H:=H.add (sF true Fx ax cx x) ⟨hx,fun _=>fr.sub (by intro z hz;simp [hz])⟩ (start_lt hx)
 have nhx:=qM hx
 clear hx
 have C:Chg Fx w w:=Chg.refl _ _
 have N:([Fx]:List yLN).flatten.Nodup:=by simpa using nd
 refine zcr (sp (yI 0) (zjcc (sp (yI 0) (zjn (qX ?_)))))
 replace H:St w w [] [isF true Fx (Sv ax x.length cx) (jm x kk 0)]:=by rw [markTo_zero];exact H
 refine zD (fun m' ρ w1=>∃ (xY:Env) (k:Nat) (r:Int) (W:World),ρ=upd (upd (upd (upd xY 0 (Sv ax x.length cx)) 1 (yI r)) 4 (yI 0)) 5 (yI k)∧(k≤x.length)∧(r=kk+(cntTo x k:Nat))∧(Chg Fx w W)∧m' =x.length - k∧St W w1 [] [isF true Fx (Sv ax x.length cx) (jm x kk k)]) (x.length - 0) ⟨_,0,kk,w,uE4,qf,(by exact (Int.add_zero _).symm),(by exact C),rfl,H⟩ ?_
 clear H
 rintro m' ρ w2 ⟨xY,k,r,W,rfl,i0,i1,C,rfl,H⟩
 have hc:=fun h=>cnt_get (l:=x) (k:=k) h
 refine zcc (sps [yI k,Sv ax x.length cx] (oN rfl (sp (Bv (decide ((k:Int) < x.length))) (zjn (cD rfl (fun h3=>?_) (fun h3=>?_))))))
 ·skip
  refine qW (t_n (xQ (qX (zcr (sps [Sv ax x.length cx,yI k,yI r] ?_)))))
  obtain ⟨b4,o5,rfl⟩:=H.addr 0 rfl (by rw [jG _ _ qf];omega)
  obtain ⟨xs1,xs2,G1,G2,rfl,hx,H,N⟩:=H.open_Int nd k (by rw [jG _ _ qf];omega) (markTo_get _ _ qf)
  refine oI rfl rfl (sw (o_storeHole H N _ 0 hx (yI r) sizeOf2 rfl rfl rfl (Nat.le_of_ble_eq_true rfl) fun w6 W7 C8 H=>?_))
  replace C:=C.trans (C8.mono (hole_sub _ _ _ _))
  replace H:St _ _ _ [Ym b4 o5 xs1 [yI r] xs2 G1 G2 ((jm x kk k).take k) ((jm x kk k).drop (k+1))]:=H
  refine zjn (xO (sp (yI r) (sw (zB r 1 rfl rfl (by (have:=hc qf;have e:cnt (x[k]!)=1:=rfl;omega)) (sp (yI (r+1)) (xM (b_n (t_n (xO (sp (yI k) (sw (zB k 1 rfl rfl (by (have:=hc qf;have e:cnt (x[k]!)=1:=rfl;omega)) (sp (yI (k+1)) (xM ?_))))))))))))))
  replace H:=H.closeAt (y:=mrk (x[k]!) r) (m:=x.length) (c:=cx) ⟨rfl,rfl⟩ (vg.nil _) (by intro z hz;simp at hz) (jm x kk (k+1)) (by subst i1;exact markTo_step _ _ qf) (jG _ _ qf) (by rw [jG _ _ qf];exact nhx)
  refine qY (m' :=x.length - (k+1)) qf ⟨_,k+1,r+1,W7,uE4,?_,?_,?_,rfl,H⟩
  · omega
  · rw [Xl];have e:cnt (x[k]!)=1:=rfl;omega
  · exact C
 refine zx4 (zcr (sps [yI r,yI r] (zjr ?_)))
 obtain rfl:k=x.length:=by omega
 refine ret1 (yI r) rfl rfl ⟨_,rfl,⟨?_,H.get 0 rfl⟩,C.trans (Chg.ofExt H.base)⟩
 first | rfl | (refine congrArg (Value.int .i64) ?_;rw [cnt_list];omega)

theorem markBoolS_ok (w:World) (x:List Bool) (kk:Int) (ax:yOA) (cx:Nat) (Fx:yLN) (hx:qO.rep w Fx [Sv ax x.length cx] x) (nd:Fx.Nodup) (fr:vg w Fx) (p0:0≤kk) (p1:kk+(cnt x:Nat)≤4611686018427387904):Calls Tryz.prog 70 #[Sv ax x.length cx,yI kk] w (RetM (fun v w' =>v=yI (kk+(cnt x:Nat))∧(isF true Fx (Sv ax x.length cx) (mrk x kk)).φ w') Fx w):=by
 refine en func70 ntmps70 ?_
 have H:=St.start w
 replace H:=H.add (sF true Fx ax cx x) ⟨hx,fun _=>fr.sub (by intro z hz;simp [hz])⟩ (start_lt hx)
 have nhx:=qM hx
 clear hx
 have C:Chg Fx w w:=Chg.refl _ _
 have N:([Fx]:List yLN).flatten.Nodup:=by simpa using nd
 refine zcr (sp (yI 0) (zjcc (sp (yI 0) (zjn (qX ?_)))))
 replace H:St w w [] [isF true Fx (Sv ax x.length cx) (jm x kk 0)]:=by rw [markTo_zero];exact H
 refine zD (fun m' ρ w1=>∃ (xY:Env) (k:Nat) (r:Int) (W:World),ρ=upd (upd (upd (upd xY 0 (Sv ax x.length cx)) 1 (yI r)) 4 (yI 0)) 5 (yI k)∧(k≤x.length)∧(r=kk+(cntTo x k:Nat))∧(Chg Fx w W)∧m' =x.length - k∧St W w1 [] [isF true Fx (Sv ax x.length cx) (jm x kk k)]) (x.length - 0) ⟨_,0,kk,w,uE4,qf,(by exact (Int.add_zero _).symm),(by exact C),rfl,H⟩ ?_
 clear H
 rintro m' ρ w2 ⟨xY,k,r,W,rfl,i0,i1,C,rfl,H⟩
 have hc:=fun h=>cnt_get (l:=x) (k:=k) h
 refine zcc (sps [yI k,Sv ax x.length cx] (oN rfl (sp (Bv (decide ((k:Int) < x.length))) (zjn (cD rfl (fun h3=>?_) (fun h3=>?_))))))
 ·skip
  refine qW (t_n (xQ (qX (zcr (sps [Sv ax x.length cx,yI k,yI r] (sw (o_rem r 3 rfl rfl (by (have:=hc qf;have e:cnt (x[k]!)=1:=rfl;omega)) qf (by (have:=hc qf;have e:cnt (x[k]!)=1:=rfl;omega)) (sp (Bv ((r % 3:Int) == 0)) ?_))))))))
  obtain ⟨b4,o5,rfl⟩:=H.addr 0 rfl (by rw [jG _ _ qf];omega)
  obtain ⟨xs1,xs2,G1,G2,rfl,hx,H,N⟩:=H.open_Bool nd k (by rw [jG _ _ qf];omega) (markTo_get _ _ qf)
  refine oI rfl rfl (sw (o_storeHole H N _ 0 hx (Bv ((r % 3:Int) == 0)) sizeOf4 rfl rfl rfl (Nat.le_of_ble_eq_true rfl) fun w6 W7 C8 H=>?_))
  replace C:=C.trans (C8.mono (hole_sub _ _ _ _))
  replace H:St _ _ _ [Ym b4 o5 xs1 [Bv ((r % 3:Int) == 0)] xs2 G1 G2 ((jm x kk k).take k) ((jm x kk k).drop (k+1))]:=H
  refine zjn (xO (sp (yI r) (sw (zB r 1 rfl rfl (by (have:=hc qf;have e:cnt (x[k]!)=1:=rfl;omega)) (sp (yI (r+1)) (xM (b_n (t_n (xO (sp (yI k) (sw (zB k 1 rfl rfl (by (have:=hc qf;have e:cnt (x[k]!)=1:=rfl;omega)) (sp (yI (k+1)) (xM ?_))))))))))))))
  replace H:=H.closeAt (y:=mrk (x[k]!) r) (m:=x.length) (c:=cx) ⟨rfl,rfl⟩ (vg.nil _) (by intro z hz;simp at hz) (jm x kk (k+1)) (by subst i1;exact markTo_step _ _ qf) (jG _ _ qf) (by rw [jG _ _ qf];exact nhx)
  refine qY (m' :=x.length - (k+1)) qf ⟨_,k+1,r+1,W7,uE4,?_,?_,?_,rfl,H⟩
  · omega
  · rw [Xl];have e:cnt (x[k]!)=1:=rfl;omega
  · exact C
 refine zx4 (zcr (sps [yI r,yI r] (zjr ?_)))
 obtain rfl:k=x.length:=by omega
 refine ret1 (yI r) rfl rfl ⟨_,rfl,⟨?_,H.get 0 rfl⟩,C.trans (Chg.ofExt H.base)⟩
 first | rfl | (refine congrArg (Value.int .i64) ?_;rw [cnt_list];omega)

theorem markInt64SS_ok (w:World) (x:yLL) (kk:Int) (ax:yOA) (cx:Nat) (Fx:yLN) (hx:qO.rep w Fx [Sv ax x.length cx] x) (nd:Fx.Nodup) (fr:vg w Fx) (p0:0≤kk) (p1:kk+(cnt x:Nat)≤4611686018427387904):Calls Tryz.prog 25 #[Sv ax x.length cx,yI kk] w (RetM (fun v w' =>v=yI (kk+(cnt x:Nat))∧(isF true Fx (Sv ax x.length cx) (mrk x kk)).φ w') Fx w):=by
 refine en func25 ntmps25 ?_
 have H:=St.start w
 replace H:=H.add (sF true Fx ax cx x) ⟨hx,fun _=>fr.sub (by intro z hz;simp [hz])⟩ (start_lt hx)
 have nhx:=qM hx
 clear hx
 have C:Chg Fx w w:=Chg.refl _ _
 have N:([Fx]:List yLN).flatten.Nodup:=by simpa using nd
 refine zcr (sp (yI 0) (zjcc (sp (yI 0) (zjn (qX ?_)))))
 replace H:St w w [] [isF true Fx (Sv ax x.length cx) (jm x kk 0)]:=by rw [markTo_zero];exact H
 refine zD (fun m' ρ w1=>∃ (xY:Env) (k:Nat) (r:Int) (W:World),ρ=upd (upd (upd (upd xY 0 (Sv ax x.length cx)) 1 (yI r)) 4 (yI 0)) 5 (yI k)∧(k≤x.length)∧(r=kk+(cntTo x k:Nat))∧(Chg Fx w W)∧m' =x.length - k∧St W w1 [] [isF true Fx (Sv ax x.length cx) (jm x kk k)]) (x.length - 0) ⟨_,0,kk,w,uE4,qf,(by exact (Int.add_zero _).symm),(by exact C),rfl,H⟩ ?_
 clear H
 rintro m' ρ w2 ⟨xY,k,r,W,rfl,i0,i1,C,rfl,H⟩
 have hc:=fun h=>cnt_get (l:=x) (k:=k) h
 refine zcc (sps [yI k,Sv ax x.length cx] (oN rfl (sp (Bv (decide ((k:Int) < x.length))) (zjn (cD rfl (fun h3=>?_) (fun h3=>?_))))))
 ·skip
  refine qW (t_n (xQ (qX (xO (sps [Sv ax x.length cx,yI k] ?_)))))
  obtain ⟨b4,o5,rfl⟩:=H.addr 0 rfl (by rw [jG _ _ qf];omega)
  obtain ⟨xs1,xs2,G1,G2,aq,cq,Fq,rfl,hx,H,N⟩:=H.open_List nd k (by rw [jG _ _ qf];omega) (markTo_get _ _ qf)
  refine oI rfl rfl (oL rfl (H.holeCell _ 0 hx rfl) (sp (yI r) (sw (Yh #[Sv aq ((x[k]!).length) cq,yI r] rfl rfl call68 (Xe w2 (x[k]!) r aq cq Fq (H.get 1 rfl).1 (Xk N 1 rfl) ((H.get 1 rfl).2 rfl) (by (have:=hc qf;skip;omega)) (by (have:=hc qf;skip;omega))) ?_))))
  rintro _ w6 ⟨rfl,m10⟩ x8
  obtain ⟨W7,C9,H⟩:=H.chgAt N 1 rfl (isF true Fq (Sv aq ((x[k]!).length) cq) (mrk (x[k]!) r)) rfl x8 m10
  replace C:=C.trans (C9.mono (by intro z hz;have hz:z∈Fq:=hz;simp [hz]))
  replace H:St _ _ _ [Ym b4 o5 xs1 [Sv aq ((x[k]!).length) cq] xs2 G1 G2 ((jm x kk k).take k) ((jm x kk k).drop (k+1)),isF true Fq (Sv aq ((x[k]!).length) cq) (mrk (x[k]!) r)]:=H
  refine sp (yI (r+(cnt (x[k]!):Nat))) (xM (b_n (t_n (xO (sp (yI k) (sw (zB k 1 rfl rfl (by (have:=hc qf;skip;omega)) (sp (yI (k+1)) (xM ?_)))))))))
  replace H:=H.closeAt (y:=mrk (x[k]!) r) (m:=x.length) (c:=cx) (H.get 1 rfl).1 ((H.get 1 rfl).2 rfl) (H.ltOwn 1 rfl) (jm x kk (k+1)) (by subst i1;exact markTo_step _ _ qf) (jG _ _ qf) (by rw [jG _ _ qf];exact nhx)
  refine qY (m' :=x.length - (k+1)) qf ⟨_,k+1,r+(cnt (x[k]!):Nat),W7,uE4,?_,?_,?_,rfl,H⟩
  · omega
  · rw [Xl];skip;omega
  · exact C
 refine zx4 (zcr (sps [yI r,yI r] (zjr ?_)))
 obtain rfl:k=x.length:=by omega
 refine ret1 (yI r) rfl rfl ⟨_,rfl,⟨?_,H.get 0 rfl⟩,C.trans (Chg.ofExt H.base)⟩
 first | rfl | (refine congrArg (Value.int .i64) ?_;rw [cnt_list];omega)

theorem markIntoS_ok (w:World) (x:List IntoD) (kk:Int) (ax:yOA) (cx:Nat) (Fx:yLN) (hx:qO.rep w Fx [Sv ax x.length cx] x) (nd:Fx.Nodup) (fr:vg w Fx) (p0:0≤kk) (p1:kk+(cnt x:Nat)≤4611686018427387904):Calls Tryz.prog 110 #[Sv ax x.length cx,yI kk] w (RetM (fun v w' =>v=yI (kk+(cnt x:Nat))∧(isF true Fx (Sv ax x.length cx) (mrk x kk)).φ w') Fx w):=by
 refine en func110 ntmps110 ?_
 have H:=St.start w
 replace H:=H.add (sF true Fx ax cx x) ⟨hx,fun _=>fr.sub (by intro z hz;simp [hz])⟩ (start_lt hx)
 have nhx:=qM hx
 clear hx
 have C:Chg Fx w w:=Chg.refl _ _
 have N:([Fx]:List yLN).flatten.Nodup:=by simpa using nd
 refine zcr (sp (yI 0) (zjcc (sp (yI 0) (zjn (qX ?_)))))
 replace H:St w w [] [isF true Fx (Sv ax x.length cx) (jm x kk 0)]:=by rw [markTo_zero];exact H
 refine zD (fun m' ρ w1=>∃ (xY:Env) (k:Nat) (r:Int) (W:World),ρ=upd (upd (upd (upd xY 0 (Sv ax x.length cx)) 1 (yI r)) 4 (yI 0)) 5 (yI k)∧(k≤x.length)∧(r=kk+(cntTo x k:Nat))∧(Chg Fx w W)∧m' =x.length - k∧St W w1 [] [isF true Fx (Sv ax x.length cx) (jm x kk k)]) (x.length - 0) ⟨_,0,kk,w,uE4,qf,(by exact (Int.add_zero _).symm),(by exact C),rfl,H⟩ ?_
 clear H
 rintro m' ρ w2 ⟨xY,k,r,W,rfl,i0,i1,C,rfl,H⟩
 have hc:=fun h=>cnt_get (l:=x) (k:=k) h
 refine zcc (sps [yI k,Sv ax x.length cx] (oN rfl (sp (Bv (decide ((k:Int) < x.length))) (zjn (cD rfl (fun h3=>?_) (fun h3=>?_))))))
 ·skip
  refine qW (t_n (xQ (qX (zcr (sps [Sv ax x.length cx,yI k,yI r] ?_)))))
  obtain ⟨b4,o5,rfl⟩:=H.addr 0 rfl (by rw [jG _ _ qf];omega)
  obtain ⟨xs1,xs2,G1,G2,aqBag,cqBag,FqBag,rfl,hx,H,N⟩:=H.open_IntoD nd k (by rw [jG _ _ qf];omega) (markTo_get _ _ qf)
  refine oI rfl rfl (oF rfl (sw (o_storeHole H N _ 0 hx (yI r) sizeOf2 rfl rfl rfl (Nat.le_of_ble_eq_true rfl) fun w6 W7 C8 H=>?_)))
  replace C:=C.trans (C8.mono (hole_sub _ _ _ _))
  replace H:St _ _ _ [Ym b4 o5 xs1 [yI r,Sv aqBag (((x[k]!).jJ).length) cqBag] xs2 G1 G2 ((jm x kk k).take k) ((jm x kk k).drop (k+1)),sF true FqBag aqBag cqBag ((x[k]!).jJ)]:=H
  refine zjc (sp (yI r) (sw (zB r 1 rfl rfl (by (have:=hc qf;have e:=cnt_IntoD (x[k]!);omega)) (sp (yI (r+1)) (zjn (xO (sps [Sv (aa b4 o5) x.length cx,yI k] (oI rfl rfl (oF rfl (oL rfl (H.holeCell _ 1 hx rfl) (sp (yI (r+1)) (sw (Yh #[Sv aqBag (((x[k]!).jJ).length) cqBag,yI (r+1)] rfl rfl call68 (Xe w6 ((x[k]!).jJ) (r+1) aqBag cqBag FqBag (H.get 1 rfl).1 (Xk N 1 rfl) ((H.get 1 rfl).2 rfl) (by (have:=hc qf;have e:=cnt_IntoD (x[k]!);omega)) (by (have:=hc qf;have e:=cnt_IntoD (x[k]!);omega))) ?_)))))))))))))
  rintro _ w9 ⟨rfl,m13⟩ x11
  obtain ⟨W10,C12,H⟩:=H.chgAt N 1 rfl (isF true FqBag (Sv aqBag (((x[k]!).jJ).length) cqBag) (mrk ((x[k]!).jJ) (r+1))) rfl x11 m13
  replace C:=C.trans (C12.mono (by intro z hz;have hz:z∈FqBag:=hz;simp [hz]))
  replace H:St _ _ _ [Ym b4 o5 xs1 [yI r,Sv aqBag (((x[k]!).jJ).length) cqBag] xs2 G1 G2 ((jm x kk k).take k) ((jm x kk k).drop (k+1)),isF true FqBag (Sv aqBag (((x[k]!).jJ).length) cqBag) (mrk ((x[k]!).jJ) (r+1))]:=H
  refine sp (yI (r+1+(cnt ((x[k]!).jJ):Nat))) (xM (b_n (t_n (xO (sp (yI k) (sw (zB k 1 rfl rfl (by (have:=hc qf;have e:=cnt_IntoD (x[k]!);omega)) (sp (yI (k+1)) (xM ?_)))))))))
  replace H:=H.closeAt (y:=mrk (x[k]!) r) (m:=x.length) (c:=cx) ⟨_,_,rfl,rfl,(H.get 1 rfl).1⟩ ((H.get 1 rfl).2 rfl) (H.ltOwn 1 rfl) (jm x kk (k+1)) (by subst i1;exact markTo_step _ _ qf) (jG _ _ qf) (by rw [jG _ _ qf];exact nhx)
  refine qY (m' :=x.length - (k+1)) qf ⟨_,k+1,r+1+(cnt ((x[k]!).jJ):Nat),W10,uE4,?_,?_,?_,rfl,H⟩
  · omega
  · rw [Xl];have e:=cnt_IntoD (x[k]!);omega
  · exact C
 refine zx4 (zcr (sps [yI r,yI r] (zjr ?_)))
 obtain rfl:k=x.length:=by omega
 refine ret1 (yI r) rfl rfl ⟨_,rfl,⟨?_,H.get 0 rfl⟩,C.trans (Chg.ofExt H.base)⟩
 first | rfl | (refine congrArg (Value.int .i64) ?_;rw [cnt_list];omega)

theorem markRuleS_ok (w:World) (x:List Xg) (kk:Int) (ax:yOA) (cx:Nat) (Fx:yLN) (hx:qO.rep w Fx [Sv ax x.length cx] x) (nd:Fx.Nodup) (fr:vg w Fx) (p0:0≤kk) (p1:kk+(cnt x:Nat)≤4611686018427387904):Calls Tryz.prog 69 #[Sv ax x.length cx,yI kk] w (RetM (fun v w' =>v=yI (kk+(cnt x:Nat))∧(isF true Fx (Sv ax x.length cx) (mrk x kk)).φ w') Fx w):=by
 refine en func69 ntmps69 ?_
 have H:=St.start w
 replace H:=H.add (sF true Fx ax cx x) ⟨hx,fun _=>fr.sub (by intro z hz;simp [hz])⟩ (start_lt hx)
 have nhx:=qM hx
 clear hx
 have C:Chg Fx w w:=Chg.refl _ _
 have N:([Fx]:List yLN).flatten.Nodup:=by simpa using nd
 refine zcr (sp (yI 0) (zjcc (sp (yI 0) (zjn (qX ?_)))))
 replace H:St w w [] [isF true Fx (Sv ax x.length cx) (jm x kk 0)]:=by rw [markTo_zero];exact H
 refine zD (fun m' ρ w1=>∃ (xY:Env) (k:Nat) (r:Int) (W:World),ρ=upd (upd (upd (upd xY 0 (Sv ax x.length cx)) 1 (yI r)) 4 (yI 0)) 5 (yI k)∧(k≤x.length)∧(r=kk+(cntTo x k:Nat))∧(Chg Fx w W)∧m' =x.length - k∧St W w1 [] [isF true Fx (Sv ax x.length cx) (jm x kk k)]) (x.length - 0) ⟨_,0,kk,w,uE4,qf,(by exact (Int.add_zero _).symm),(by exact C),rfl,H⟩ ?_
 clear H
 rintro m' ρ w2 ⟨xY,k,r,W,rfl,i0,i1,C,rfl,H⟩
 have hc:=fun h=>cnt_get (l:=x) (k:=k) h
 refine zcc (sps [yI k,Sv ax x.length cx] (oN rfl (sp (Bv (decide ((k:Int) < x.length))) (zjn (cD rfl (fun h3=>?_) (fun h3=>?_))))))
 ·skip
  refine qW (t_n (xQ (qX (zcr (sps [Sv ax x.length cx,yI k,yI r] ?_)))))
  obtain ⟨b4,o5,rfl⟩:=H.addr 0 rfl (by rw [jG _ _ qf];omega)
  obtain ⟨xs1,xs2,G1,G2,YE,Yt,FqNeed,YI,Yx,FqHave,YF,Yu,FqLack,YH,Yw,FqHere,aqOut,cqOut,FqOut,YG,Yv,FqInto,rfl,hx,H,N⟩:=H.open_RuleD nd k (by rw [jG _ _ qf];omega) (markTo_get _ _ qf)
  refine oI rfl rfl (oF rfl (sw (o_storeHole H N _ 0 hx (yI r) sizeOf2 rfl rfl rfl (Nat.le_of_ble_eq_true rfl) fun w6 W7 C8 H=>?_)))
  replace C:=C.trans (C8.mono (hole_sub _ _ _ _))
  replace H:St _ _ _ [Ym b4 o5 xs1 [yI r,yI ((x[k]!).zS),Sv YE (((x[k]!).xn).length) Yt,Sv YI (((x[k]!).xF).length) Yx,Sv YF (((x[k]!).xI).length) Yu,Sv YH (((x[k]!).xK).length) Yw,Sv aqOut (((x[k]!).ve).length) cqOut,Sv YG (((x[k]!).qU).length) Yv,Bv ((x[k]!).zH)] xs2 G1 G2 ((jm x kk k).take k) ((jm x kk k).drop (k+1)),sF true FqNeed YE Yt ((x[k]!).xn),sF true FqHave YI Yx ((x[k]!).xF),sF true FqLack YF Yu ((x[k]!).xI),sF true FqHere YH Yw ((x[k]!).xK),sF true FqOut aqOut cqOut ((x[k]!).ve),sF true FqInto YG Yv ((x[k]!).qU)]:=H
  refine zjc (sp (yI r) (sw (zB r 1 rfl rfl (by (have:=hc qf;have e:=Qu (x[k]!);omega)) (sp (yI (r+1)) (zjc (sps [Sv (aa b4 o5) x.length cx,yI k,yI (r+1)] (oI rfl rfl (oF rfl (sw (o_storeHole H N _ 1 hx (yI (r+1)) sizeOf2 rfl rfl rfl (Nat.le_of_ble_eq_true rfl) fun w9 W10 C11 H=>?_))))))))))
  replace C:=C.trans (C11.mono (hole_sub _ _ _ _))
  replace H:St _ _ _ [Ym b4 o5 xs1 [yI r,yI (r+1),Sv YE (((x[k]!).xn).length) Yt,Sv YI (((x[k]!).xF).length) Yx,Sv YF (((x[k]!).xI).length) Yu,Sv YH (((x[k]!).xK).length) Yw,Sv aqOut (((x[k]!).ve).length) cqOut,Sv YG (((x[k]!).qU).length) Yv,Bv ((x[k]!).zH)] xs2 G1 G2 ((jm x kk k).take k) ((jm x kk k).drop (k+1)),sF true FqNeed YE Yt ((x[k]!).xn),sF true FqHave YI Yx ((x[k]!).xF),sF true FqLack YF Yu ((x[k]!).xI),sF true FqHere YH Yw ((x[k]!).xK),sF true FqOut aqOut cqOut ((x[k]!).ve),sF true FqInto YG Yv ((x[k]!).qU)]:=H
  refine zjc (sp (yI (r+1)) (sw (zB (r+1) 1 rfl rfl (by (have:=hc qf;have e:=Qu (x[k]!);omega)) (sp (yI ((r+1)+1)) (zjc (sps [Sv (aa b4 o5) x.length cx,yI k] (oI rfl rfl (oF rfl (oL rfl (H.holeCell _ 2 hx rfl) (sp (yI ((r+1)+1)) ?_))))))))))
  refine sw (Yh #[Sv YE (((x[k]!).xn).length) Yt,yI ((r+1)+1)] rfl rfl call68 (Xe w9 ((x[k]!).xn) ((r+1)+1) YE Yt FqNeed (H.get 1 rfl).1 (Xk N 1 rfl) ((H.get 1 rfl).2 rfl) (by (have:=hc qf;have e:=Qu (x[k]!);omega)) (by (have:=hc qf;have e:=Qu (x[k]!);omega))) ?_)
  rintro _ w12 ⟨rfl,m16⟩ x14
  obtain ⟨W13,C15,H⟩:=H.chgAt N 1 rfl (isF true FqNeed (Sv YE (((x[k]!).xn).length) Yt) (mrk ((x[k]!).xn) ((r+1)+1))) rfl x14 m16
  replace C:=C.trans (C15.mono (by intro z hz;have hz:z∈FqNeed:=hz;simp [hz]))
  replace H:St _ _ _ [Ym b4 o5 xs1 [yI r,yI (r+1),Sv YE (((x[k]!).xn).length) Yt,Sv YI (((x[k]!).xF).length) Yx,Sv YF (((x[k]!).xI).length) Yu,Sv YH (((x[k]!).xK).length) Yw,Sv aqOut (((x[k]!).ve).length) cqOut,Sv YG (((x[k]!).qU).length) Yv,Bv ((x[k]!).zH)] xs2 G1 G2 ((jm x kk k).take k) ((jm x kk k).drop (k+1)),isF true FqNeed (Sv YE (((x[k]!).xn).length) Yt) (mrk ((x[k]!).xn) ((r+1)+1)),sF true FqHave YI Yx ((x[k]!).xF),sF true FqLack YF Yu ((x[k]!).xI),sF true FqHere YH Yw ((x[k]!).xK),sF true FqOut aqOut cqOut ((x[k]!).ve),sF true FqInto YG Yv ((x[k]!).qU)]:=H
  refine sp (yI ((r+1)+1+(cnt ((x[k]!).xn):Nat))) (zjc (sps [Sv (aa b4 o5) x.length cx,yI k] (oI rfl rfl (oF rfl (oL rfl (H.holeCell _ 3 hx rfl) (sp (yI ((r+1)+1+(cnt ((x[k]!).xn):Nat))) ?_))))))
  refine sw (Yh #[Sv YI (((x[k]!).xF).length) Yx,yI ((r+1)+1+(cnt ((x[k]!).xn):Nat))] rfl rfl call68 (Xe w12 ((x[k]!).xF) ((r+1)+1+(cnt ((x[k]!).xn):Nat)) YI Yx FqHave (H.get 2 rfl).1 (Xk N 2 rfl) ((H.get 2 rfl).2 rfl) (by (have:=hc qf;have e:=Qu (x[k]!);omega)) (by (have:=hc qf;have e:=Qu (x[k]!);omega))) ?_)
  rintro _ w17 ⟨rfl,m21⟩ x19
  obtain ⟨W18,C20,H⟩:=H.chgAt N 2 rfl (isF true FqHave (Sv YI (((x[k]!).xF).length) Yx) (mrk ((x[k]!).xF) ((r+1)+1+(cnt ((x[k]!).xn):Nat)))) rfl x19 m21
  replace C:=C.trans (C20.mono (by intro z hz;have hz:z∈FqHave:=hz;simp [hz]))
  replace H:St _ _ _ [Ym b4 o5 xs1 [yI r,yI (r+1),Sv YE (((x[k]!).xn).length) Yt,Sv YI (((x[k]!).xF).length) Yx,Sv YF (((x[k]!).xI).length) Yu,Sv YH (((x[k]!).xK).length) Yw,Sv aqOut (((x[k]!).ve).length) cqOut,Sv YG (((x[k]!).qU).length) Yv,Bv ((x[k]!).zH)] xs2 G1 G2 ((jm x kk k).take k) ((jm x kk k).drop (k+1)),isF true FqNeed (Sv YE (((x[k]!).xn).length) Yt) (mrk ((x[k]!).xn) ((r+1)+1)),isF true FqHave (Sv YI (((x[k]!).xF).length) Yx) (mrk ((x[k]!).xF) ((r+1)+1+(cnt ((x[k]!).xn):Nat))),sF true FqLack YF Yu ((x[k]!).xI),sF true FqHere YH Yw ((x[k]!).xK),sF true FqOut aqOut cqOut ((x[k]!).ve),sF true FqInto YG Yv ((x[k]!).qU)]:=H
  refine sp (yI ((r+1)+1+(cnt ((x[k]!).xn):Nat)+(cnt ((x[k]!).xF):Nat))) (zjc (sps [Sv (aa b4 o5) x.length cx,yI k] (oI rfl rfl (oF rfl (oL rfl (H.holeCell _ 4 hx rfl) (sp (yI ((r+1)+1+(cnt ((x[k]!).xn):Nat)+(cnt ((x[k]!).xF):Nat))) ?_))))))
  refine sw (Yh #[Sv YF (((x[k]!).xI).length) Yu,yI ((r+1)+1+(cnt ((x[k]!).xn):Nat)+(cnt ((x[k]!).xF):Nat))] rfl rfl call68 (Xe w17 ((x[k]!).xI) ((r+1)+1+(cnt ((x[k]!).xn):Nat)+(cnt ((x[k]!).xF):Nat)) YF Yu FqLack (H.get 3 rfl).1 (Xk N 3 rfl) ((H.get 3 rfl).2 rfl) (by (have:=hc qf;have e:=Qu (x[k]!);omega)) (by (have:=hc qf;have e:=Qu (x[k]!);omega))) ?_)
  rintro _ w22 ⟨rfl,m26⟩ x24
  obtain ⟨W23,C25,H⟩:=H.chgAt N 3 rfl (isF true FqLack (Sv YF (((x[k]!).xI).length) Yu) (mrk ((x[k]!).xI) ((r+1)+1+(cnt ((x[k]!).xn):Nat)+(cnt ((x[k]!).xF):Nat)))) rfl x24 m26
  replace C:=C.trans (C25.mono (by intro z hz;have hz:z∈FqLack:=hz;simp [hz]))
  replace H:St _ _ _ [Ym b4 o5 xs1 [yI r,yI (r+1),Sv YE (((x[k]!).xn).length) Yt,Sv YI (((x[k]!).xF).length) Yx,Sv YF (((x[k]!).xI).length) Yu,Sv YH (((x[k]!).xK).length) Yw,Sv aqOut (((x[k]!).ve).length) cqOut,Sv YG (((x[k]!).qU).length) Yv,Bv ((x[k]!).zH)] xs2 G1 G2 ((jm x kk k).take k) ((jm x kk k).drop (k+1)),isF true FqNeed (Sv YE (((x[k]!).xn).length) Yt) (mrk ((x[k]!).xn) ((r+1)+1)),isF true FqHave (Sv YI (((x[k]!).xF).length) Yx) (mrk ((x[k]!).xF) ((r+1)+1+(cnt ((x[k]!).xn):Nat))),isF true FqLack (Sv YF (((x[k]!).xI).length) Yu) (mrk ((x[k]!).xI) ((r+1)+1+(cnt ((x[k]!).xn):Nat)+(cnt ((x[k]!).xF):Nat))),sF true FqHere YH Yw ((x[k]!).xK),sF true FqOut aqOut cqOut ((x[k]!).ve),sF true FqInto YG Yv ((x[k]!).qU)]:=H
  refine sp (yI ((r+1)+1+(cnt ((x[k]!).xn):Nat)+(cnt ((x[k]!).xF):Nat)+(cnt ((x[k]!).xI):Nat))) (zjc (sps [Sv (aa b4 o5) x.length cx,yI k] (oI rfl rfl (oF rfl (oL rfl (H.holeCell _ 5 hx rfl) (sp (yI ((r+1)+1+(cnt ((x[k]!).xn):Nat)+(cnt ((x[k]!).xF):Nat)+(cnt ((x[k]!).xI):Nat))) ?_))))))
  refine sw (Yh #[Sv YH (((x[k]!).xK).length) Yw,yI ((r+1)+1+(cnt ((x[k]!).xn):Nat)+(cnt ((x[k]!).xF):Nat)+(cnt ((x[k]!).xI):Nat))] rfl rfl call68 (Xe w22 ((x[k]!).xK) ((r+1)+1+(cnt ((x[k]!).xn):Nat)+(cnt ((x[k]!).xF):Nat)+(cnt ((x[k]!).xI):Nat)) YH Yw FqHere (H.get 4 rfl).1 (Xk N 4 rfl) ((H.get 4 rfl).2 rfl) (by (have:=hc qf;have e:=Qu (x[k]!);omega)) (by (have:=hc qf;have e:=Qu (x[k]!);omega))) ?_)
  rintro _ w27 ⟨rfl,m31⟩ x29
  obtain ⟨W28,C30,H⟩:=H.chgAt N 4 rfl (isF true FqHere (Sv YH (((x[k]!).xK).length) Yw) (mrk ((x[k]!).xK) ((r+1)+1+(cnt ((x[k]!).xn):Nat)+(cnt ((x[k]!).xF):Nat)+(cnt ((x[k]!).xI):Nat)))) rfl x29 m31
  replace C:=C.trans (C30.mono (by intro z hz;have hz:z∈FqHere:=hz;simp [hz]))
  replace H:St _ _ _ [Ym b4 o5 xs1 [yI r,yI (r+1),Sv YE (((x[k]!).xn).length) Yt,Sv YI (((x[k]!).xF).length) Yx,Sv YF (((x[k]!).xI).length) Yu,Sv YH (((x[k]!).xK).length) Yw,Sv aqOut (((x[k]!).ve).length) cqOut,Sv YG (((x[k]!).qU).length) Yv,Bv ((x[k]!).zH)] xs2 G1 G2 ((jm x kk k).take k) ((jm x kk k).drop (k+1)),isF true FqNeed (Sv YE (((x[k]!).xn).length) Yt) (mrk ((x[k]!).xn) ((r+1)+1)),isF true FqHave (Sv YI (((x[k]!).xF).length) Yx) (mrk ((x[k]!).xF) ((r+1)+1+(cnt ((x[k]!).xn):Nat))),isF true FqLack (Sv YF (((x[k]!).xI).length) Yu) (mrk ((x[k]!).xI) ((r+1)+1+(cnt ((x[k]!).xn):Nat)+(cnt ((x[k]!).xF):Nat))),isF true FqHere (Sv YH (((x[k]!).xK).length) Yw) (mrk ((x[k]!).xK) ((r+1)+1+(cnt ((x[k]!).xn):Nat)+(cnt ((x[k]!).xF):Nat)+(cnt ((x[k]!).xI):Nat))),sF true FqOut aqOut cqOut ((x[k]!).ve),sF true FqInto YG Yv ((x[k]!).qU)]:=H
  refine sp (yI ((r+1)+1+(cnt ((x[k]!).xn):Nat)+(cnt ((x[k]!).xF):Nat)+(cnt ((x[k]!).xI):Nat)+(cnt ((x[k]!).xK):Nat))) (zjc (sps [Sv (aa b4 o5) x.length cx,yI k] (oI rfl rfl (oF rfl (oL rfl (H.holeCell _ 6 hx rfl) (sp (yI ((r+1)+1+(cnt ((x[k]!).xn):Nat)+(cnt ((x[k]!).xF):Nat)+(cnt ((x[k]!).xI):Nat)+(cnt ((x[k]!).xK):Nat))) ?_))))))
  refine sw (Yh #[Sv aqOut (((x[k]!).ve).length) cqOut,yI ((r+1)+1+(cnt ((x[k]!).xn):Nat)+(cnt ((x[k]!).xF):Nat)+(cnt ((x[k]!).xI):Nat)+(cnt ((x[k]!).xK):Nat))] rfl rfl call68 (Xe w27 ((x[k]!).ve) ((r+1)+1+(cnt ((x[k]!).xn):Nat)+(cnt ((x[k]!).xF):Nat)+(cnt ((x[k]!).xI):Nat)+(cnt ((x[k]!).xK):Nat)) aqOut cqOut FqOut (H.get 5 rfl).1 (Xk N 5 rfl) ((H.get 5 rfl).2 rfl) (by (have:=hc qf;have e:=Qu (x[k]!);omega)) (by (have:=hc qf;have e:=Qu (x[k]!);omega))) ?_)
  rintro _ w32 ⟨rfl,m36⟩ x34
  obtain ⟨W33,C35,H⟩:=H.chgAt N 5 rfl (isF true FqOut (Sv aqOut (((x[k]!).ve).length) cqOut) (mrk ((x[k]!).ve) ((r+1)+1+(cnt ((x[k]!).xn):Nat)+(cnt ((x[k]!).xF):Nat)+(cnt ((x[k]!).xI):Nat)+(cnt ((x[k]!).xK):Nat)))) rfl x34 m36
  replace C:=C.trans (C35.mono (by intro z hz;have hz:z∈FqOut:=hz;simp [hz]))
  replace H:St _ _ _ [Ym b4 o5 xs1 [yI r,yI (r+1),Sv YE (((x[k]!).xn).length) Yt,Sv YI (((x[k]!).xF).length) Yx,Sv YF (((x[k]!).xI).length) Yu,Sv YH (((x[k]!).xK).length) Yw,Sv aqOut (((x[k]!).ve).length) cqOut,Sv YG (((x[k]!).qU).length) Yv,Bv ((x[k]!).zH)] xs2 G1 G2 ((jm x kk k).take k) ((jm x kk k).drop (k+1)),isF true FqNeed (Sv YE (((x[k]!).xn).length) Yt) (mrk ((x[k]!).xn) ((r+1)+1)),isF true FqHave (Sv YI (((x[k]!).xF).length) Yx) (mrk ((x[k]!).xF) ((r+1)+1+(cnt ((x[k]!).xn):Nat))),isF true FqLack (Sv YF (((x[k]!).xI).length) Yu) (mrk ((x[k]!).xI) ((r+1)+1+(cnt ((x[k]!).xn):Nat)+(cnt ((x[k]!).xF):Nat))),isF true FqHere (Sv YH (((x[k]!).xK).length) Yw) (mrk ((x[k]!).xK) ((r+1)+1+(cnt ((x[k]!).xn):Nat)+(cnt ((x[k]!).xF):Nat)+(cnt ((x[k]!).xI):Nat))),isF true FqOut (Sv aqOut (((x[k]!).ve).length) cqOut) (mrk ((x[k]!).ve) ((r+1)+1+(cnt ((x[k]!).xn):Nat)+(cnt ((x[k]!).xF):Nat)+(cnt ((x[k]!).xI):Nat)+(cnt ((x[k]!).xK):Nat))),sF true FqInto YG Yv ((x[k]!).qU)]:=H
  refine sp (yI ((r+1)+1+(cnt ((x[k]!).xn):Nat)+(cnt ((x[k]!).xF):Nat)+(cnt ((x[k]!).xI):Nat)+(cnt ((x[k]!).xK):Nat)+(cnt ((x[k]!).ve):Nat))) (zjc (sps [Sv (aa b4 o5) x.length cx,yI k] (oI rfl rfl (oF rfl (oL rfl (H.holeCell _ 7 hx rfl) (sp (yI ((r+1)+1+(cnt ((x[k]!).xn):Nat)+(cnt ((x[k]!).xF):Nat)+(cnt ((x[k]!).xI):Nat)+(cnt ((x[k]!).xK):Nat)+(cnt ((x[k]!).ve):Nat))) ?_))))))
  refine sw (Yh #[Sv YG (((x[k]!).qU).length) Yv,yI ((r+1)+1+(cnt ((x[k]!).xn):Nat)+(cnt ((x[k]!).xF):Nat)+(cnt ((x[k]!).xI):Nat)+(cnt ((x[k]!).xK):Nat)+(cnt ((x[k]!).ve):Nat))] rfl rfl call110 (markIntoS_ok w32 ((x[k]!).qU) ((r+1)+1+(cnt ((x[k]!).xn):Nat)+(cnt ((x[k]!).xF):Nat)+(cnt ((x[k]!).xI):Nat)+(cnt ((x[k]!).xK):Nat)+(cnt ((x[k]!).ve):Nat)) YG Yv FqInto (H.get 6 rfl).1 (Xk N 6 rfl) ((H.get 6 rfl).2 rfl) (by (have:=hc qf;have e:=Qu (x[k]!);omega)) (by (have:=hc qf;have e:=Qu (x[k]!);omega))) ?_)
  rintro _ w37 ⟨rfl,m41⟩ x39
  obtain ⟨W38,C40,H⟩:=H.chgAt N 6 rfl (isF true FqInto (Sv YG (((x[k]!).qU).length) Yv) (mrk ((x[k]!).qU) ((r+1)+1+(cnt ((x[k]!).xn):Nat)+(cnt ((x[k]!).xF):Nat)+(cnt ((x[k]!).xI):Nat)+(cnt ((x[k]!).xK):Nat)+(cnt ((x[k]!).ve):Nat)))) rfl x39 m41
  replace C:=C.trans (C40.mono (by intro z hz;have hz:z∈FqInto:=hz;simp [hz]))
  replace H:St _ _ _ [Ym b4 o5 xs1 [yI r,yI (r+1),Sv YE (((x[k]!).xn).length) Yt,Sv YI (((x[k]!).xF).length) Yx,Sv YF (((x[k]!).xI).length) Yu,Sv YH (((x[k]!).xK).length) Yw,Sv aqOut (((x[k]!).ve).length) cqOut,Sv YG (((x[k]!).qU).length) Yv,Bv ((x[k]!).zH)] xs2 G1 G2 ((jm x kk k).take k) ((jm x kk k).drop (k+1)),isF true FqNeed (Sv YE (((x[k]!).xn).length) Yt) (mrk ((x[k]!).xn) ((r+1)+1)),isF true FqHave (Sv YI (((x[k]!).xF).length) Yx) (mrk ((x[k]!).xF) ((r+1)+1+(cnt ((x[k]!).xn):Nat))),isF true FqLack (Sv YF (((x[k]!).xI).length) Yu) (mrk ((x[k]!).xI) ((r+1)+1+(cnt ((x[k]!).xn):Nat)+(cnt ((x[k]!).xF):Nat))),isF true FqHere (Sv YH (((x[k]!).xK).length) Yw) (mrk ((x[k]!).xK) ((r+1)+1+(cnt ((x[k]!).xn):Nat)+(cnt ((x[k]!).xF):Nat)+(cnt ((x[k]!).xI):Nat))),isF true FqOut (Sv aqOut (((x[k]!).ve).length) cqOut) (mrk ((x[k]!).ve) ((r+1)+1+(cnt ((x[k]!).xn):Nat)+(cnt ((x[k]!).xF):Nat)+(cnt ((x[k]!).xI):Nat)+(cnt ((x[k]!).xK):Nat))),isF true FqInto (Sv YG (((x[k]!).qU).length) Yv) (mrk ((x[k]!).qU) ((r+1)+1+(cnt ((x[k]!).xn):Nat)+(cnt ((x[k]!).xF):Nat)+(cnt ((x[k]!).xI):Nat)+(cnt ((x[k]!).xK):Nat)+(cnt ((x[k]!).ve):Nat)))]:=H
  refine sp (yI ((r+1)+1+(cnt ((x[k]!).xn):Nat)+(cnt ((x[k]!).xF):Nat)+(cnt ((x[k]!).xI):Nat)+(cnt ((x[k]!).xK):Nat)+(cnt ((x[k]!).ve):Nat)+(cnt ((x[k]!).qU):Nat))) (zjc (sps [Sv (aa b4 o5) x.length cx,yI k,yI ((r+1)+1+(cnt ((x[k]!).xn):Nat)+(cnt ((x[k]!).xF):Nat)+(cnt ((x[k]!).xI):Nat)+(cnt ((x[k]!).xK):Nat)+(cnt ((x[k]!).ve):Nat)+(cnt ((x[k]!).qU):Nat))] ?_))
  refine sw (o_rem ((r+1)+1+(cnt ((x[k]!).xn):Nat)+(cnt ((x[k]!).xF):Nat)+(cnt ((x[k]!).xI):Nat)+(cnt ((x[k]!).xK):Nat)+(cnt ((x[k]!).ve):Nat)+(cnt ((x[k]!).qU):Nat)) 3 rfl rfl (by (have:=hc qf;have e:=Qu (x[k]!);omega)) qf (by (have:=hc qf;have e:=Qu (x[k]!);omega)) (sp (Bv ((((r+1)+1+(cnt ((x[k]!).xn):Nat)+(cnt ((x[k]!).xF):Nat)+(cnt ((x[k]!).xI):Nat)+(cnt ((x[k]!).xK):Nat)+(cnt ((x[k]!).ve):Nat)+(cnt ((x[k]!).qU):Nat)) % 3:Int) == 0)) (oI rfl rfl (oF rfl ?_))))
  refine sw (o_storeHole H N _ 8 hx (Bv ((((r+1)+1+(cnt ((x[k]!).xn):Nat)+(cnt ((x[k]!).xF):Nat)+(cnt ((x[k]!).xI):Nat)+(cnt ((x[k]!).xK):Nat)+(cnt ((x[k]!).ve):Nat)+(cnt ((x[k]!).qU):Nat)) % 3:Int) == 0)) sizeOf4 rfl rfl rfl (Nat.le_of_ble_eq_true rfl) fun w42 W43 C44 H=>?_)
  replace C:=C.trans (C44.mono (hole_sub _ _ _ _))
  replace H:St _ _ _ [Ym b4 o5 xs1 [yI r,yI (r+1),Sv YE (((x[k]!).xn).length) Yt,Sv YI (((x[k]!).xF).length) Yx,Sv YF (((x[k]!).xI).length) Yu,Sv YH (((x[k]!).xK).length) Yw,Sv aqOut (((x[k]!).ve).length) cqOut,Sv YG (((x[k]!).qU).length) Yv,Bv ((((r+1)+1+(cnt ((x[k]!).xn):Nat)+(cnt ((x[k]!).xF):Nat)+(cnt ((x[k]!).xI):Nat)+(cnt ((x[k]!).xK):Nat)+(cnt ((x[k]!).ve):Nat)+(cnt ((x[k]!).qU):Nat)) % 3:Int) == 0)] xs2 G1 G2 ((jm x kk k).take k) ((jm x kk k).drop (k+1)),isF true FqNeed (Sv YE (((x[k]!).xn).length) Yt) (mrk ((x[k]!).xn) ((r+1)+1)),isF true FqHave (Sv YI (((x[k]!).xF).length) Yx) (mrk ((x[k]!).xF) ((r+1)+1+(cnt ((x[k]!).xn):Nat))),isF true FqLack (Sv YF (((x[k]!).xI).length) Yu) (mrk ((x[k]!).xI) ((r+1)+1+(cnt ((x[k]!).xn):Nat)+(cnt ((x[k]!).xF):Nat))),isF true FqHere (Sv YH (((x[k]!).xK).length) Yw) (mrk ((x[k]!).xK) ((r+1)+1+(cnt ((x[k]!).xn):Nat)+(cnt ((x[k]!).xF):Nat)+(cnt ((x[k]!).xI):Nat))),isF true FqOut (Sv aqOut (((x[k]!).ve).length) cqOut) (mrk ((x[k]!).ve) ((r+1)+1+(cnt ((x[k]!).xn):Nat)+(cnt ((x[k]!).xF):Nat)+(cnt ((x[k]!).xI):Nat)+(cnt ((x[k]!).xK):Nat))),isF true FqInto (Sv YG (((x[k]!).qU).length) Yv) (mrk ((x[k]!).qU) ((r+1)+1+(cnt ((x[k]!).xn):Nat)+(cnt ((x[k]!).xF):Nat)+(cnt ((x[k]!).xI):Nat)+(cnt ((x[k]!).xK):Nat)+(cnt ((x[k]!).ve):Nat)))]:=H
  refine zjn (xO (sp (yI ((r+1)+1+(cnt ((x[k]!).xn):Nat)+(cnt ((x[k]!).xF):Nat)+(cnt ((x[k]!).xI):Nat)+(cnt ((x[k]!).xK):Nat)+(cnt ((x[k]!).ve):Nat)+(cnt ((x[k]!).qU):Nat))) (sw (zB ((r+1)+1+(cnt ((x[k]!).xn):Nat)+(cnt ((x[k]!).xF):Nat)+(cnt ((x[k]!).xI):Nat)+(cnt ((x[k]!).xK):Nat)+(cnt ((x[k]!).ve):Nat)+(cnt ((x[k]!).qU):Nat)) 1 rfl rfl (by (have:=hc qf;have e:=Qu (x[k]!);omega)) ?_))))
  refine sp (yI (((r+1)+1+(cnt ((x[k]!).xn):Nat)+(cnt ((x[k]!).xF):Nat)+(cnt ((x[k]!).xI):Nat)+(cnt ((x[k]!).xK):Nat)+(cnt ((x[k]!).ve):Nat)+(cnt ((x[k]!).qU):Nat))+1)) (xM (b_n (t_n (xO (sp (yI k) (sw (zB k 1 rfl rfl (by (have:=hc qf;have e:=Qu (x[k]!);omega)) (sp (yI (k+1)) (xM ?_)))))))))
  replace H:=H.closeAt (y:=mrk (x[k]!) r) (m:=x.length) (c:=cx) ⟨_,_,_,_,_,_,_,_,_,_,_,_,rfl,rfl,(H.get 1 rfl).1,(H.get 2 rfl).1,(H.get 3 rfl).1,(H.get 4 rfl).1,(H.get 5 rfl).1,(H.get 6 rfl).1⟩ (((((((H.get 1 rfl).2 rfl).app ((H.get 2 rfl).2 rfl)).app ((H.get 3 rfl).2 rfl)).app ((H.get 4 rfl).2 rfl)).app ((H.get 5 rfl).2 rfl)).app ((H.get 6 rfl).2 rfl)) (Yk (Yk (Yk (Yk (Yk (H.ltOwn 1 rfl) (H.ltOwn 2 rfl)) (H.ltOwn 3 rfl)) (H.ltOwn 4 rfl)) (H.ltOwn 5 rfl)) (H.ltOwn 6 rfl)) (jm x kk (k+1)) (by subst i1;exact markTo_step _ _ qf) (jG _ _ qf) (by rw [jG _ _ qf];exact nhx)
  refine qY (m' :=x.length - (k+1)) qf ⟨_,k+1,((r+1)+1+(cnt ((x[k]!).xn):Nat)+(cnt ((x[k]!).xF):Nat)+(cnt ((x[k]!).xI):Nat)+(cnt ((x[k]!).xK):Nat)+(cnt ((x[k]!).ve):Nat)+(cnt ((x[k]!).qU):Nat))+1,W43,uE4,?_,?_,?_,rfl,H⟩
  · omega
  · rw [Xl];have e:=Qu (x[k]!);omega
  · exact C
 refine zx4 (zcr (sps [yI r,yI r] (zjr ?_)))
 obtain rfl:k=x.length:=by omega
 refine ret1 (yI r) rfl rfl ⟨_,rfl,⟨?_,H.get 0 rfl⟩,C.trans (Chg.ofExt H.base)⟩
 first | rfl | (refine congrArg (Value.int .i64) ?_;rw [cnt_list];omega)

theorem markSystem_ok (w:World) (x:qI) (kk:Int) (jq:yOA) (jo:Nat) (QF:yLN) (QE:yOA) (QC:Nat) (Vp:yLN) (Xa:qO.rep w QF [Sv jq x.qw.length jo] x.qw) (Yi:qO.rep w Vp [Sv QE x.qx.length QC] x.qx) (nd:(QF++Vp).Nodup) (fr:vg w (QF++Vp)) (p0:0≤kk) (p1:kk+(cnt x.qw:Nat)+(cnt x.qx:Nat)≤4611686018427387904):Calls Tryz.prog 23 #[.agg #[yI x.xB,Sv jq x.qw.length jo,Sv QE x.qx.length QC],yI kk] w (RetM (fun v w' =>v=yI (kk+(cnt x.qw:Nat)+(cnt x.qx:Nat))∧(isF true QF (Sv jq x.qw.length jo) (mrk x.qw kk)).φ w' ∧(isF true Vp (Sv QE x.qx.length QC) (mrk x.qx (kk+(cnt x.qw:Nat)))).φ w') (QF++Vp) w):=by
 refine en func23 ntmps23 ?_
 have H:=St.start w
 replace H:=H.add (sF true Vp QE QC x.qx) ⟨Yi,fun _=>fr.sub (by intro z hz;simp [hz])⟩ (start_lt Yi)
 replace H:=H.add (sF true QF jq jo x.qw) ⟨Xa,fun _=>fr.sub (by intro z hz;simp [hz])⟩ (start_lt Xa)
 have nhxParents:=qM Xa
 have nhxRules:=qM Yi
 clear Xa Yi
 have C:Chg (QF++Vp) w w:=Chg.refl _ _
 have N:([QF,Vp]:List yLN).flatten.Nodup:=by simpa using nd
 refine zcr (sw (o_box H (.agg #[yI x.xB,Sv jq x.qw.length jo,Sv QE x.qx.length QC]) rfl fun b1 w2 H=>?_))
 replace H:St _ _ [.box b1 (yS x jq jo QE QC) 36] _:=H
 refine sp (yI 0) (zjc (oF rfl (oL rfl (H.cell 0 rfl rfl) (sp (yI kk) (sw (Yh #[Sv jq x.qw.length jo,yI kk] rfl rfl call68 (Xe w2 x.qw kk jq jo QF (H.get 0 rfl).1 (Xk N 0 rfl) ((H.get 0 rfl).2 rfl) qf qf) ?_))))))
 rintro _ w3 ⟨rfl,m7⟩ x5
 obtain ⟨W4,C6,H⟩:=H.chgAt N 0 rfl (isF true QF (Sv jq x.qw.length jo) (mrk x.qw kk)) rfl x5 m7
 replace C:=C.trans (C6.mono (by intro z hz;have hz:z∈QF:=hz;simp [hz]))
 replace H:St _ _ _ [isF true QF (Sv jq x.qw.length jo) (mrk x.qw kk),sF true Vp QE QC x.qx]:=H
 refine sp (yI (kk+(cnt x.qw:Nat))) (zjc (oF rfl (oL rfl (H.cell 0 rfl rfl) (sp (yI (kk+(cnt x.qw:Nat))) (sw (Yh #[Sv QE x.qx.length QC,yI (kk+(cnt x.qw:Nat))] rfl rfl call69 (markRuleS_ok w3 x.qx (kk+(cnt x.qw:Nat)) QE QC Vp (H.get 1 rfl).1 (Xk N 1 rfl) ((H.get 1 rfl).2 rfl) qf qf) ?_))))))
 rintro _ w8 ⟨rfl,m12⟩ x10
 obtain ⟨W9,C11,H⟩:=H.chgAt N 1 rfl (isF true Vp (Sv QE x.qx.length QC) (mrk x.qx (kk+(cnt x.qw:Nat)))) rfl x10 m12
 replace C:=C.trans (C11.mono (by intro z hz;have hz:z∈Vp:=hz;simp [hz]))
 replace H:St _ _ _ [isF true QF (Sv jq x.qw.length jo) (mrk x.qw kk),isF true Vp (Sv QE x.qx.length QC) (mrk x.qx (kk+(cnt x.qw:Nat)))]:=H
 refine sp (yI (kk+(cnt x.qw:Nat)+(cnt x.qx:Nat))) (zjc (sps [yI (kk+(cnt x.qw:Nat)+(cnt x.qx:Nat)),yI (kk+(cnt x.qw:Nat)+(cnt x.qx:Nat))] (zjr ?_)))
 simp_all
 refine ret1 (yI (kk+(cnt x.qw:Nat)+(cnt x.qx:Nat))) rfl rfl ⟨_,rfl,⟨?_,H.get 0 rfl,H.get 1 rfl⟩,C.trans (Chg.ofExt H.base)⟩
 first | rfl | (refine congrArg (Value.int .i64) ?_;rw [cnt_list];omega)

theorem markState_ok (w:World) (x:qH) (kk:Int) (Qp:yOA) (Qo:Nat) (X8:yLN) (Xr:yOA) (Xq:Nat) (Ja:yLN) (jT:yOA) (jR:Nat) (Q5:yLN) (Yj:qO.rep w X8 [Sv Qp x.qA.length Qo] x.qA) (hxBags:qO.rep w Ja [Sv Xr x.qE.length Xq] x.qE) (XW:qO.rep w Q5 [Sv jT x.qy.length jR] x.qy) (nd:(X8++Ja++Q5).Nodup) (fr:vg w (X8++Ja++Q5)) (p0:0≤kk) (p1:kk+(cnt x.qA:Nat)+(cnt x.qE:Nat)+(cnt x.qy:Nat)≤4611686018427387904):Calls Tryz.prog 24 #[.agg #[Sv Qp x.qA.length Qo,Sv Xr x.qE.length Xq,Sv jT x.qy.length jR],yI kk] w (RetM (fun v w' =>v=yI (kk+(cnt x.qA:Nat)+(cnt x.qE:Nat)+(cnt x.qy:Nat))∧(isF true X8 (Sv Qp x.qA.length Qo) (mrk x.qA kk)).φ w' ∧(isF true Ja (Sv Xr x.qE.length Xq) (mrk x.qE (kk+(cnt x.qA:Nat)))).φ w' ∧(isF true Q5 (Sv jT x.qy.length jR) (mrk x.qy (kk+(cnt x.qA:Nat)+(cnt x.qE:Nat)))).φ w') (X8++Ja++Q5) w):=by
 refine en func24 ntmps24 ?_
 have H:=St.start w
 replace H:=H.add (sF true Q5 jT jR x.qy) ⟨XW,fun _=>fr.sub (by intro z hz;simp [hz])⟩ (start_lt XW)
 replace H:=H.add (sF true Ja Xr Xq x.qE) ⟨hxBags,fun _=>fr.sub (by intro z hz;simp [hz])⟩ (start_lt hxBags)
 replace H:=H.add (sF true X8 Qp Qo x.qA) ⟨Yj,fun _=>fr.sub (by intro z hz;simp [hz])⟩ (start_lt Yj)
 have nhxAlive:=qM Yj
 have nhxBags:=qM hxBags
 have nhxAround:=qM XW
 clear Yj hxBags XW
 have C:Chg (X8++Ja++Q5) w w:=Chg.refl _ _
 have N:([X8,Ja,Q5]:List yLN).flatten.Nodup:=by simpa using nd
 refine zcr (sw (o_box H (.agg #[Sv Qp x.qA.length Qo,Sv Xr x.qE.length Xq,Sv jT x.qy.length jR]) rfl fun b1 w2 H=>?_))
 replace H:St _ _ [.box b1 (yT x Qp Qo Xr Xq jT jR) 38] _:=H
 refine sp (yI 0) (zjc (oF rfl (oL rfl (H.cell 0 rfl rfl) (sp (yI kk) (sw (Yh #[Sv Qp x.qA.length Qo,yI kk] rfl rfl call70 (markBoolS_ok w2 x.qA kk Qp Qo X8 (H.get 0 rfl).1 (Xk N 0 rfl) ((H.get 0 rfl).2 rfl) qf qf) ?_))))))
 rintro _ w3 ⟨rfl,m7⟩ x5
 obtain ⟨W4,C6,H⟩:=H.chgAt N 0 rfl (isF true X8 (Sv Qp x.qA.length Qo) (mrk x.qA kk)) rfl x5 m7
 replace C:=C.trans (C6.mono (by intro z hz;have hz:z∈X8:=hz;simp [hz]))
 replace H:St _ _ _ [isF true X8 (Sv Qp x.qA.length Qo) (mrk x.qA kk),sF true Ja Xr Xq x.qE,sF true Q5 jT jR x.qy]:=H
 refine sp (yI (kk+(cnt x.qA:Nat))) (zjc (oF rfl (oL rfl (H.cell 0 rfl rfl) (sp (yI (kk+(cnt x.qA:Nat))) (sw (Yh #[Sv Xr x.qE.length Xq,yI (kk+(cnt x.qA:Nat))] rfl rfl call25 (markInt64SS_ok w3 x.qE (kk+(cnt x.qA:Nat)) Xr Xq Ja (H.get 1 rfl).1 (Xk N 1 rfl) ((H.get 1 rfl).2 rfl) qf qf) ?_))))))
 rintro _ w8 ⟨rfl,m12⟩ x10
 obtain ⟨W9,C11,H⟩:=H.chgAt N 1 rfl (isF true Ja (Sv Xr x.qE.length Xq) (mrk x.qE (kk+(cnt x.qA:Nat)))) rfl x10 m12
 replace C:=C.trans (C11.mono (by intro z hz;have hz:z∈Ja:=hz;simp [hz]))
 replace H:St _ _ _ [isF true X8 (Sv Qp x.qA.length Qo) (mrk x.qA kk),isF true Ja (Sv Xr x.qE.length Xq) (mrk x.qE (kk+(cnt x.qA:Nat))),sF true Q5 jT jR x.qy]:=H
 refine sp (yI (kk+(cnt x.qA:Nat)+(cnt x.qE:Nat))) (zjc (oF rfl (oL rfl (H.cell 0 rfl rfl) (sp (yI (kk+(cnt x.qA:Nat)+(cnt x.qE:Nat))) (sw (Yh #[Sv jT x.qy.length jR,yI (kk+(cnt x.qA:Nat)+(cnt x.qE:Nat))] rfl rfl call68 (Xe w8 x.qy (kk+(cnt x.qA:Nat)+(cnt x.qE:Nat)) jT jR Q5 (H.get 2 rfl).1 (Xk N 2 rfl) ((H.get 2 rfl).2 rfl) qf qf) ?_))))))
 rintro _ w13 ⟨rfl,m17⟩ x15
 obtain ⟨W14,C16,H⟩:=H.chgAt N 2 rfl (isF true Q5 (Sv jT x.qy.length jR) (mrk x.qy (kk+(cnt x.qA:Nat)+(cnt x.qE:Nat)))) rfl x15 m17
 replace C:=C.trans (C16.mono (by intro z hz;have hz:z∈Q5:=hz;simp [hz]))
 replace H:St _ _ _ [isF true X8 (Sv Qp x.qA.length Qo) (mrk x.qA kk),isF true Ja (Sv Xr x.qE.length Xq) (mrk x.qE (kk+(cnt x.qA:Nat))),isF true Q5 (Sv jT x.qy.length jR) (mrk x.qy (kk+(cnt x.qA:Nat)+(cnt x.qE:Nat)))]:=H
 refine sp (yI (kk+(cnt x.qA:Nat)+(cnt x.qE:Nat)+(cnt x.qy:Nat))) (zjc (sps [yI (kk+(cnt x.qA:Nat)+(cnt x.qE:Nat)+(cnt x.qy:Nat)),yI (kk+(cnt x.qA:Nat)+(cnt x.qE:Nat)+(cnt x.qy:Nat))] (zjr ?_)))
 simp_all
 refine ret1 (yI (kk+(cnt x.qA:Nat)+(cnt x.qE:Nat)+(cnt x.qy:Nat))) rfl rfl ⟨_,rfl,⟨?_,H.get 0 rfl,H.get 1 rfl,H.get 2 rfl⟩,C.trans (Chg.ofExt H.base)⟩
 first | rfl | (refine congrArg (Value.int .i64) ?_;rw [cnt_list];omega)

theorem heldInt64S_ok (w:World) (x:yLI) (kk:Int) {ax:yOA} {Fx:yLN} (hx:qO.rep w Fx [Sv ax x.length cx] x) (m:mkd x kk) (p0:0≤kk) (p1:kk+(cnt x:Nat)≤4611686018427387904):Calls Tryz.prog 71 #[Sv ax x.length cx,yI kk] w (Ret (fun v w' =>v=yI (kk+(cnt x:Nat))) w):=by
 refine en func71 ntmps71 ?_
 have H:=(St.start w).arg hx
 have nhx:=qM hx
 clear hx
 refine zcr (sp (yI 0) (zjcc (sp (yI 0) (zjn (qX ?_)))))
 refine zD (fun m' ρ w1=>∃ (xY:Env) (k:Nat) (r:Int),ρ=upd (upd (upd xY 0 (Sv ax x.length cx)) 1 (yI r)) 5 (yI k)∧(k≤x.length)∧(r=kk+(cntTo x k:Nat))∧m' =x.length - k∧St w w1 [] [sF false Fx ax cx x]) (x.length - 0) ⟨_,0,kk,uE3,qf,(by exact (Int.add_zero _).symm),rfl,H⟩ ?_
 clear H
 rintro m' ρ w2 ⟨xY,k,r,rfl,i0,i1,rfl,H⟩
 have hc:=fun h=>cnt_get (l:=x) (k:=k) h
 refine zcc (sps [yI k,Sv ax x.length cx] (oN rfl (sp (Bv (decide ((k:Int) < x.length))) (zjn (cD rfl (fun h3=>?_) (fun h3=>?_))))))
 ·skip
  have m0:=m k qf
  rw [← i1] at m0
  replace m0:x[k]! =r:=m0
  refine qW (t_n (xQ (qX (zcc (sps [Sv ax x.length cx,yI k] ?_)))))
  obtain ⟨b4,o5,rfl⟩:=H.addr 0 rfl qf
  refine oI rfl rfl (oL rfl (H.jY 0 rfl k qf qf) (sps [yI r,Bv ((x[k]! :Int) != r)] (zjn (xE ((x[k]! :Int) != r) rfl (fun h6=>?_) (fun h6=>?_)))))
  ·skip
   replace h6:=bne_iff_ne.1 h6
   refine zcr (sp (yI (-1)) (zjr (t_r (zr5 (ret1 (yI (-1)) rfl rfl ⟨_,rfl,?_,H.base⟩)))))
   exfalso;first | omega | (exact absurd ‹_› ‹¬ _›) | simp_all
  replace h6:=xw h6
  refine qW (t_n (xO (sp (yI r) (sw (zB r 1 rfl rfl (by (have:=hc qf;have e:cnt (x[k]!)=1:=rfl;omega)) (sp (yI (r+1)) (xM (b_n (t_n (xO (sp (yI k) (sw (zB k 1 rfl rfl (by (have:=hc qf;have e:cnt (x[k]!)=1:=rfl;omega)) (sp (yI (k+1)) (xM (qY (m' :=x.length - (k+1)) qf ⟨_,k+1,r+1,uE3,?_,?_,rfl,H⟩))))))))))))))))
  · omega
  · rw [Xl];have e:cnt (x[k]!)=1:=rfl;omega
 refine zx4 (zcr (sps [yI r,yI r] (zjr (ret1 (yI r) rfl rfl ⟨_,rfl,?_,H.base⟩))))
 first | rfl | (refine congrArg (Value.int .i64) ?_;obtain rfl:k=x.length:=qf;exact i1)

theorem heldInt64SS_ok (w:World) (x:yLL) (kk:Int) {ax:yOA} {Fx:yLN} (hx:qO.rep w Fx [Sv ax x.length cx] x) (m:mkd x kk) (p0:0≤kk) (p1:kk+(cnt x:Nat)≤4611686018427387904):Calls Tryz.prog 26 #[Sv ax x.length cx,yI kk] w (Ret (fun v w' =>v=yI (kk+(cnt x:Nat))) w):=by
 refine en func26 ntmps26 ?_
 have H:=(St.start w).arg hx
 have nhx:=qM hx
 clear hx
 refine zcr (sp (yI 0) (zjcc (sp (yI 0) (zjn (qX ?_)))))
 refine zD (fun m' ρ w1=>∃ (xY:Env) (k:Nat) (r:Int),ρ=upd (upd (upd xY 0 (Sv ax x.length cx)) 1 (yI r)) 5 (yI k)∧(k≤x.length)∧(r=kk+(cntTo x k:Nat))∧m' =x.length - k∧St w w1 [] [sF false Fx ax cx x]) (x.length - 0) ⟨_,0,kk,uE3,qf,(by exact (Int.add_zero _).symm),rfl,H⟩ ?_
 clear H
 rintro m' ρ w2 ⟨xY,k,r,rfl,i0,i1,rfl,H⟩
 have hc:=fun h=>cnt_get (l:=x) (k:=k) h
 refine zcc (sps [yI k,Sv ax x.length cx] (oN rfl (sp (Bv (decide ((k:Int) < x.length))) (zjn (cD rfl (fun h3=>?_) (fun h3=>?_))))))
 ·skip
  have m0:=m k qf
  rw [← i1] at m0
  refine qW (t_n (xQ (qX (zcr (sps [Sv ax x.length cx,yI k] ?_)))))
  obtain ⟨b4,o5,rfl⟩:=H.addr 0 rfl qf
  obtain ⟨ae6,ce6,Fe6,H⟩:=H.vV 0 rfl k k qf qf qf
  refine oI rfl rfl (oL rfl (H.xW 1 rfl 0 rfl) (sp (yI r) (sw (oq (heldInt64S_ok _ (x[k]!) r (H.get 0 rfl).1 ql (by (have:=hc qf;skip;omega)) (by (have:=hc qf;skip;omega))) H fun w7 H=>sp (yI (r+(cnt (x[k]!):Nat))) (zjc (sps [yI (r+(cnt (x[k]!):Nat)),Bv (decide ((r+(cnt (x[k]!):Nat):Int) < 0))] (zjn (cD rfl (fun h9=>?_) (fun h9=>?_)))))))))
  ·skip
   refine zcr (sp (yI (-1)) (zjr (zr5 (ret1 (yI (-1)) rfl rfl ⟨_,rfl,?_,H.base⟩))))
   exfalso;first | omega | (exact absurd ‹_› ‹¬ _›) | simp_all
  refine qW (b_n (t_n (xO (sp (yI k) (sw (zB k 1 rfl rfl (by (have:=hc qf;skip;omega)) (sp (yI (k+1)) (xM (qY (m' :=x.length - (k+1)) qf ⟨_,k+1,r+(cnt (x[k]!):Nat),uE3,?_,?_,rfl,H.sel _ (.refl _) _ qm⟩)))))))))
  · omega
  · rw [Xl];skip;omega
 refine zx4 (zcr (sps [yI r,yI r] (zjr (ret1 (yI r) rfl rfl ⟨_,rfl,?_,H.base⟩))))
 first | rfl | (refine congrArg (Value.int .i64) ?_;obtain rfl:k=x.length:=qf;exact i1)
theorem l01Bag_ok (w:World) (l:yLI) {al:yOA} {Fl:yLN} (hl:qO.rep w Fl [Sv al l.length cl] l):Calls Tryz.prog 150 #[Sv al l.length cl] w (Ret (fun v w' =>v=Bv (dec (Yg l))) w):=by
 refine en func150 ntmps150 ?_
 have H:=(St.start w).arg hl
 have nhl:=qM hl
 clear hl
 refine zcr (sp (Bv false) (zjcc (sp (yI 0) (zjn (qX ?_)))))
 refine zD (fun m' ρ w1=>∃ (xY:Env) (k:Nat),ρ=upd (upd xY 0 (Sv al l.length cl)) 3 (yI k)∧(k≤l.length)∧(Counts l k)∧m' =l.length - k∧St w w1 [] [sF false Fl al cl l]) (l.length - 0) ⟨_,0,uE2,qf,(by exact Counts.zero l),rfl,H⟩ ?_
 clear H
 rintro m' ρ w2 ⟨xY,k,rfl,i0,i1,rfl,H⟩
 refine zcc (sps [yI k,Sv al l.length cl] (oN rfl (sp (Bv (decide ((k:Int) < l.length))) (zjn (cD rfl (fun h3=>?_) (fun h3=>?_))))))
 ·skip
  refine qW (t_n (xQ (qX (zcr (sps [Sv al l.length cl,yI k] ?_)))))
  obtain ⟨b4,o5,rfl⟩:=H.addr 0 rfl qf
  refine oI rfl rfl (oL rfl (H.jY 0 rfl k qf qf) (sw (oq (l00In_ok w2 (l[k]!) 0 1000) H fun w6 H=>sp (Bv (!(inR (l[k]!) 0 1000))) (zjn (xE (!(inR (l[k]!) 0 1000)) rfl (fun h8=>?_) (fun h8=>?_))))))
  ·skip
   replace h8:=xq h8
   replace h8:=Vh h8
   refine zcr (sp (Bv false) (zjr (zr5 (ret1 (Bv false) rfl rfl ⟨_,rfl,?_,H.base⟩))))
   rw [xx (fun h=>‹¬ (0≤l[k]! ∧l[k]! ≤1000)› (h.1 k qf))]
  replace h8:=xg h8
  replace h8:=XA.1 h8
  refine qW (b_n (t_n (xO (sp (yI k) (sw (zB k 1 rfl rfl qf (sp (yI (k+1)) (xM (qY (m' :=l.length - (k+1)) qf ⟨_,k+1,uE2,?_,?_,rfl,H⟩)))))))))
  · omega
  · exact i1.succ ‹_›
 refine zx4 (zcr (sp (Sv al l.length cl) (oN rfl (sw (oq (l00In_ok w2 l.length 1 8) H fun w9 H=>sp (Bv (inR l.length 1 8)) (zjr (ret1 (Bv (inR l.length 1 8)) rfl rfl ⟨_,rfl,?_,H.base⟩)))))))
 obtain rfl:k=l.length:=by omega
 refine congrArg Value.bool (dec_eq ?_)
 rw [XA]
 exact ⟨fun h=>⟨i1,by omega,by omega⟩,fun h=>by have:=h.2;omega⟩

theorem XC (w:World) (s:qI) (b:yLI) {qC:yOA} {qZ:yLN} {qN:yOA} {xG:yLN} {ab:yOA} {cb:Nat} {Fb:yLN} (hs:vN w bs os (yS s qC qB qN qJ)) (xf:qO.rep w qZ [Sv qC s.qw.length qB] s.qw) (xJ:qO.rep w xG [Sv qN s.qx.length qJ] s.qx) (hb:qO.rep w Fb [Sv ab b.length cb] b):Calls Tryz.prog 122 #[pp bs os,Sv ab b.length cb] w (Ret (fun v w' =>v=Bv (dec (vI s.xB b))) w):=by
 refine en func122 ntmps122 ?_
 have H:=((((St.start w).arg hb).arg xJ).arg xf).V7 hs
 have vH:=qM xf
 have jw:=qM xJ
 have nhb:=qM hb
 clear hs xf xJ hb
 refine zcr (sp (Bv false) (zjc (sp (Sv ab b.length cb) (sw (oq (l01Bag_ok _ b (H.get 3 rfl).1) H fun w1 H=>sp (Bv (dec (Yg b))) ?_)))))
 cases h3:(dec (Yg b))
 ·skip
  replace h3:=vG h3
  refine zk [8,9,10,11,12,13,14] (sps [Bv false,Bv false] (zjr (ret1 (Bv false) rfl rfl ⟨_,rfl,?_,H.base⟩)))
  rw [xx (fun h=>‹¬ Yg b› h.1)]
 replace h3:=QU h3
 refine qQ 7 rfl rfl (sp (Sv ab b.length cb) (qQ 7 rfl rfl (oN rfl (qQ 7 rfl rfl (sp (pp bs os) (qQ 7 rfl rfl (sp (pp bs os) (qQ 7 rfl rfl (oF rfl (qQ 7 rfl rfl (oL rfl (H.xW 0 rfl 0 rfl) (qQ 7 rfl rfl (sps [Bv ((b.length:Int) == s.xB),Bv ((b.length:Int) == s.xB),Bv ((b.length:Int) == s.xB)] (zjr (ret1 (Bv ((b.length:Int) == s.xB)) rfl rfl ⟨_,rfl,(congrArg Value.bool (dec_eq ?_)),H.base⟩)))))))))))))))
 rw [beq_iff_eq]
 exact ⟨fun h=>⟨‹_›,h⟩,fun h=>h.2⟩

theorem l02Frame_ok (w:World) (s:qI) {qC:yOA} {qZ:yLN} {qN:yOA} {xG:yLN} (hs:vN w bs os (yS s qC qB qN qJ)) (xf:qO.rep w qZ [Sv qC s.qw.length qB] s.qw) (xJ:qO.rep w xG [Sv qN s.qx.length qJ] s.qx):Calls Tryz.prog 133 #[pp bs os] w (Ret (fun v w' =>v=Bv (dec (Qx s))) w):=by
 refine en func133 ntmps133 ?_
 have H:=(((St.start w).arg xJ).arg xf).V7 hs
 have vH:=qM xf
 have jw:=qM xJ
 clear hs xf xJ
 refine zcr (sp (Bv false) (zjcc (sps [pp bs os,pp bs os] (oF rfl (oL rfl (H.xW 0 rfl 0 rfl) (sw (oq (l00In_ok w s.xB 1 8) H fun w1 H=>sps [Bv (!(inR s.xB 1 8)),Bv (!(inR s.xB 1 8))] ?_)))))))
 cases h3:(!(inR s.xB 1 8))
 ·skip
  replace h3:=xg h3
  replace h3:=XA.1 h3
  refine qQ 10 rfl rfl (sp (pp bs os) (qQ 10 rfl rfl (sp (pp bs os) (qQ 10 rfl rfl (oF rfl (qQ 10 rfl rfl (oL rfl (H.xW 0 rfl 1 rfl) (qQ 10 rfl rfl (oN rfl (qQ 10 rfl rfl (sw (oq (l00In_ok w1 s.qw.length 1 6) H fun w4 H=>qQ 10 rfl rfl (sps [Bv (!(inR s.qw.length 1 6)),Bv (!(inR s.qw.length 1 6)),Bv (!(inR s.qw.length 1 6))] ?_)))))))))))))
  cases h6:(!(inR s.qw.length 1 6))
  ·skip
   replace h6:=xg h6
   replace h6:=XA.1 h6
   refine qQ 19 rfl rfl (sp (pp bs os) (qQ 19 rfl rfl (sp (pp bs os) (qQ 19 rfl rfl (oF rfl (qQ 19 rfl rfl (oL rfl (H.xW 0 rfl 1 rfl) (qQ 19 rfl rfl ?_))))))))
   obtain ⟨b7,o8,rfl⟩:=H.addr 1 rfl qf
   refine oI rfl rfl (qQ 19 rfl rfl (oL rfl (H.jY 1 rfl 0 qf qf) (qQ 19 rfl rfl (sps [Bv ((s.qw[0]! :Int) != (-1)),Bv ((s.qw[0]! :Int) != (-1))] (zjn (xE ((s.qw[0]! :Int) != (-1)) rfl (fun h9=>?_) (fun h9=>?_)))))))
   ·skip
    replace h9:=bne_iff_ne.1 h9
    refine zcr (sp (Bv false) (zjr (t_r (ret1 (Bv false) rfl rfl ⟨_,rfl,?_,H.base⟩))))
    rw [xx (fun h=>by obtain ⟨h1,h2,h3,h4⟩:=h;first | omega | (have:=h4 k qf qf;omega))]
   replace h9:=xw h9
   refine qW (t_n (zcc (sp (yI 1) (zjn (qX ?_)))))
   refine zD (fun m' ρ w10=>∃ (xY:Env) (k:Nat),ρ=upd (upd xY 0 (pp bs os)) 3 (yI k)∧(k≤s.qw.length)∧(1≤k)∧(FrameTo s k)∧m' =s.qw.length - k∧St w w10 [] [atF bs os [yI s.xB,Sv (aa b7 o8) s.qw.length qB,Sv qN s.qx.length qJ],sF false qZ (aa b7 o8) qB s.qw,sF false xG qN qJ s.qx]) (s.qw.length - 1) ⟨_,1,uE2,qf,qf,(by exact FrameTo.one s),rfl,H⟩ ?_
   clear H
   rintro m' ρ w11 ⟨xY,k,rfl,i0,i2,i1,rfl,H⟩
   refine zcc (sps [yI k,pp bs os,pp bs os] (oF rfl (oL rfl (H.xW 0 rfl 1 rfl) (oN rfl (sp (Bv (decide ((k:Int) < s.qw.length))) (zjn (cD rfl (fun h12=>?_) (fun h12=>?_))))))))
   ·skip
    refine qW (t_n (xQ (qX (zcr (sps [pp bs os,pp bs os] (oF rfl (oL rfl (H.xW 0 rfl 1 rfl) (sp (yI k) (oI rfl rfl (oL rfl (H.jY 1 rfl k qf qf) (sp (yI k) (sw (o_sub k 1 rfl rfl qf (sw (oq (l00In_ok w11 (s.qw[k]!) 0 (k - 1)) H fun w13 H=>sp (Bv (!(inR (s.qw[k]!) 0 (k - 1)))) (zjn (xE (!(inR (s.qw[k]!) 0 (k - 1))) rfl (fun h15=>?_) (fun h15=>?_))))))))))))))))))
    ·skip
     replace h15:=xq h15
     replace h15:=Vh h15
     refine zcr (sp (Bv false) (zjr (zr5 (ret1 (Bv false) rfl rfl ⟨_,rfl,?_,H.base⟩))))
     rw [xx (fun h=>by obtain ⟨h1,h2,h3,h4⟩:=h;first | omega | (have:=h4 k qf qf;omega))]
    replace h15:=xg h15
    replace h15:=XA.1 h15
    refine qW (b_n (t_n (xO (sp (yI k) (sw (zB k 1 rfl rfl qf (sp (yI (k+1)) (xM (qY (m' :=s.qw.length - (k+1)) qf ⟨_,k+1,uE2,?_,?_,?_,rfl,H⟩)))))))))
    · omega
    · omega
    · exact i1.succ ‹_›
   refine zx4 (zcr (sp (Bv true) (zjr (ret1 (Bv true) rfl rfl ⟨_,rfl,?_,H.base⟩))))
   obtain rfl:k=s.qw.length:=by omega
   rw [yH ⟨by omega,by omega,by omega,i1⟩]
  replace h6:=xq h6
  replace h6:=Vh h6
  refine zk [20,21,22,23,24,25,26] (sp (Bv true) (zjn (xE true rfl (fun _=>zcr (sp (Bv false) (zjr (t_r (ret1 (Bv false) rfl rfl ⟨_,rfl,?_,H.base⟩))))) (fun h=>absurd h qj))))
  rw [xx (fun h=>by obtain ⟨h1,h2,h3,h4⟩:=h;first | omega | (have:=h4 k qf qf;omega))]
 replace h3:=xq h3
 replace h3:=Vh h3
 refine zk [11,12,13,14,15,16,17] (sps [Bv true,Bv true] (zk [20,21,22,23,24,25,26] (sp (Bv true) (zjn (xE true rfl (fun _=>zcr (sp (Bv false) (zjr (t_r (ret1 (Bv false) rfl rfl ⟨_,rfl,?_,H.base⟩))))) (fun h=>absurd h qj))))))
 rw [xx (fun h=>by obtain ⟨h1,h2,h3,h4⟩:=h;first | omega | (have:=h4 k qf qf;omega))]

theorem l02In_ok (w:World) (s:qI) (c:Int) (other:Int) {qC:yOA} {qZ:yLN} {qN:yOA} {xG:yLN} (hs:vN w bs os (yS s qC qB qN qJ)) (xf:qO.rep w qZ [Sv qC s.qw.length qB] s.qw) (xJ:qO.rep w xG [Sv qN s.qx.length qJ] s.qx) (p0:Qx s) (p1:CellIn s c):Calls Tryz.prog 170 #[pp bs os,yI c,yI other] w (Ret (fun v w' =>v=Bv (dec (Lies s.qw other c))) w):=by
 refine en func170 ntmps170 ?_
 have H:=(((St.start w).arg xJ).arg xf).V7 hs
 have vH:=qM xf
 have jw:=qM xJ
 clear hs xf xJ
 refine zcr (sp (Bv false) (zjn (xQ (qX ?_))))
 refine zD (fun m' ρ w1=>∃ (xY:Env) (y:Int),ρ=upd (upd (upd xY 0 (pp bs os)) 1 (yI y)) 2 (yI other)∧(0≤y∧y≤(s.qw.length:Int) - 1)∧(Lies s.qw other c↔Lies s.qw other y)∧m' =y.toNat∧St w w1 [] [atF bs os (yS s qC qB qN qJ),sF false qZ qC qB s.qw,sF false xG qN qJ s.qx]) (c.toNat) ⟨_,c,uE3,(by exact p1),(by exact Iff.rfl),rfl,H⟩ ?_
 clear H
 rintro m' ρ w2 ⟨xY,y,rfl,i0,i1,rfl,H⟩
 have up:=fun h=>p0.up (c:=y) h i0.2
 refine zcc (sps [yI y,Bv (decide ((y:Int) > 0))] (zjn (cD rfl (fun h3=>?_) (fun h3=>?_))))
 ·skip
  refine qW (t_n (qX (zcr (sps [pp bs os,pp bs os] (oF rfl (oL rfl (H.xW 0 rfl 1 rfl) (sp (yI y) ?_)))))))
  obtain ⟨b4,o5,rfl⟩:=H.addr 1 rfl qf
  refine oI rfl rfl (oL rfl (H.jY 1 rfl y qf qf) (sp (yI (s.qw[y.toNat]!)) (zjc (sps [yI (s.qw[y.toNat]!),yI other,Bv ((s.qw[y.toNat]! :Int) == other)] (zjn (cE rfl (fun h6=>?_) (fun h6=>?_)))))))
  ·skip
   refine zcr (sp (Bv true) (zjr (b_r (t_r (b_r (t_r (ret1 (Bv true) rfl rfl ⟨_,rfl,?_,H.base⟩)))))))
   rw [yH (i1.2 (.here qf ‹_›))]
  refine qW (b_n ?_)
  have up1:=up qf
  refine qY (m' :=(s.qw[y.toNat]!).toNat) qf ⟨_,(s.qw[y.toNat]!),uE3,?_,?_,rfl,H⟩
  · have:=up qf;omega
  · exact i1.trans (lies_iff.trans ⟨fun h=>h.2.resolve_left ‹_›,fun h=>⟨by omega,.inr h⟩⟩)
 refine zx4 (zcr (sp (Bv false) (zjr (ret1 (Bv false) rfl rfl ⟨_,rfl,?_,H.base⟩))))
 rw [xx (fun h=>by have:=(lies_iff.1 (i1.1 h)).1;omega)]

theorem l02Rule_ok (w:World) (s:qI) (r:Xg) {qC:yOA} {qZ:yLN} {qN:yOA} {xG:yLN} {br or:Nat} {Qd:yOA} {yY:Nat} {YM:yLN} {Qh:yOA} {Qb:Nat} {YP:yLN} {Qe:yOA} {yZ:Nat} {YN:yLN} {Qg:yOA} {Qa:Nat} {YO:yLN} {XP:yOA} {XO:Nat} {FrOut:yLN} {yD:yOA} {yB:Nat} {FrInto:yLN} (hs:vN w bs os (yS s qC qB qN qJ)) (xf:qO.rep w qZ [Sv qC s.qw.length qB] s.qw) (xJ:qO.rep w xG [Sv qN s.qx.length qJ] s.qx) (hr:vN w br or [yI r.qG,yI r.zS,Sv Qd r.xn.length yY,Sv Qh r.xF.length Qb,Sv Qe r.xI.length yZ,Sv Qg r.xK.length Qa,Sv XP r.ve.length XO,Sv yD r.qU.length yB,Bv r.zH]) (hrNeed:qO.rep w YM [Sv Qd r.xn.length yY] r.xn) (hrHave:qO.rep w YP [Sv Qh r.xF.length Qb] r.xF) (hrLack:qO.rep w YN [Sv Qe r.xI.length yZ] r.xI) (hrHere:qO.rep w YO [Sv Qg r.xK.length Qa] r.xK) (hrOut:qO.rep w FrOut [Sv XP r.ve.length XO] r.ve) (hrInto:qO.rep w FrInto [Sv yD r.qU.length yB] r.qU) (p0:Qx s):Calls Tryz.prog 134 #[pp bs os,pp br or] w (Ret (fun v w' =>v=Bv (dec (RuleOk s r))) w):=by
 refine en func134 ntmps134 ?_
 have H:=((((((((((St.start w).arg hrInto).arg hrOut).arg hrHere).arg hrLack).arg hrHave).arg hrNeed).V7 hr).arg xJ).arg xf).V7 hs
 have vH:=qM xf
 have jw:=qM xJ
 have nhrNeed:=qM hrNeed
 have nhrHave:=qM hrHave
 have nhrLack:=qM hrLack
 have nhrHere:=qM hrHere
 have nhrOut:=qM hrOut
 have nhrInto:=qM hrInto
 clear hs xf xJ hr hrNeed hrHave hrLack hrHere hrOut hrInto
 refine zcr (sp (Bv false) (zjn (xQ (xQ ?_))))
 refine jh rfl H fun H=>rtp 0 (pp br or) H ?_
 refine rtp 1 (pp br or) H ?_
 refine tF 2 rfl rfl H ?_
 refine tL 3 rfl rfl (fun _ h=>h.xW 3 rfl 0 rfl) H ?_
 refine rtp 4 (pp bs os) H ?_
 refine rtp 5 (pp bs os) H ?_
 refine tF 6 rfl rfl H ?_
 refine tL 7 rfl rfl (fun _ h=>h.xW 0 rfl 1 rfl) H ?_
 refine tN 8 rfl rfl H ?_
 refine rt 9 (yI (s.qw.length - 1)) (y_sub s.qw.length 1 rfl rfl qf) H ?_
 refine ro 10 rfl (oq (l00In_ok w.drew r.qG 0 (s.qw.length - 1)) H fun w2 H=>⟨H,(rtp 11 (Bv (!(inR r.qG 0 (s.qw.length - 1)))) H ?_)⟩)
 refine rtp 12 (Bv (!(inR r.qG 0 (s.qw.length - 1)))) H ?_
 cases h4:(!(inR r.qG 0 (s.qw.length - 1)))
 ·skip
  replace h4:=xg h4
  replace h4:=XA.1 h4
  refine rgp 13 (pp br or) 19 H ?_
  refine rgp 14 (pp br or) 19 H ?_
  refine gF 15 rfl rfl H ?_
  refine gL 16 rfl rfl (fun _ h=>h.xW 3 rfl 1 rfl) H ?_
  refine jK [17] qh qm (r_opG rfl (e:=19) rfl rfl (oq (l00In_ok w2 r.zS 0 9) H fun w5 H=>⟨H,(rgp 18 (Bv (!(inR r.zS 0 9))) 19 H ?_)⟩) jL)
  refine rtp 19 (Bv (!(inR r.zS 0 9))) H ?_
  refine rtp 20 (Bv (!(inR r.zS 0 9))) H ?_
  cases h7:(!(inR r.zS 0 9))
  ·skip
   replace h7:=xg h7
   replace h7:=XA.1 h7
   refine rgp 21 (pp br or) 27 H ?_
   refine rgp 22 (pp br or) 27 H ?_
   refine gF 23 rfl rfl H ?_
   refine gL 24 rfl rfl (fun _ h=>h.xW 3 rfl 8 rfl) H ?_
   refine rgp 25 (Bv r.zH) 27 H ?_
   cases h8:(r.zH)
   ·skip
    rw [h8] at H
    refine zZ [26,27,28,29,30] 5 (H) (rgp 31 (Bv false) 27 H ?_)
    refine rtp 32 (Bv false) H ?_
    refine rtp 33 (Bv false) H ?_
    refine rgp 34 (pp br or) 40 H ?_
    refine rgp 35 (pp br or) 40 H ?_
    refine gF 36 rfl rfl H ?_
    refine gL 37 rfl rfl (fun _ h=>h.xW 3 rfl 7 rfl) H ?_
    refine gN 38 rfl rfl H ?_
    refine rgp 39 (Bv (decide ((r.qU.length:Int) > 3))) 40 H ?_
    refine rtp 40 (Bv (decide ((r.qU.length:Int) > 3))) H ?_
    refine xP qh (t_n (cD rfl (fun h9=>?_) (fun h9=>?_)))
    ·skip
     refine zcr (sp (Bv false) (zjr (t_r (ret1 (Bv false) rfl rfl ⟨_,rfl,?_,H.base⟩))))
     rw [xx (fun h=>by obtain ⟨h1,h2,h3,h4,h5,h6,h7,h8,h9,h10,h11⟩:=h;first | contradiction | omega | exact h3 ⟨‹_›,‹_›⟩ | (obtain ⟨q1,q2,q3,q4,q5⟩:=h11 k qf;first | contradiction | omega | (have:=q5 qf;omega)))]
    refine qW (t_n (zcc (sps [pp bs os,pp br or,pp br or] (oF rfl (oL rfl (H.xW 3 rfl 2 rfl) (sw (oq (XC _ s r.xn (qF (H.get 0 rfl) 0 3) (H.get 1 rfl).1 (H.get 2 rfl).1 (H.get 4 rfl).1) H fun w10 H=>sps [Bv (!(dec (vI s.xB r.xn))),Bv (!(dec (vI s.xB r.xn)))] ?_)))))))
    cases h12:(!(dec (vI s.xB r.xn)))
    ·skip
     replace h12:=xg h12
     replace h12:=QU h12
     refine qQ 55 rfl rfl (sp (pp bs os) (qQ 55 rfl rfl (sp (pp br or) (qQ 55 rfl rfl (sp (pp br or) (qQ 55 rfl rfl (oF rfl (qQ 55 rfl rfl (oL rfl (H.xW 3 rfl 3 rfl) (qQ 55 rfl rfl (sw (oq (XC _ s r.xF (qF (H.get 0 rfl) 0 3) (H.get 1 rfl).1 (H.get 2 rfl).1 (H.get 5 rfl).1) H fun w13 H=>qQ 55 rfl rfl (sps [Bv (!(dec (vI s.xB r.xF))),Bv (!(dec (vI s.xB r.xF))),Bv (!(dec (vI s.xB r.xF)))] ?_)))))))))))))
     cases h15:(!(dec (vI s.xB r.xF)))
     ·skip
      replace h15:=xg h15
      replace h15:=QU h15
      refine qQ 64 rfl rfl (sp (pp bs os) (qQ 64 rfl rfl (sp (pp br or) (qQ 64 rfl rfl (sp (pp br or) (qQ 64 rfl rfl (oF rfl (qQ 64 rfl rfl (oL rfl (H.xW 3 rfl 4 rfl) (qQ 64 rfl rfl (sw (oq (XC _ s r.xI (qF (H.get 0 rfl) 0 3) (H.get 1 rfl).1 (H.get 2 rfl).1 (H.get 6 rfl).1) H fun w16 H=>qQ 64 rfl rfl (sps [Bv (!(dec (vI s.xB r.xI))),Bv (!(dec (vI s.xB r.xI))),Bv (!(dec (vI s.xB r.xI)))] ?_)))))))))))))
      cases h18:(!(dec (vI s.xB r.xI)))
      ·skip
       replace h18:=xg h18
       replace h18:=QU h18
       refine qQ 73 rfl rfl (sp (pp bs os) (qQ 73 rfl rfl (sp (pp br or) (qQ 73 rfl rfl (sp (pp br or) (qQ 73 rfl rfl (oF rfl (qQ 73 rfl rfl (oL rfl (H.xW 3 rfl 5 rfl) (qQ 73 rfl rfl (sw (oq (XC _ s r.xK (qF (H.get 0 rfl) 0 3) (H.get 1 rfl).1 (H.get 2 rfl).1 (H.get 7 rfl).1) H fun w19 H=>qQ 73 rfl rfl (sps [Bv (!(dec (vI s.xB r.xK))),Bv (!(dec (vI s.xB r.xK))),Bv (!(dec (vI s.xB r.xK)))] ?_)))))))))))))
       cases h21:(!(dec (vI s.xB r.xK)))
       ·skip
        replace h21:=xg h21
        replace h21:=QU h21
        refine qQ 82 rfl rfl (sp (pp bs os) (qQ 82 rfl rfl (sp (pp br or) (qQ 82 rfl rfl (sp (pp br or) (qQ 82 rfl rfl (oF rfl (qQ 82 rfl rfl (oL rfl (H.xW 3 rfl 6 rfl) (qQ 82 rfl rfl (sw (oq (XC _ s r.ve (qF (H.get 0 rfl) 0 3) (H.get 1 rfl).1 (H.get 2 rfl).1 (H.get 8 rfl).1) H fun w22 H=>qQ 82 rfl rfl (sps [Bv (!(dec (vI s.xB r.ve))),Bv (!(dec (vI s.xB r.ve))),Bv (!(dec (vI s.xB r.ve)))] ?_)))))))))))))
        cases h24:(!(dec (vI s.xB r.ve)))
        ·skip
         replace h24:=xg h24
         replace h24:=QU h24
         refine qQ 91 rfl rfl (sp (pp br or) (qQ 91 rfl rfl (sp (pp br or) (qQ 91 rfl rfl (oF rfl (qQ 91 rfl rfl (oL rfl (H.xW 3 rfl 2 rfl) (qQ 91 rfl rfl (sw (oq (Y7 _ r.xn (H.get 4 rfl).1 (by first | assumption | exact vX ql | exact QD ql)) H fun w25 H=>qQ 91 rfl rfl (sps [Bv ((Yd r.xn:Int) == 0),Bv ((Yd r.xn:Int) == 0)] (zjn (cE rfl (fun h27=>?_) (fun h27=>?_))))))))))))))
         ·skip
          refine zcr (sp (Bv false) (zjr (t_r (ret1 (Bv false) rfl rfl ⟨_,rfl,?_,H.base⟩))))
          rw [xx (fun h=>by obtain ⟨h1,h2,h3,h4,h5,h6,h7,h8,h9,h10,h11⟩:=h;first | contradiction | omega | exact h3 ⟨‹_›,‹_›⟩ | (obtain ⟨q1,q2,q3,q4,q5⟩:=h11 k qf;first | contradiction | omega | (have:=q5 qf;omega)))]
         refine qW (t_n (zcc (sp (yI 0) (zjn (qX ?_)))))
         refine zD (fun m' ρ w28=>∃ (xY:Env) (k:Nat),ρ=upd (upd (upd xY 0 (pp bs os)) 1 (pp br or)) 5 (yI k)∧(k≤r.qU.length)∧(IntosTo s r k)∧m' =r.qU.length - k∧St w w28 [] [atF bs os (yS s qC qB qN qJ),sF false qZ qC qB s.qw,sF false xG qN qJ s.qx,atF br or [yI r.qG,yI r.zS,Sv Qd r.xn.length yY,Sv Qh r.xF.length Qb,Sv Qe r.xI.length yZ,Sv Qg r.xK.length Qa,Sv XP r.ve.length XO,Sv yD r.qU.length yB,Bv false],sF false YM Qd yY r.xn,sF false YP Qh Qb r.xF,sF false YN Qe yZ r.xI,sF false YO Qg Qa r.xK,sF false FrOut XP XO r.ve,sF false FrInto yD yB r.qU]) (r.qU.length - 0) ⟨_,0,uE3,qf,(by exact fun j hj=>by omega),rfl,H⟩ ?_
         clear H
         rintro m' ρ w29 ⟨xY,k,rfl,i0,i1,rfl,H⟩
         refine zcc (sps [yI k,pp br or,pp br or] (oF rfl (oL rfl (H.xW 3 rfl 7 rfl) (oN rfl (sp (Bv (decide ((k:Int) < r.qU.length))) (zjn (cD rfl (fun h30=>?_) (fun h30=>?_))))))))
         ·skip
          refine qW (t_n (xQ (qX (zcr (sps [pp br or,pp br or] (oF rfl (oL rfl (H.xW 3 rfl 7 rfl) (sp (yI k) ?_))))))))
          obtain ⟨b31,o32,rfl⟩:=H.addr 9 rfl qf
          obtain ⟨ae33Bag,ce33Bag,Fe33Bag,H⟩:=H.yh 9 rfl k k qf qf qf
          refine oI rfl rfl (sp (pp b31 (o32+(k:Int).toNat * 2)) (zjn (xQ (xQ ?_))))
          refine jh rfl H fun H=>rtp 0 (pp b31 (o32+(k:Int).toNat * 2)) H ?_
          refine rtp 1 (pp b31 (o32+(k:Int).toNat * 2)) H ?_
          refine tF 2 rfl rfl H ?_
          refine tL 3 rfl rfl (fun _ h=>h.xW 1 rfl 0 rfl) H ?_
          refine rtp 4 (pp bs os) H ?_
          refine rtp 5 (pp bs os) H ?_
          refine tF 6 rfl rfl H ?_
          refine tL 7 rfl rfl (fun _ h=>h.xW 2 rfl 1 rfl) H ?_
          refine tN 8 rfl rfl H ?_
          refine rt 9 (yI (s.qw.length - 1)) (y_sub s.qw.length 1 rfl rfl qf) H ?_
          refine ro 10 rfl (oq (l00In_ok w29.drew ((r.qU[k]!).qG) 0 (s.qw.length - 1)) H fun w35 H=>⟨H,(rtp 11 (Bv (!(inR ((r.qU[k]!).qG) 0 (s.qw.length - 1)))) H ?_)⟩)
          refine rtp 12 (Bv (!(inR ((r.qU[k]!).qG) 0 (s.qw.length - 1)))) H ?_
          cases h37:(!(inR ((r.qU[k]!).qG) 0 (s.qw.length - 1)))
          ·skip
           replace h37:=xg h37
           replace h37:=XA.1 h37
           refine rgp 13 (pp bs os) 126 H ?_
           refine rgp 14 (pp b31 (o32+(k:Int).toNat * 2)) 126 H ?_
           refine rgp 15 (pp b31 (o32+(k:Int).toNat * 2)) 126 H ?_
           refine gF 16 rfl rfl H ?_
           refine gL 17 rfl rfl (fun _ h=>h.xW 1 rfl 0 rfl) H ?_
           refine rgp 18 (pp br or) 126 H ?_
           refine rgp 19 (pp br or) 126 H ?_
           refine gF 20 rfl rfl H ?_
           refine gL 21 rfl rfl (fun _ h=>h.xW 5 rfl 0 rfl) H ?_
           refine jK [22] qh qm (r_opG rfl (e:=126) rfl rfl (oq (l02In_ok _ s ((r.qU[k]!).qG) r.qG (qF (H.get 2 rfl) 0 3) (H.get 3 rfl).1 (H.get 4 rfl).1 ql ql) H fun w38 H=>⟨H,(rgp 23 (Bv (!(dec (Lies s.qw r.qG ((r.qU[k]!).qG))))) 126 H ?_)⟩) jL)
           refine rtp 24 (Bv (!(dec (Lies s.qw r.qG ((r.qU[k]!).qG))))) H ?_
           refine rtp 25 (Bv (!(dec (Lies s.qw r.qG ((r.qU[k]!).qG))))) H ?_
           cases h40:(!(dec (Lies s.qw r.qG ((r.qU[k]!).qG))))
           ·skip
            replace h40:=xg h40
            replace h40:=QU h40
            refine rgp 26 (pp bs os) 139 H ?_
            refine rgp 27 (pp b31 (o32+(k:Int).toNat * 2)) 139 H ?_
            refine rgp 28 (pp b31 (o32+(k:Int).toNat * 2)) 139 H ?_
            refine gF 29 rfl rfl H ?_
            refine gL 30 rfl rfl (fun _ h=>h.xW 1 rfl 1 rfl) H ?_
            refine jK [31] qh qm (r_opG rfl (e:=139) rfl rfl (oq (XC _ s ((r.qU[k]!).jJ) (qF (H.get 2 rfl) 0 3) (H.get 3 rfl).1 (H.get 4 rfl).1 (H.get 0 rfl).1) H fun w41 H=>⟨H,(rgp 32 (Bv (!(dec (vI s.xB ((r.qU[k]!).jJ))))) 139 H ?_)⟩) jL)
            refine rtp 33 (Bv (!(dec (vI s.xB ((r.qU[k]!).jJ))))) H ?_
            refine rtp 34 (Bv (!(dec (vI s.xB ((r.qU[k]!).jJ))))) H ?_
            cases h43:(!(dec (vI s.xB ((r.qU[k]!).jJ))))
            ·skip
             replace h43:=xg h43
             replace h43:=QU h43
             refine rgp 35 (pp b31 (o32+(k:Int).toNat * 2)) 148 H ?_
             refine rgp 36 (pp b31 (o32+(k:Int).toNat * 2)) 148 H ?_
             refine gF 37 rfl rfl H ?_
             refine gL 38 rfl rfl (fun _ h=>h.xW 1 rfl 1 rfl) H ?_
             refine jK [39] qh qm (r_opG rfl (e:=148) rfl rfl (oq (Y7 _ ((r.qU[k]!).jJ) (H.get 0 rfl).1 (by first | assumption | exact vX ql | exact QD ql)) H fun w44 H=>⟨H,(rgp 40 (Bv ((Yd ((r.qU[k]!).jJ):Int) == 0)) 148 H ?_)⟩) jL)
             refine rtp 41 (Bv ((Yd ((r.qU[k]!).jJ):Int) == 0)) H ?_
             refine xP qh (t_n (cE rfl (fun h46=>?_) (fun h46=>?_)))
             ·skip
              refine zcr (sp (Bv false) (zjr (t_r (zr5 (ret1 (Bv false) rfl rfl ⟨_,rfl,?_,H.base⟩)))))
              rw [xx (fun h=>by obtain ⟨h1,h2,h3,h4,h5,h6,h7,h8,h9,h10,h11⟩:=h;first | contradiction | omega | exact h3 ⟨‹_›,‹_›⟩ | (obtain ⟨q1,q2,q3,q4,q5⟩:=h11 k qf;first | contradiction | omega | (have:=q5 qf;omega)))]
             refine qW (t_n (xQ ?_))
             refine jh rfl H fun H=>rtp 0 (yI k) H ?_
             refine rtp 1 (Bv (decide ((k:Int) > 0))) H ?_
             refine rtp 2 (Bv (decide ((k:Int) > 0))) H ?_
             cases h48:(decide ((k:Int) > 0))
             ·skip
              replace h48:=of_decide_eq_false h48
              refine zZ [3,4,5,6,7,8,9,10,11,12,13,14,15,16] 14 (H) (rtp 17 (Bv false) H ?_)
              refine xP qh (t_n (xE false rfl (fun h=>absurd h qj) (fun _=>qW (b_n (t_n (xO (sp (yI k) (sw (zB k 1 rfl rfl qf (sp (yI (k+1)) (xM (qY (m' :=r.qU.length - (k+1)) qf ⟨_,k+1,uE3,?_,?_,rfl,H.sel _ (.refl _) _ qm⟩))))))))))))
              · omega
              · exact i1.succ ⟨‹_›,‹_›,‹_›,‹_›,fun hk=>by omega⟩
             replace h48:=of_decide_eq_true h48
             refine rgp 3 (pp br or) 158 H ?_
             refine rgp 4 (pp br or) 158 H ?_
             refine gF 5 rfl rfl H ?_
             refine gL 6 rfl rfl (fun _ h=>h.xW 5 rfl 7 rfl) H ?_
             refine rgp 7 (yI k) 158 H ?_
             refine rg 8 (yI (k - 1)) 158 (y_sub k 1 rfl rfl qf) H ?_
             obtain ⟨ae49Bag,ce49Bag,Fe49Bag,H⟩:=H.yh 11 rfl (k - 1) (k - 1) qf qf qf
             refine gI 9 rfl rfl rfl (H.sel _ (.refl _) _ (fun _ h=>List.mem_cons_of_mem _ (List.mem_cons_of_mem _ (h)))) ?_
             refine gF 10 rfl rfl (H.sel _ (.refl _) _ (fun _ h=>List.mem_cons_of_mem _ (List.mem_cons_of_mem _ (h)))) ?_
             refine rgp 12 (pp b31 (o32+(k:Int).toNat * 2)) 158 (H.sel _ (.refl _) _ (fun _ h=>List.mem_cons_of_mem _ (List.mem_cons_of_mem _ (h)))) ?_
             refine rgp 13 (pp b31 (o32+(k:Int).toNat * 2)) 158 (H.sel _ (.refl _) _ (fun _ h=>List.mem_cons_of_mem _ (List.mem_cons_of_mem _ (h)))) ?_
             refine gF 14 rfl rfl (H.sel _ (.refl _) _ (fun _ h=>List.mem_cons_of_mem _ (List.mem_cons_of_mem _ (h)))) ?_
             refine gL 15 rfl rfl (fun _ h=>h.xW 1 rfl 0 rfl) (H.sel _ (.refl _) _ (fun _ h=>List.mem_cons_of_mem _ (List.mem_cons_of_mem _ (h)))) ?_
             refine jK [11] qh qm (r_opG rfl (e:=158) rfl rfl (zT (yI ((r.qU[k - 1]!).qG)) isAgg2 rfl (H.xW 1 rfl 0 rfl) (⟨H.dF 2,(rgp 16 (Bv (decide (((r.qU[k - 1]!).qG:Int)≥((r.qU[k]!).qG)))) 158 (H.sel _ (.refl _) _ (fun _ h=>List.mem_cons_of_mem _ (List.mem_cons_of_mem _ (h)))) ?_)⟩)) jL)
             refine rtp 17 (Bv (decide (((r.qU[k - 1]!).qG:Int)≥((r.qU[k]!).qG)))) (H.sel _ (.refl _) _ (fun _ h=>List.mem_cons_of_mem _ (List.mem_cons_of_mem _ (h)))) ?_
             refine xP qh (t_n (cD rfl (fun h50=>?_) (fun h50=>?_)))
             ·skip
              refine zcr (sp (Bv false) (zjr (zr5 (ret1 (Bv false) rfl rfl ⟨_,rfl,?_,H.base⟩))))
              rw [xx (fun h=>by obtain ⟨h1,h2,h3,h4,h5,h6,h7,h8,h9,h10,h11⟩:=h;first | contradiction | omega | exact h3 ⟨‹_›,‹_›⟩ | (obtain ⟨q1,q2,q3,q4,q5⟩:=h11 k qf;first | contradiction | omega | (have:=q5 qf;omega)))]
             refine qW (b_n (t_n (xO (sp (yI k) (sw (zB k 1 rfl rfl qf (sp (yI (k+1)) (xM (qY (m' :=r.qU.length - (k+1)) qf ⟨_,k+1,uE3,?_,?_,rfl,H.sel _ (.refl _) _ qm⟩)))))))))
             · omega
             · exact i1.succ ⟨‹_›,‹_›,‹_›,‹_›,fun hk=>by omega⟩
            replace h43:=xq h43
            replace h43:=vG h43
            refine zZ [35,36,37,38,39,40] 6 (H) (rtp 41 (Bv true) H ?_)
            refine xP qh (t_n (xE true rfl (fun _=>zcr (sp (Bv false) (zjr (t_r (zr5 (ret1 (Bv false) rfl rfl ⟨_,rfl,?_,H.base⟩)))))) (fun h=>absurd h qj)))
            rw [xx (fun h=>by obtain ⟨h1,h2,h3,h4,h5,h6,h7,h8,h9,h10,h11⟩:=h;first | contradiction | omega | exact h3 ⟨‹_›,‹_›⟩ | (obtain ⟨q1,q2,q3,q4,q5⟩:=h11 k qf;first | contradiction | omega | (have:=q5 qf;omega)))]
           replace h40:=xq h40
           replace h40:=vG h40
           refine zZ [26,27,28,29,30,31,32] 7 (H) (rtp 33 (Bv true) H ?_)
           refine rtp 34 (Bv true) H ?_
           refine zZ [35,36,37,38,39,40] 6 (H) (rtp 41 (Bv true) H ?_)
           refine xP qh (t_n (xE true rfl (fun _=>zcr (sp (Bv false) (zjr (t_r (zr5 (ret1 (Bv false) rfl rfl ⟨_,rfl,?_,H.base⟩)))))) (fun h=>absurd h qj)))
           rw [xx (fun h=>by obtain ⟨h1,h2,h3,h4,h5,h6,h7,h8,h9,h10,h11⟩:=h;first | contradiction | omega | exact h3 ⟨‹_›,‹_›⟩ | (obtain ⟨q1,q2,q3,q4,q5⟩:=h11 k qf;first | contradiction | omega | (have:=q5 qf;omega)))]
          replace h37:=xq h37
          replace h37:=Vh h37
          refine zZ [13,14,15,16,17,18,19,20,21,22,23] 11 (H) (rtp 24 (Bv true) H ?_)
          refine rtp 25 (Bv true) H ?_
          refine zZ [26,27,28,29,30,31,32] 7 (H) (rtp 33 (Bv true) H ?_)
          refine rtp 34 (Bv true) H ?_
          refine zZ [35,36,37,38,39,40] 6 (H) (rtp 41 (Bv true) H ?_)
          refine xP qh (t_n (xE true rfl (fun _=>zcr (sp (Bv false) (zjr (t_r (zr5 (ret1 (Bv false) rfl rfl ⟨_,rfl,?_,H.base⟩)))))) (fun h=>absurd h qj)))
          rw [xx (fun h=>by obtain ⟨h1,h2,h3,h4,h5,h6,h7,h8,h9,h10,h11⟩:=h;first | contradiction | omega | exact h3 ⟨‹_›,‹_›⟩ | (obtain ⟨q1,q2,q3,q4,q5⟩:=h11 k qf;first | contradiction | omega | (have:=q5 qf;omega)))]
         refine zx4 (zcr (sp (Bv true) (zjr (ret1 (Bv true) rfl rfl ⟨_,rfl,?_,H.base⟩))))
         obtain rfl:k=r.qU.length:=by omega
         rw [yH ⟨by assumption,by omega,by simp_all,by omega,by assumption,by assumption,by assumption,by assumption,by assumption,by assumption,i1⟩]
        replace h24:=xq h24
        replace h24:=vG h24
        refine zk [92,93,94,95,96,97] (sp (Bv true) (zjn (xE true rfl (fun _=>zcr (sp (Bv false) (zjr (t_r (ret1 (Bv false) rfl rfl ⟨_,rfl,?_,H.base⟩))))) (fun h=>absurd h qj))))
        rw [xx (fun h=>by obtain ⟨h1,h2,h3,h4,h5,h6,h7,h8,h9,h10,h11⟩:=h;first | contradiction | omega | exact h3 ⟨‹_›,‹_›⟩ | (obtain ⟨q1,q2,q3,q4,q5⟩:=h11 k qf;first | contradiction | omega | (have:=q5 qf;omega)))]
       replace h21:=xq h21
       replace h21:=vG h21
       refine zk [83,84,85,86,87,88,89] (sps [Bv true,Bv true] (zk [92,93,94,95,96,97] (sp (Bv true) (zjn (xE true rfl (fun _=>zcr (sp (Bv false) (zjr (t_r (ret1 (Bv false) rfl rfl ⟨_,rfl,?_,H.base⟩))))) (fun h=>absurd h qj))))))
       rw [xx (fun h=>by obtain ⟨h1,h2,h3,h4,h5,h6,h7,h8,h9,h10,h11⟩:=h;first | contradiction | omega | exact h3 ⟨‹_›,‹_›⟩ | (obtain ⟨q1,q2,q3,q4,q5⟩:=h11 k qf;first | contradiction | omega | (have:=q5 qf;omega)))]
      replace h18:=xq h18
      replace h18:=vG h18
      refine zk [74,75,76,77,78,79,80] (sps [Bv true,Bv true] (zk [83,84,85,86,87,88,89] (sps [Bv true,Bv true] (zk [92,93,94,95,96,97] (sp (Bv true) (zjn (xE true rfl (fun _=>zcr (sp (Bv false) (zjr (t_r (ret1 (Bv false) rfl rfl ⟨_,rfl,?_,H.base⟩))))) (fun h=>absurd h qj))))))))
      rw [xx (fun h=>by obtain ⟨h1,h2,h3,h4,h5,h6,h7,h8,h9,h10,h11⟩:=h;first | contradiction | omega | exact h3 ⟨‹_›,‹_›⟩ | (obtain ⟨q1,q2,q3,q4,q5⟩:=h11 k qf;first | contradiction | omega | (have:=q5 qf;omega)))]
     replace h15:=xq h15
     replace h15:=vG h15
     refine zk [65,66,67,68,69,70,71] (sps [Bv true,Bv true] (zk [74,75,76,77,78,79,80] (sps [Bv true,Bv true] (zk [83,84,85,86,87,88,89] (sps [Bv true,Bv true] (zk [92,93,94,95,96,97] (sp (Bv true) (zjn (xE true rfl (fun _=>zcr (sp (Bv false) (zjr (t_r (ret1 (Bv false) rfl rfl ⟨_,rfl,?_,H.base⟩))))) (fun h=>absurd h qj))))))))))
     rw [xx (fun h=>by obtain ⟨h1,h2,h3,h4,h5,h6,h7,h8,h9,h10,h11⟩:=h;first | contradiction | omega | exact h3 ⟨‹_›,‹_›⟩ | (obtain ⟨q1,q2,q3,q4,q5⟩:=h11 k qf;first | contradiction | omega | (have:=q5 qf;omega)))]
    replace h12:=xq h12
    replace h12:=vG h12
    refine zk [56,57,58,59,60,61,62] (sps [Bv true,Bv true] (zk [65,66,67,68,69,70,71] (sps [Bv true,Bv true] (zk [74,75,76,77,78,79,80] (sps [Bv true,Bv true] (zk [83,84,85,86,87,88,89] (sps [Bv true,Bv true] (zk [92,93,94,95,96,97] (sp (Bv true) (zjn (xE true rfl (fun _=>zcr (sp (Bv false) (zjr (t_r (ret1 (Bv false) rfl rfl ⟨_,rfl,?_,H.base⟩))))) (fun h=>absurd h qj))))))))))))
    rw [xx (fun h=>by obtain ⟨h1,h2,h3,h4,h5,h6,h7,h8,h9,h10,h11⟩:=h;first | contradiction | omega | exact h3 ⟨‹_›,‹_›⟩ | (obtain ⟨q1,q2,q3,q4,q5⟩:=h11 k qf;first | contradiction | omega | (have:=q5 qf;omega)))]
   rw [h8] at H
   refine rgp 26 (pp br or) 32 H ?_
   refine rgp 27 (pp br or) 32 H ?_
   refine gF 28 rfl rfl H ?_
   refine gL 29 rfl rfl (fun _ h=>h.xW 3 rfl 0 rfl) H ?_
   refine rgp 30 (Bv ((r.qG:Int) == 0)) 32 H ?_
   refine rgp 31 (Bv ((r.qG:Int) == 0)) 27 H ?_
   refine rtp 32 (Bv ((r.qG:Int) == 0)) H ?_
   refine rtp 33 (Bv ((r.qG:Int) == 0)) H ?_
   cases h51:((r.qG:Int) == 0)
   ·skip
    replace h51:=ne_of_beq_false h51
    refine rgp 34 (pp br or) 40 H ?_
    refine rgp 35 (pp br or) 40 H ?_
    refine gF 36 rfl rfl H ?_
    refine gL 37 rfl rfl (fun _ h=>h.xW 3 rfl 7 rfl) H ?_
    refine gN 38 rfl rfl H ?_
    refine rgp 39 (Bv (decide ((r.qU.length:Int) > 3))) 40 H ?_
    refine rtp 40 (Bv (decide ((r.qU.length:Int) > 3))) H ?_
    refine xP qh (t_n (cD rfl (fun h52=>?_) (fun h52=>?_)))
    ·skip
     refine zcr (sp (Bv false) (zjr (t_r (ret1 (Bv false) rfl rfl ⟨_,rfl,?_,H.base⟩))))
     rw [xx (fun h=>by obtain ⟨h1,h2,h3,h4,h5,h6,h7,h8,h9,h10,h11⟩:=h;first | contradiction | omega | exact h3 ⟨‹_›,‹_›⟩ | (obtain ⟨q1,q2,q3,q4,q5⟩:=h11 k qf;first | contradiction | omega | (have:=q5 qf;omega)))]
    refine qW (t_n (zcc (sps [pp bs os,pp br or,pp br or] (oF rfl (oL rfl (H.xW 3 rfl 2 rfl) (sw (oq (XC _ s r.xn (qF (H.get 0 rfl) 0 3) (H.get 1 rfl).1 (H.get 2 rfl).1 (H.get 4 rfl).1) H fun w53 H=>sps [Bv (!(dec (vI s.xB r.xn))),Bv (!(dec (vI s.xB r.xn)))] ?_)))))))
    cases h55:(!(dec (vI s.xB r.xn)))
    ·skip
     replace h55:=xg h55
     replace h55:=QU h55
     refine qQ 55 rfl rfl (sp (pp bs os) (qQ 55 rfl rfl (sp (pp br or) (qQ 55 rfl rfl (sp (pp br or) (qQ 55 rfl rfl (oF rfl (qQ 55 rfl rfl (oL rfl (H.xW 3 rfl 3 rfl) (qQ 55 rfl rfl (sw (oq (XC _ s r.xF (qF (H.get 0 rfl) 0 3) (H.get 1 rfl).1 (H.get 2 rfl).1 (H.get 5 rfl).1) H fun w56 H=>qQ 55 rfl rfl (sps [Bv (!(dec (vI s.xB r.xF))),Bv (!(dec (vI s.xB r.xF))),Bv (!(dec (vI s.xB r.xF)))] ?_)))))))))))))
     cases h58:(!(dec (vI s.xB r.xF)))
     ·skip
      replace h58:=xg h58
      replace h58:=QU h58
      refine qQ 64 rfl rfl (sp (pp bs os) (qQ 64 rfl rfl (sp (pp br or) (qQ 64 rfl rfl (sp (pp br or) (qQ 64 rfl rfl (oF rfl (qQ 64 rfl rfl (oL rfl (H.xW 3 rfl 4 rfl) (qQ 64 rfl rfl (sw (oq (XC _ s r.xI (qF (H.get 0 rfl) 0 3) (H.get 1 rfl).1 (H.get 2 rfl).1 (H.get 6 rfl).1) H fun w59 H=>qQ 64 rfl rfl (sps [Bv (!(dec (vI s.xB r.xI))),Bv (!(dec (vI s.xB r.xI))),Bv (!(dec (vI s.xB r.xI)))] ?_)))))))))))))
      cases h61:(!(dec (vI s.xB r.xI)))
      ·skip
       replace h61:=xg h61
       replace h61:=QU h61
       refine qQ 73 rfl rfl (sp (pp bs os) (qQ 73 rfl rfl (sp (pp br or) (qQ 73 rfl rfl (sp (pp br or) (qQ 73 rfl rfl (oF rfl (qQ 73 rfl rfl (oL rfl (H.xW 3 rfl 5 rfl) (qQ 73 rfl rfl (sw (oq (XC _ s r.xK (qF (H.get 0 rfl) 0 3) (H.get 1 rfl).1 (H.get 2 rfl).1 (H.get 7 rfl).1) H fun w62 H=>qQ 73 rfl rfl (sps [Bv (!(dec (vI s.xB r.xK))),Bv (!(dec (vI s.xB r.xK))),Bv (!(dec (vI s.xB r.xK)))] ?_)))))))))))))
       cases h64:(!(dec (vI s.xB r.xK)))
       ·skip
        replace h64:=xg h64
        replace h64:=QU h64
        refine qQ 82 rfl rfl (sp (pp bs os) (qQ 82 rfl rfl (sp (pp br or) (qQ 82 rfl rfl (sp (pp br or) (qQ 82 rfl rfl (oF rfl (qQ 82 rfl rfl (oL rfl (H.xW 3 rfl 6 rfl) (qQ 82 rfl rfl (sw (oq (XC _ s r.ve (qF (H.get 0 rfl) 0 3) (H.get 1 rfl).1 (H.get 2 rfl).1 (H.get 8 rfl).1) H fun w65 H=>qQ 82 rfl rfl (sps [Bv (!(dec (vI s.xB r.ve))),Bv (!(dec (vI s.xB r.ve))),Bv (!(dec (vI s.xB r.ve)))] ?_)))))))))))))
        cases h67:(!(dec (vI s.xB r.ve)))
        ·skip
         replace h67:=xg h67
         replace h67:=QU h67
         refine qQ 91 rfl rfl (sp (pp br or) (qQ 91 rfl rfl (sp (pp br or) (qQ 91 rfl rfl (oF rfl (qQ 91 rfl rfl (oL rfl (H.xW 3 rfl 2 rfl) (qQ 91 rfl rfl (sw (oq (Y7 _ r.xn (H.get 4 rfl).1 (by first | assumption | exact vX ql | exact QD ql)) H fun w68 H=>qQ 91 rfl rfl (sps [Bv ((Yd r.xn:Int) == 0),Bv ((Yd r.xn:Int) == 0)] (zjn (cE rfl (fun h70=>?_) (fun h70=>?_))))))))))))))
         ·skip
          refine zcr (sp (Bv false) (zjr (t_r (ret1 (Bv false) rfl rfl ⟨_,rfl,?_,H.base⟩))))
          rw [xx (fun h=>by obtain ⟨h1,h2,h3,h4,h5,h6,h7,h8,h9,h10,h11⟩:=h;first | contradiction | omega | exact h3 ⟨‹_›,‹_›⟩ | (obtain ⟨q1,q2,q3,q4,q5⟩:=h11 k qf;first | contradiction | omega | (have:=q5 qf;omega)))]
         refine qW (t_n (zcc (sp (yI 0) (zjn (qX ?_)))))
         refine zD (fun m' ρ w71=>∃ (xY:Env) (k:Nat),ρ=upd (upd (upd xY 0 (pp bs os)) 1 (pp br or)) 5 (yI k)∧(k≤r.qU.length)∧(IntosTo s r k)∧m' =r.qU.length - k∧St w w71 [] [atF bs os (yS s qC qB qN qJ),sF false qZ qC qB s.qw,sF false xG qN qJ s.qx,atF br or [yI r.qG,yI r.zS,Sv Qd r.xn.length yY,Sv Qh r.xF.length Qb,Sv Qe r.xI.length yZ,Sv Qg r.xK.length Qa,Sv XP r.ve.length XO,Sv yD r.qU.length yB,Bv true],sF false YM Qd yY r.xn,sF false YP Qh Qb r.xF,sF false YN Qe yZ r.xI,sF false YO Qg Qa r.xK,sF false FrOut XP XO r.ve,sF false FrInto yD yB r.qU]) (r.qU.length - 0) ⟨_,0,uE3,qf,(by exact fun j hj=>by omega),rfl,H⟩ ?_
         clear H
         rintro m' ρ w72 ⟨xY,k,rfl,i0,i1,rfl,H⟩
         refine zcc (sps [yI k,pp br or,pp br or] (oF rfl (oL rfl (H.xW 3 rfl 7 rfl) (oN rfl (sp (Bv (decide ((k:Int) < r.qU.length))) (zjn (cD rfl (fun h73=>?_) (fun h73=>?_))))))))
         ·skip
          refine qW (t_n (xQ (qX (zcr (sps [pp br or,pp br or] (oF rfl (oL rfl (H.xW 3 rfl 7 rfl) (sp (yI k) ?_))))))))
          obtain ⟨b74,o75,rfl⟩:=H.addr 9 rfl qf
          obtain ⟨ae76Bag,ce76Bag,Fe76Bag,H⟩:=H.yh 9 rfl k k qf qf qf
          refine oI rfl rfl (sp (pp b74 (o75+(k:Int).toNat * 2)) (zjn (xQ (xQ ?_))))
          refine jh rfl H fun H=>rtp 0 (pp b74 (o75+(k:Int).toNat * 2)) H ?_
          refine rtp 1 (pp b74 (o75+(k:Int).toNat * 2)) H ?_
          refine tF 2 rfl rfl H ?_
          refine tL 3 rfl rfl (fun _ h=>h.xW 1 rfl 0 rfl) H ?_
          refine rtp 4 (pp bs os) H ?_
          refine rtp 5 (pp bs os) H ?_
          refine tF 6 rfl rfl H ?_
          refine tL 7 rfl rfl (fun _ h=>h.xW 2 rfl 1 rfl) H ?_
          refine tN 8 rfl rfl H ?_
          refine rt 9 (yI (s.qw.length - 1)) (y_sub s.qw.length 1 rfl rfl qf) H ?_
          refine ro 10 rfl (oq (l00In_ok w72.drew ((r.qU[k]!).qG) 0 (s.qw.length - 1)) H fun w78 H=>⟨H,(rtp 11 (Bv (!(inR ((r.qU[k]!).qG) 0 (s.qw.length - 1)))) H ?_)⟩)
          refine rtp 12 (Bv (!(inR ((r.qU[k]!).qG) 0 (s.qw.length - 1)))) H ?_
          cases h80:(!(inR ((r.qU[k]!).qG) 0 (s.qw.length - 1)))
          ·skip
           replace h80:=xg h80
           replace h80:=XA.1 h80
           refine rgp 13 (pp bs os) 126 H ?_
           refine rgp 14 (pp b74 (o75+(k:Int).toNat * 2)) 126 H ?_
           refine rgp 15 (pp b74 (o75+(k:Int).toNat * 2)) 126 H ?_
           refine gF 16 rfl rfl H ?_
           refine gL 17 rfl rfl (fun _ h=>h.xW 1 rfl 0 rfl) H ?_
           refine rgp 18 (pp br or) 126 H ?_
           refine rgp 19 (pp br or) 126 H ?_
           refine gF 20 rfl rfl H ?_
           refine gL 21 rfl rfl (fun _ h=>h.xW 5 rfl 0 rfl) H ?_
           refine jK [22] qh qm (r_opG rfl (e:=126) rfl rfl (oq (l02In_ok _ s ((r.qU[k]!).qG) r.qG (qF (H.get 2 rfl) 0 3) (H.get 3 rfl).1 (H.get 4 rfl).1 ql ql) H fun w81 H=>⟨H,(rgp 23 (Bv (!(dec (Lies s.qw r.qG ((r.qU[k]!).qG))))) 126 H ?_)⟩) jL)
           refine rtp 24 (Bv (!(dec (Lies s.qw r.qG ((r.qU[k]!).qG))))) H ?_
           refine rtp 25 (Bv (!(dec (Lies s.qw r.qG ((r.qU[k]!).qG))))) H ?_
           cases h83:(!(dec (Lies s.qw r.qG ((r.qU[k]!).qG))))
           ·skip
            replace h83:=xg h83
            replace h83:=QU h83
            refine rgp 26 (pp bs os) 139 H ?_
            refine rgp 27 (pp b74 (o75+(k:Int).toNat * 2)) 139 H ?_
            refine rgp 28 (pp b74 (o75+(k:Int).toNat * 2)) 139 H ?_
            refine gF 29 rfl rfl H ?_
            refine gL 30 rfl rfl (fun _ h=>h.xW 1 rfl 1 rfl) H ?_
            refine jK [31] qh qm (r_opG rfl (e:=139) rfl rfl (oq (XC _ s ((r.qU[k]!).jJ) (qF (H.get 2 rfl) 0 3) (H.get 3 rfl).1 (H.get 4 rfl).1 (H.get 0 rfl).1) H fun w84 H=>⟨H,(rgp 32 (Bv (!(dec (vI s.xB ((r.qU[k]!).jJ))))) 139 H ?_)⟩) jL)
            refine rtp 33 (Bv (!(dec (vI s.xB ((r.qU[k]!).jJ))))) H ?_
            refine rtp 34 (Bv (!(dec (vI s.xB ((r.qU[k]!).jJ))))) H ?_
            cases h86:(!(dec (vI s.xB ((r.qU[k]!).jJ))))
            ·skip
             replace h86:=xg h86
             replace h86:=QU h86
             refine rgp 35 (pp b74 (o75+(k:Int).toNat * 2)) 148 H ?_
             refine rgp 36 (pp b74 (o75+(k:Int).toNat * 2)) 148 H ?_
             refine gF 37 rfl rfl H ?_
             refine gL 38 rfl rfl (fun _ h=>h.xW 1 rfl 1 rfl) H ?_
             refine jK [39] qh qm (r_opG rfl (e:=148) rfl rfl (oq (Y7 _ ((r.qU[k]!).jJ) (H.get 0 rfl).1 (by first | assumption | exact vX ql | exact QD ql)) H fun w87 H=>⟨H,(rgp 40 (Bv ((Yd ((r.qU[k]!).jJ):Int) == 0)) 148 H ?_)⟩) jL)
             refine rtp 41 (Bv ((Yd ((r.qU[k]!).jJ):Int) == 0)) H ?_
             refine xP qh (t_n (cE rfl (fun h89=>?_) (fun h89=>?_)))
             ·skip
              refine zcr (sp (Bv false) (zjr (t_r (zr5 (ret1 (Bv false) rfl rfl ⟨_,rfl,?_,H.base⟩)))))
              rw [xx (fun h=>by obtain ⟨h1,h2,h3,h4,h5,h6,h7,h8,h9,h10,h11⟩:=h;first | contradiction | omega | exact h3 ⟨‹_›,‹_›⟩ | (obtain ⟨q1,q2,q3,q4,q5⟩:=h11 k qf;first | contradiction | omega | (have:=q5 qf;omega)))]
             refine qW (t_n (xQ ?_))
             refine jh rfl H fun H=>rtp 0 (yI k) H ?_
             refine rtp 1 (Bv (decide ((k:Int) > 0))) H ?_
             refine rtp 2 (Bv (decide ((k:Int) > 0))) H ?_
             cases h91:(decide ((k:Int) > 0))
             ·skip
              replace h91:=of_decide_eq_false h91
              refine zZ [3,4,5,6,7,8,9,10,11,12,13,14,15,16] 14 (H) (rtp 17 (Bv false) H ?_)
              refine xP qh (t_n (xE false rfl (fun h=>absurd h qj) (fun _=>qW (b_n (t_n (xO (sp (yI k) (sw (zB k 1 rfl rfl qf (sp (yI (k+1)) (xM (qY (m' :=r.qU.length - (k+1)) qf ⟨_,k+1,uE3,?_,?_,rfl,H.sel _ (.refl _) _ qm⟩))))))))))))
              · omega
              · exact i1.succ ⟨‹_›,‹_›,‹_›,‹_›,fun hk=>by omega⟩
             replace h91:=of_decide_eq_true h91
             refine rgp 3 (pp br or) 158 H ?_
             refine rgp 4 (pp br or) 158 H ?_
             refine gF 5 rfl rfl H ?_
             refine gL 6 rfl rfl (fun _ h=>h.xW 5 rfl 7 rfl) H ?_
             refine rgp 7 (yI k) 158 H ?_
             refine rg 8 (yI (k - 1)) 158 (y_sub k 1 rfl rfl qf) H ?_
             obtain ⟨ae92Bag,ce92Bag,Fe92Bag,H⟩:=H.yh 11 rfl (k - 1) (k - 1) qf qf qf
             refine gI 9 rfl rfl rfl (H.sel _ (.refl _) _ (fun _ h=>List.mem_cons_of_mem _ (List.mem_cons_of_mem _ (h)))) ?_
             refine gF 10 rfl rfl (H.sel _ (.refl _) _ (fun _ h=>List.mem_cons_of_mem _ (List.mem_cons_of_mem _ (h)))) ?_
             refine rgp 12 (pp b74 (o75+(k:Int).toNat * 2)) 158 (H.sel _ (.refl _) _ (fun _ h=>List.mem_cons_of_mem _ (List.mem_cons_of_mem _ (h)))) ?_
             refine rgp 13 (pp b74 (o75+(k:Int).toNat * 2)) 158 (H.sel _ (.refl _) _ (fun _ h=>List.mem_cons_of_mem _ (List.mem_cons_of_mem _ (h)))) ?_
             refine gF 14 rfl rfl (H.sel _ (.refl _) _ (fun _ h=>List.mem_cons_of_mem _ (List.mem_cons_of_mem _ (h)))) ?_
             refine gL 15 rfl rfl (fun _ h=>h.xW 1 rfl 0 rfl) (H.sel _ (.refl _) _ (fun _ h=>List.mem_cons_of_mem _ (List.mem_cons_of_mem _ (h)))) ?_
             refine jK [11] qh qm (r_opG rfl (e:=158) rfl rfl (zT (yI ((r.qU[k - 1]!).qG)) isAgg2 rfl (H.xW 1 rfl 0 rfl) (⟨H.dF 2,(rgp 16 (Bv (decide (((r.qU[k - 1]!).qG:Int)≥((r.qU[k]!).qG)))) 158 (H.sel _ (.refl _) _ (fun _ h=>List.mem_cons_of_mem _ (List.mem_cons_of_mem _ (h)))) ?_)⟩)) jL)
             refine rtp 17 (Bv (decide (((r.qU[k - 1]!).qG:Int)≥((r.qU[k]!).qG)))) (H.sel _ (.refl _) _ (fun _ h=>List.mem_cons_of_mem _ (List.mem_cons_of_mem _ (h)))) ?_
             refine xP qh (t_n (cD rfl (fun h93=>?_) (fun h93=>?_)))
             ·skip
              refine zcr (sp (Bv false) (zjr (zr5 (ret1 (Bv false) rfl rfl ⟨_,rfl,?_,H.base⟩))))
              rw [xx (fun h=>by obtain ⟨h1,h2,h3,h4,h5,h6,h7,h8,h9,h10,h11⟩:=h;first | contradiction | omega | exact h3 ⟨‹_›,‹_›⟩ | (obtain ⟨q1,q2,q3,q4,q5⟩:=h11 k qf;first | contradiction | omega | (have:=q5 qf;omega)))]
             refine qW (b_n (t_n (xO (sp (yI k) (sw (zB k 1 rfl rfl qf (sp (yI (k+1)) (xM (qY (m' :=r.qU.length - (k+1)) qf ⟨_,k+1,uE3,?_,?_,rfl,H.sel _ (.refl _) _ qm⟩)))))))))
             · omega
             · exact i1.succ ⟨‹_›,‹_›,‹_›,‹_›,fun hk=>by omega⟩
            replace h86:=xq h86
            replace h86:=vG h86
            refine zZ [35,36,37,38,39,40] 6 (H) (rtp 41 (Bv true) H ?_)
            refine xP qh (t_n (xE true rfl (fun _=>zcr (sp (Bv false) (zjr (t_r (zr5 (ret1 (Bv false) rfl rfl ⟨_,rfl,?_,H.base⟩)))))) (fun h=>absurd h qj)))
            rw [xx (fun h=>by obtain ⟨h1,h2,h3,h4,h5,h6,h7,h8,h9,h10,h11⟩:=h;first | contradiction | omega | exact h3 ⟨‹_›,‹_›⟩ | (obtain ⟨q1,q2,q3,q4,q5⟩:=h11 k qf;first | contradiction | omega | (have:=q5 qf;omega)))]
           replace h83:=xq h83
           replace h83:=vG h83
           refine zZ [26,27,28,29,30,31,32] 7 (H) (rtp 33 (Bv true) H ?_)
           refine rtp 34 (Bv true) H ?_
           refine zZ [35,36,37,38,39,40] 6 (H) (rtp 41 (Bv true) H ?_)
           refine xP qh (t_n (xE true rfl (fun _=>zcr (sp (Bv false) (zjr (t_r (zr5 (ret1 (Bv false) rfl rfl ⟨_,rfl,?_,H.base⟩)))))) (fun h=>absurd h qj)))
           rw [xx (fun h=>by obtain ⟨h1,h2,h3,h4,h5,h6,h7,h8,h9,h10,h11⟩:=h;first | contradiction | omega | exact h3 ⟨‹_›,‹_›⟩ | (obtain ⟨q1,q2,q3,q4,q5⟩:=h11 k qf;first | contradiction | omega | (have:=q5 qf;omega)))]
          replace h80:=xq h80
          replace h80:=Vh h80
          refine zZ [13,14,15,16,17,18,19,20,21,22,23] 11 (H) (rtp 24 (Bv true) H ?_)
          refine rtp 25 (Bv true) H ?_
          refine zZ [26,27,28,29,30,31,32] 7 (H) (rtp 33 (Bv true) H ?_)
          refine rtp 34 (Bv true) H ?_
          refine zZ [35,36,37,38,39,40] 6 (H) (rtp 41 (Bv true) H ?_)
          refine xP qh (t_n (xE true rfl (fun _=>zcr (sp (Bv false) (zjr (t_r (zr5 (ret1 (Bv false) rfl rfl ⟨_,rfl,?_,H.base⟩)))))) (fun h=>absurd h qj)))
          rw [xx (fun h=>by obtain ⟨h1,h2,h3,h4,h5,h6,h7,h8,h9,h10,h11⟩:=h;first | contradiction | omega | exact h3 ⟨‹_›,‹_›⟩ | (obtain ⟨q1,q2,q3,q4,q5⟩:=h11 k qf;first | contradiction | omega | (have:=q5 qf;omega)))]
         refine zx4 (zcr (sp (Bv true) (zjr (ret1 (Bv true) rfl rfl ⟨_,rfl,?_,H.base⟩))))
         obtain rfl:k=r.qU.length:=by omega
         rw [yH ⟨by assumption,by omega,by simp_all,by omega,by assumption,by assumption,by assumption,by assumption,by assumption,by assumption,i1⟩]
        replace h67:=xq h67
        replace h67:=vG h67
        refine zk [92,93,94,95,96,97] (sp (Bv true) (zjn (xE true rfl (fun _=>zcr (sp (Bv false) (zjr (t_r (ret1 (Bv false) rfl rfl ⟨_,rfl,?_,H.base⟩))))) (fun h=>absurd h qj))))
        rw [xx (fun h=>by obtain ⟨h1,h2,h3,h4,h5,h6,h7,h8,h9,h10,h11⟩:=h;first | contradiction | omega | exact h3 ⟨‹_›,‹_›⟩ | (obtain ⟨q1,q2,q3,q4,q5⟩:=h11 k qf;first | contradiction | omega | (have:=q5 qf;omega)))]
       replace h64:=xq h64
       replace h64:=vG h64
       refine zk [83,84,85,86,87,88,89] (sps [Bv true,Bv true] (zk [92,93,94,95,96,97] (sp (Bv true) (zjn (xE true rfl (fun _=>zcr (sp (Bv false) (zjr (t_r (ret1 (Bv false) rfl rfl ⟨_,rfl,?_,H.base⟩))))) (fun h=>absurd h qj))))))
       rw [xx (fun h=>by obtain ⟨h1,h2,h3,h4,h5,h6,h7,h8,h9,h10,h11⟩:=h;first | contradiction | omega | exact h3 ⟨‹_›,‹_›⟩ | (obtain ⟨q1,q2,q3,q4,q5⟩:=h11 k qf;first | contradiction | omega | (have:=q5 qf;omega)))]
      replace h61:=xq h61
      replace h61:=vG h61
      refine zk [74,75,76,77,78,79,80] (sps [Bv true,Bv true] (zk [83,84,85,86,87,88,89] (sps [Bv true,Bv true] (zk [92,93,94,95,96,97] (sp (Bv true) (zjn (xE true rfl (fun _=>zcr (sp (Bv false) (zjr (t_r (ret1 (Bv false) rfl rfl ⟨_,rfl,?_,H.base⟩))))) (fun h=>absurd h qj))))))))
      rw [xx (fun h=>by obtain ⟨h1,h2,h3,h4,h5,h6,h7,h8,h9,h10,h11⟩:=h;first | contradiction | omega | exact h3 ⟨‹_›,‹_›⟩ | (obtain ⟨q1,q2,q3,q4,q5⟩:=h11 k qf;first | contradiction | omega | (have:=q5 qf;omega)))]
     replace h58:=xq h58
     replace h58:=vG h58
     refine zk [65,66,67,68,69,70,71] (sps [Bv true,Bv true] (zk [74,75,76,77,78,79,80] (sps [Bv true,Bv true] (zk [83,84,85,86,87,88,89] (sps [Bv true,Bv true] (zk [92,93,94,95,96,97] (sp (Bv true) (zjn (xE true rfl (fun _=>zcr (sp (Bv false) (zjr (t_r (ret1 (Bv false) rfl rfl ⟨_,rfl,?_,H.base⟩))))) (fun h=>absurd h qj))))))))))
     rw [xx (fun h=>by obtain ⟨h1,h2,h3,h4,h5,h6,h7,h8,h9,h10,h11⟩:=h;first | contradiction | omega | exact h3 ⟨‹_›,‹_›⟩ | (obtain ⟨q1,q2,q3,q4,q5⟩:=h11 k qf;first | contradiction | omega | (have:=q5 qf;omega)))]
    replace h55:=xq h55
    replace h55:=vG h55
    refine zk [56,57,58,59,60,61,62] (sps [Bv true,Bv true] (zk [65,66,67,68,69,70,71] (sps [Bv true,Bv true] (zk [74,75,76,77,78,79,80] (sps [Bv true,Bv true] (zk [83,84,85,86,87,88,89] (sps [Bv true,Bv true] (zk [92,93,94,95,96,97] (sp (Bv true) (zjn (xE true rfl (fun _=>zcr (sp (Bv false) (zjr (t_r (ret1 (Bv false) rfl rfl ⟨_,rfl,?_,H.base⟩))))) (fun h=>absurd h qj))))))))))))
    rw [xx (fun h=>by obtain ⟨h1,h2,h3,h4,h5,h6,h7,h8,h9,h10,h11⟩:=h;first | contradiction | omega | exact h3 ⟨‹_›,‹_›⟩ | (obtain ⟨q1,q2,q3,q4,q5⟩:=h11 k qf;first | contradiction | omega | (have:=q5 qf;omega)))]
   replace h51:=eq_of_beq h51
   refine zZ [34,35,36,37,38,39] 6 (H) (rtp 40 (Bv true) H ?_)
   refine xP qh (t_n (xE true rfl (fun _=>zcr (sp (Bv false) (zjr (t_r (ret1 (Bv false) rfl rfl ⟨_,rfl,?_,H.base⟩))))) (fun h=>absurd h qj)))
   rw [xx (fun h=>by obtain ⟨h1,h2,h3,h4,h5,h6,h7,h8,h9,h10,h11⟩:=h;first | contradiction | omega | exact h3 ⟨‹_›,‹_›⟩ | (obtain ⟨q1,q2,q3,q4,q5⟩:=h11 k qf;first | contradiction | omega | (have:=q5 qf;omega)))]
  replace h7:=xq h7
  replace h7:=Vh h7
  refine zZ [21,22,23,24,25,26,27,28,29,30,31] 11 (H) (rtp 32 (Bv true) H ?_)
  refine rtp 33 (Bv true) H ?_
  refine zZ [34,35,36,37,38,39] 6 (H) (rtp 40 (Bv true) H ?_)
  refine xP qh (t_n (xE true rfl (fun _=>zcr (sp (Bv false) (zjr (t_r (ret1 (Bv false) rfl rfl ⟨_,rfl,?_,H.base⟩))))) (fun h=>absurd h qj)))
  rw [xx (fun h=>by obtain ⟨h1,h2,h3,h4,h5,h6,h7,h8,h9,h10,h11⟩:=h;first | contradiction | omega | exact h3 ⟨‹_›,‹_›⟩ | (obtain ⟨q1,q2,q3,q4,q5⟩:=h11 k qf;first | contradiction | omega | (have:=q5 qf;omega)))]
 replace h4:=xq h4
 replace h4:=Vh h4
 refine zZ [13,14,15,16,17,18] 6 (H) (rtp 19 (Bv true) H ?_)
 refine rtp 20 (Bv true) H ?_
 refine zZ [21,22,23,24,25,26,27,28,29,30,31] 11 (H) (rtp 32 (Bv true) H ?_)
 refine rtp 33 (Bv true) H ?_
 refine zZ [34,35,36,37,38,39] 6 (H) (rtp 40 (Bv true) H ?_)
 refine xP qh (t_n (xE true rfl (fun _=>zcr (sp (Bv false) (zjr (t_r (ret1 (Bv false) rfl rfl ⟨_,rfl,?_,H.base⟩))))) (fun h=>absurd h qj)))
 rw [xx (fun h=>by obtain ⟨h1,h2,h3,h4,h5,h6,h7,h8,h9,h10,h11⟩:=h;first | contradiction | omega | exact h3 ⟨‹_›,‹_›⟩ | (obtain ⟨q1,q2,q3,q4,q5⟩:=h11 k qf;first | contradiction | omega | (have:=q5 qf;omega)))]

theorem l02State_ok (w:World) (s:qI) (t:qH) {qC:yOA} {qZ:yLN} {qN:yOA} {xG:yLN} {qV:yOA} {xR:yLN} {xm:yOA} {zC:yLN} {qL:yOA} {xC:yLN} (hs:vN w bs os (yS s qC qB qN qJ)) (xf:qO.rep w qZ [Sv qC s.qw.length qB] s.qw) (xJ:qO.rep w xG [Sv qN s.qx.length qJ] s.qx) (ht:vN w bt ot (yT t qV qR xm xk qL qK)) (zi:qO.rep w xR [Sv qV t.qA.length qR] t.qA) (zM:qO.rep w zC [Sv xm t.qE.length xk] t.qE) (xN:qO.rep w xC [Sv qL t.qy.length qK] t.qy) (p0:Qx s):Calls Tryz.prog 87 #[pp bs os,pp bt ot] w (Ret (fun v w' =>v=Bv (dec (zu s t))) w):=by
 refine en func87 ntmps87 ?_
 have H:=(((((((St.start w).arg xN).arg zM).arg zi).V7 ht).arg xJ).arg xf).V7 hs
 have vH:=qM xf
 have jw:=qM xJ
 have Qj:=qM zi
 have Q7:=qM zM
 have jV:=qM xN
 clear hs xf xJ ht zi zM xN
 have p1:=p0.2.1
 refine zcr (sp (Bv false) (zjn (xQ (xQ ?_))))
 refine jh rfl H fun H=>rtp 0 (pp bt ot) H ?_
 refine rtp 1 (pp bt ot) H ?_
 refine tF 2 rfl rfl H ?_
 refine tL 3 rfl rfl (fun _ h=>h.xW 3 rfl 0 rfl) H ?_
 refine tN 4 rfl rfl H ?_
 refine rtp 5 (pp bs os) H ?_
 refine rtp 6 (pp bs os) H ?_
 refine tF 7 rfl rfl H ?_
 refine tL 8 rfl rfl (fun _ h=>h.xW 0 rfl 1 rfl) H ?_
 refine tN 9 rfl rfl H ?_
 refine rtp 10 (Bv ((t.qA.length:Int) != s.qw.length)) H ?_
 refine rtp 11 (Bv ((t.qA.length:Int) != s.qw.length)) H ?_
 cases h2:((t.qA.length:Int) != s.qw.length)
 ·skip
  replace h2:=xw h2
  refine rgp 12 (pp bt ot) 17 H ?_
  refine rgp 13 (pp bt ot) 17 H ?_
  refine gF 14 rfl rfl H ?_
  refine gL 15 rfl rfl (fun _ h=>h.xW 3 rfl 1 rfl) H ?_
  refine gN 16 rfl rfl H ?_
  refine rgp 17 (pp bs os) 17 H ?_
  refine rgp 18 (pp bs os) 17 H ?_
  refine gF 19 rfl rfl H ?_
  refine gL 20 rfl rfl (fun _ h=>h.xW 0 rfl 1 rfl) H ?_
  refine gN 21 rfl rfl H ?_
  refine rgp 22 (Bv ((t.qE.length:Int) != s.qw.length)) 17 H ?_
  refine rtp 23 (Bv ((t.qE.length:Int) != s.qw.length)) H ?_
  refine rtp 24 (Bv ((t.qE.length:Int) != s.qw.length)) H ?_
  cases h3:((t.qE.length:Int) != s.qw.length)
  ·skip
   replace h3:=xw h3
   refine rgp 25 (pp bt ot) 30 H ?_
   refine rgp 26 (pp bt ot) 30 H ?_
   refine gF 27 rfl rfl H ?_
   refine gL 28 rfl rfl (fun _ h=>h.xW 3 rfl 0 rfl) H ?_
   obtain ⟨b4,o5,rfl⟩:=H.addr 4 rfl qf
   refine gI 29 rfl rfl rfl H ?_
   refine gL 30 rfl rfl (fun _ h=>h.XX 4 rfl 0 qf qf) H ?_
   refine rgp 31 (Bv (!(t.qA[0]!))) 30 H ?_
   refine rtp 32 (Bv (!(t.qA[0]!))) H ?_
   refine rtp 33 (Bv (!(t.qA[0]!))) H ?_
   cases h6:(!(t.qA[0]!))
   ·skip
    replace h6:=xg h6
    refine rgp 34 (pp bs os) 39 H ?_
    refine rgp 35 (pp bt ot) 39 H ?_
    refine rgp 36 (pp bt ot) 39 H ?_
    refine gF 37 rfl rfl H ?_
    refine gL 38 rfl rfl (fun _ h=>h.xW 3 rfl 2 rfl) H ?_
    refine jK [39] qh qm (r_opG rfl (e:=39) rfl rfl (oq (XC _ s t.qy (qF (H.get 0 rfl) 0 3) (H.get 1 rfl).1 (H.get 2 rfl).1 (H.get 6 rfl).1) H fun w7 H=>⟨H,(rgp 40 (Bv (!(dec (vI s.xB t.qy)))) 39 H ?_)⟩) jL)
    refine rtp 41 (Bv (!(dec (vI s.xB t.qy)))) H ?_
    refine xP qh (t_n (cQ rfl (fun h9=>?_) (fun h9=>?_)))
    ·skip
     refine zcr (sp (Bv false) (zjr (t_r (ret1 (Bv false) rfl rfl ⟨_,rfl,?_,H.base⟩))))
     rw [xx (fun h=>by obtain ⟨h1,h2,h3,h4,h5⟩:=h;first | contradiction | omega | (simp_all;done) | (obtain ⟨q1,q2⟩:=h5 k qf;first | contradiction | (have:=q2 ql;omega)))]
    refine qW (t_n (zcc (sp (yI 0) (zjn (qX ?_)))))
    refine zD (fun m' ρ w10=>∃ (xY:Env) (k:Nat),ρ=upd (upd (upd xY 0 (pp bs os)) 1 (pp bt ot)) 5 (yI k)∧(k≤t.qE.length)∧(BagsTo s t k)∧m' =t.qE.length - k∧St w w10 [] [atF bs os (yS s qC qB qN qJ),sF false qZ qC qB s.qw,sF false xG qN qJ s.qx,atF bt ot [Sv (aa b4 o5) t.qA.length qR,Sv xm t.qE.length xk,Sv qL t.qy.length qK],sF false xR (aa b4 o5) qR t.qA,sF false zC xm xk t.qE,sF false xC qL qK t.qy]) (t.qE.length - 0) ⟨_,0,uE3,qf,(by exact fun j hj=>by omega),rfl,H⟩ ?_
    clear H
    rintro m' ρ w11 ⟨xY,k,rfl,i0,i1,rfl,H⟩
    refine zcc (sps [yI k,pp bt ot,pp bt ot] (oF rfl (oL rfl (H.xW 3 rfl 1 rfl) (oN rfl (sp (Bv (decide ((k:Int) < t.qE.length))) (zjn (cD rfl (fun h12=>?_) (fun h12=>?_))))))))
    ·skip
     refine qW (t_n (xQ (qX (zcr (sps [pp bs os,pp bt ot,pp bt ot] (oF rfl (oL rfl (H.xW 3 rfl 1 rfl) (sp (yI k) ?_))))))))
     obtain ⟨b13,o14,rfl⟩:=H.addr 5 rfl qf
     obtain ⟨ae15,ce15,Fe15,H⟩:=H.vV 5 rfl k k qf qf qf
     refine oI rfl rfl (oL rfl (H.xW 1 rfl 0 rfl) (sw (oq (XC _ s (t.qE[k]!) (qF (H.get 2 rfl) 0 3) (H.get 3 rfl).1 (H.get 4 rfl).1 (H.get 0 rfl).1) H fun w16 H=>sps [Bv (!(dec (vI s.xB (t.qE[k]!)))),Bv (!(dec (vI s.xB (t.qE[k]!))))] ?_)))
     cases h18:(!(dec (vI s.xB (t.qE[k]!))))
     ·skip
      replace h18:=xg h18
      replace h18:=QU h18
      refine qQ 67 rfl rfl (sp (pp bt ot) (qQ 67 rfl rfl (sp (pp bt ot) (qQ 67 rfl rfl (oF rfl (qQ 67 rfl rfl (oL rfl (H.xW 5 rfl 0 rfl) (qQ 67 rfl rfl (sp (yI k) (qQ 67 rfl rfl (oI rfl rfl (qQ 67 rfl rfl (oL rfl (H.XX 6 rfl k qf qf) (qQ 67 rfl rfl (sp (Bv (!(t.qA[k]!))) (qQ 67 rfl rfl (sp (Bv (!(t.qA[k]!))) ?_)))))))))))))))))
      cases h19:(!(t.qA[k]!))
      ·skip
       replace h19:=xg h19
       refine zk [77,78,79,80,81,82,83,84,85] (qQ 67 rfl rfl (sps [Bv false,Bv false] (zjn (xE false rfl (fun h=>absurd h qj) (fun _=>qW (b_n (t_n (xO (sp (yI k) (sw (zB k 1 rfl rfl qf (sp (yI (k+1)) (xM (qY (m' :=t.qE.length - (k+1)) qf ⟨_,k+1,uE3,?_,?_,rfl,H.sel _ (.refl _) _ qm⟩))))))))))))))
       · omega
       · exact i1.succ ‹_› (fun hk=>by first | omega | simp_all)
      replace h19:=xq h19
      refine qQ 76 rfl rfl (sp (pp bt ot) (qQ 76 rfl rfl (sp (pp bt ot) (qQ 76 rfl rfl (oF rfl (qQ 76 rfl rfl (oL rfl (H.xW 5 rfl 1 rfl) (qQ 76 rfl rfl (sp (yI k) (qQ 76 rfl rfl (oI rfl rfl (qQ 76 rfl rfl (oL rfl (H.xW 1 rfl 0 rfl) (qQ 76 rfl rfl (sw (oq (Y7 _ (t.qE[k]!) (H.get 0 rfl).1 (by first | assumption | exact vX ql | exact QD ql)) H fun w20 H=>qQ 76 rfl rfl (sp (Bv (decide ((Yd (t.qE[k]!):Int) > 0))) (qQ 67 rfl rfl ?_))))))))))))))))))
      refine sps [Bv (decide ((Yd (t.qE[k]!):Int) > 0)),Bv (decide ((Yd (t.qE[k]!):Int) > 0))] (zjn (cD rfl (fun h22=>?_) (fun h22=>?_)))
      ·skip
       refine zcr (sp (Bv false) (zjr (zr5 (ret1 (Bv false) rfl rfl ⟨_,rfl,?_,H.base⟩))))
       rw [xx (fun h=>by obtain ⟨h1,h2,h3,h4,h5⟩:=h;first | contradiction | omega | (simp_all;done) | (obtain ⟨q1,q2⟩:=h5 k qf;first | contradiction | (have:=q2 ql;omega)))]
      refine qW (b_n (t_n (xO (sp (yI k) (sw (zB k 1 rfl rfl qf (sp (yI (k+1)) (xM (qY (m' :=t.qE.length - (k+1)) qf ⟨_,k+1,uE3,?_,?_,rfl,H.sel _ (.refl _) _ qm⟩)))))))))
      · omega
      · exact i1.succ ‹_› (fun hk=>by first | omega | simp_all)
     replace h18:=xq h18
     replace h18:=vG h18
     refine zk [68,69,70,71,72,73,74,75,76,77,78,79,80,81,82,83,84,85,86] (sp (Bv true) (zjn (xE true rfl (fun _=>zcr (sp (Bv false) (zjr (zr5 (ret1 (Bv false) rfl rfl ⟨_,rfl,?_,H.base⟩))))) (fun h=>absurd h qj))))
     rw [xx (fun h=>by obtain ⟨h1,h2,h3,h4,h5⟩:=h;first | contradiction | omega | (simp_all;done) | (obtain ⟨q1,q2⟩:=h5 k qf;first | contradiction | (have:=q2 ql;omega)))]
    refine zx4 (zcr (sp (Bv true) (zjr (ret1 (Bv true) rfl rfl ⟨_,rfl,?_,H.base⟩))))
    obtain rfl:k=t.qE.length:=by omega
    rw [yH ⟨by omega,by omega,by first | assumption | simp_all,by assumption,i1⟩]
   replace h6:=xq h6
   refine zZ [34,35,36,37,38,39,40] 7 (H) (rtp 41 (Bv true) H ?_)
   refine xP qh (t_n (xE true rfl (fun _=>zcr (sp (Bv false) (zjr (t_r (ret1 (Bv false) rfl rfl ⟨_,rfl,?_,H.base⟩))))) (fun h=>absurd h qj)))
   rw [xx (fun h=>by obtain ⟨h1,h2,h3,h4,h5⟩:=h;first | contradiction | omega | (simp_all;done) | (obtain ⟨q1,q2⟩:=h5 k qf;first | contradiction | (have:=q2 ql;omega)))]
  replace h3:=bne_iff_ne.1 h3
  refine zZ [25,26,27,28,29,30,31] 7 (H) (rtp 32 (Bv true) H ?_)
  refine rtp 33 (Bv true) H ?_
  refine zZ [34,35,36,37,38,39,40] 7 (H) (rtp 41 (Bv true) H ?_)
  refine xP qh (t_n (xE true rfl (fun _=>zcr (sp (Bv false) (zjr (t_r (ret1 (Bv false) rfl rfl ⟨_,rfl,?_,H.base⟩))))) (fun h=>absurd h qj)))
  rw [xx (fun h=>by obtain ⟨h1,h2,h3,h4,h5⟩:=h;first | contradiction | omega | (simp_all;done) | (obtain ⟨q1,q2⟩:=h5 k qf;first | contradiction | (have:=q2 ql;omega)))]
 replace h2:=bne_iff_ne.1 h2
 refine zZ [12,13,14,15,16,17,18,19,20,21,22] 11 (H) (rtp 23 (Bv true) H ?_)
 refine rtp 24 (Bv true) H ?_
 refine zZ [25,26,27,28,29,30,31] 7 (H) (rtp 32 (Bv true) H ?_)
 refine rtp 33 (Bv true) H ?_
 refine zZ [34,35,36,37,38,39,40] 7 (H) (rtp 41 (Bv true) H ?_)
 refine xP qh (t_n (xE true rfl (fun _=>zcr (sp (Bv false) (zjr (t_r (ret1 (Bv false) rfl rfl ⟨_,rfl,?_,H.base⟩))))) (fun h=>absurd h qj)))
 rw [xx (fun h=>by obtain ⟨h1,h2,h3,h4,h5⟩:=h;first | contradiction | omega | (simp_all;done) | (obtain ⟨q1,q2⟩:=h5 k qf;first | contradiction | (have:=q2 ql;omega)))]

theorem l02Parent_ok (w:World) (s:qI) (t:qH) (c:Int) {qC:yOA} {qZ:yLN} {qN:yOA} {xG:yLN} {qV:yOA} {xR:yLN} {xm:yOA} {zC:yLN} {qL:yOA} {xC:yLN} (hs:vN w bs os (yS s qC qB qN qJ)) (xf:qO.rep w qZ [Sv qC s.qw.length qB] s.qw) (xJ:qO.rep w xG [Sv qN s.qx.length qJ] s.qx) (ht:vN w bt ot (yT t qV qR xm xk qL qK)) (zi:qO.rep w xR [Sv qV t.qA.length qR] t.qA) (zM:qO.rep w zC [Sv xm t.qE.length xk] t.qE) (xN:qO.rep w xC [Sv qL t.qy.length qK] t.qy) (p0:Qx s) (p1:CellIn s c) (p2:t.qA.length=s.qw.length):Calls Tryz.prog 182 #[pp bs os,pp bt ot,yI c] w (Ret (fun v w' =>v=yI (xA s t c)) w):=by
 refine en func182 ntmps182 ?_
 have H:=(((((((St.start w).arg xN).arg zM).arg zi).V7 ht).arg xJ).arg xf).V7 hs
 have vH:=qM xf
 have jw:=qM xJ
 have Qj:=qM zi
 have Q7:=qM zM
 have jV:=qM xN
 clear hs xf xJ ht zi zM xN
 have p3:=p0.step p1.1 p1.2
 refine zcr (sp (yI 0) (zjc (sps [pp bs os,pp bs os] (oF rfl (oL rfl (H.xW 0 rfl 1 rfl) (sp (yI c) ?_))))))
 obtain ⟨b1,o2,rfl⟩:=H.addr 1 rfl qf
 refine oI rfl rfl (oL rfl (H.jY 1 rfl c qf qf) (sp (yI (s.qw[c.toNat]!)) (zjn (xQ (qX ?_)))))
 refine zD (fun m' ρ w3=>∃ (xY:Env) (y:Int) (n:Nat),ρ=upd (upd (upd (upd xY 0 (pp bs os)) 1 (pp bt ot)) 6 (yI 0)) 7 (yI y)∧(-1≤y∧y≤(s.qw.length:Int) - 1)∧(y < n)∧(xA s t c=climb s.qw t.qA n y)∧m' =(y+1).toNat∧St w w3 [] [atF bs os [yI s.xB,Sv (aa b1 o2) s.qw.length qB,Sv qN s.qx.length qJ],sF false qZ (aa b1 o2) qB s.qw,sF false xG qN qJ s.qx,atF bt ot (yT t qV qR xm xk qL qK),sF false xR qV qR t.qA,sF false zC xm xk t.qE,sF false xC qL qK t.qy]) (((s.qw[c.toNat]!)+1).toNat) ⟨_,s.qw[c.toNat]!,s.qw.length,uE4,qf,qf,(by rfl),rfl,H⟩ ?_
 clear H
 rintro m' ρ w4 ⟨xY,y,n,rfl,i0,i1,i2,rfl,H⟩
 have up:=fun h=>p0.step (c:=y) h i0.2
 refine zcc (sps [yI y,Bv (decide ((y:Int)≥0)),Bv (decide ((y:Int)≥0))] ?_)
 cases h5:(decide ((y:Int)≥0))
 ·skip
  replace h5:=of_decide_eq_false h5
  refine zk [18,19,20,21,22,23,24,25] (sp (Bv false) (zjn (xE false rfl (fun h=>absurd h qj) (fun _=>zx4 (zcr (sps [yI y,yI y] (zjr (ret1 (yI y) rfl rfl ⟨_,rfl,?_,H.base⟩))))))))
  rw [i2,climb_end (by first | omega | simp_all)]
 replace h5:=of_decide_eq_true h5
 refine qQ 17 rfl rfl (sp (pp bt ot) (qQ 17 rfl rfl (sp (pp bt ot) (qQ 17 rfl rfl (oF rfl (qQ 17 rfl rfl (oL rfl (H.xW 3 rfl 0 rfl) (qQ 17 rfl rfl (sp (yI y) (qQ 17 rfl rfl ?_))))))))))
 obtain ⟨b6,o7,rfl⟩:=H.addr 4 rfl qf
 refine oI rfl rfl (qQ 17 rfl rfl (oL rfl (H.XX 4 rfl y qf qf) (qQ 17 rfl rfl (sps [Bv (!(t.qA[y.toNat]!)),Bv (!(t.qA[y.toNat]!))] (zjn (xE (!(t.qA[y.toNat]!)) rfl (fun h8=>?_) (fun h8=>?_)))))))
 ·skip
  replace h8:=xq h8
  refine qW (t_n (qX (xO (sps [pp bs os,pp bs os] (oF rfl (oL rfl (H.xW 0 rfl 1 rfl) (sp (yI y) (oI rfl rfl (oL rfl (H.jY 1 rfl y qf qf) (sp (yI (s.qw[y.toNat]!)) (xM (b_n ?_))))))))))))
  have up1:=up qf
  refine qY (m' :=((s.qw[y.toNat]!)+1).toNat) qf ⟨_,(s.qw[y.toNat]!),n - 1,uE4,?_,?_,?_,rfl,H⟩
  · omega
  · omega
  · exact i2.trans (climb_go qf qf ‹_›)
 replace h8:=xg h8
 refine zx4 (zcr (sps [yI y,yI y] (zjr (ret1 (yI y) rfl rfl ⟨_,rfl,?_,H.base⟩))))
 rw [i2,climb_end (by first | omega | simp_all)]

theorem l02Ok_ok (w:World) (s:qI) {qC:yOA} {qZ:yLN} {qN:yOA} {xG:yLN} (hs:vN w bs os (yS s qC qB qN qJ)) (xf:qO.rep w qZ [Sv qC s.qw.length qB] s.qw) (xJ:qO.rep w xG [Sv qN s.qx.length qJ] s.qx):Calls Tryz.prog 98 #[pp bs os] w (Ret (fun v w' =>v=Bv (dec (jE s))) w):=by
 refine en func98 ntmps98 ?_
 have H:=(((St.start w).arg xJ).arg xf).V7 hs
 have vH:=qM xf
 have jw:=qM xJ
 clear hs xf xJ
 have p1:=fun h:Qx s=>h.2.1
 refine zcr (sp (Bv false) (zjcc (sp (pp bs os) (sw (oq (l02Frame_ok _ s (qF (H.get 0 rfl) 0 3) (H.get 1 rfl).1 (H.get 2 rfl).1) H fun w1 H=>sps [Bv (!(dec (Qx s))),Bv (!(dec (Qx s)))] ?_)))))
 cases h3:(!(dec (Qx s)))
 ·skip
  replace h3:=xg h3
  replace h3:=QU h3
  refine qQ 8 rfl rfl (sp (pp bs os) (qQ 8 rfl rfl (sp (pp bs os) (qQ 8 rfl rfl (oF rfl (qQ 8 rfl rfl (oL rfl (H.xW 0 rfl 2 rfl) (qQ 8 rfl rfl (oN rfl (qQ 8 rfl rfl (sps [Bv (decide ((s.qx.length:Int) > 16)),Bv (decide ((s.qx.length:Int) > 16))] (zjn (cD rfl (fun h4=>?_) (fun h4=>?_))))))))))))))
  ·skip
   refine zcr (sp (Bv false) (zjr (t_r (ret1 (Bv false) rfl rfl ⟨_,rfl,?_,H.base⟩))))
   rw [xx (fun h=>by obtain ⟨h1,h2,h3⟩:=h;first | contradiction | omega | (obtain ⟨q1,q2⟩:=h3 k qf;first | contradiction | (have:=Y9 (k:=k+1) q;omega)))]
  have p2:=p1 ql
  refine qW (t_n (zcr (sps [pp bs os,pp bs os] (oF rfl (oL rfl (H.xW 0 rfl 1 rfl) (oN rfl (sw (o_make1 H underlying22 ti2 rfl s.qw.length rfl rfl qf qf fun b5 w6 H=>?_))))))))
  replace H:St _ _ [.box b5 (List.replicate s.qw.length (yI 0)) 2] _:=H
  refine sp (Sv (aa b5 0) s.qw.length s.qw.length) (zjcc (sp (yI 0) (zjn (qX ?_))))
  rw [ints_zero,counts_zero] at H
  refine zD (fun m' ρ w7=>∃ (xY:Env) (k:Nat),ρ=upd (upd (upd xY 0 (pp bs os)) 3 (Sv (aa b5 0) s.qw.length s.qw.length)) 4 (yI k)∧(k≤s.qx.length)∧(RulesTo s k)∧m' =s.qx.length - k∧St w w7 [.box b5 ((counts s k).map (Value.int .i64)) 2] [atF bs os (yS s qC qB qN qJ),sF false qZ qC qB s.qw,sF false xG qN qJ s.qx]) (s.qx.length - 0) ⟨_,0,uE3,qf,(by exact fun j hj=>by omega),rfl,H⟩ ?_
  clear H
  rintro m' ρ w8 ⟨xY,k,rfl,i0,i1,rfl,H⟩
  refine zcc (sps [yI k,pp bs os,pp bs os] (oF rfl (oL rfl (H.xW 0 rfl 2 rfl) (oN rfl (sp (Bv (decide ((k:Int) < s.qx.length))) (zjn (cD rfl (fun h9=>?_) (fun h9=>?_))))))))
  ·skip
   refine qW (t_n (xQ (qX (zcc (sps [pp bs os,pp bs os,pp bs os] (oF rfl (oL rfl (H.xW 0 rfl 2 rfl) (sp (yI k) ?_))))))))
   obtain ⟨b10,o11,rfl⟩:=H.addr 2 rfl qf
   obtain ⟨ae12Need,ce12Need,Fe12Need,ae12Have,ce12Have,Fe12Have,ae12Lack,ce12Lack,Fe12Lack,ae12Here,ce12Here,Fe12Here,ae12Out,ce12Out,Fe12Out,ae12Into,ce12Into,Fe12Into,H⟩:=H.yF 2 rfl k k qf qf qf
   refine oI rfl rfl (sw (oq (l02Rule_ok _ s (s.qx[k]!) (qF (H.get 7 rfl) 0 3) (H.get 8 rfl).1 (H.get 9 rfl).1 (qF (H.get 6 rfl) 0 9) (H.get 0 rfl).1 (H.get 1 rfl).1 (H.get 2 rfl).1 (H.get 3 rfl).1 (H.get 4 rfl).1 (H.get 5 rfl).1 ql) H fun w13 H=>sp (Bv (!(dec (RuleOk s (s.qx[k]!))))) (zjn (cQ rfl (fun h15=>?_) (fun h15=>?_)))))
   ·skip
    refine zcr (sp (Bv false) (zjr (t_r (zr5 (ret1 (Bv false) rfl rfl ⟨_,rfl,?_,H.base⟩)))))
    rw [xx (fun h=>by obtain ⟨h1,h2,h3⟩:=h;first | contradiction | omega | (obtain ⟨q1,q2⟩:=h3 k qf;first | contradiction | (have:=Y9 (k:=k+1) q;omega)))]
   have q:=(h15).1
   refine qW (t_n (zcr (sps [Sv (aa b5 0) s.qw.length s.qw.length,pp bs os,pp bs os] (oF rfl (oL rfl (H.xW 7 rfl 2 rfl) (sp (yI k) (oI rfl rfl (oF rfl (oL rfl (H.xW 6 rfl 0 rfl) (oI rfl rfl (oL rfl (H.cell 0 rfl (ints_get (by rw [counts_len];omega))) (sw (zB ((counts s k)[((s.qx[k]!).qG:Int).toNat]!) 1 rfl rfl (by (first | omega | (rw [Y9 q];have:=ofCell_bd s.qx (s.qx[k]!).qG k;omega))) (oI rfl rfl ?_))))))))))))))
   refine sw (QA H 0 rfl (yI (((counts s k)[((s.qx[k]!).qG:Int).toNat]!)+1)) sizeOf2 rfl rfl rfl (ints_lt (by rw [counts_len];omega)) fun w16 H=>?_)
   rw [ints_set] at H
   rw [counts_succ q] at H
   replace H:St _ _ [.box b5 ((counts s (k+1)).map (Value.int .i64)) 2] _:=H
   refine zjc (sps [Sv (aa b5 0) s.qw.length s.qw.length,pp bs os,pp bs os] (oF rfl (oL rfl (H.xW 7 rfl 2 rfl) (sp (yI k) (oI rfl rfl (oF rfl (oL rfl (H.xW 6 rfl 0 rfl) (oI rfl rfl (oL rfl (H.cell 0 rfl (ints_get (by rw [counts_len];omega))) (sp (Bv (decide (((counts s (k+1))[((s.qx[k]!).qG:Int).toNat]! :Int) > 8))) (zjn (cD rfl (fun h17=>?_) (fun h17=>?_)))))))))))))
   ·skip
    refine zcr (sp (Bv false) (zjr (zr5 (ret1 (Bv false) rfl rfl ⟨_,rfl,?_,H.base⟩))))
    rw [xx (fun h=>by obtain ⟨h1,h2,h3⟩:=h;first | contradiction | omega | (obtain ⟨q1,q2⟩:=h3 k qf;first | contradiction | (have:=Y9 (k:=k+1) q;omega)))]
   refine qW (b_n (t_n (xO (sp (yI k) (sw (zB k 1 rfl rfl (by (first | omega | (rw [Y9 q];have:=ofCell_bd s.qx (s.qx[k]!).qG k;omega))) (sp (yI (k+1)) (xM (qY (m' :=s.qx.length - (k+1)) qf ⟨_,k+1,uE3,?_,?_,rfl,H.sel _ (.refl _) _ qm⟩)))))))))
   · omega
   · exact i1.succ ‹_› (by have:=Y9 (k:=k+1) q;omega)
  refine zx4 (zcr (sp (Bv true) (zjr (ret1 (Bv true) rfl rfl ⟨_,rfl,?_,H.base⟩))))
  obtain rfl:k=s.qx.length:=by omega
  rw [yH ⟨by assumption,by omega,i1⟩]
 replace h3:=xq h3
 replace h3:=vG h3
 refine zk [9,10,11,12,13,14] (sp (Bv true) (zjn (xE true rfl (fun _=>zcr (sp (Bv false) (zjr (t_r (ret1 (Bv false) rfl rfl ⟨_,rfl,?_,H.base⟩))))) (fun h=>absurd h qj))))
 rw [xx (fun h=>by obtain ⟨h1,h2,h3⟩:=h;first | contradiction | omega | (obtain ⟨q1,q2⟩:=h3 k qf;first | contradiction | (have:=Y9 (k:=k+1) q;omega)))]
theorem cloneB_ok (w:World) (l:List Bool) {al:yOA} {Fl:yLN} (hl:qO.rep w Fl [Sv al l.length cl] l) (p0:l.length≤1000000):Calls Tryz.prog 115 #[Sv al l.length cl] w (Ret (fun v w' =>∃ (ra:yOA) (rn:Nat) (rc:Nat),v=Sv ra rn rc∧Fresh w.heap.size []∧St w w' [rr ra rn rc 4 1 (l.map (Value.bool))] []) w):=by
 refine en func115 ntmps115 ?_
 have H:=(St.start w).arg hl
 have nhl:=qM hl
 clear hl
 have N:=Fresh.nil w.heap.size
 refine zcr (sp yN (zjcc (sp (Sv al l.length cl) (sw (o_eqnil underlying26 al l.length cl rfl (zjn (xE (al.isNone) rfl (fun h1=>?_) (fun h1=>?_))))))))
 ·skip
  refine zcr (sp yN (zjr (t_r ?_)))
  replace H:=H.nilRowB 4
  refine ret1 yN rfl rfl ⟨_,rfl,?_,H.base⟩
  obtain rfl:=H.nilOf 0 rfl ‹_›
  exact ⟨none,0,0,rfl,N,H.pick [0] []⟩
 refine qW (t_n (zcr (sw (vP H underlying26 ti4 fun b2 w3 H=>sp (Sv al l.length cl) ?_))))
 replace H:=H.boxRowB 0 [] 0
 refine sw (o_appendFR H 0 rfl 0 rfl underlying26 ti4 rfl qj rfl rfl qp qf fun a4 c5 w6 us7 G8 H hG9=>?_)
 obtain ⟨_,rfl⟩:=reps_bools (H.get 0 rfl).1
 replace H:=H.sub _ fun f hf=>List.mem_cons_of_mem _ hf
 rw [catB] at H
 refine sp (Sv a4 (0+l.length) c5) (zjr (ret1 (Sv a4 (0+l.length) c5) rfl rfl ⟨_,rfl,(⟨a4,0+l.length,c5,rfl,N,H.pick [0] []⟩),H.base⟩))

theorem l02Own_ok (w:World) (t:qH) {qV:yOA} {xR:yLN} {xm:yOA} {zC:yLN} {qL:yOA} {xC:yLN} (ht:vN w bt ot (yT t qV qR xm xk qL qK)) (zi:qO.rep w xR [Sv qV t.qA.length qR] t.qA) (zM:qO.rep w zC [Sv xm t.qE.length xk] t.qE) (xN:qO.rep w xC [Sv qL t.qy.length qK] t.qy) (p0:t.qA.length≤1000000) (p1:t.qy.length≤1000000) (p2:t.qE.length≤1000000) (p3:∀ k,k < t.qE.length→(t.qE[k]!).length≤1000000):Calls Tryz.prog 76 #[pp bt ot] w (Ret (fun v w' =>∃ (raAlive:yOA) (rnAlive:Nat) (rcAlive:Nat) (raBags:yOA) (rnBags:Nat) (rcBags:Nat) (rxBags:List Value) (rFBags:yLN) (raAround:yOA) (rnAround:Nat) (rcAround:Nat),v=.agg #[Sv raAlive rnAlive rcAlive,Sv raBags rnBags rcBags,Sv raAround rnAround rcAround]∧Fresh w.heap.size [rFBags]∧St w w' [rr raAlive rnAlive rcAlive 4 1 (t.qA.map (Value.bool)),rr raBags rnBags rcBags 22 1 rxBags,rr raAround rnAround rcAround 2 1 (t.qy.map (Value.int .i64))] [zf true rFBags rxBags t.qE]) w):=by
 refine en func76 ntmps76 ?_
 have H:=((((St.start w).arg xN).arg zM).arg zi).V7 ht
 have Qj:=qM zi
 have Q7:=qM zM
 have jV:=qM xN
 clear ht zi zM xN
 have N:=Fresh.nil w.heap.size
 refine zcr (sw (zh H ti38 [yN,yN,yN] fun b1 w2 H=>zjn (xQ ?_)))
 refine c_cut (fun ρ w8=>∃ (xY:Env) (b3:Nat) (a4:yOA) (c5:Nat) (a6:yOA) (c7:Nat),ρ=upd (upd (upd xY 0 (pp bt ot)) 2 (pp b1 0)) 3 (pp b3 0)∧Fresh w.heap.size []∧St w w8 [.box b3 [Sv a4 (0+t.qA.length) c5,yN,Sv a6 t.qy.length c7] 38,rr a6 t.qy.length c7 2 1 (t.qy.map (Value.int .i64)),rr a4 (0+t.qA.length) c5 4 1 ((([]:List Bool)++t.qA).map (Value.bool)),.box b1 [yN,yN,yN] 38] [atF bt ot (yT t qV qR xm xk qL qK),sF false xR qV qR t.qA,sF false zC xm xk t.qE,sF false xC qL qK t.qy]) ?_ ?_
 ·skip
  refine jh rfl H fun H=>rtp 1 (pp bt ot) H ?_
  refine rtp 2 (pp bt ot) H ?_
  refine tF 3 rfl rfl H ?_
  refine tL 4 rfl rfl (fun _ h=>h.xW 0 rfl 0 rfl) H ?_
  refine rtp 6 (pp bt ot) H ?_
  refine rtp 7 (pp bt ot) H ?_
  refine tF 8 rfl rfl H ?_
  refine tL 9 rfl rfl (fun _ h=>h.xW 0 rfl 2 rfl) H ?_
  refine jK [0,12] qh qm (Qy rfl ?_ (Qy rfl ?_ jL))
  ·skip
   refine vP H underlying26 ti4 fun b10 w11 H=>⟨H.pick [1] [0,1,2,3],(jK [5,12] qh qm (Qy rfl ?_ (Qy rfl ?_ jL)))⟩
   ·skip
    replace H:=H.boxRowB 0 [] 0
    refine o_appendFR H 0 rfl 1 rfl underlying26 ti4 rfl qj rfl rfl qp qf fun a12 c13 w14 us15 G16 H hG17=>?_
    obtain ⟨_,rfl⟩:=reps_bools (H.get 0 rfl).1
    replace H:=H.sub _ fun f hf=>List.mem_cons_of_mem _ hf
    rw [catB] at H
    refine ⟨H.pick [1] [0,1,2,3],(jK [10,12] qh qm (Qy rfl ?_ (Qy rfl ?_ jL)))⟩
    ·skip
     have sz18:=H.base.size
     refine oc (Vt _ t.qy (H.get 3 rfl).1 qg) ?_
     rintro v23 w21 r23 x22
     replace H:=H.zJ x22 r23
     obtain ⟨a24,c25,rfl,hc26,hm27⟩:=H.jA 0 rfl
     refine ⟨H.pick [2] [0,1,2,3],(jK [11,12] qh qm (Qy rfl ?_ (Qy rfl ?_ jL)))⟩
     ·skip
      refine jF [Sv a12 (0+t.qA.length) c13,yN,Sv a24 t.qy.length c25] [(0,Sv a12 (0+t.qA.length) c13),(2,Sv a24 t.qy.length c25)] (⟨H.pick [2] [0,1,2,3],(ro 12 rfl (zh H ti38 [yN,yN,yN] fun b28 w29 H=>⟨H.pick [3] [0,1,2,3],(ro 13 rfl (zF H 0 [Sv a12 (0+t.qA.length) c13,yN,Sv a24 t.qy.length c25] sizeOf38 fun w30 H=>⟨H.pick [3] [0,1,2,3],(xP qh ((meet ⟨_,b28,a12,c13,a24,c25,uE3,N,H⟩)))⟩))⟩))⟩)
     refine zh H ti38 [yN,yN,yN] fun b31 w32 H=>⟨H.pick [3] [0,1,2,3],(ro 11 rfl (jF [Sv a12 (0+t.qA.length) c13,yN,Sv a24 t.qy.length c25] [(0,Sv a12 (0+t.qA.length) c13),(2,Sv a24 t.qy.length c25)] (⟨H.pick [3] [0,1,2,3],(ro 13 rfl (zF H 0 [Sv a12 (0+t.qA.length) c13,yN,Sv a24 t.qy.length c25] sizeOf38 fun w33 H=>⟨H.pick [3] [0,1,2,3],(xP qh ((meet ⟨_,b31,a12,c13,a24,c25,uE3,N,H⟩)))⟩))⟩)))⟩
    refine zh H ti38 [yN,yN,yN] fun b34 w35 H=>⟨H.pick [2] [0,1,2,3],(ro 10 rfl ?_)⟩
    have sz36:=H.base.size
    refine oc (Vt _ t.qy (H.get 3 rfl).1 qg) ?_
    rintro v41 w39 r41 x40
    replace H:=H.zJ x40 r41
    obtain ⟨a42,c43,rfl,hc44,hm45⟩:=H.jA 0 rfl
    refine ⟨H.pick [3] [0,1,2,3],(ro 11 rfl (jF [Sv a12 (0+t.qA.length) c13,yN,Sv a42 t.qy.length c43] [(0,Sv a12 (0+t.qA.length) c13),(2,Sv a42 t.qy.length c43)] (⟨H.pick [3] [0,1,2,3],(ro 13 rfl (zF H 1 [Sv a12 (0+t.qA.length) c13,yN,Sv a42 t.qy.length c43] sizeOf38 fun w46 H=>⟨H.pick [3] [0,1,2,3],(xP qh ((meet ⟨_,b34,a12,c13,a42,c43,uE3,N,H.pick [1,0,2,3] [0,1,2,3]⟩)))⟩))⟩)))⟩
   refine zh H ti38 [yN,yN,yN] fun b47 w48 H=>⟨H.pick [2] [0,1,2,3],(ro 5 rfl ?_)⟩
   replace H:=H.boxRowB 1 [] 0
   refine o_appendFR H 1 rfl 1 rfl underlying26 ti4 rfl qj rfl rfl qp qf fun a49 c50 w51 us52 G53 H hG54=>?_
   obtain ⟨_,rfl⟩:=reps_bools (H.get 0 rfl).1
   replace H:=H.sub _ fun f hf=>List.mem_cons_of_mem _ hf
   rw [catB] at H
   refine ⟨H.pick [2] [0,1,2,3],(ro 10 rfl ?_)⟩
   have sz55:=H.base.size
   refine oc (Vt _ t.qy (H.get 3 rfl).1 qg) ?_
   rintro v60 w58 r60 x59
   replace H:=H.zJ x59 r60
   obtain ⟨a61,c62,rfl,hc63,hm64⟩:=H.jA 0 rfl
   refine ⟨H.pick [3] [0,1,2,3],(ro 11 rfl (jF [Sv a49 (0+t.qA.length) c50,yN,Sv a61 t.qy.length c62] [(0,Sv a49 (0+t.qA.length) c50),(2,Sv a61 t.qy.length c62)] (⟨H.pick [3] [0,1,2,3],(ro 13 rfl (zF H 1 [Sv a49 (0+t.qA.length) c50,yN,Sv a61 t.qy.length c62] sizeOf38 fun w65 H=>⟨H.pick [3] [0,1,2,3],(xP qh ((meet ⟨_,b47,a49,c50,a61,c62,uE3,N,H.pick [1,0,2,3] [0,1,2,3]⟩)))⟩))⟩)))⟩
  refine zh H ti38 [yN,yN,yN] fun b66 w67 H=>⟨H.pick [1] [0,1,2,3],(ro 0 rfl (vP H underlying26 ti4 fun b68 w69 H=>⟨H.pick [2] [0,1,2,3],(ro 5 rfl ?_)⟩))⟩
  replace H:=H.boxRowB 0 [] 0
  refine o_appendFR H 0 rfl 1 rfl underlying26 ti4 rfl qj rfl rfl qp qf fun a70 c71 w72 us73 G74 H hG75=>?_
  obtain ⟨_,rfl⟩:=reps_bools (H.get 0 rfl).1
  replace H:=H.sub _ fun f hf=>List.mem_cons_of_mem _ hf
  rw [catB] at H
  refine ⟨H.pick [2] [0,1,2,3],(ro 10 rfl ?_)⟩
  have sz76:=H.base.size
  refine oc (Vt _ t.qy (H.get 3 rfl).1 qg) ?_
  rintro v81 w79 r81 x80
  replace H:=H.zJ x80 r81
  obtain ⟨a82,c83,rfl,hc84,hm85⟩:=H.jA 0 rfl
  refine ⟨H.pick [3] [0,1,2,3],(ro 11 rfl (jF [Sv a70 (0+t.qA.length) c71,yN,Sv a82 t.qy.length c83] [(0,Sv a70 (0+t.qA.length) c71),(2,Sv a82 t.qy.length c83)] (⟨H.pick [3] [0,1,2,3],(ro 13 rfl (zF H 2 [Sv a70 (0+t.qA.length) c71,yN,Sv a82 t.qy.length c83] sizeOf38 fun w86 H=>⟨H.pick [3] [0,1,2,3],(xP qh ((meet ⟨_,b66,a70,c71,a82,c83,uE3,N,H.pick [2,0,1,3] [0,1,2,3]⟩)))⟩))⟩)))⟩
 clear H N
 rintro ρ w87 ⟨xY,b3,a4,c5,a6,c7,rfl,N,H⟩
 refine t_n (zcc (sp (yI 0) (zjn (qX ?_))))
 replace H:=H.nilRow 22 1
 replace H:=H.vT (α:=yLI)
 refine zD (fun m' ρ w88=>∃ (xY:Env) (c:Nat) (yl:yOA) (vK:Nat) (yj:Nat) (out_Bags:yLL) (zW:List Value) (zn:yLN),ρ=upd (upd (upd (upd xY 0 (pp bt ot)) 2 (pp b1 0)) 3 (pp b3 0)) 4 (yI c)∧out_Bags=t.qE.take c∧((c:Int)≤t.qE.length)∧m' =(t.qE.length - (c:Int)).toNat∧Fresh w.heap.size [zn]∧St w w88 [rr yl vK yj 22 1 zW,.box b3 [Sv a4 (0+t.qA.length) c5,Sv yl vK yj,Sv a6 t.qy.length c7] 38,rr a6 t.qy.length c7 2 1 (t.qy.map (Value.int .i64)),rr a4 (0+t.qA.length) c5 4 1 ((([]:List Bool)++t.qA).map (Value.bool)),.box b1 [yN,yN,yN] 38] [zf true zn zW out_Bags,atF bt ot (yT t qV qR xm xk qL qK),sF false xR qV qR t.qA,sF false zC xm xk t.qE,sF false xC qL qK t.qy]) ((t.qE.length - (0:Int)).toNat) ⟨_,0,none,0,0,([]:yLL),[],[],uE4,(by rfl),qf,rfl,N.emp,H⟩ ?_
 clear H N
 rintro m' ρ w89 ⟨xY,c,yl,vK,yj,out_Bags,zW,zn,rfl,rfl,i0,rfl,N,H⟩
 have Y0:=H.zq (α:=yLI) 0 rfl 0 rfl qj
 have p4:=p3 c
 rw [List.length_take_of_le qf] at Y0
 refine zcc (sps [yI c,pp bt ot,pp bt ot] (oF rfl (oL rfl (H.xW 1 rfl 1 rfl) (oN rfl (sp (Bv (decide ((c:Int) < t.qE.length))) (zjn (cD rfl (fun h90=>?_) (fun h90=>?_))))))))
 ·skip
  refine qW (t_n (xQ (qX ?_)))
  obtain ⟨b91,o92,rfl⟩:=H.addr 3 rfl qf
  refine c_cut (fun ρ w102=>∃ (xY:Env) (a94:yOA) (c95:Nat) (a96:yOA) (c97:Nat) (G98:yLN) (F99:yLN) (a100:yOA) (c101:Nat),ρ=upd (upd (upd (upd xY 0 (pp bt ot)) 2 (pp b1 0)) 3 (pp b3 0)) 4 (yI c)∧Fresh w.heap.size [(zn++G98)]∧St w w102 [rr a94 (vK+1) c95 22 1 (zW++[Sv a96 ((t.qE[c]!).length) c97]),.box b3 [Sv a4 (0+t.qA.length) c5,Sv a94 (vK+1) c95,Sv a6 t.qy.length c7] 38,rr a6 t.qy.length c7 2 1 (t.qy.map (Value.int .i64)),rr a4 (0+t.qA.length) c5 4 1 ((([]:List Bool)++t.qA).map (Value.bool)),.box b1 [yN,yN,yN] 38] [zf true (zn++G98) (zW++[Sv a96 ((t.qE[c]!).length) c97]) ((t.qE.take c)++[(t.qE[c]!)]),sF true G98 a96 c97 (t.qE[c]!),sF false F99 a100 c101 (t.qE[c]!),atF b91 (o92+(c:Int).toNat * 1) [Sv a100 ((t.qE[c]!).length) c101],atF bt ot [Sv qV t.qA.length qR,Sv (aa b91 o92) t.qE.length xk,Sv qL t.qy.length qK],sF false xR qV qR t.qA,sF false zC (aa b91 o92) xk t.qE,sF false xC qL qK t.qy]) ?_ ?_
  ·skip
   refine QI rfl H [2,3,4] fun H=>?_
   have S:=H.yU [2,3,4] [0,1,2,3,4]
   refine tF 0 rfl rfl S ?_
   refine rtp 2 (pp bt ot) S ?_
   refine rtp 3 (pp bt ot) S ?_
   refine tF 4 rfl rfl S ?_
   refine tL 5 rfl rfl (fun _ h=>h.xW 1 rfl 1 rfl) S ?_
   refine rtp 6 (yI c) S ?_
   obtain ⟨ae104,ce104,Fe104,H⟩:=H.vV 3 rfl c c qf qf qf
   refine tI 7 rfl rfl rfl (H.pick [2,3,4] [2,3,4,5,6]) ?_
   refine jK [1,8] qh qm (Qy rfl ?_ (Qy rfl ?_ jL))
   ·skip
    refine zT (Sv yl vK yj) isAgg27 rfl (H.cell 1 rfl rfl) (⟨H.pick [2,3,4] [2,3,4,5,6],(ro 8 rfl (zT (Sv ae104 ((t.qE[c]!).length) ce104) isAgg22 rfl (H.xW 1 rfl 0 rfl) (⟨H.pick [2,3,4] [2,3,4,5,6],(ro 9 rfl ?_)⟩)))⟩)
    have sz105:=H.base.size
    have lt106:=H.ltN (L:=[zn]) [2]
    refine oc (Vt _ (t.qE[c]!) (H.get 0 rfl).1 qg) ?_
    rintro v110 w108 r110 x109
    replace H:=H.zJ x109 r110
    obtain ⟨a111,c112,rfl,hc113,hm114⟩:=H.jA 0 rfl
    refine ⟨H.pick [3,4,5] [2,3,4,5,6],(ro 10 rfl (zA H underlying27 ti22 [Sv a111 ((t.qE[c]!).length) c112] fun b115 w116 H=>⟨H.pick [4,5,6] [2,3,4,5,6],(ro 11 rfl ?_)⟩))⟩
    obtain ⟨G120,N,hn121,H⟩:=H.jb 1 rfl N (H.jU [2])
    refine zG H 2 rfl 0 rfl underlying27 ti22 rfl qj rfl rfl rfl (by simp [Value.oneCell',Value.cells]) qp qf fun a117 c118 w119 H=>?_
    replace H:=H.jd 3 rfl 0 rfl
    replace N:Fresh w.heap.size [(zn++G120)]:=(N.pick [1,0]).join
    refine ⟨H.pick [4,5,6] [4,5,6,7,8],(tF 12 rfl rfl (H.pick [4,5,6] [4,5,6,7,8]) ?_)⟩
    refine ro 13 rfl (zO H 3 [Sv a4 (0+t.qA.length) c5,Sv a117 (vK+1) c118,Sv a6 t.qy.length c7] sizeOf27 fun w122 H=>⟨H.pick [4,5,6] [4,5,6,7,8],(xP qh ((meet ⟨_,a117,c118,a111,c112,G120,Fe104,ae104,ce104,uE4,N,H.pick [2,3,4,5,6] [0,1,2,3,5,6,7,8]⟩)))⟩)
   refine zT (Sv ae104 ((t.qE[c]!).length) ce104) isAgg22 rfl (H.xW 1 rfl 0 rfl) (⟨H.pick [2,3,4] [2,3,4,5,6],(jK [1,9] qh qm (Qy rfl ?_ (Qy rfl ?_ jL)))⟩)
   ·skip
    refine zT (Sv yl vK yj) isAgg27 rfl (H.cell 1 rfl rfl) (⟨H.pick [2,3,4] [2,3,4,5,6],(ro 9 rfl ?_)⟩)
    have sz123:=H.base.size
    have lt124:=H.ltN (L:=[zn]) [2]
    refine oc (Vt _ (t.qE[c]!) (H.get 0 rfl).1 qg) ?_
    rintro v128 w126 r128 x127
    replace H:=H.zJ x127 r128
    obtain ⟨a129,c130,rfl,hc131,hm132⟩:=H.jA 0 rfl
    refine ⟨H.pick [3,4,5] [2,3,4,5,6],(ro 10 rfl (zA H underlying27 ti22 [Sv a129 ((t.qE[c]!).length) c130] fun b133 w134 H=>⟨H.pick [4,5,6] [2,3,4,5,6],(ro 11 rfl ?_)⟩))⟩
    obtain ⟨G138,N,hn139,H⟩:=H.jb 1 rfl N (H.jU [2])
    refine zG H 2 rfl 0 rfl underlying27 ti22 rfl qj rfl rfl rfl (by simp [Value.oneCell',Value.cells]) qp qf fun a135 c136 w137 H=>?_
    replace H:=H.jd 3 rfl 0 rfl
    replace N:Fresh w.heap.size [(zn++G138)]:=(N.pick [1,0]).join
    refine ⟨H.pick [4,5,6] [4,5,6,7,8],(tF 12 rfl rfl (H.pick [4,5,6] [4,5,6,7,8]) ?_)⟩
    refine ro 13 rfl (zO H 3 [Sv a4 (0+t.qA.length) c5,Sv a135 (vK+1) c136,Sv a6 t.qy.length c7] sizeOf27 fun w140 H=>⟨H.pick [4,5,6] [4,5,6,7,8],(xP qh ((meet ⟨_,a135,c136,a129,c130,G138,Fe104,ae104,ce104,uE4,N,H.pick [2,3,4,5,6] [0,1,2,3,5,6,7,8]⟩)))⟩)
   have sz141:=H.base.size
   have lt142:=H.ltN (L:=[zn]) [2]
   refine oc (Vt _ (t.qE[c]!) (H.get 0 rfl).1 qg) ?_
   rintro v146 w144 r146 x145
   replace H:=H.zJ x145 r146
   obtain ⟨a147,c148,rfl,hc149,hm150⟩:=H.jA 0 rfl
   refine ⟨H.pick [3,4,5] [2,3,4,5,6],(jK [1,10] qh qm (Qy rfl ?_ (Qy rfl ?_ jL)))⟩
   ·skip
    refine zT (Sv yl vK yj) isAgg27 rfl (H.cell 2 rfl rfl) (⟨H.pick [3,4,5] [2,3,4,5,6],(ro 10 rfl (zA H underlying27 ti22 [Sv a147 ((t.qE[c]!).length) c148] fun b151 w152 H=>⟨H.pick [4,5,6] [2,3,4,5,6],(ro 11 rfl ?_)⟩))⟩)
    obtain ⟨G156,N,hn157,H⟩:=H.jb 1 rfl N (H.jU [2])
    refine zG H 2 rfl 0 rfl underlying27 ti22 rfl qj rfl rfl rfl (by simp [Value.oneCell',Value.cells]) qp qf fun a153 c154 w155 H=>?_
    replace H:=H.jd 3 rfl 0 rfl
    replace N:Fresh w.heap.size [(zn++G156)]:=(N.pick [1,0]).join
    refine ⟨H.pick [4,5,6] [4,5,6,7,8],(tF 12 rfl rfl (H.pick [4,5,6] [4,5,6,7,8]) ?_)⟩
    refine ro 13 rfl (zO H 3 [Sv a4 (0+t.qA.length) c5,Sv a153 (vK+1) c154,Sv a6 t.qy.length c7] sizeOf27 fun w158 H=>⟨H.pick [4,5,6] [4,5,6,7,8],(xP qh ((meet ⟨_,a153,c154,a147,c148,G156,Fe104,ae104,ce104,uE4,N,H.pick [2,3,4,5,6] [0,1,2,3,5,6,7,8]⟩)))⟩)
   refine zA H underlying27 ti22 [Sv a147 ((t.qE[c]!).length) c148] fun b159 w160 H=>⟨H.pick [4,5,6] [2,3,4,5,6],(ro 1 rfl (zT (Sv yl vK yj) isAgg27 rfl (H.cell 3 rfl rfl) (⟨H.pick [4,5,6] [2,3,4,5,6],(ro 11 rfl ?_)⟩)))⟩
   obtain ⟨G164,N,hn165,H⟩:=H.jb 1 rfl N (H.jU [2])
   refine zG H 2 rfl 0 rfl underlying27 ti22 rfl qj rfl rfl rfl (by simp [Value.oneCell',Value.cells]) qp qf fun a161 c162 w163 H=>?_
   replace H:=H.jd 3 rfl 0 rfl
   replace N:Fresh w.heap.size [(zn++G164)]:=(N.pick [1,0]).join
   refine ⟨H.pick [4,5,6] [4,5,6,7,8],(tF 12 rfl rfl (H.pick [4,5,6] [4,5,6,7,8]) ?_)⟩
   refine ro 13 rfl (zO H 3 [Sv a4 (0+t.qA.length) c5,Sv a161 (vK+1) c162,Sv a6 t.qy.length c7] sizeOf27 fun w166 H=>⟨H.pick [4,5,6] [4,5,6,7,8],(xP qh ((meet ⟨_,a161,c162,a147,c148,G164,Fe104,ae104,ce104,uE4,N,H.pick [2,3,4,5,6] [0,1,2,3,5,6,7,8]⟩)))⟩)
  clear H N
  rintro ρ w167 ⟨xY,a94,c95,a96,c97,G98,F99,a100,c101,rfl,N,H⟩
  refine b_n (t_n (xO (sp (yI c) (sw (zB c 1 rfl rfl qf (sp (yI (c+1)) (xM (qY (m' :=(t.qE.length - ((c+1):Int)).toNat) qf ⟨_,c+1,a94,vK+1,c95,((t.qE.take c)++[(t.qE[c]!)]),zW++[Sv a96 ((t.qE[c]!).length) c97],(zn++G98),uE4,?_,?_,rfl,N,H.pick [0,1,2,3,4] [0,4,5,6,7]⟩))))))))
  · exact take_snoc qf
  · omega
 refine zx4 (zcr (sw (zl [Sv a4 (0+t.qA.length) c5,Sv yl vK yj,Sv a6 t.qy.length c7] isAgg38 sizeOf38 rfl (qF (H.cells 1 rfl) 0 3) (sw (zF H 4 [Sv a4 (0+t.qA.length) c5,Sv yl vK yj,Sv a6 t.qy.length c7] sizeOf38 fun w168 H=>zjr (retC H 4 rfl rfl isAgg38 sizeOf38 rfl ⟨_,rfl,?_,H.base⟩))))))
 obtain rfl:c=t.qE.length:=by omega
 rw [List.take_length] at H
 exact ⟨a4,0+t.qA.length,c5,yl,vK,yj,zW,zn,a6,t.qy.length,c7,rfl,N,H.pick [3,0,2] [0]⟩
end
end Go.Proofs.YtgjnaocffdhnbaaGreat
