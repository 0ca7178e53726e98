/- Walks and laws, printed by program and by hand: what each function comes to, for all arguments, part 2. -/
import Derived.Test.YtcpnclokildllaaA1
namespace Go.Proofs.Ytcpnclokildllaa
set_option linter.unusedVariables false
set_option linter.unusedSimpArgs false
open Go.Proofs.Ytcpnclokildllaa.Tot (tot)
open Go.Proofs.Ytcpnclokildllaa.Mark (cnt mrk mkd mkd_mark cnt_mark)
section

theorem ve.rule {s:qy} (h:ve s) {i:Nat} (hi:i < s.qw.length):RuleOk s (s.qw[i]!):=(h.2.2 i hi).1
theorem RuleOk.cell {s:qy} {r:vU} (h:RuleOk s r):r.qE.toNat < xJ s:=by have:=h.1.1;have:=h.1.2;unfold xJ;omega
theorem zA.len {s:qy} {l:yLI} (h:zA s.qV l):l.length=xY s:=by have:=h.2;unfold xY;omega
theorem zA.get {n:Int} {l:yLI} (h:zA n l) {k:Nat} (hk:k < l.length):0≤l[k]! ∧l[k]! ≤1000:=h.1.1 k hk
theorem zA.mul {s:qy} {m:yLI} (h:zA s.qV m) {t:Int} (ht: -1000≤t∧t≤1000):∀ k,k < xY s→ -1000000≤t * m[k]! ∧t * m[k]! ≤1000000:=fun k hk=>by
  have h1:=h.1.1 k (by rw [h.len];exact hk)
  rcases Int.le_total 0 t with h0 | h0
  · have h2:=Int.mul_nonneg h0 h1.1
    have h3:=Int.mul_le_mul_of_nonneg_left h1.2 h0
    omega
  · have h2:=Int.mul_nonneg (show 0≤ -t by omega) h1.1
    have h3:=Int.mul_le_mul_of_nonneg_left h1.2 (show 0≤ -t by omega)
    have h4: -t * m[k]! = -(t * m[k]!):=Int.neg_mul ..
    omega
theorem zA.je {s:qy} {m:yLI} (h:zA s.qV m) {t:Int} (ht: -1000≤t∧t≤1000):SmallT m t:=bagOk_smallT h qf
theorem kinds_le {s:qy} (h:ve s):xY s≤8:=by have:=h.1.1.2;unfold xY;omega
theorem xP.shape {s:qy} {t:qA} (h:xP s t):Shape (xJ s) (xY s) 1000 t.qL:=by
  refine ⟨h.2.1,fun p hp=>?_⟩
  have hb:=h.bagLen (k:=p) (by rw [h.2.1];exact hp)
  refine ⟨hb.len,fun k hk=>?_⟩
  have:=hb.get (k:=k) (by rw [hb.len];exact hk)
  omega
def CntOk (s:qy) (counts:yLI):Prop:=counts.length=s.qw.length∧∀ i,i < counts.length→0≤counts[i]! ∧counts[i]! ≤1000
theorem CntOk.bd {s:qy} {counts:yLI} (h:CntOk s counts) {i:Nat} (hi:i < s.qw.length):0≤counts[i]! ∧counts[i]! ≤1000:=h.2 i (by rw [h.1];exact hi)

def Qd (s:qy) (t:qA) (counts:yLI):Nat→yLL
  | 0=>t.qL
  | k+1=>(Qd s t counts k).set (s.qw[k]!).qE.toNat (yf ((Qd s t counts k)[(s.qw[k]!).qE.toNat]!) (s.qw[k]!).xn (-(counts[k]!)))
def needF (s:qy) (counts:yLI) (i p k:Nat):Int:=at' p (s.qw[i]!).qE.toNat (-(counts[i]!) * ((s.qw[i]!).xn)[k]!)
def needS (s:qy) (counts:yLI):Nat→Nat→Nat→Int
  | 0,_,_=>0
  | i+1,p,k=>needS s counts i p k+needF s counts i p k
theorem restR_ent {s:qy} {t:qA} {counts:yLI} (hs:ve s) (ht:xP s t) (hc:CntOk s counts):∀ k,k≤s.qw.length→
    Ent (xJ s) (xY s) (fun p q=>(t.qL[p]!)[q]! +needS s counts k p q) (1000+1000000 * k) (Qd s t counts k)
  | 0,_=>⟨by simpa [Qd] using ht.shape,fun p k hp hk=>by simp [Qd,needS]⟩
  | k+1,h=>by
    have hr:=hs.rule (i:=k) qf
    have hcb:=hc.bd (i:=k) qf
    refine ((restR_ent hs ht hc k qf).add (D:=1000000) rfl hr.cell (hr.2.2.2.2.1.mul qf) qf).to (fun p q=>?_) qf
    show _=_+(needS s counts k p q+needF s counts k p q)
    unfold needF;omega
theorem restR_row {s:qy} {t:qA} {counts:yLI} (hs:ve s) (ht:xP s t) (hc:CntOk s counts) {k c:Nat} (hk:k≤s.qw.length) (h:c < xJ s):
    ((Qd s t counts k)[c]!).length=xY s∧Mid ((Qd s t counts k)[c]!):=(restR_ent hs ht hc k hk).sh.row (by have:=hs.2.1;omega) (kinds_le hs) h
theorem restR_len {s:qy} {t:qA} {counts:yLI}:∀ k,(Qd s t counts k).length=t.qL.length
  | 0=>rfl
  | k+1=>by rw [Qd,List.length_set];exact restR_len k
theorem restR_skip {s:qy} {t:qA} {counts:yLI} (hs:ve s) (ht:xP s t) {k:Nat} (hk:k < s.qw.length) (h:counts[k]! =0):Qd s t counts (k+1)=Qd s t counts k:=by
  rw [Qd,plus_zero qf]
  exact set_self (by rw [restR_len,ht.2.1];exact (hs.rule hk).cell) rfl
def BadAt (s:qy) (t:qA) (counts:yLI) (i:Nat):Prop:=0 < counts[i]! ∧¬ Appl s t i
def GoodTo (s:qy) (t:qA) (counts:yLI) (k:Nat):Prop:=∀ i,i < k→¬ BadAt s t counts i
theorem GoodTo.succ {s:qy} {t:qA} {counts:yLI} {k:Nat} (h:GoodTo s t counts k) (h1:¬ BadAt s t counts k):GoodTo s t counts (k+1):=fun j hj=>by
  by_cases e:j=k
  · subst e;exact h1
  · exact h j qf
def NonNeg (b:yLL) (n:Nat):Prop:=∀ p,p < n→∀ k,k < (b[p]!).length→0≤(b[p]!)[k]!
theorem NonNeg.succ {b:yLL} {n:Nat} (h:NonNeg b n) (h1:∀ k,k < (b[n]!).length→0≤(b[n]!)[k]!):NonNeg b (n+1):=fun j hj=>by
  by_cases e:j=n
  · subst e;exact h1
  · exact h j qf
def IsCh (s:qy) (t:qA) (counts:yLI):Prop:=GoodTo s t counts counts.length∧NonNeg (Qd s t counts counts.length) t.qL.length
def IsMost (s:qy) (t:qA) (counts:yLI):Prop:=IsCh s t counts∧∀ i,i < s.qw.length→Appl s t i→within (s.qw[i]!).xn ((Qd s t counts counts.length)[(s.qw[i]!).qE.toNat]!)=false

def jM (l m:yLI):Nat→Int
  | 0=>1000
  | k+1=>if 0 < l[k]! then min (jM l m k) (m[k]! / l[k]!) else jM l m k
def Qp (l m:yLI):Int:=jM l m l.length
theorem timesTo_pos {l m:yLI} {k:Nat} (h:0 < l[k]!):jM l m (k+1)=min (jM l m k) (m[k]! / l[k]!):=by rw [jM,if_pos h]
theorem timesTo_skip {l m:yLI} {k:Nat} (h:¬ 0 < l[k]!):jM l m (k+1)=jM l m k:=by rw [jM,if_neg h]
theorem timesTo_bd {l m:yLI} (hm:∀ k,k < l.length→0≤m[k]!):∀ k,k≤l.length→0≤jM l m k∧jM l m k≤1000
  | 0,_=>by simp [jM]
  | k+1,h=>by
    have:=timesTo_bd hm k qf
    rw [jM]
    split
    · next h1=>have:=Int.ediv_nonneg (hm k qf) (show 0≤l[k]! by omega);omega
    · exact this
theorem timesTo_le {l m:yLI}:∀ {k j:Nat},j < k→0 < l[j]! →jM l m k≤m[j]! / l[j]!
  | k+1,j,h,h1=>by
    rw [jM]
    by_cases e:j=k
    · subst e;rw [if_pos h1];omega
    · have:=timesTo_le (m:=m) (show j < k by omega) h1
      split <;> omega
theorem timesL_left {l m:yLI} (hl:∀ k,k < l.length→0≤l[k]!) (hm:∀ k,k < l.length→0≤m[k]!) {k:Nat} (hk:k < l.length):0≤m[k]! + -(Qp l m) * l[k]! :=by
  have h0:=timesTo_bd hm l.length (Nat.le_refl _)
  rcases Int.lt_or_eq_of_le (hl k hk) with h | h
  · have h1:=timesTo_le (m:=m) hk h
    have h2:m[k]! / l[k]! * l[k]! ≤m[k]! :=Int.ediv_mul_le _ qf
    have h3:=Int.mul_le_mul_of_nonneg_right h1 (show 0≤l[k]! by omega)
    have h4: -(Qp l m) * l[k]! = -(Qp l m * l[k]!):=Int.neg_mul ..
    unfold Qp at *
    omega
  · rw [← h];have:=hm k hk;omega
def TimesInv (l m:yLI) (i:Nat) (best:Int):Prop:=(best=jM l m i∧∃ j,j < i∧0 < l[j]!)∨(best= -1∧jM l m i=1000∧∀ j,j < i→l[j]! ≤0)
theorem TimesInv.zero (l m:yLI):TimesInv l m 0 (-1):=.inr ⟨rfl,rfl,fun j hj=>by omega⟩
theorem TimesInv.take {l m:yLI} {i:Nat} {best:Int} (h:TimesInv l m i best) (hm:0≤m[i]! ∧m[i]! ≤1000) (hl:0 < l[i]!) (hb:best < 0∨m[i]! / l[i]! < best) (hn:0≤jM l m i):TimesInv l m (i+1) (m[i]! / l[i]!):=by
  refine .inl ⟨?_,i,by omega,hl⟩
  rw [timesTo_pos hl]
  have h1:m[i]! / l[i]! ≤m[i]! :=Int.ediv_le_self _ hm.1
  rcases h with ⟨h,_⟩ | ⟨h,h2,_⟩ <;> omega
theorem TimesInv.keep {l m:yLI} {i:Nat} {best:Int} (h:TimesInv l m i best) (hl:¬ 0 < l[i]!):TimesInv l m (i+1) best:=by
  unfold TimesInv
  rw [timesTo_skip hl]
  rcases h with ⟨h,j,h1,h2⟩ | ⟨h,h2,h3⟩
  · exact .inl ⟨h,j,by omega,h2⟩
  · refine .inr ⟨h,h2,fun j hj=>?_⟩
    by_cases e:j=i
    · subst e;omega
    · exact h3 j qf
theorem TimesInv.done {l m:yLI} {i:Nat} {best:Int} (h:TimesInv l m i best) (hp:∃ j,j < i∧0 < l[j]!):best=jM l m i:=by
  rcases h with ⟨h,_⟩ | ⟨_,_,h3⟩
  · exact h
  · obtain ⟨j,h1,h2⟩:=hp
    have:=h3 j h1;omega
open Classical in
noncomputable def vX (s:qy) (t:qA):Nat→yLL
  | 0=>t.qL
  | k+1=>if Appl s t k then (vX s t k).set (s.qw[k]!).qE.toNat (yf ((vX s t k)[(s.qw[k]!).qE.toNat]!) (s.qw[k]!).xn (-(Qp (s.qw[k]!).xn ((vX s t k)[(s.qw[k]!).qE.toNat]!)))) else vX s t k
open Classical in
noncomputable def firstC (s:qy) (t:qA) (k:Nat):Int:=if Appl s t k then Qp (s.qw[k]!).xn ((vX s t k)[(s.qw[k]!).qE.toNat]!) else 0
noncomputable def firstTo (s:qy) (t:qA) (m n:Nat):yLI:=(List.range n).map fun j=>if j < m then firstC s t j else 0
noncomputable def qP (s:qy) (t:qA):yLI:=firstTo s t s.qw.length s.qw.length
theorem firstR_yes {s:qy} {t:qA} {k:Nat} (h:Appl s t k):vX s t (k+1)=(vX s t k).set (s.qw[k]!).qE.toNat (yf ((vX s t k)[(s.qw[k]!).qE.toNat]!) (s.qw[k]!).xn (-(Qp (s.qw[k]!).xn ((vX s t k)[(s.qw[k]!).qE.toNat]!)))):=by rw [vX,if_pos h]
theorem firstR_no {s:qy} {t:qA} {k:Nat} (h:¬ Appl s t k):vX s t (k+1)=vX s t k:=by rw [vX,if_neg h]
theorem firstR_skip {s:qy} {t:qA} {m:Nat}:∀ {d:Nat},(∀ j,m≤j→j < m+d→¬ Appl s t j)→vX s t (m+d)=vX s t m
  | 0,_=>rfl
  | d+1,h=>by rw [← Nat.add_assoc,firstR_no (h (m+d) qf qf),firstR_skip fun j h1 h2=>h j h1 qf]
theorem firstR_same {s:qy} {t:qA} {m i:Nat} (hm:m≤i) (h:∀ j,m≤j→j < i→¬ Appl s t j):vX s t i=vX s t m:=by
  obtain ⟨d,rfl⟩:∃ d,i=m+d:=⟨i - m,by omega⟩
  exact firstR_skip h
theorem firstC_yes {s:qy} {t:qA} {k:Nat} (h:Appl s t k):firstC s t k=Qp (s.qw[k]!).xn ((vX s t k)[(s.qw[k]!).qE.toNat]!):=by rw [firstC,if_pos h]
theorem firstC_no {s:qy} {t:qA} {k:Nat} (h:¬ Appl s t k):firstC s t k=0:=by rw [firstC,if_neg h]
theorem yt (s:qy) (t:qA) (m n:Nat):(firstTo s t m n).length=n:=by simp [firstTo]
theorem Qz {s:qy} {t:qA} {m n j:Nat} (h:j < n):(firstTo s t m n)[j]! =if j < m then firstC s t j else 0:=by
  rw [getElem!_pos (firstTo s t m n) j (by rw [yt];exact h)];simp [firstTo]
theorem firstTo_zero (s:qy) (t:qA) (n:Nat):List.replicate n (0:Int)=firstTo s t 0 n:=by
  refine ext_get (by simp [yt]) fun k hk=>?_
  rw [List.length_replicate] at hk
  rw [Qz hk,if_neg qf,getElem!_pos (List.replicate n (0:Int)) k (by simpa using hk)];simp
theorem firstTo_set {s:qy} {t:qA} {m i n:Nat} (hm:m≤i) (hi:i < n) (h:∀ j,m≤j→j < i→¬ Appl s t j) {x:Int} (hx:x=firstC s t i):(firstTo s t m n).set i x=firstTo s t (i+1) n:=by
  refine ext_get (by simp [yt]) fun k hk=>?_
  rw [List.length_set,yt] at hk
  rw [getset (by rw [yt];exact hi),Qz hk,Qz hk]
  by_cases e:k=i
  · subst e;rw [if_pos rfl,if_pos qf,hx]
  · rw [if_neg e]
    by_cases h1:k < m
    · rw [if_pos h1,if_pos qf]
    · rw [if_neg h1]
      by_cases h2:k < i
      · rw [if_pos qf,firstC_no (h k qf h2)]
      · rw [if_neg qf]
theorem firstTo_end {s:qy} {t:qA} {m n:Nat} (hm:m≤n) (h:∀ j,m≤j→j < n→¬ Appl s t j):firstTo s t m n=firstTo s t n n:=by
  refine ext_get (by simp [yt]) fun k hk=>?_
  rw [yt] at hk
  rw [Qz hk,Qz hk,if_pos hk]
  by_cases h1:k < m
  · rw [if_pos h1]
  · rw [if_neg h1,firstC_no (h k qf hk)]
def Box (n K:Nat) (b:yLL):Prop:=b.length=n∧∀ p,p < n→(b[p]!).length=K∧∀ k,k < K→0≤(b[p]!)[k]! ∧(b[p]!)[k]! ≤1000
theorem xP.box {s:qy} {t:qA} (h:xP s t):Box (xJ s) (xY s) t.qL:=by
  refine ⟨h.2.1,fun p hp=>?_⟩
  have hb:=h.bagLen (k:=p) (by rw [h.2.1];exact hp)
  exact ⟨hb.len,fun k hk=>hb.get (by rw [hb.len];exact hk)⟩
theorem firstR_box {s:qy} {t:qA} (hs:ve s) (ht:xP s t):∀ k,k≤s.qw.length→Box (xJ s) (xY s) (vX s t k)
  | 0,_=>ht.box
  | k+1,h=>by
    have ih:=firstR_box hs ht k qf
    by_cases ha:Appl s t k
    · rw [firstR_yes ha]
      have hr:=hs.rule (i:=k) qf
      have hb:=hr.2.2.2.2.1
      have hc:=ih.2 _ hr.cell
      refine ⟨by rw [List.length_set];exact ih.1,fun p hp=>?_⟩
      rw [getset (by rw [ih.1];exact hr.cell)]
      by_cases e:p=(s.qw[k]!).qE.toNat
      · rw [if_pos e,yc]
        refine ⟨hc.1,fun q hq=>?_⟩
        rw [plus_get (by rw [hc.1];exact hq)]
        have h1:=timesL_left (l:=(s.qw[k]!).xn) (m:=(vX s t k)[(s.qw[k]!).qE.toNat]!) (fun j hj=>(hb.get hj).1) (fun j hj=>(hc.2 j (by rw [← hb.len];exact hj)).1) (k:=q) (by rw [hb.len];exact hq)
        refine ⟨h1,?_⟩
        have h2:=timesTo_bd (l:=(s.qw[k]!).xn) (m:=(vX s t k)[(s.qw[k]!).qE.toNat]!) (fun j hj=>(hc.2 j (by rw [← hb.len];exact hj)).1) _ (Nat.le_refl _)
        have h3:=Int.mul_nonneg h2.1 (hb.get (k:=q) (by rw [hb.len];exact hq)).1
        have h4:=(hc.2 q hq).2
        have h5: -(Qp (s.qw[k]!).xn ((vX s t k)[(s.qw[k]!).qE.toNat]!)) * ((s.qw[k]!).xn)[q]! = -(Qp (s.qw[k]!).xn ((vX s t k)[(s.qw[k]!).qE.toNat]!) * ((s.qw[k]!).xn)[q]!):=Int.neg_mul ..
        unfold Qp at *
        omega
      · rw [if_neg e];exact ih.2 p hp
    · rw [firstR_no ha];exact ih
theorem firstR_row {s:qy} {t:qA} (hs:ve s) (ht:xP s t) {k c:Nat} (hk:k≤s.qw.length) (h:c < xJ s):
    ((vX s t k)[c]!).length=xY s∧Mid ((vX s t k)[c]!)∧∀ q,q < xY s→0≤((vX s t k)[c]!)[q]! ∧((vX s t k)[c]!)[q]! ≤1000:=by
  have h1:=(firstR_box hs ht k hk).2 c h
  have:=kinds_le hs
  exact ⟨h1.1,⟨by have:=h1.1;omega,fun q hq=>by have:=h1.2 q (by have:=h1.1;omega);omega⟩,h1.2⟩
theorem firstC_bd {s:qy} {t:qA} (hs:ve s) (ht:xP s t) {k:Nat} (hk:k < s.qw.length):0≤firstC s t k∧firstC s t k≤1000:=by
  by_cases ha:Appl s t k
  · rw [firstC_yes ha]
    have hr:=hs.rule hk
    have hc:=firstR_row hs ht (Nat.le_of_lt hk) hr.cell
    exact timesTo_bd (fun j hj=>(hc.2.2 j (by rw [← hr.2.2.2.2.1.len];exact hj)).1) _ (Nat.le_refl _)
  · rw [firstC_no ha];omega
theorem first_cnt {s:qy} {t:qA} (hs:ve s) (ht:xP s t):CntOk s (qP s t):=by
  refine ⟨yt _ _ _ _,fun i hi=>?_⟩
  rw [qP,yt] at hi
  rw [qP,Qz hi,if_pos hi]
  exact firstC_bd hs ht hi
theorem first_rest {s:qy} {t:qA} (hs:ve s) (ht:xP s t):∀ k,k≤s.qw.length→Qd s t (qP s t) k=vX s t k
  | 0,_=>rfl
  | k+1,h=>by
    have ih:=first_rest hs ht k qf
    have hg:(qP s t)[k]! =firstC s t k:=by rw [qP,Qz qf,if_pos qf]
    by_cases ha:Appl s t k
    · rw [firstR_yes ha,Qd,ih,hg,firstC_yes ha]
    · rw [firstR_no ha,restR_skip hs ht qf (by rw [hg,firstC_no ha]),ih]
theorem first_isCh {s:qy} {t:qA} (hs:ve s) (ht:xP s t):IsCh s t (qP s t):=by
  have hl:(qP s t).length=s.qw.length:=yt _ _ _ _
  constructor
  · intro i hi
    rw [hl] at hi
    rintro ⟨h1,h2⟩
    rw [qP,Qz hi,if_pos hi,firstC_no h2] at h1
    omega
  · rw [hl,first_rest hs ht _ (Nat.le_refl _)]
    have hb:=firstR_box hs ht _ (Nat.le_refl _)
    intro p hp k hk
    rw [ht.2.1] at hp
    have:=hb.2 p hp
    exact (this.2 k (by rw [← this.1];exact hk)).1
theorem parentNow_root {s:qy} {t:qA} (hs:jd s):qZ s t 0= -1:=by
  unfold qZ
  rw [show s.qx[(0:Int).toNat]! = -1 from hs.2.2.1]
  exact climb_end fun h=>by omega
def outPl (s:qy) (t:qA) (r:vU):Nat:=if r.qE=0 then xJ s else (qZ s t r.qE).toNat
theorem outPl_root {s:qy} {t:qA} {r:vU} (h:r.qE=0):outPl s t r=xJ s:=by rw [outPl,if_pos h]
theorem outPl_up {s:qy} {t:qA} {r:vU} (h:r.qE≠0):outPl s t r=(qZ s t r.qE).toNat:=by rw [outPl,if_neg h]
def intoF (r:vU) (c:Int):Nat→Nat→Nat→Int
  | 0,_,_=>0
  | j+1,p,k=>intoF r c j p k+at' p (r.qK[j]!).qE.toNat (c * ((r.qK[j]!).yx)[k]!)
def putF (s:qy) (t:qA) (r:vU) (c:Int) (p k:Nat):Int:=at' p r.qE.toNat (c * r.xW[k]!)+at' p (outPl s t r) (c * r.vC[k]!)+intoF r c r.qK.length p k
def putS (s:qy) (t:qA) (counts:yLI):Nat→Nat→Nat→Int
  | 0,_,_=>0
  | i+1,p,k=>putS s t counts i p k+putF s t (s.qw[i]!) (counts[i]!) p k
def allS (s:qy) (t:qA) (counts:yLI):Nat→Nat→Nat→Int
  | 0,_,_=>0
  | i+1,p,k=>allS s t counts i p k+needF s counts i p k+putF s t (s.qw[i]!) (counts[i]!) p k
theorem allS_eq (s:qy) (t:qA) (counts:yLI) (p k:Nat):∀ i,allS s t counts i p k=needS s counts i p k+putS s t counts i p k
  | 0=>rfl
  | i+1=>by
    have:=allS_eq s t counts p k i
    simp only [allS,needS,putS]
    omega
theorem at_zero (p c:Nat) (x:Int):at' p c (0 * x)=0:=by unfold at';split <;> simp
theorem intoF_zero (r:vU) (p k:Nat):∀ j,intoF r 0 j p k=0
  | 0=>rfl
  | j+1=>by rw [intoF,intoF_zero r p k j,at_zero];rfl
theorem putF_zero (s:qy) (t:qA) (r:vU) {c:Int} (h:c=0) (p k:Nat):putF s t r c p k=0:=by
  subst h;rw [putF,at_zero,at_zero,intoF_zero];rfl
def base0 (s:qy) (t:qA) (p k:Nat):Int:=if p < xJ s then (t.qL[p]!)[k]! else t.qH[k]!
def stepF (s:qy) (t:qA) (counts:yLI) (p k:Nat):Int:=base0 s t p k+allS s t counts s.qw.length p k
noncomputable def xw (s:qy) (t:qA) (counts:yLI):qA:=
  ⟨t.qF,(tab2 (xJ s+1) (xY s) (stepF s t counts)).take (xJ s),(tab2 (xJ s+1) (xY s) (stepF s t counts))[xJ s]!⟩
theorem xP.around {s:qy} {t:qA} (h:xP s t):t.qH.length=xY s∧∀ k,k < xY s→0≤t.qH[k]! ∧t.qH[k]! ≤1000:=by
  have hb:=h.2.2.2.1
  exact ⟨hb.len,fun k hk=>hb.get (by rw [hb.len];exact hk)⟩
theorem start_ent {s:qy} {t:qA} {counts:yLI} (ht:xP s t):Ent (xJ s+1) (xY s) (fun p k=>base0 s t p k+allS s t counts 0 p k) 1000 (t.qL++[t.qH]):=by
  have h1:Ent (xJ s) (xY s) (fun p k=>base0 s t p k+allS s t counts 0 p k) 1000 t.qL:=⟨ht.shape,fun p k hp hk=>by simp [base0,hp,allS]⟩
  refine h1.snoc ht.around.1 (fun k hk=>by have:=ht.around.2 k hk;omega) fun k hk=>?_
  simp [base0,allS]
theorem step_tab {s:qy} {t:qA} {counts:yLI} {B:Int} {b:yLL} (h:Ent (xJ s+1) (xY s) (fun p k=>base0 s t p k+allS s t counts s.qw.length p k) B b):
    b.take (xJ s)=(xw s t counts).qL∧b[xJ s]! =(xw s t counts).qH:=by
  have e:=h.tab
  constructor
  · show _=(tab2 _ _ _).take _
    rw [e];rfl
  · show _=(tab2 _ _ _)[_]!
    rw [e];rfl
def MeltsTo (s:qy) (counts:yLI) (c:Int) (k:Nat):Prop:=∃ i,i < k∧0 < counts[i]! ∧(s.qw[i]!).xU=true∧(s.qw[i]!).qE=c
theorem melts_zero (s:qy) (counts:yLI) (c:Int):¬ MeltsTo s counts c 0:=fun ⟨i,h,_⟩=>by omega
theorem melts_succ {s:qy} {counts:yLI} {c:Int} {k:Nat}:MeltsTo s counts c (k+1)↔MeltsTo s counts c k∨(0 < counts[k]! ∧(s.qw[k]!).xU=true∧(s.qw[k]!).qE=c):=by
  constructor
  · rintro ⟨i,h,h1⟩
    by_cases e:i=k
    · subst e;exact .inr h1
    · exact .inl ⟨i,by omega,h1⟩
  · rintro (⟨i,h,h1⟩ | h)
    · exact ⟨i,by omega,h1⟩
    · exact ⟨k,by omega,h⟩
abbrev Melts (s:qy) (counts:yLI) (c:Int):Prop:=MeltsTo s counts c s.qw.length
noncomputable def jA (s:qy) (counts:yLI) (n k:Nat):List Bool:=(List.range n).map fun c:Nat=>dec (MeltsTo s counts (c:Int) k)
theorem meltsL_len (s:qy) (counts:yLI) (n k:Nat):(jA s counts n k).length=n:=by simp [jA]
theorem meltsL_get {s:qy} {counts:yLI} {n k c:Nat} (h:c < n):(jA s counts n k)[c]! =dec (MeltsTo s counts (c:Int) k):=by
  rw [getElem!_pos (jA s counts n k) c (by rw [meltsL_len];exact h)];simp [jA]
theorem meltsL_zero (s:qy) (counts:yLI) (n:Nat):List.replicate n false=jA s counts n 0:=by
  refine ext_get (by simp [meltsL_len]) fun k hk=>?_
  rw [List.length_replicate] at hk
  rw [meltsL_get hk,xg (melts_zero _ _ _),getElem!_pos (List.replicate n false) k (by simpa using hk)];simp
theorem meltsL_set {s:qy} {counts:yLI} {n k:Nat} (h0:0≤(s.qw[k]!).qE) (h:(s.qw[k]!).qE.toNat < n) {x:Bool} (hx:x=true↔((jA s counts n k)[(s.qw[k]!).qE.toNat]! =true∨(0 < counts[k]! ∧(s.qw[k]!).xU=true))):
    (jA s counts n k).set (s.qw[k]!).qE.toNat x=jA s counts n (k+1):=by
  refine ext_get (by simp [meltsL_len]) fun p hp=>?_
  rw [List.length_set,meltsL_len] at hp
  rw [getset (by rw [meltsL_len];exact h),meltsL_get hp,meltsL_get hp]
  rw [meltsL_get h] at hx
  by_cases e:p=(s.qw[k]!).qE.toNat
  · rw [if_pos e]
    refine dec_eq (hx.trans ?_)
    rw [melts_succ,e,show (((s.qw[k]!).qE.toNat:Nat):Int)=(s.qw[k]!).qE by omega]
    constructor
    · rintro (h1 | h1)
      · exact .inl (yg h1)
      · exact .inr ⟨h1.1,h1.2,rfl⟩
    · rintro (h1 | h1)
      · exact .inl (yz h1)
      · exact .inr ⟨h1.1,h1.2.1⟩
  · rw [if_neg e]
    refine dec_congr ?_
    rw [melts_succ]
    constructor
    · exact .inl
    · rintro (h1 | ⟨_,_,h1⟩)
      · exact h1
      · exfalso;omega
open Classical in
noncomputable def xC (s:qy) (counts:yLI) (u:qA):Nat→qA
  | 0=>u
  | j+1=>if Melts s counts ((xJ s:Int) - 1 - j) then melted s (xC s counts u j) ((xJ s:Int) - 1 - j) else xC s counts u j
theorem meltDown_yes {s:qy} {counts:yLI} {u:qA} {j:Nat} {c:Int} (h:Melts s counts c) (hc:c=(xJ s:Int) - 1 - j):xC s counts u (j+1)=melted s (xC s counts u j) c:=by subst hc;rw [xC,if_pos h]
theorem meltDown_no {s:qy} {counts:yLI} {u:qA} {j:Nat} {c:Int} (h:¬ Melts s counts c) (hc:c=(xJ s:Int) - 1 - j):xC s counts u (j+1)=xC s counts u j:=by subst hc;rw [xC,if_neg h]
theorem meltDown_yes' {s:qy} {counts:yLI} {u:qA} {j i:Nat} {c:Int} (h:dec (MeltsTo s counts c i)=true) (hi:i=s.qw.length) (hc:c=(xJ s:Int) - 1 - j):xC s counts u (j+1)=melted s (xC s counts u j) c:=by subst hi;exact meltDown_yes (yg h) hc
theorem meltDown_no' {s:qy} {counts:yLI} {u:qA} {j i:Nat} {c:Int} (h:dec (MeltsTo s counts c i)=false) (hi:i=s.qw.length) (hc:c=(xJ s:Int) - 1 - j):xC s counts u (j+1)=xC s counts u j:=by subst hi;exact meltDown_no (zD h) hc
theorem Qx (s:qy) (counts:yLI) (u:qA):∀ j,(xC s counts u j).qH=u.qH
  | 0=>rfl
  | j+1=>by
    rw [xC]
    split
    · exact Qx s counts u j
    · exact Qx s counts u j
structure Live (s:qy) (B:Int) (u:qA):Prop where
  alive:u.qF.length=xJ s
  root:u.qF[0]! =true
  bags:Shape (xJ s) (xY s) B u.qL
  around:u.qH.length=xY s
theorem Live.melt {s:qy} {B:Int} {u:qA} (hs:ve s) (h:Live s B u) (hB:0≤B) {c:Int} (h0:0 < c) (h1:c≤(xJ s:Int) - 1):Live s (2 * B) (melted s u c):=by
  have hp:=QZ (t:=u) hs.1 h.root h0 h1
  have hpc:(qZ s u c).toNat < xJ s:=by omega
  have hcc:c.toNat < xJ s:=by omega
  refine ⟨by simp [melted,h.alive],?_,?_,h.around⟩
  · show (u.qF.set c.toNat false)[0]! =true
    rw [getset (by rw [h.alive];exact hcc),if_neg qf];exact h.root
  · have hr:=(h.bags.2 _ hcc).2
    have hk:=(h.bags.2 _ hcc).1
    have h2:=h.bags.plus (m:=u.qL[c.toNat]!) (t:=1) (D:=B) hpc (fun k hk=>by have:=hr k hk;omega) hB
    refine (h2.set (D:=B+B) hcc (by simp [xY]) (fun k hk=>?_) qf).mono qf
    rw [getElem!_pos (List.replicate s.qV.toNat (0:Int)) k (by simpa [xY] using hk)]
    simp;omega
def bnd:Nat→Int
  | 0=>200000000
  | j+1=>2 * bnd j
theorem bnd_pos:∀ j,0≤bnd j
  | 0=>by simp [bnd]
  | j+1=>by have:=bnd_pos j;simp only [bnd];omega
theorem bnd_mono:∀ {i j:Nat},i≤j→bnd i≤bnd j
  | i, 0, h => by obtain rfl : i = 0 := by omega
                  exact Int.le_refl _
  | i,j+1,h=>by
    by_cases e:i=j+1
    · subst e;exact Int.le_refl _
    · have:=bnd_mono (show i≤j by omega)
      have:=bnd_pos j
      simp only [bnd];omega
theorem bnd_le {j:Nat} (h:j≤6):bnd j≤12800000000:=Int.le_trans (bnd_mono h) (by simp [bnd])
theorem Live.mono {s:qy} {B D:Int} {u:qA} (h:Live s B u) (hD:B≤D):Live s D u:=⟨h.alive,h.root,h.bags.mono hD,h.around⟩
theorem stepped_live {s:qy} {t:qA} {counts:yLI} {B:Int} {b:yLL} (ht:xP s t) (h:Ent (xJ s+1) (xY s) (fun p k=>base0 s t p k+allS s t counts s.qw.length p k) B b) (hB:B≤200000000):Live s (bnd 0) (xw s t counts):=by
  have h1:=step_tab h
  have hr:=h.sh.2 (xJ s) qf
  refine ⟨ht.1,ht.2.2.1,?_,by rw [← h1.2];exact hr.1⟩
  rw [← h1.1]
  refine ⟨by rw [List.length_take,h.sh.1];omega,fun p hp=>?_⟩
  have e:(b.take (xJ s))[p]! =b[p]! :=by
    rw [getElem!_pos (b.take (xJ s)) p (by rw [List.length_take,h.sh.1];omega),getElem!_pos b p (by rw [h.sh.1];omega)];simp
  rw [e]
  have:=h.sh.2 p qf
  exact ⟨this.1,fun k hk=>by have:=this.2 k hk;simp only [bnd];omega⟩
theorem meltDown_live {s:qy} {counts:yLI} {u:qA} (hs:ve s) (h:Live s (bnd 0) u):∀ j,j+1≤xJ s→Live s (bnd j) (xC s counts u j)
  | 0,_=>h
  | j+1,hj=>by
    have ih:=meltDown_live (counts:=counts) hs h j qf
    by_cases hm:Melts s counts ((xJ s:Int) - 1 - j)
    · rw [meltDown_yes hm rfl];exact ih.melt hs (bnd_pos j) qf qf
    · rw [meltDown_no hm rfl];exact ih.mono (bnd_mono qf)
theorem Live.rows {s:qy} {B:Int} {u:qA} (hs:ve s) (h:Live s B u) (hB:B≤12800000000) {p c:Nat} (hp:p < xJ s) (hc:c < xJ s):
    (u.qL[p]!).length≤(u.qL[c]!).length∧Mid (u.qL[p]!)∧SmallT (u.qL[c]!) 1:=by
  have h1:=h.bags.row qf (kinds_le hs) hp
  have h2:=h.bags.row qf (kinds_le hs) hc
  refine ⟨by omega,h1.2,fun k hk=>?_⟩
  have:=h2.2.2 k hk
  omega
noncomputable def stepRes (s:qy) (t:qA) (counts:yLI):qA×Int:=told s (xC s counts (xw s t counts) (xJ s - 1))
open Classical in
noncomputable def y5 (s:qy) (t:qA) (counts:yLI):qA×Int:=if IsCh s t counts then stepRes s t counts else (default,4)
theorem stepBy_yes {s:qy} {t:qA} {counts:yLI} (h:IsCh s t counts):y5 s t counts=stepRes s t counts:=by rw [y5,if_pos h]
theorem stepBy_no {s:qy} {t:qA} {counts:yLI} (h:¬ IsCh s t counts):y5 s t counts=(default,4):=by rw [y5,if_neg h]
def minus (k:Nat):yLI:=(List.range 6).map fun j=>if j < k then -1 else 0
theorem minus_len (k:Nat):(minus k).length=6:=by simp [minus]
theorem minus_get {k j:Nat} (h:j < 6):(minus k)[j]! =if j < k then -1 else 0:=by
  rw [getElem!_pos (minus k) j (by rw [minus_len];exact h)];simp [minus]
theorem minus_set {k:Nat} (h:k < 6):(minus k).set k (-1)=minus (k+1):=by
  refine ext_get (by simp [minus_len]) fun p hp=>?_
  rw [List.length_set,minus_len] at hp
  rw [getset (by rw [minus_len];exact h),minus_get hp,minus_get hp]
  by_cases e:p=k
  · rw [if_pos e,if_pos qf]
  · rw [if_neg e]
    by_cases h1:p < k
    · rw [if_pos h1,if_pos qf]
    · rw [if_neg h1,if_neg qf]
theorem minus_six {k:Nat} (h:k=6) (s:qy) (t:qA):minus k=bests s t (-1) 6 0:=by
  subst h
  rw [← bests_zero];rfl
theorem appl_yes {s:qy} {t:qA} {i k n:Nat} {z:Int} (hk:k=s.qw.length) (hi:i < s.qw.length) (hz:z≤(s.qw[i]!).zS) (hc:(s.qw[i]!).qE.toNat < n) (h1:(s.qw[i]!).zS=(bests s t z n k)[(s.qw[i]!).qE.toNat]!) (h2:EnOk s t (s.qw[i]!)):Appl s t i:=by
  rw [bests_get hc,hk] at h1
  exact (appl_iff hi hz).2 ⟨h2,h1⟩
theorem appl_no {s:qy} {t:qA} {i k n:Nat} {z:Int} (hk:k=s.qw.length) (hi:i < s.qw.length) (hz:z≤(s.qw[i]!).zS) (hc:(s.qw[i]!).qE.toNat < n) (h1:(s.qw[i]!).zS≠(bests s t z n k)[(s.qw[i]!).qE.toNat]!):¬ Appl s t i:=fun h=>by
  rw [bests_get hc,hk] at h1
  exact h1 ((appl_iff hi hz).1 h).2
theorem outPl_in {s:qy} {t:qA} {r:vU} (hs:jd s) (h:0≤qZ s t r.qE):outPl s t r=(qZ s t r.qE).toNat:=by
  refine outPl_up fun e=>?_
  rw [e,parentNow_root hs] at h;omega
theorem outPl_out {s:qy} {t:qA} {r:vU} (hs:jd s) (h0:t.qF[0]! =true) (hc:Q5 s r.qE) (h:¬ 0≤qZ s t r.qE):outPl s t r=s.qx.length:=by
  refine outPl_root ?_
  rcases Int.lt_or_eq_of_le hc.1 with h1 | h1
  · exact absurd (QZ hs h0 h1 hc.2).1 h
  · exact h1.symm
theorem parentNow_lt {s:qy} {t:qA} (hs:jd s) (h0:t.qF[0]! =true) {c:Int} (hc:Q5 s c):qZ s t c≤(s.qx.length:Int) - 1:=by
  rcases Int.lt_or_eq_of_le hc.1 with h1 | h1
  · have:=QZ hs h0 h1 hc.2;have:=hc.2;omega
  · rw [← h1,parentNow_root hs];have:=hs.2.1;omega
theorem appls_at' {s:qy} {t:qA} {q m:Nat} (hm:(applL s t m).length=q) (hn:m≤s.qw.length) (hq:q < (appls s t).length):
    0≤(appls s t)[q]! ∧m≤((appls s t)[q]!).toNat∧((appls s t)[q]!).toNat < s.qw.length∧Appl s t ((appls s t)[q]!).toNat∧(∀ j,m≤j→j < ((appls s t)[q]!).toNat→¬ Appl s t j)∧(applL s t (((appls s t)[q]!).toNat+1)).length=q+1:=by
  obtain ⟨i,h1,h2,h3,h4,h5,h6⟩:=appls_at hm hn hq
  rw [h1]
  exact ⟨Int.natCast_nonneg i,h2,h3,h4,h5,h6⟩
theorem firstR_step {s:qy} {t:qA} {m j:Nat} (h1:m≤j) (hj:j < s.qw.length) (ha:Appl s t j) (h4:∀ i,m≤i→i < j→¬ Appl s t i) {x:Int} (hx:x=Qp (s.qw[j]!).xn ((vX s t m)[(s.qw[j]!).qE.toNat]!)):
    (vX s t m).set (s.qw[j]!).qE.toNat (yf ((vX s t m)[(s.qw[j]!).qE.toNat]!) (s.qw[j]!).xn (-x))=vX s t (j+1):=by
  rw [hx,← firstR_same h1 h4,firstR_yes ha]
theorem firstC_step {s:qy} {t:qA} {m j:Nat} (h1:m≤j) (ha:Appl s t j) (h4:∀ i,m≤i→i < j→¬ Appl s t i):Qp (s.qw[j]!).xn ((vX s t m)[(s.qw[j]!).qE.toNat]!)=firstC s t j:=by
  rw [firstC_yes ha,firstR_same h1 h4]
theorem meltsL_1 {s:qy} {counts:yLI} {n k:Nat} (h0:0≤(s.qw[k]!).qE) (h:(s.qw[k]!).qE.toNat < n) (h1:(jA s counts n k)[(s.qw[k]!).qE.toNat]! =true):(jA s counts n k).set (s.qw[k]!).qE.toNat true=jA s counts n (k+1):=
  meltsL_set h0 h ⟨fun _=>.inl h1,fun _=>rfl⟩
theorem meltsL_2 {s:qy} {counts:yLI} {n k:Nat} (h0:0≤(s.qw[k]!).qE) (h:(s.qw[k]!).qE.toNat < n) (h1:(jA s counts n k)[(s.qw[k]!).qE.toNat]! =false) (h2:¬ counts[k]! > 0):(jA s counts n k).set (s.qw[k]!).qE.toNat false=jA s counts n (k+1):=
  meltsL_set h0 h ⟨fun h=>(by cases h),fun h=>h.elim (fun h=>(ft h h1).elim) fun h=>(h2 h.1).elim⟩
theorem meltsL_3 {s:qy} {counts:yLI} {n k:Nat} (h0:0≤(s.qw[k]!).qE) (h:(s.qw[k]!).qE.toNat < n) (h1:(jA s counts n k)[(s.qw[k]!).qE.toNat]! =false) (h2:counts[k]! > 0):(jA s counts n k).set (s.qw[k]!).qE.toNat (s.qw[k]!).xU=jA s counts n (k+1):=
  meltsL_set h0 h ⟨fun h=>.inr ⟨h2,h⟩,fun h=>h.elim (fun h=>(ft h h1).elim) fun h=>h.2⟩
theorem meltDown_yesL {s:qy} {counts:yLI} {u:qA} {j i n:Nat} {c:Int} (h:(jA s counts n i)[c.toNat]! =true) (hn:c.toNat < n) (h0:0≤c) (hi:i=s.qw.length) (hc:c=(xJ s:Int) - 1 - j):xC s counts u (j+1)=melted s (xC s counts u j) c:=by
  rw [meltsL_get hn,show ((c.toNat:Nat):Int)=c by omega] at h
  exact meltDown_yes' h hi hc
theorem meltDown_noL {s:qy} {counts:yLI} {u:qA} {j i n:Nat} {c:Int} (h:(jA s counts n i)[c.toNat]! =false) (hn:c.toNat < n) (h0:0≤c) (hi:i=s.qw.length) (hc:c=(xJ s:Int) - 1 - j):xC s counts u (j+1)=xC s counts u j:=by
  rw [meltsL_get hn,show ((c.toNat:Nat):Int)=c by omega] at h
  exact meltDown_no' h hi hc
theorem copy_pre {n K:Nat} {f:Nat→Nat→Int} {B:Int} {b:yLL} {al:List Bool} (h:Ent (n+1) K f B b) (hK:K≤8) (hn:n≤6) (ha:al.length=n):
    (⟨al,b.take n,b[n]!⟩:qA).qF.length≤1000000∧(⟨al,b.take n,b[n]!⟩:qA).qH.length≤1000000∧(⟨al,b.take n,b[n]!⟩:qA).qL.length≤1000000∧
      ∀ j,j < (⟨al,b.take n,b[n]!⟩:qA).qL.length→((⟨al,b.take n,b[n]!⟩:qA).qL[j]!).length≤1000000:=by
  have hl:(b.take n).length=n:=by rw [List.length_take,h.sh.1];omega
  have hr:=h.sh.2 n qf
  refine ⟨?_,?_,?_,fun j hj=>?_⟩
  · show al.length≤1000000;omega
  · show (b[n]!).length≤1000000;omega
  · show (b.take n).length≤1000000;omega
  · have hj:j < (b.take n).length:=hj
    show ((b.take n)[j]!).length≤1000000
    rw [getElem!_pos (b.take n) j hj,List.getElem_take,← getElem!_pos b j (by rw [h.sh.1];omega)]
    have:=(h.sh.2 j qf).1;omega
theorem anyTo_mem {l:yLI} {x:Int}:anyTo (fun k=>x == l[k]!) l.length=dec (x∈l):=by
  refine dec_eq ?_
  rw [anyTo_iff]
  constructor
  · rintro ⟨k,h,h1⟩
    rw [beq_iff_eq,getElem!_pos l k h] at h1
    rw [h1];exact List.getElem_mem h
  · intro h
    obtain ⟨k,hk,e⟩:=List.mem_iff_getElem.1 h
    exact ⟨k,hk,by rw [beq_iff_eq,getElem!_pos l k hk,e]⟩
theorem mem_appls {s:qy} {t:qA} {i:Nat} (hi:i < s.qw.length):(i:Int)∈appls s t↔Appl s t i:=by
  unfold appls
  rw [mem_applL]
  constructor
  · rintro ⟨_,_,h⟩;simpa using h
  · intro h;exact ⟨Int.natCast_nonneg i,by simpa using hi,by simpa using h⟩
def minTo (l:yLI):Nat→Int
  | 0=>l[0]!
  | k+1=>if k=0 then l[0]! else min (minTo l k) (l[k]!)
theorem minTo_one (l:yLI):minTo l 1=l[0]! :=rfl
theorem minTo_succ {l:yLI} {k:Nat} (h:1≤k):minTo l (k+1)=min (minTo l k) (l[k]!):=by rw [minTo,if_neg qf]
def minL (l:yLI):Int:=minTo l l.length
theorem minTo_neg {l:yLI}:∀ {k:Nat},1≤k→(minTo l k < 0↔∃ j,j < k∧l[j]! < 0)
  | 1,_=>by
    rw [minTo_one]
    constructor
    · intro h;exact ⟨0,by omega,h⟩
    · rintro ⟨j,h,h1⟩;obtain rfl:j=0:=by omega
      exact h1
  | k+2,_=>by
    have ih:=minTo_neg (l:=l) (k:=k+1) qf
    rw [minTo_succ qf]
    constructor
    · intro h
      by_cases h1:minTo l (k+1) < 0
      · obtain ⟨j,h2,h3⟩:=ih.1 h1;exact ⟨j,by omega,h3⟩
      · exact ⟨k+1,by omega,by omega⟩
    · rintro ⟨j,h,h1⟩
      by_cases e:j=k+1
      · subst e;omega
      · have:=ih.2 ⟨j,by omega,h1⟩;omega
theorem minL_neg {l:yLI} (h:1≤l.length):minL l < 0↔¬ ∀ k,k < l.length→0≤l[k]! :=by
  unfold minL
  rw [minTo_neg h]
  constructor
  · rintro ⟨j,h1,h2⟩ h3;have:=h3 j h1;omega
  · intro h1
    apply Classical.byContradiction
    intro h2
    refine h1 fun k hk=>?_
    have:¬ l[k]! < 0:=fun h3=>h2 ⟨k,hk,h3⟩
    omega
open Classical in
noncomputable def yP (s:qy) (t:qA) (counts:yLI):Int:=if ¬ (ve s∧xP s t) then 1 else if ¬ CntOk s counts then 2 else 0
theorem ask_1 {s:qy} {t:qA} {counts:yLI} (h:¬ (ve s∧xP s t)):yP s t counts=1:=by rw [yP,if_pos h]
theorem ask_2 {s:qy} {t:qA} {counts:yLI} (h:ve s∧xP s t) (h1:¬ CntOk s counts):yP s t counts=2:=by rw [yP,if_neg (by simpa using h),if_pos h1]
theorem ask_0 {s:qy} {t:qA} {counts:yLI} (h:ve s∧xP s t) (h1:CntOk s counts):yP s t counts=0:=by rw [yP,if_neg (by simpa using h),if_neg (by simpa using h1)]
theorem ask_ok {s:qy} {t:qA} {counts:yLI} (h:yP s t counts=0):ve s∧xP s t∧CntOk s counts:=by
  by_cases h1:ve s∧xP s t
  · by_cases h2:CntOk s counts
    · exact ⟨h1.1,h1.2,h2⟩
    · rw [ask_2 h1 h2] at h;omega
  · rw [ask_1 h1] at h;omega
open Classical in
noncomputable def xX (s:qy) (t:qA) (counts:yLI):qA×Int:=if yP s t counts≠0 then (default,yP s t counts) else y5 s t counts
theorem by_bad {s:qy} {t:qA} {counts:yLI} (h:yP s t counts≠0):xX s t counts=(default,yP s t counts):=by rw [xX,if_pos h]
theorem by_ok {s:qy} {t:qA} {counts:yLI} (h:yP s t counts=0):xX s t counts=y5 s t counts:=by rw [xX,if_neg (by simpa using h)]
def single (s:qy) (i:Nat):yLI:=(List.replicate s.qw.length (0:Int)).set i 1
theorem most_of {s:qy} {t:qA} {P:Nat→Prop} (h:∀ q,q < (appls s t).length→P ((appls s t)[q]!).toNat):∀ i,i < s.qw.length→Appl s t i→P i:=by
  intro i hi ha
  obtain ⟨q,hq,e⟩:=List.mem_iff_getElem.1 ((mem_appls hi).2 ha)
  have:=h q hq
  rwa [getElem!_pos _ q hq,e] at this
def MostTo (s:qy) (t:qA) (counts:yLI) (k:Nat):Prop:=∀ i,i < k→Appl s t i→within (s.qw[i]!).xn ((Qd s t counts counts.length)[(s.qw[i]!).qE.toNat]!)=false
theorem MostTo.succ {s:qy} {t:qA} {counts:yLI} {k:Nat} (h:MostTo s t counts k) (h1:Appl s t k→within (s.qw[k]!).xn ((Qd s t counts counts.length)[(s.qw[k]!).qE.toNat]!)=false):MostTo s t counts (k+1):=fun j hj=>by
  by_cases e:j=k
  · subst e;exact h1
  · exact h j qf
def MostL (s:qy) (t:qA) (counts:yLI) (k:Nat):Prop:=∀ q,q < k→within (s.qw[((appls s t)[q]!).toNat]!).xn ((Qd s t counts counts.length)[(s.qw[((appls s t)[q]!).toNat]!).qE.toNat]!)=false
theorem MostL.succ {s:qy} {t:qA} {counts:yLI} {k:Nat} (h:MostL s t counts k) (h1:within (s.qw[((appls s t)[k]!).toNat]!).xn ((Qd s t counts counts.length)[(s.qw[((appls s t)[k]!).toNat]!).qE.toNat]!)=false):MostL s t counts (k+1):=fun j hj=>by
  by_cases e:j=k
  · subst e;exact h1
  · exact h j qf
theorem MostL.most {s:qy} {t:qA} {counts:yLI} (h:MostL s t counts (appls s t).length) (hc:IsCh s t counts):IsMost s t counts:=
  ⟨hc,most_of (P:=fun i=>within (s.qw[i]!).xn ((Qd s t counts counts.length)[(s.qw[i]!).qE.toNat]!)=false) h⟩
def AllCnt (s:qy) (ch:yLL) (k:Nat):Prop:=∀ j,j < k→CntOk s (ch[j]!)
theorem AllCnt.succ {s:qy} {ch:yLL} {k:Nat} (h:AllCnt s ch k) (h1:CntOk s (ch[k]!)):AllCnt s ch (k+1):=fun j hj=>by
  by_cases e:j=k
  · subst e;exact h1
  · exact h j qf
def CodeBad (s:qy) (t:qA) (cs:yLL) (k:Nat):Prop:=(y5 s t (cs[k]!)).2≠0
def NoBad (s:qy) (t:qA) (cs:yLL) (k:Nat):Prop:=∀ j,j < k→¬ CodeBad s t cs j
theorem NoBad.succ {s:qy} {t:qA} {cs:yLL} {k:Nat} (h:NoBad s t cs k) (h1:(y5 s t (cs[k]!)).2=0):NoBad s t cs (k+1):=fun j hj=>by
  by_cases e:j=k
  · subst e;exact fun x=>x h1
  · exact h j qf
def NotIn (l:List qA) (u:qA) (k:Nat):Prop:=∀ j,j < k→l[j]! ≠u
theorem NotIn.succ {l:List qA} {u:qA} {k:Nat} (h:NotIn l u k) (h1:l[k]! ≠u):NotIn l u (k+1):=fun j hj=>by
  by_cases e:j=k
  · subst e;exact h1
  · exact h j qf
theorem NotIn.out {l:List qA} {u:qA} (h:NotIn l u l.length):¬ u∈l:=fun hm=>by
  obtain ⟨k,hk,e⟩:=List.mem_iff_getElem.1 hm
  exact h k hk (by rw [getElem!_pos l k hk];exact e)
def StillTo (s:qy) (k:Nat):Prop:=∀ i,i < k→(s.qw[i]!).xU=false
theorem StillTo.succ {s:qy} {k:Nat} (h:StillTo s k) (h1:(s.qw[k]!).xU=false):StillTo s (k+1):=fun j hj=>by
  by_cases e:j=k
  · subst e;exact h1
  · exact h j qf
abbrev Still (s:qy):Prop:=StillTo s s.qw.length
def WholeTo (t:qA) (k:Nat):Prop:=∀ c,c < k→t.qF[c]! =true
theorem WholeTo.succ {t:qA} {k:Nat} (h:WholeTo t k) (h1:t.qF[k]! =true):WholeTo t (k+1):=fun j hj=>by
  by_cases e:j=k
  · subst e;exact h1
  · exact h j qf
abbrev Whole (t:qA):Prop:=WholeTo t t.qF.length
theorem whole_any {t:qA}:anyTo (fun k=>false == t.qF[k]!) t.qF.length=dec (¬ Whole t):=by
  refine dec_eq ?_
  rw [anyTo_iff]
  constructor
  · rintro ⟨k,hk,h⟩ hw
    rw [hw k hk] at h;cases h
  · intro h
    apply Classical.byContradiction
    intro hn
    refine h fun c hc=>?_
    cases hx:t.qF[c]! with
    | true=>rfl
    | false=>exact absurd ⟨c,hc,by rw [hx];rfl⟩ hn
def Qw (s:qy) (t:qA) (counts:yLI) (cell:Int):Nat→Nat→Nat→Int
  | 0,_,_=>0
  | i+1,p,q=>Qw s t counts cell i p q+if (s.qw[i]!).qE=cell then putF s t (s.qw[i]!) (counts[i]!) p q else 0
theorem puts_yes {s:qy} {t:qA} {counts:yLI} {cell:Int} {i:Nat} (h:(s.qw[i]!).qE=cell) (p q:Nat):Qw s t counts cell (i+1) p q=Qw s t counts cell i p q+putF s t (s.qw[i]!) (counts[i]!) p q:=by rw [Qw,if_pos h]
theorem puts_no {s:qy} {t:qA} {counts:yLI} {cell:Int} {i:Nat} (h:(s.qw[i]!).qE≠cell) (p q:Nat):Qw s t counts cell (i+1) p q=Qw s t counts cell i p q:=by rw [Qw,if_neg h];omega
def yZ (s:qy) (k:Nat):yLL:=List.replicate k (List.replicate s.qV.toNat 0)
theorem zeros_snoc (s:qy) (k:Nat):yZ s k++[List.replicate s.qV.toNat 0]=yZ s (k+1):=by
  unfold yZ;rw [← List.replicate_succ']
theorem zeros_len (s:qy) (k:Nat):(yZ s k).length=k:=by simp [yZ]
theorem zeros_ent {s:qy} {n:Nat} {B:Int} (hB:0≤B):Ent n (xY s) (fun _ _=>0) B (yZ s n):=by
  have hr:∀ p,p < n→(yZ s n)[p]! =List.replicate s.qV.toNat 0:=fun p hp=>by
    rw [getElem!_pos (yZ s n) p (by rw [zeros_len];exact hp)];simp [yZ]
  have hz:∀ k,k < xY s→(List.replicate s.qV.toNat (0:Int))[k]! =0:=fun k hk=>by
    rw [getElem!_pos (List.replicate s.qV.toNat (0:Int)) k (by simpa [xY] using hk)];simp
  refine ⟨⟨zeros_len _ _,fun p hp=>?_⟩,fun p k hp hk=>?_⟩
  · rw [hr p hp]
    refine ⟨by simp [xY],fun k hk=>?_⟩
    rw [hz k hk];omega
  · rw [hr p hp,hz k hk]
def TookOk (s:qy) (l:yLI) (i:Nat):Prop:=l.length=xY s∧∀ q,q < xY s→ -(1000000 * (i:Int))≤l[q]! ∧l[q]! ≤1000000 * (i:Int)
theorem TookOk.zero (s:qy):TookOk s (List.replicate s.qV.toNat 0) 0:=by
  refine ⟨by simp [xY],fun k hk=>?_⟩
  rw [getElem!_pos (List.replicate s.qV.toNat (0:Int)) k (by simpa [xY] using hk)];simp
theorem TookOk.keep {s:qy} {l:yLI} {i:Nat} (h:TookOk s l i):TookOk s l (i+1):=⟨h.1,fun q hq=>by have:=h.2 q hq;omega⟩
theorem TookOk.plus {s:qy} {l m:yLI} {i:Nat} {n:Int} (h:TookOk s l i) (hm:zA s.qV m) (hn: -1000≤n∧n≤1000):TookOk s (yf l m n) (i+1):=by
  refine ⟨by rw [yc];exact h.1,fun q hq=>?_⟩
  rw [plus_get (by rw [h.1];exact hq)]
  have:=h.2 q hq
  have:=hm.mul hn q hq
  omega
theorem TookOk.mid {s:qy} {l:yLI} {i:Nat} (h:TookOk s l i) (hi:i≤16) (hk:xY s≤8):l.length=xY s∧Mid l:=by
  refine ⟨h.1,by have:=h.1;omega,fun q hq=>?_⟩
  have:=h.2 q (by have:=h.1;omega)
  omega
def AllBags (b:yLL) (k:Nat):Prop:=∀ j,j < k→BagAny (b[j]!)
theorem AllBags.succ {b:yLL} {k:Nat} (h:AllBags b k) (h1:BagAny (b[k]!)):AllBags b (k+1):=fun j hj=>by
  by_cases e:j=k
  · subst e;exact h1
  · exact h j qf
theorem bagAny_ok {l:yLI}:zA (l.length:Int) l↔BagAny l:=⟨fun h=>h.1,fun h=>⟨h,rfl⟩⟩
def putsL (s:qy) (t:qA) (counts:yLI) (cell:Int):yLL:=tab2 (xJ s+1) (xY s) (Qw s t counts cell s.qw.length)
open Classical in
noncomputable def xO (s:qy) (t:qA) (cell:Int):yLL×Int:=
  if ¬ (ve s∧Still s∧xP s t∧Whole t) then ([],1) else if ¬ Q5 s cell then ([],2) else if AllBags (putsL s t (qP s t) cell) (putsL s t (qP s t) cell).length then (putsL s t (qP s t) cell,0) else ([],3)
theorem puts_1 {s:qy} {t:qA} {cell:Int} (h:¬ (ve s∧Still s∧xP s t∧Whole t)):xO s t cell=([],1):=by rw [xO,if_pos h]
theorem puts_2 {s:qy} {t:qA} {cell:Int} (h:ve s∧Still s∧xP s t∧Whole t) (h1:¬ Q5 s cell):xO s t cell=([],2):=by rw [xO,if_neg (by simpa using h),if_pos h1]
theorem puts_0 {s:qy} {t:qA} {cell:Int} {b:yLL} (h:ve s∧Still s∧xP s t∧Whole t) (h1:Q5 s cell) (e:b=putsL s t (qP s t) cell) (h2:AllBags b b.length):xO s t cell=(b,0):=by
  subst e;rw [xO,if_neg (fun x=>x h),if_neg (fun x=>x h1),if_pos h2]
theorem puts_3 {s:qy} {t:qA} {cell:Int} {b:yLL} (h:ve s∧Still s∧xP s t∧Whole t) (h1:Q5 s cell) (e:b=putsL s t (qP s t) cell) (h2:¬ AllBags b b.length):xO s t cell=([],3):=by
  subst e;rw [xO,if_neg (fun x=>x h),if_neg (fun x=>x h1),if_neg h2]
end
section
open Go.RowKit
set_option linter.unusedVariables false
set_option linter.unusedSimpArgs false
instance:qR UInt8 where
  size:=1
  rep:=fun _ F cs x=>F=[]∧cs=[.int .u8 (x.toNat:Int)]
  len:=by rintro w F cs x ⟨_,rfl⟩;rfl
  one:=by rintro w F cs x ⟨_,rfl⟩ u hu;simp only [List.mem_singleton] at hu;subst hu;rfl
  stay:=by rintro w w' F cs x h _;exact h
  lt:=by rintro w F cs x ⟨rfl,_⟩ b hb;simp at hb

section
variable {P : Program} {ops : Array Oper} {Q : Exit → Act → World → Prop} {n : Nat} {ρ : Env} {W0 w : World} {rest : List Oper} {ps : List Prv} {Γ : List Fact}
  {d:Nat} {ty:TypeId} {pos:String} {af:Array Edge} {K:Env→World→Prop}
theorem St.elemByte (H:St W0 w ps Γ) (i:Nat) {fr:Bool} {F:yLN} {b o m c:Nat} {l:List UInt8} (hf:Γ[i]? =some (isF fr F (.slice (some ⟨b,o,none⟩) m c) l)) (iv:Int) (k:Nat) (hk:iv.toNat=k) (h0:0≤iv) (h1:iv < l.length):
    w.cell? ⟨b,o+iv.toNat * 1,none⟩=some (.int .u8 (((l[k]!).toNat:Nat):Int)):=by
  obtain ⟨cs,Fk,hc,hr,_⟩:=H.elem i hf iv h0 h1
  rw [hk] at hr
  obtain ⟨_,rfl⟩:=hr
  have:=hc 0 _ rfl
  simpa [qR.size] using this
theorem byte_lt (x:UInt8):((x.toNat:Nat):Int)≤255:=by have:=x.toNat_lt;omega
theorem o_mulU {x y:Operand} {t u:TypeId} (a b:Int) (hx:ev n ρ x=.int .u64 a) (hy:ev n ρ y=.int .u64 b) (k:∀ r,K (upd ρ d (.int .u64 r)) w):OW P Q ⟨some d,.binOp .mul t x y u,ty,pos,af,none⟩ n ρ w K:=
  QE (.int .u64 (IntKind.u64.wrap (a * b))) (by simp [execOp,hx,hy,eqGuard,binOp,Op.intArith]) (k _)
theorem o_addU {x y:Operand} {t u:TypeId} (a b:Int) (hx:ev n ρ x=.int .u64 a) (hy:ev n ρ y=.int .u64 b) (k:∀ r,K (upd ρ d (.int .u64 r)) w):OW P Q ⟨some d,.binOp .add t x y u,ty,pos,af,none⟩ n ρ w K:=
  QE (.int .u64 (IntKind.u64.wrap (a+b))) (by simp [execOp,hx,hy,eqGuard,binOp,Op.intArith]) (k _)
theorem o_shrU {x y:Operand} {t u:TypeId} (a b:Int) (h:0≤b) (hx:ev n ρ x=.int .u64 a) (hy:ev n ρ y=.int .u64 b) (k:∀ r,K (upd ρ d (.int .u64 r)) w):OW P Q ⟨some d,.binOp .shr t x y u,ty,pos,af,none⟩ n ρ w K:=
  QE (.int .u64 (a.fdiv (2 ^ (min b.toNat IntKind.u64.bits)))) (by simp [execOp,hx,hy,eqGuard,binOp,Op.shift,show ¬ b < 0 by omega]) (k _)
theorem and_bd (a:Int):0≤IntKind.u64.wrap ((BitVec.ofInt IntKind.u64.bits a &&& BitVec.ofInt IntKind.u64.bits 255).toNat:Int)∧IntKind.u64.wrap ((BitVec.ofInt IntKind.u64.bits a &&& BitVec.ofInt IntKind.u64.bits 255).toNat:Int)≤255:=by
  have b6:IntKind.u64.bits=64:=rfl
  have s6:IntKind.u64.signed=false:=rfl
  have h:(BitVec.ofInt IntKind.u64.bits a &&& BitVec.ofInt IntKind.u64.bits 255).toNat≤255:=by
    rw [BitVec.toNat_and]
    exact Nat.le_trans Nat.and_le_right qj
  generalize (BitVec.ofInt IntKind.u64.bits a &&& BitVec.ofInt IntKind.u64.bits 255).toNat=m at h ⊢
  simp only [IntKind.wrap,b6,s6,Bool.false_and,Bool.false_eq_true,if_false]
  omega
theorem o_andU {x y:Operand} {t u:TypeId} (a:Int) (hx:ev n ρ x=.int .u64 a) (hy:ev n ρ y=.int .u64 255) (k:∀ r,0≤r∧r≤255→K (upd ρ d (.int .u64 r)) w):OW P Q ⟨some d,.binOp .and t x y u,ty,pos,af,none⟩ n ρ w K:=
  QE (.int .u64 (IntKind.u64.wrap ((BitVec.ofInt IntKind.u64.bits a &&& BitVec.ofInt IntKind.u64.bits 255).toNat:Int))) (by simp [execOp,hx,hy,eqGuard,binOp,Op.intBits]) (k _ (and_bd a))
theorem o_conv {x:Operand} {s t:TypeId} {ds:TypeDesc} {k k' :IntKind} (a:Int) (hs:P.underlying s=some ds) (ht:P.underlying t=some (.int k')) (hx:ev n ρ x=.int k a) (h:K (upd ρ d (.int k' (k'.wrap a))) w):
    OW P Q ⟨some d,.convert s t x,ty,pos,af,none⟩ n ρ w K:=
  QE _ (by simp [execOp,hx,convert,run_underlying hs,run_underlying ht,Conv.intToInt]) h
theorem o_convI {x:Operand} {s t:TypeId} {ds:TypeDesc} {k:IntKind} (a:Int) (hs:P.underlying s=some ds) (ht:P.underlying t=some (.int .i64)) (hx:ev n ρ x=.int k a) (h0:0≤a∧a≤255) (h:K (upd ρ d (.int .i64 a)) w):
    OW P Q ⟨some d,.convert s t x,ty,pos,af,none⟩ n ρ w K:=by
  refine o_conv a hs ht hx ?_
  rw [wrap_in qf]
  exact h
theorem o_convU {x:Operand} {s t:TypeId} {ds:TypeDesc} {k:IntKind} (a:Int) (hs:P.underlying s=some ds) (ht:P.underlying t=some (.int .u64)) (hx:ev n ρ x=.int k a) (h:∀ r,K (upd ρ d (.int .u64 r)) w):
    OW P Q ⟨some d,.convert s t x,ty,pos,af,none⟩ n ρ w K:=o_conv a hs ht hx (h _)
end
section
variable {P : Program} {n : Nat} {ρ : Env} {W0 w : World} {ps : List Prv} {Γ : List Fact}
theorem retCTC {fn:Func} {R:Ending→World→Prop} {t u z T U b c:Nat} {cs ds:List Value} {tb tc:TypeId} (H:St W0 w ps Γ) (i:Nat) (hp:ps[i]? =some (.box b cs tb)) (x:Value) (j:Nat) (hq:ps[j]? =some (.box c ds tc)) (hr:fn.results=#[.cell t T,.tmp z,.cell u U])
    (ha:∀ w,(isAgg T).run P w=.ok true w) (hs:∀ w,(Go.sizeOf T).run P w=.ok cs.length w) (ha' :∀ w,(isAgg U).run P w=.ok true w) (hs' :∀ w,(Go.sizeOf U).run P w=.ok ds.length w)
    (hv:ev n ρ (.tmp t)=.pointer (some ⟨b,0,none⟩)) (hz:ev n ρ (.tmp z)=x) (hx:ev n ρ (.tmp u)=.pointer (some ⟨c,0,none⟩)) (h:R (.returned (.tuple #[.agg cs.toArray,x,.agg ds.toArray])) w):bodyPost P fn R .ret (mk n ρ) w:=by
  have hl:=run_loadCells_list (P:=P) w ⟨b,0,none⟩ cs (fun j v hv=>by rw [Addr.add_mid];exact H.cells i hp j v hv)
  have hl' :=run_loadCells_list (P:=P) w ⟨c,0,none⟩ ds (fun k v hv=>by rw [Addr.add_mid];exact H.cells j hq k v hv)
  have e:=congrFun (QR n ρ) (.tmp t)
  have e' :=congrFun (QR n ρ) (.tmp u)
  have e'' :=congrFun (QR n ρ) (.tmp z)
  simp only [Act.eval,Array.getD_eq_getD_getElem?] at e e' e''
  rw [hv] at e
  rw [hx] at e'
  rw [hz] at e''
  exact bodyPost_ret (v:=.tuple #[.agg cs.toArray,x,.agg ds.toArray]) (by simp [results,hr,e,e',e'',asAddr,loadVar,ha,hs,hl,ha',hs',hl']) rfl h
end
end
section

def zO (kk M:Int) (l:yLI):Prop:=l.length=kk.toNat∧∀ j,j < l.length→0≤l[j]! ∧l[j]! ≤M
theorem zO.len {kk M:Int} {l:yLI} (h:zO kk M l) (h0:0≤kk):(l.length:Int)=kk:=by have:=h.1;omega
theorem zO.zero {kk M:Int} (h0:0≤kk) (hM:0≤M):zO kk M (List.replicate kk.toNat 0):=⟨by simp,fun j hj=>by
  have hj' :j < kk.toNat:=by simpa using hj
  rw [getElem!_pos (List.replicate kk.toNat (0:Int)) j hj,List.getElem_replicate]
  omega⟩
theorem zO.mono {kk M M' :Int} {l:yLI} (h:zO kk M l) (hM:M≤M'):zO kk M' l:=⟨h.1,fun j hj=>by have:=h.2 j hj;omega⟩
theorem zO.put {kk M:Int} {l:yLI} {v:Int} {i:Nat} (h:zO kk M l) (h0:0≤v∧v≤M):zO kk M (l.set i v):=⟨by rw [List.length_set];exact h.1,fun j hj=>by
  rw [List.length_set] at hj
  rw [getElem!_pos (l.set i v) j (by rw [List.length_set];exact hj),List.getElem_set]
  split
  · exact h0
  · have:=h.2 j hj
    rwa [getElem!_pos l j hj] at this⟩
theorem zO.up {kk M M' :Int} {l:yLI} {i:Nat} (h:zO kk M l) (hi:i < l.length) (hM:M+1≤M'):zO kk M' (l.set i (l[i]! +1)):=
  (h.mono (by omega:M≤M')).put (by have:=h.2 i hi;omega)
theorem zO.ok {kk M:Int} {l:yLI} (h:zO kk M l) (hk:1≤kk∧kk≤8) (hM:M≤1000):zA kk l:=
  ⟨⟨fun j hj=>by have:=h.2 j hj;omega,by have:=h.len qf;omega,by have:=h.len qf;omega⟩,h.len qf⟩
theorem zO.small {kk M:Int} {l:yLI} (h:zO kk M l) (hk:1≤kk∧kk≤8) (hM:M≤1000):Small l:=vY (h.ok hk hM)
theorem sumTo_up {l:yLI} (h:∀ j,j < l.length→0≤l[j]!):∀ k,k≤l.length→0≤sumTo l k∧∀ i,i < k→l[i]! ≤sumTo l k
  | 0,_=>⟨Int.le_refl _,fun i hi=>by omega⟩
  | k+1,hk=>by
    obtain ⟨h1,h2⟩:=sumTo_up h k qf
    have h3:=h k qf
    refine ⟨by simp only [sumTo];omega,fun i hi=>?_⟩
    simp only [sumTo]
    rcases Nat.lt_or_eq_of_le (Nat.le_of_lt_succ hi) with h4 | h4
    · have:=h2 i h4;omega
    · subst h4;omega
theorem zO.one {kk M:Int} {l:yLI} {i:Nat} (h:zO kk M l) (hk:1≤kk∧kk≤8) (hM:1≤M) (hs:sumL l=0) (hi:i < l.length):sumL (l.set i 1)≠0:=by
  have h1:=h.put (i:=i) (v:=1) qf
  have h2:=(sumTo_up (l:=l.set i 1) (fun j hj=>(h1.2 j hj).1) _ (Nat.le_refl _)).2 i (by rw [List.length_set];exact hi)
  rw [getElem!_pos (l.set i 1) i (by rw [List.length_set];exact hi),List.getElem_set_self] at h2
  show sumTo _ _≠0
  omega

def IntoDr (kk:Int) (par:yLI) (cell:Int) (l:List IntoD) (c:Int):Prop:=
  ∀ j,j < l.length→(0≤(l[j]!).qE∧(l[j]!).qE < c)∧Lies par cell (l[j]!).qE∧zO kk 1 (l[j]!).yx∧sumL (l[j]!).yx≠0∧(0 < j→(l[j - 1]!).qE < (l[j]!).qE)
theorem IntoDr.nil (kk:Int) (par:yLI) (cell c:Int):IntoDr kk par cell [] c:=fun j hj=>by simp at hj
theorem IntoDr.mono {kk:Int} {par:yLI} {cell c c' :Int} {l:List IntoD} (h:IntoDr kk par cell l c) (hc:c≤c'):IntoDr kk par cell l c' :=fun j hj=>by
  obtain ⟨h1,h2⟩:=h j hj
  exact ⟨by omega,h2⟩
theorem QG {α:Type} [Inhabited α] {l:List α} {x:α} {j:Nat}:(l++[x])[j]! =if j < l.length then l[j]! else if j=l.length then x else default:=by
  by_cases h:j < l.length
  · rw [if_pos h,getElem!_pos (l++[x]) j (by simp;omega),getElem!_pos l j h,List.getElem_append_left h]
  · rw [if_neg h]
    by_cases h2:j=l.length
    · subst h2
      rw [if_pos rfl,getElem!_pos (l++[x]) l.length qm]
      simp
    · rw [if_neg h2,getElem!_neg (l++[x]) j (by simp;omega)]
theorem IntoDr.snoc {kk:Int} {par:yLI} {cell c:Int} {l:List IntoD} {b:yLI} (h:IntoDr kk par cell l c) (hc:0≤c) (hl:Lies par cell c) (hb:zO kk 1 b) (hs:sumL b≠0):IntoDr kk par cell (l++[⟨c,b⟩]) (c+1):=fun j hj=>by
  have hj' :j < l.length∨j=l.length:=by simp at hj;omega
  rcases hj' with hj' | hj'
  · obtain ⟨h1,h2,h3,h4,h5⟩:=h j hj'
    rw [QG,if_pos hj',QG,if_pos qf]
    exact ⟨by omega,h2,h3,h4,h5⟩
  · subst hj'
    rw [QG,if_neg qf,if_pos rfl]
    refine ⟨⟨hc,by show c < c+1;omega⟩,hl,hb,hs,fun h0=>?_⟩
    rw [QG,if_pos qf]
    exact (h (l.length - 1) qf).1.2
structure RuleDr (kk:Int) (par:yLI) (r:vU):Prop where
  cell:0≤r.qE∧r.qE < par.length
  rank:0≤r.zS∧r.zS≤2
  melts:¬ (r.xU=true∧r.qE=0)
  need:zO kk 2 r.xn∧sumL r.xn≠0
  hav:zO kk 1 r.zf
  lack:zO kk 1 r.x8
  here:zO kk 2 r.xW
  out:zO kk 2 r.vC
  many:r.qK.length≤3
  into:IntoDr kk par r.qE r.qK par.length
theorem RuleDr.ok {s:qy} {r:vU} (h:RuleDr s.qV s.qx r) (hk:1≤s.qV∧s.qV≤8):RuleOk s r:=
  ⟨⟨h.cell.1,by have:=h.cell.2;omega⟩,by have:=h.rank;omega,h.melts,h.many,h.need.1.ok hk qf,h.hav.ok hk qf,h.lack.ok hk qf,h.here.ok hk qf,h.out.ok hk qf,h.need.2,
    fun j hj=>by
      obtain ⟨h1,h2,h3,h4,h5⟩:=h.into j hj
      exact ⟨⟨h1.1,by omega⟩,h2,h3.ok hk qf,h4,h5⟩⟩
theorem ruleDr_of {kk:Int} {par:yLI} {cell rank:Int} {need hav lack here out:yLI} {into:List IntoD} {melts:Bool} (h1:0≤cell∧cell < (par.length:Int)) (h2:0≤rank∧rank≤2) (h3:melts=true→cell≠0)
    (h4:zO kk 2 need∧sumL need≠0) (h5:zO kk 1 hav) (h6:zO kk 1 lack) (h7:zO kk 2 here) (h8:zO kk 1 out) (h9:into.length≤3∧IntoDr kk par cell into par.length):RuleDr kk par ⟨cell,rank,need,hav,lack,here,out,into,melts⟩:=
  ⟨h1,h2,fun h=>h3 h.1 h.2,h4,h5,h6,h7,h8.mono qf,h9.1,h9.2⟩
def jG (kk:Int) (par:yLI) (l:List vU):Prop:=∀ j,j < l.length→RuleDr kk par (l[j]!)
theorem jG.nil (kk:Int) (par:yLI):jG kk par []:=fun j hj=>by simp at hj
theorem jG.snoc {kk:Int} {par:yLI} {l:List vU} {r:vU} (h:jG kk par l) (hr:RuleDr kk par r):jG kk par (l++[r]):=fun j hj=>by
  rw [QG]
  by_cases h1:j < l.length
  · rw [if_pos h1];exact h j h1
  · rw [if_neg h1,if_pos (by simp at hj;omega)];exact hr
theorem jG.set {kk:Int} {par:yLI} {l:List vU} {r:vU} {i:Nat} (h:jG kk par l) (hr:RuleDr kk par r):jG kk par (l.set i r):=fun j hj=>by
  rw [List.length_set] at hj
  rw [getElem!_pos (l.set i r) j (by rw [List.length_set];exact hj),List.getElem_set]
  split
  · exact hr
  · have:=h j hj;rwa [getElem!_pos l j hj] at this
def ParDr (par:yLI):Prop:=1≤par.length∧par[0]! = -1∧∀ c,1≤c→c < par.length→0≤par[c]! ∧par[c]! ≤(c:Int) - 1
theorem ParDr.one:ParDr [-1]:=⟨by simp,rfl,fun c h1 h2=>by simp at h2;omega⟩
theorem ParDr.snoc {par:yLI} {v:Int} (h:ParDr par) (hv:0≤v∧v < par.length):ParDr (par++[v]):=by
  obtain ⟨h1,h2,h3⟩:=h
  refine ⟨by simp,by rw [QG,if_pos qf];exact h2,fun c hc hl=>?_⟩
  rw [QG]
  by_cases h4:c < par.length
  · rw [if_pos h4];exact h3 c hc h4
  · have h5:c=par.length:=by simp at hl;omega
    rw [if_neg h4,if_pos h5];omega
theorem frame_of {kk:Int} {par:yLI} {rules:List vU} (h:ParDr par) (hk:1≤kk∧kk≤3) (hl:par.length≤3):jd ⟨kk,par,rules⟩:=
  ⟨⟨hk.1,by show kk≤8;omega⟩,⟨h.1,by show par.length≤6;omega⟩,h.2.1,h.2.2⟩
structure SysDr (kk:Int) (par:yLI) (rules:List vU):Prop where
  kinds:1≤kk∧kk≤3
  cells:1≤par.length∧par.length≤3
  skin:par[0]! = -1
  up:∀ c,1≤c→c < par.length→0≤par[c]! ∧par[c]! ≤(c:Int) - 1
  few:rules.length≤5
  rules:jG kk par rules
theorem sysDr_of {kk:Int} {par:yLI} {rules:List vU} (h:ParDr par) (hk:1≤kk∧kk≤3) (hl:par.length≤3) (hr:rules.length≤5) (hd:jG kk par rules):SysDr kk par rules:=⟨hk,⟨h.1,hl⟩,h.2.1,h.2.2,hr,hd⟩
theorem SysDr.frame {kk:Int} {par:yLI} {rules:List vU} (h:SysDr kk par rules):jd ⟨kk,par,rules⟩:=by
  have h1:=h.kinds
  have h2:=h.cells
  exact ⟨⟨h1.1,by show kk≤8;omega⟩,⟨h2.1,by show par.length≤6;omega⟩,h.skin,h.up⟩
theorem SysDr.ok {kk:Int} {par:yLI} {rules:List vU} (h:SysDr kk par rules):ve ⟨kk,par,rules⟩:=by
  have h1:=h.kinds
  have h3:=h.few
  refine ⟨h.frame,by show rules.length≤16;omega,fun j hj=>⟨(h.rules j hj).ok (s:=⟨kk,par,rules⟩) ⟨h1.1,by show kk≤8;omega⟩,?_⟩⟩
  have h4:=(ofCell_bd rules (rules[j]!).qE (j+1)).2
  have h5:j < rules.length:=hj
  show ofCell rules (rules[j]!).qE (j+1)≤8
  omega
structure StDr (kk:Int) (n:Nat) (M:Int) (alive:List Bool) (bags:yLL) (around:yLI):Prop where
  la:alive.length=n
  lb:bags.length=n
  skin:alive[0]! =true
  around:zO kk 2 around
  bags:∀ c,c < bags.length→zO kk M (bags[c]!)∧(alive[c]! =false→sumL (bags[c]!)≤0)
theorem StDr.ok {kk M:Int} {par:yLI} {rules:List vU} {alive:List Bool} {bags:yLL} {around:yLI} (h:StDr kk par.length M alive bags around) (hs:SysDr kk par rules) (hM:M≤1000):xP ⟨kk,par,rules⟩ ⟨alive,bags,around⟩:=by
  have h1:=hs.kinds
  exact ⟨h.la,h.lb,h.skin,h.around.ok ⟨h1.1,by omega⟩ qf,fun c hc=>⟨(h.bags c hc).1.ok ⟨h1.1,by show kk≤8;omega⟩ hM,(h.bags c hc).2⟩⟩
structure StTo (kk M:Int) (c:Nat) (alive:List Bool) (bags:yLL):Prop where
  la:alive.length=c
  lb:bags.length=c
  skin:0 < c→alive[0]! =true
  bags:∀ j,j < bags.length→zO kk M (bags[j]!)∧(alive[j]! =false→sumL (bags[j]!)≤0)
theorem StTo.nil (kk M:Int):StTo kk M 0 [] []:=⟨rfl,rfl,fun h=>by omega,fun j hj=>by simp at hj⟩
theorem StTo.snoc {kk M:Int} {c:Nat} {alive:List Bool} {bags:yLL} {a:Bool} {b:yLI} (h:StTo kk M c alive bags) (ha:c=0→a=true) (hb:zO kk M b) (hz:a=false→sumL b≤0):StTo kk M (c+1) (alive++[a]) (bags++[b]):=by
  have la:=h.la
  have lb:=h.lb
  refine ⟨by simp [la],by simp [lb],fun _=>?_,fun j hj=>?_⟩
  · rw [QG]
    by_cases h0:0 < c
    · rw [if_pos qf];exact h.skin h0
    · rw [if_neg qf,if_pos qf];exact ha qf
  · rw [QG,QG]
    by_cases h1:j < c
    · rw [if_pos qf,if_pos qf];exact h.bags j qf
    · rw [if_neg qf,if_pos (by simp at hj;omega),if_neg qf,if_pos (by simp at hj;omega)];exact ⟨hb,hz⟩
end
section
open Go.RowKit
set_option linter.unusedVariables false
set_option linter.unusedSimpArgs false
theorem St.rowel_RuleD {W0 w:World} {ps:List Prv} {Γ:List Fact} (H:St W0 w ps Γ) (k:Nat) {b c:Nat} {e:TypeId} {nn:Nat} {xs:List Value} (hp:ps[k]? =some (.row (.slice (some ⟨b,0,none⟩) nn c) e 9 nn xs)) (j:Nat) {fr:Bool} {F:yLN} {l:List vU}
    (hf:Γ[j]? =some (xe fr F xs l)) {iv:Int} (i:Nat) (h:iv.toNat=i) (h1:i < nn):
    ∃ (aN:yOA) (cN:Nat) (FN:yLN) (aH:yOA) (cH:Nat) (FH:yLN) (aL:yOA) (cL:Nat) (FL:yLN) (aE:yOA) (cE:Nat) (FE:yLN) (aO:yOA) (cO:Nat) (FO:yLN) (aI:yOA) (cI:Nat) (FI:yLN),
      (∀ (q:Nat) (v:Value),([.int .i64 (l[i]!).qE,.int .i64 (l[i]!).zS,.slice aN ((l[i]!).xn.length) cN,.slice aH ((l[i]!).zf.length) cH,.slice aL ((l[i]!).x8.length) cL,.slice aE ((l[i]!).xW.length) cE,.slice aO ((l[i]!).vC.length) cO,.slice aI ((l[i]!).qK.length) cI,.bool (l[i]!).xU]:List Value)[q]? =some v→xs[0+iv.toNat * 9+q]? =some v)∧
      St W0 w ps (isF fr FN (.slice aN ((l[i]!).xn.length) cN) ((l[i]!).xn) :: isF fr FH (.slice aH ((l[i]!).zf.length) cH) ((l[i]!).zf) :: isF fr FL (.slice aL ((l[i]!).x8.length) cL) ((l[i]!).x8) ::
        isF fr FE (.slice aE ((l[i]!).xW.length) cE) ((l[i]!).xW) :: isF fr FO (.slice aO ((l[i]!).vC.length) cO) ((l[i]!).vC) :: isF fr FI (.slice aI ((l[i]!).qK.length) cI) ((l[i]!).qK) :: Γ):=by
  obtain ⟨cs,G,hc,hr,hsub,hfr,v1,v2,hv,hv1⟩:=St.rowElem (α:=vU) H k hp j hf qj h h1
  obtain ⟨vN,vH,vL,vE,vO,vI,FN,FH,FL,FE,FO,FI,rfl,hFF,hN,hH,hL,hE,hO,hI⟩:=id hr
  obtain ⟨aN,cN,rfl⟩:=slice_form hN
  obtain ⟨aH,cH,rfl⟩:=slice_form hH
  obtain ⟨aL,cL,rfl⟩:=slice_form hL
  obtain ⟨aE,cE,rfl⟩:=slice_form hE
  obtain ⟨aO,cO,rfl⟩:=slice_form hO
  obtain ⟨aI,cI,rfl⟩:=slice_form hI
  refine ⟨aN,cN,FN,aH,cH,FH,aL,cL,FL,aE,cE,FE,aO,cO,FO,aI,cI,FI,fun q v hq=>?_,?_⟩
  · have hv1:v1.length=i * 9:=hv1
    have hlt:q < 9:=by
      rcases Nat.lt_or_ge q 9 with h | h
      · exact h
      · rw [List.getElem?_eq_none (by simpa using h)] at hq;cases hq
    rw [hv,List.append_assoc,Nat.zero_add,h,← hv1,List.getElem?_append_right qf,Nat.add_sub_cancel_left,List.getElem?_append_left (by simpa using hlt)]
    exact hq
  · have hs:∀ {x:Nat} {X:yLN},x∈X→(∀ y∈X,y∈G)→x∈G:=fun h h' =>h' _ h
    have s6:=H.yL j hf (isF fr FI (.slice aI ((l[i]!).qK.length) cI) ((l[i]!).qK)) ⟨hI,fun e=>(hfr e).sub (by rw [hFF];intro x hx;simp [hx])⟩ (fun x hx=>hsub x (by rw [hFF];have hx:x∈FI:=hx;simp [hx]))
    have s5:=s6.yL (j+1) hf (isF fr FO (.slice aO ((l[i]!).vC.length) cO) ((l[i]!).vC)) ⟨hO,fun e=>(hfr e).sub (by rw [hFF];intro x hx;simp [hx])⟩ (fun x hx=>hsub x (by rw [hFF];have hx:x∈FO:=hx;simp [hx]))
    have s4:=s5.yL (j+2) hf (isF fr FE (.slice aE ((l[i]!).xW.length) cE) ((l[i]!).xW)) ⟨hE,fun e=>(hfr e).sub (by rw [hFF];intro x hx;simp [hx])⟩ (fun x hx=>hsub x (by rw [hFF];have hx:x∈FE:=hx;simp [hx]))
    have s3:=s4.yL (j+3) hf (isF fr FL (.slice aL ((l[i]!).x8.length) cL) ((l[i]!).x8)) ⟨hL,fun e=>(hfr e).sub (by rw [hFF];intro x hx;simp [hx])⟩ (fun x hx=>hsub x (by rw [hFF];have hx:x∈FL:=hx;simp [hx]))
    have s2:=s3.yL (j+4) hf (isF fr FH (.slice aH ((l[i]!).zf.length) cH) ((l[i]!).zf)) ⟨hH,fun e=>(hfr e).sub (by rw [hFF];intro x hx;simp [hx])⟩ (fun x hx=>hsub x (by rw [hFF];have hx:x∈FH:=hx;simp [hx]))
    exact s2.yL (j+5) hf (isF fr FN (.slice aN ((l[i]!).xn.length) cN) ((l[i]!).xn)) ⟨hN,fun e=>(hfr e).sub (by rw [hFF];intro x hx;simp [hx])⟩ (fun x hx=>hsub x (by rw [hFF];have hx:x∈FN:=hx;simp [hx]))

theorem part_lt {xs:List Value} {q:Nat} {v:Value} (h:xs[q]? =some v):q < xs.length:=(List.getElem?_eq_some_iff.1 h).1
theorem part_get {cells xs:List Value} {B:Nat} (hx:∀ (q:Nat) (v:Value),cells[q]? =some v→xs[B+q]? =some v) (j:Nat) (u:Value) (hj:j < cells.length):
    ∀ (q:Nat) (v:Value),(cells.set j u)[q]? =some v→(xs.set (B+j) u)[B+q]? =some v:=fun q v h=>by
  have hl:=part_lt (hx j _ (List.getElem?_eq_getElem hj))
  by_cases e:q=j
  · subst e
    rw [List.getElem?_set_self hj] at h
    rw [List.getElem?_set_self hl]
    exact h
  · rw [List.getElem?_set_ne (fun h=>e h.symm)] at h
    rw [List.getElem?_set_ne qf]
    exact hx q v h

section
variable {P : Program} {ops : Array Oper} {Q : Exit → Act → World → Prop} {n : Nat} {ρ : Env} {W0 w : World} {rest : List Oper} {ps : List Prv} {Γ : List Fact}
  {d:Nat} {ty:TypeId} {pos:String} {af:Array Edge} {K:Env→World→Prop}
theorem o_storePart {t:TypeId} {x y:Operand} {b c off:Nat} {e:TypeId} {sz nn:Nat} {xs:List Value} (H:St W0 w ps Γ) (k:Nat) (hp:ps[k]? =some (.row (.slice (some ⟨b,0,none⟩) nn c) e sz nn xs)) (v:Value)
    (hs:∀ w,(Go.sizeOf t).run P w=.ok 1 w) (hx:ev n ρ x=.pointer (some ⟨b,off,none⟩)) (hy:ev n ρ y=v) (h1:v.oneCell' =true) (h2:off < xs.length)
    (kk:∀ w',St W0 w' (ps.set k (.row (.slice (some ⟨b,0,none⟩) nn c) e sz nn (xs.set off v))) Γ→K ρ w'):
    OW P Q ⟨none,.store t x y,ty,pos,af,none⟩ n ρ w K:=by
  have hc:v.cells=#[v]:=by cases v <;> first | rfl | (simp [Value.oneCell'] at h1)
  refine o_storeRow H k hp v (by simpa [hc] using hs) hx hy (by simp [hc,h1]) (by simp [hc];omega) ?_
  simp only [hc,List.size_toArray,List.length_cons,List.length_nil,Nat.zero_add]
  rw [show xs.take off++[v]++xs.drop (off+1)=xs.set off v by rw [List.set_eq_take_append_cons_drop,if_pos qf];simp]
  exact kk
end

theorem reps_part {α:Type} [qR α] [Inhabited α] {w:World} {F G:yLN} {X:List Value} {l:List α} {v:Value} {f:α} (i q:Nat) (hi:i < l.length) (hq:q < qR.size α)
    (hr:∀ Fk ck,qR.rep w Fk ck (l[i]!)→∃ F',qR.rep w F' (ck.set q v) f∧∀ b∈F',b∈Fk∨b∈G) (h:reps w F X l):
    ∃ F',reps w F' (X.set (i * qR.size α+q) v) (l.set i f)∧∀ b∈F',b∈F∨b∈G:=by
  obtain ⟨F1,Fk,F2,v1,cs,v2,hF,hv,hl1,hlc,h1,h2,h3⟩:=reps_get h i hi
  obtain ⟨F',hr',hs⟩:=hr Fk cs (by rw [getElem!_pos l i hi];exact h1)
  refine ⟨F1++F' ++F2,?_,fun b hb=>?_⟩
  · rw [hv,← hl1,List.append_assoc v1,List.set_append_right _ _ qf,Nat.add_sub_cancel_left,List.set_append_left _ _ qf,List.set_eq_take_append_cons_drop (l:=l),if_pos hi,← List.append_assoc]
    have:=yl (yl h2 (reps_one hr')) h3
    simpa using this
  · simp only [List.mem_append] at hb
    rw [hF]
    rcases hb with (hb | hb) | hb
    · exact .inl (by simp [hb])
    · rcases hs b hb with h | h
      · exact .inl (by simp [h])
      · exact .inr h
    · exact .inl (by simp [hb])
section
variable {W0 w : World} {ps : List Prv} {Γ : List Fact}
theorem St.part {β:Type} [qR β] (H:St W0 w ps Γ) (j:Nat) {fr:Bool} {F:yLN} {X:List Value} {l:List vU} (hf:Γ[j]? =some (xe fr F X l)) (m:Nat) {fr' :Bool} {G:yLN} {v:Value} {z:β} (hg:Γ[m]? =some (isF fr' G v z))
    {iv:Int} (i:Nat) (hi:iv.toNat=i) (h1:i < l.length) (q:Nat) (hq:q < 9) (f:vU) (hr:∀ Fk ck,qR.rep w Fk ck (l[i]!)→∃ F',qR.rep w F' (ck.set q v) f∧∀ b∈F',b∈Fk∨b∈G):
    ∃ F',St W0 w ps (xe false F' (X.set (0+iv.toNat * 9+q) v) (l.set i f) :: Γ):=by
  subst hi
  obtain ⟨F',h2,h3⟩:=reps_part (α:=vU) iv.toNat q h1 hq hr (H.get j hf).1
  refine ⟨F',H.add _ ⟨by rw [Nat.zero_add];exact h2,by simp⟩ fun b hb=>?_⟩
  rcases h3 b hb with h | h
  · exact (H.facts _ (List.mem_of_getElem? hf)).2 b h
  · exact (H.facts _ (List.mem_of_getElem? hg)).2 b h
theorem St.part_5 (H:St W0 w ps Γ) (j:Nat) {fr:Bool} {F:yLN} {X:List Value} {l:List vU} (hf:Γ[j]? =some (xe fr F X l)) (m:Nat) {fr' :Bool} {G:yLN} {v:Value} {z:yLI} (hg:Γ[m]? =some (isF fr' G v z)) {iv:Int} (i:Nat) (hi:iv.toNat=i) (h1:i < l.length):
    ∃ F',St W0 w ps (xe false F' (X.set (0+iv.toNat * 9+5) v) (l.set i { l[i]! with xW:=z }) :: Γ):=by
  refine H.part j hf m hg i hi h1 5 qj _ fun Fk ck hk=>?_
  obtain ⟨v1,v2,v3,v4,v5,v6,F1,F2,F3,F4,F5,F6,rfl,rfl,k1,k2,k3,k4,k5,k6⟩:=hk
  refine ⟨_,⟨v1,v2,v3,v,v5,v6,F1,F2,F3,G,F5,F6,rfl,rfl,k1,k2,k3,(H.get m hg).1,k5,k6⟩,fun b hb=>?_⟩
  simp only [List.mem_append] at hb
  rcases hb with ((((hb | hb) | hb) | hb) | hb) | hb <;> simp [hb]
theorem St.part_8 (H:St W0 w ps Γ) (j:Nat) {fr:Bool} {F:yLN} {X:List Value} {l:List vU} (hf:Γ[j]? =some (xe fr F X l)) (z:Bool) {iv:Int} (i:Nat) (hi:iv.toNat=i) (h1:i < l.length):
    ∃ F',St W0 w ps (xe false F' (X.set (0+iv.toNat * 9+8) (.bool z)) (l.set i { l[i]! with xU:=z }) :: Γ):=by
  subst hi
  obtain ⟨F',h2,h3⟩:=reps_part (α:=vU) (G:=[]) (v:=.bool z) (f:={ l[iv.toNat]! with xU:=z }) iv.toNat 8 h1 qj (fun Fk ck hk=>by
    obtain ⟨v1,v2,v3,v4,v5,v6,F1,F2,F3,F4,F5,F6,rfl,rfl,k1,k2,k3,k4,k5,k6⟩:=hk
    exact ⟨_,⟨v1,v2,v3,v4,v5,v6,F1,F2,F3,F4,F5,F6,rfl,rfl,k1,k2,k3,k4,k5,k6⟩,fun b hb=>.inl hb⟩) (H.get j hf).1
  refine ⟨F',H.add _ ⟨by rw [Nat.zero_add];exact h2,by simp⟩ fun b hb=>?_⟩
  rcases h3 b hb with h | h
  · exact (H.facts _ (List.mem_of_getElem? hf)).2 b h
  · simp at h
end

theorem jG.here {kk:Int} {par:yLI} {l:List vU} {i:Nat} {b:yLI} (h:jG kk par l) (hi:i < l.length) (hb:zO kk 2 b):jG kk par (l.set i { l[i]! with xW:=b }):=
  h.set (let r:=h i hi;⟨r.cell,r.rank,r.melts,r.need,r.hav,r.lack,hb,r.out,r.many,r.into⟩)
theorem jG.out {kk:Int} {par:yLI} {l:List vU} {i:Nat} {b:yLI} (h:jG kk par l) (hi:i < l.length) (hb:zO kk 2 b):jG kk par (l.set i { l[i]! with vC:=b }):=
  h.set (let r:=h i hi;⟨r.cell,r.rank,r.melts,r.need,r.hav,r.lack,r.here,hb,r.many,r.into⟩)
theorem jG.into {kk:Int} {par:yLI} {l:List vU} {i:Nat} (h:jG kk par l) (hi:i < l.length):jG kk par (l.set i { l[i]! with qK:=[]}):=
  h.set (let r:=h i hi;⟨r.cell,r.rank,r.melts,r.need,r.hav,r.lack,r.here,r.out,by simp,IntoDr.nil _ _ _ _⟩)
theorem jG.still {kk:Int} {par:yLI} {l:List vU} {i:Nat} (h:jG kk par l) (hi:i < l.length):jG kk par (l.set i { l[i]! with xU:=false }):=
  h.set (let r:=h i hi;⟨r.cell,r.rank,(fun e=>Bool.noConfusion e.1),r.need,r.hav,r.lack,r.here,r.out,r.many,r.into⟩)
theorem SysDr.with {kk:Int} {par:yLI} {rules rules' :List vU} (h:SysDr kk par rules) (h1:rules'.length≤5) (h2:jG kk par rules'):SysDr kk par rules' :=⟨h.kinds,h.cells,h.skin,h.up,h1,h2⟩
def HereTo (kk:Int) (k:Nat) (l:yLI):Prop:=zO kk 2 l∧∀ j,j < l.length→k≤j+1→l[j]! =0
theorem HereTo.zero {kk:Int} (h0:0≤kk):HereTo kk 1 (List.replicate kk.toNat 0):=⟨zO.zero h0 qf,fun j hj _=>by rw [getElem!_pos (List.replicate kk.toNat (0:Int)) j hj,List.getElem_replicate]⟩
theorem HereTo.go {kk:Int} {k:Nat} {l:yLI} (h:HereTo kk k l):HereTo kk (k+1) l:=⟨h.1,fun j hj hk=>h.2 j hj qf⟩
theorem HereTo.put {kk:Int} {k i:Nat} {l:yLI} {v:Int} (h:HereTo kk k l) (hi:i < l.length) (hk:i+1=k) (hv:0≤v∧v≤2):HereTo kk (k+1) (l.set i (l[i]! +v)):=by
  have h0:=h.2 i hi qf
  refine ⟨h.1.put qf,fun j hj hk' =>?_⟩
  rw [List.length_set] at hj
  rw [getElem!_pos (l.set i _) j (by rw [List.length_set];exact hj),List.getElem_set,if_neg qf]
  have:=h.2 j hj qf
  rwa [getElem!_pos l j hj] at this
end
section

theorem get_set {α:Type} [Inhabited α] (l:List α) (i j:Nat) (v:α) (hi:i < l.length):(l.set i v)[j]! =if i=j then v else l[j]! :=by
  by_cases hj:j < l.length
  · rw [getElem!_pos _ _ (by rw [List.length_set];exact hj),List.getElem_set,getElem!_pos l j hj]
  · rw [getElem!_neg _ _ (by rw [List.length_set];exact hj),getElem!_neg l j hj,if_neg qf]
theorem plusL_get {l m:yLI} {j:Nat} (h:j < l.length):(yf l m 1)[j]! =l[j]! +m[j]! :=by
  rw [getElem!_pos _ _ (by rw [yc];exact h)]
  simp [yf,plusTo]
theorem rep_get (n j:Nat):(List.replicate n (0:Int))[j]! =0:=by
  by_cases h:j < n
  · rw [getElem!_pos _ _ (by simpa using h)];simp
  · rw [getElem!_neg _ _ (by simpa using h)];rfl

def kidIn (s:qy) (t:qA) (k:Int) (j:Nat):Bool:=t.qF[j]! && (qZ s t j == k)
def kidsTo (s:qy) (t:qA) (k:Int) (n:Nat):yLI:=((List.range n).filter (kidIn s t k)).map fun j:Nat=>(j:Int)
section
variable {s : qy} {t : qA} {c : Int}
structure Qc (s:qy) (t:qA) (c:Int):Prop where
  frame:jd s
  state:xP s t
  cell:Q5 s c
  skin:c≠0
  alive:t.qF[c.toNat]! =true
theorem Qc.pos (h:Qc s t c):0 < c:=by have:=h.cell.1;have:=h.skin;omega
theorem Qc.par (h:Qc s t c):0≤qZ s t c∧qZ s t c < c∧t.qF[(qZ s t c).toNat]! =true:=QZ h.frame h.state.2.2.1 h.pos h.cell.2
theorem Qc.alive' (h:Qc s t c) (j:Nat):(melted s t c).qF[j]! =if c.toNat=j then false else t.qF[j]! :=by
  have:=h.cell;have:=h.state.1
  exact get_set _ _ _ _ qf
theorem Qc.bags' (h:Qc s t c) (j:Nat):(melted s t c).qL[j]! =if c.toNat=j then List.replicate s.qV.toNat 0 else if (qZ s t c).toNat=j then yf (t.qL[(qZ s t c).toNat]!) (t.qL[c.toNat]!) 1 else t.qL[j]! :=by
  have:=h.cell;have:=h.state.2.1;have hp:=h.par
  show ((t.qL.set _ _).set _ _)[j]! =_
  rw [get_set _ _ _ _ (by rw [List.length_set];omega),get_set _ _ _ _ qf]
def Few5 (t:qA):Prop:=(∀ k,k < t.qL.length→∀ j,j < (t.qL[k]!).length→(t.qL[k]!)[j]! ≤5)∧∀ j,j < t.qH.length→t.qH[j]! ≤5
def allTo (t:qA):Nat→yLI
  | 0=>t.qH
  | k+1=>yf (allTo t k) (t.qL[k]!) 1
theorem allTo_len (t:qA):∀ k,(allTo t k).length=t.qH.length
  | 0=>rfl
  | k+1=>by rw [allTo,yc,allTo_len t k]
def colTo (t:qA) (j:Nat):Nat→Int
  | 0=>0
  | k+1=>colTo t j k+(t.qL[k]!)[j]!
theorem allTo_get (t:qA) {j:Nat} (hj:j < t.qH.length):∀ k,(allTo t k)[j]! =t.qH[j]! +colTo t j k
  | 0=>by simp [allTo,colTo]
  | k+1=>by
    rw [allTo,plusL_get (by rw [allTo_len];exact hj),allTo_get t hj k,colTo]
    omega
theorem Qc.lens (h:Qc s t c) {k:Nat} (hk:k < s.qx.length):(t.qL[k]!).length=s.qV.toNat:=by
  have:=(h.state.bagLen (k:=k) (by rw [h.state.2.1];exact hk)).2
  omega
theorem Qc.col (h:Qc s t c) {j:Nat} (hj:j < s.qV.toNat):∀ k,colTo (melted s t c) j k=colTo t j k+(if (qZ s t c).toNat < k then (t.qL[c.toNat]!)[j]! else 0) - (if c.toNat < k then (t.qL[c.toNat]!)[j]! else 0)
  | 0=>by simp [colTo]
  | k+1=>by
    have hp:=h.par
    have hc:=h.cell
    rw [colTo,colTo,Qc.col h hj k,h.bags']
    by_cases e1:c.toNat=k
    · subst e1
      rw [if_pos rfl,rep_get,if_neg (show ¬ c.toNat < c.toNat by omega),if_pos (show c.toNat < c.toNat+1 by omega),if_pos (show (qZ s t c).toNat < c.toNat by omega),if_pos (show (qZ s t c).toNat < c.toNat+1 by omega)]
      omega
    · rw [if_neg e1]
      by_cases e2:(qZ s t c).toNat=k
      · subst e2
        rw [if_pos rfl,plusL_get (by rw [h.lens qf];exact hj),if_neg (show ¬ (qZ s t c).toNat < (qZ s t c).toNat by omega),if_pos (show (qZ s t c).toNat < (qZ s t c).toNat+1 by omega),
          if_neg (show ¬ c.toNat < (qZ s t c).toNat by omega),if_neg (show ¬ c.toNat < (qZ s t c).toNat+1 by omega)]
        omega
      · rw [if_neg e2]
        have a1:((qZ s t c).toNat < k+1)=((qZ s t c).toNat < k):=by apply propext;omega
        have a2:(c.toNat < k+1)=(c.toNat < k):=by apply propext;omega
        simp only [a1,a2]
        omega
theorem Qc.total (h:Qc s t c):allTo (melted s t c) s.qx.length=allTo t s.qx.length:=by
  have hp:=h.par
  have hc:=h.cell
  have hl:(melted s t c).qH=t.qH:=rfl
  have hk:t.qH.length=s.qV.toNat:=by have:=h.state.2.2.2.1.2;omega
  apply List.ext_getElem
  · rw [allTo_len,allTo_len,hl]
  · intro j h1 h2
    rw [allTo_len] at h2
    rw [← getElem!_pos,← getElem!_pos,allTo_get _ (by rw [hl];exact h2),allTo_get _ h2,h.col qf,if_pos qf,if_pos qf,hl]
    omega
theorem Qc.ok (h:Qc s t c) (hf:Few5 t):xP s (melted s t c):=by
  have hp:=h.par
  have hc:=h.cell
  have ht:=h.state
  have e1:(melted s t c).qF.length=t.qF.length:=by simp [melted]
  have e2:(melted s t c).qL.length=t.qL.length:=by simp [melted]
  refine ⟨by rw [e1];exact ht.1,by rw [e2];exact ht.2.1,by rw [h.alive',if_neg (by have:=h.pos;omega)];exact ht.2.2.1,ht.2.2.2.1,fun k hk=>?_⟩
  rw [e2] at hk
  rw [h.bags',h.alive']
  have hkk:=ht.2.1
  by_cases g1:c.toNat=k
  · rw [if_pos g1,if_pos g1]
    have hK:=h.frame.1
    refine ⟨⟨⟨fun j hj=>by rw [rep_get];omega,by simp;omega,by simp;omega⟩,by simp;omega⟩,fun _=>?_⟩
    have hz:∀ n,sumTo (List.replicate s.qV.toNat 0) n=0:=by
      intro n
      induction n with
      | zero=>simp [sumTo]
      | succ n ih=>simp only [sumTo,ih,rep_get];omega
    unfold sumL
    rw [hz]
    omega
  · rw [if_neg g1,if_neg g1]
    by_cases g2:(qZ s t c).toNat=k
    · rw [if_pos g2]
      subst g2
      have bp:=ht.bagLen hk
      have bc:=ht.bagLen (k:=c.toNat) qf
      refine ⟨⟨⟨fun j hj=>?_,by rw [yc];exact bp.1.2.1,by rw [yc];exact bp.1.2.2⟩,by rw [yc];exact bp.2⟩,fun hd=>?_⟩
      · rw [yc] at hj
        rw [plusL_get hj]
        have hj2:j < (t.qL[c.toNat]!).length:=by have:=bp.2;have:=bc.2;omega
        have a1:=bp.1.1 j hj
        have a2:=bc.1.1 j hj2
        have a3:=hf.1 _ hk j hj
        have a4:=hf.1 c.toNat qf j hj2
        omega
      · rw [hp.2.2] at hd;cases hd
    · rw [if_neg g2]
      exact ht.2.2.2.2 k hk
end
open Classical in
noncomputable def pnV (s:qy) (t:qA) (c:Int):Int:=if cellCodeOf s t c=0 then qZ s t c else 0
open Classical in
noncomputable def kidsV (s:qy) (t:qA) (c:Int):yLI:=if cellCodeOf s t c=0 then kidsTo s t c s.qx.length else []
structure CanAdd (a b:yLI):Prop where
  one:BagAny a
  two:BagAny b
  len:a.length=b.length
  sum:BagAny (yf a b 1)
structure TreeAt (s:qy) (t:qA) (c:Int):Prop where
  code:(meltRes s t c).2=0
  cc:cellCodeOf s t c=0
  ok:ve s∧xP s (meltRes s t c).1
  dead:(meltRes s t c).1.qF[c.toNat]! =false
  par:0≤pnV s t c∧pnV s t c < s.qx.length
  kids:∀ i,i < (kidsV s t c).length→cellCodeOf s (meltRes s t c).1 ((kidsV s t c)[i]!)=0∧pnV s (meltRes s t c).1 ((kidsV s t c)[i]!)=pnV s t c
  few:(kidsV s t c).length≤6
  total:allTo (meltRes s t c).1 s.qx.length=allTo t s.qx.length
  bag:BagAny (allTo t s.qx.length)
  add:CanAdd (t.qL[(pnV s t c).toNat]!) (t.qL[c.toNat]!)
  sum:yf (t.qL[(pnV s t c).toNat]!) (t.qL[c.toNat]!) 1=(meltRes s t c).1.qL[(pnV s t c).toNat]!
def MildTo (l:List vU) (n:Nat):Prop:=∀ j,j < n→(l[j]!).xU=false
theorem MildTo.go {l:List vU} {i:Nat} (h:MildTo l i) (hi:i < l.length):MildTo (l.set i { l[i]! with xU:=false }) (i+1):=fun j hj=>by
  rw [getElem!_pos (l.set i _) j (by rw [List.length_set];omega),List.getElem_set]
  split
  · rfl
  · have:=h j qf
    rwa [getElem!_pos l j qf] at this
theorem MildTo.here {l:List vU} {i n:Nat} {b:yLI} (h:MildTo l n) (hi:i < l.length) (hn:n≤l.length):MildTo (l.set i { l[i]! with xW:=b }) n:=fun j hj=>by
  rw [getElem!_pos (l.set i _) j (by rw [List.length_set];omega),List.getElem_set]
  have h1:=h j hj
  split
  · rename_i e;subst e;exact h1
  · rwa [getElem!_pos l j qf] at h1
def OwnDr (n:Nat) (own:yLI):Prop:=
  own.length=n∧∃ m:Nat,1≤m∧m≤3∧m≤n∧(∀ j,j < own.length→0≤own[j]! ∧own[j]! < m)∧∀ q:Nat,q < m→∃ j,j < own.length∧own[j]! =q
def OwnTo (m:Int) (c:Nat) (own:yLI):Prop:=own.length=c∧∀ j,j < c→(0≤own[j]! ∧own[j]! < m)∧((j:Int) < m→own[j]! =j)
theorem OwnTo.nil (m:Int):OwnTo m 0 []:=⟨rfl,fun j hj=>by omega⟩
theorem OwnTo.snoc {m v:Int} {c:Nat} {own:yLI} (h:OwnTo m c own) (hv:0≤v∧v < m) (hc:(c:Int) < m→v=c):OwnTo m (c+1) (own++[v]):=by
  have hl:=h.1
  refine ⟨by simp [hl],fun j hj=>?_⟩
  rw [QG]
  by_cases h1:j < c
  · rw [if_pos qf];exact h.2 j h1
  · have e:j=c:=by omega
    subst e
    rw [if_neg qf,if_pos qf]
    exact ⟨hv,hc⟩
theorem OwnTo.ok {m:Int} {n:Nat} {own:yLI} (h:OwnTo m n own) (hm:1≤m∧m≤3) (hn:m≤n):OwnDr n own:=by
  have hl:=h.1
  refine ⟨hl,m.toNat,by omega,by omega,by omega,fun j hj=>?_,fun q hq=>⟨q,by omega,?_⟩⟩
  · have:=(h.2 j qf).1;omega
  · exact (h.2 q qf).2 qf
def TurnTo (m:Int) (c:Nat) (own own' :yLI):Prop:=own'.length=own.length∧∀ j,j < own.length→own'[j]! =if j < c then m - 1 - own[j]! else own[j]!
theorem TurnTo.zero (m:Int) (own:yLI):TurnTo m 0 own own:=⟨rfl,fun j _=>by rw [if_neg qf]⟩
theorem TurnTo.at' {m:Int} {c:Nat} {own own' :yLI} (h:TurnTo m c own own') (hc:c < own.length):own'[c]! =own[c]! :=by rw [h.2 c hc,if_neg qf]
theorem TurnTo.go {m:Int} {c:Nat} {own own' :yLI} (h:TurnTo m c own own') (hc:c < own.length):TurnTo m (c+1) own (own'.set c (m - 1 - own'[c]!)):=by
  have hl:=h.1
  refine ⟨by rw [List.length_set];exact hl,fun j hj=>?_⟩
  rw [getElem!_pos (own'.set c _) j (by rw [List.length_set];omega),List.getElem_set]
  by_cases e:c=j
  · subst e;rw [if_pos rfl,if_pos qf,h.at' hc]
  · have h1:=h.2 j hj
    rw [getElem!_pos own' j qf] at h1
    rw [if_neg e,h1]
    by_cases h2:j < c
    · rw [if_pos h2,if_pos qf]
    · rw [if_neg h2,if_neg qf]
theorem TurnTo.ok {m:Int} {n:Nat} {own own' :yLI} (t:TurnTo m n own own') (h:OwnTo m n own) (hm:1≤m∧m≤3) (hn:m≤n):OwnDr n own' :=by
  have hl:=h.1
  have tl:=t.1
  refine ⟨by omega,m.toNat,by omega,by omega,by omega,fun j hj=>?_,fun q hq=>⟨(m - 1 - q).toNat,by omega,?_⟩⟩
  · have h1:=(h.2 j qf).1
    rw [t.2 j qf,if_pos qf]
    omega
  · rw [t.2 _ qf,if_pos qf,(h.2 _ qf).2 qf]
    omega
theorem OwnTo.ok' {m:Int} {c n:Nat} {own:yLI} (h:OwnTo m c own) (e:c=n) (hm:1≤m∧m≤3) (hn:m≤n):OwnDr n own:=by subst e;exact h.ok hm hn
theorem TurnTo.ok' {m:Int} {d c n:Nat} {own own' :yLI} (t:TurnTo m d own own') (h:OwnTo m c own) (e:c=n) (e' :d=n) (hm:1≤m∧m≤3) (hn:m≤n):OwnDr n own' :=by subst e;subst e';exact t.ok h hm hn
def AllTo (alive:List Bool):Prop:=∀ j,j < alive.length→alive[j]! =true
theorem AllTo.nil:AllTo []:=fun j hj=>by simp at hj
theorem AllTo.snoc {alive:List Bool} (h:AllTo alive):AllTo (alive++[true]):=fun j hj=>by
  rw [QG]
  by_cases h1:j < alive.length
  · rw [if_pos h1];exact h j h1
  · rw [if_neg h1,if_pos (by simp at hj;omega)]
theorem stDr_of {kk M:Int} {c n:Nat} {alive:List Bool} {bags:yLL} (h:StTo kk M c alive bags) (e:c=n) (hn:0 < n) (hk:0≤kk):StDr kk n M alive bags (List.replicate kk.toNat 0):=by
  subst e
  exact ⟨h.la,h.lb,h.skin hn,zO.zero hk qf,h.bags⟩
end
section
open Go.RowKit
set_option linter.unusedVariables false
section
variable {W0 w : World} {ps : List Prv} {Γ : List Fact}
theorem own_at (H:St W0 w ps Γ) (i:Nat) {v:Value} {e:TypeId} {m:Nat} {z:yLI} (hq:ps[i]? =some (.row v e 1 m (z.map (Value.int .i64)))):
    ∃ G,OwnAt e w G v z∧(∀ x∈G,jb ps i=some x)∧jv w G∧G.Nodup:=by
  have ho:=(H.has _ (List.mem_of_getElem? hq):w.ownsRow W0.heap.size e 1 v m (z.map (Value.int .i64)))
  have hm:m=z.length:=by have:=ho.1;simp at this;omega
  subst hm
  rcases ho.2 with ⟨rfl,h0⟩ | ⟨g,cap,cur,rfl,hb,hg,hnc,hcm,hcs,htake⟩
  · exact ⟨[],Or.inl ⟨rfl,List.eq_nil_of_length_eq_zero h0,rfl⟩,by simp,jv.nil _,by simp⟩
  · refine ⟨[g],Or.inr ⟨g,cap,cur,rfl,rfl,hg,hnc,hcm,by omega,by rw [Nat.mul_one] at htake;exact htake⟩,fun x hx=>?_,fun x hx=>?_,by simp⟩
    · obtain rfl:=List.mem_singleton.1 hx
      simp [jb,hq,Prv.blk,Value.ownBlock]
    · obtain rfl:=List.mem_singleton.1 hx
      exact ⟨_,_,hg⟩
theorem dead_at {i:Nat} {p:Prv} (hq:ps[i]? =some p):∀ (b' i' :Nat),jb (ps.set i (.row (.slice none 0 0) 0 1 0 [])) i' =some b' →i' ≠i∧jb ps i' =some b' :=by
  intro b' i' h
  unfold jb at h ⊢
  by_cases hi:i' =i
  · subst hi
    rw [set_at hq] at h
    simp [Prv.blk,Value.ownBlock] at h
  · rw [List.getElem?_set_ne (Ne.symm hi)] at h
    exact ⟨hi,h⟩
theorem St.snocI {e:TypeId} (H:St W0 w ps Γ) (i:Nat) {v:Value} {m:Nat} {z:yLI} (hq:ps[i]? =some (.row v e 1 m (z.map (Value.int .i64)))) (j:Nat) {F:yLN} {xs:List Value} {l:List (OwnI e)} (hf:Γ[j]? =some (xe true F xs l))
    {L:List yLN} (N:Fresh W0.heap.size (F :: L)) (ha:∀ K∈L,∀ b∈K,∀ i,jb ps i≠some b):
    ∃ F',Fresh W0.heap.size (F' :: L)∧St W0 w (ps.set i (.row (.slice none 0 0) 0 1 0 [])) (xe true F' (xs++[v]) (l++[⟨z⟩]) :: Γ):=by
  have hF:=(H.facts _ (List.mem_of_getElem? hf)).2
  obtain ⟨G,hG,hGb,hGf,hgn⟩:=own_at H i hq
  have hGF:∀ x∈G,x∉F:=fun x hx h=>(hF x h).2 i (hGb x hx)
  have hGL:∀ K∈L,∀ x∈K,x∉G:=fun K hK x hx h=>ha K hK x hx i (hGb x h)
  have hge:∀ x∈G,W0.heap.size≤x:=fun x hx=>(Ql H (hGb x hx)).1
  have hset:=dead_at hq
  refine ⟨F++G,⟨fun K hK=>?_,fun K hK x hx=>?_,?_⟩,?_⟩
  · rcases List.mem_cons.1 hK with rfl | h
    · exact List.nodup_append.2 ⟨N.nd F qm,hgn,fun x hx y hy e=>hGF y hy (e▸hx)⟩
    · exact N.nd K (List.mem_cons_of_mem _ h)
  · rcases List.mem_cons.1 hK with rfl | h
    · rcases List.mem_append.1 hx with h | h
      · exact N.ge F qm x h
      · exact hge x h
    · exact N.ge K (List.mem_cons_of_mem _ h) x hx
  · have hd:=List.pairwise_cons.1 N.dj
    refine List.pairwise_cons.2 ⟨fun K hK x hx=>?_,hd.2⟩
    rcases List.mem_append.1 hx with h | h
    · exact hd.1 K hK x h
    · exact fun hxK=>hGL K hK x hxK h
  · refine (H.dead i hq).add _ ⟨yl (H.get j hf).1 (reps_one (show qR.rep w G [v] (⟨z⟩:OwnI e) from ⟨v,rfl,hG⟩)),fun _ x hx=>?_⟩ fun x hx=>?_
    · rcases List.mem_append.1 hx with h | h
      · exact (H.get j hf).2 rfl x h
      · exact hGf x h
    · rcases List.mem_append.1 hx with h | h
      · exact ⟨(hF x h).1,fun i' hi' =>(hF x h).2 i' (hset x i' hi').2⟩
      · exact ⟨(Ql H (hGb x h)).2,fun i' hi' =>(hset x i' hi').1 (H.dist i' i x (hset x i' hi').2 (hGb x h))⟩
theorem St.closeI {e:TypeId} (H:St W0 w ps Γ) (i:Nat) {v:Value} {m:Nat} {z:yLI} (hq:ps[i]? =some (.row v e 1 m (z.map (Value.int .i64)))) (j:Nat) {F:yLN} {xs:List Value} {l:List (OwnI e)} {c:Nat} (hf:Γ[j]? =some (xe true F (xs.set c (.slice none 0 0)) l))
    {L:List yLN} (N:Fresh W0.heap.size (F :: L)) (ha:∀ K∈L,∀ b∈K,∀ i,jb ps i≠some b) (h2:c < xs.length):
    ∃ F',Fresh W0.heap.size (F' :: L)∧St W0 w (ps.set i (.row (.slice none 0 0) 0 1 0 [])) (xe true F' (xs.set c v) (l.set c ⟨z⟩) :: Γ):=by
  have hF:=(H.facts _ (List.mem_of_getElem? hf)).2
  obtain ⟨G,hG,hGb,hGf,hgn⟩:=own_at H i hq
  have hset:=dead_at hq
  have hll:(xs.set c (.slice none 0 0)).length=l.length * 1:=reps_len (H.get j hf).1
  rw [List.length_set] at hll
  obtain ⟨F',hr,hs1,hs2⟩:=reps_set (H.get j hf).1 (show qR.rep w G [v] (⟨z⟩:OwnI e) from ⟨v,rfl,hG⟩) c qf
  have e1:(xs.set c (.slice none 0 0)).take (c * qR.size (OwnI e))++[v]++(xs.set c (.slice none 0 0)).drop (c * qR.size (OwnI e)+[v].length)=xs.set c v:=by
    show (xs.set c (.slice none 0 0)).take (c * 1)++[v]++(xs.set c (.slice none 0 0)).drop (c * 1+1)=xs.set c v
    rw [Nat.mul_one,List.take_set_of_le (Nat.le_refl _),List.drop_set_of_lt qf,List.set_eq_take_append_cons_drop,if_pos qf]
    simp
  rw [e1] at hr
  have hGF:∀ x∈G,x∉F:=fun x hx h=>(hF x h).2 i (hGb x hx)
  have hGL:∀ K∈L,∀ x∈K,x∉G:=fun K hK x hx h=>ha K hK x hx i (hGb x h)
  have hge:∀ x∈G,W0.heap.size≤x:=fun x hx=>(Ql H (hGb x hx)).1
  refine ⟨F',⟨fun K hK=>?_,fun K hK x hx=>?_,?_⟩,?_⟩
  · rcases List.mem_cons.1 hK with rfl | h
    · exact hs2 (N.nd F qm) hgn fun x hx h=>hGF x h hx
    · exact N.nd K (List.mem_cons_of_mem _ h)
  · rcases List.mem_cons.1 hK with rfl | h
    · rcases hs1 x hx with h | h
      · exact N.ge F qm x h
      · exact hge x h
    · exact N.ge K (List.mem_cons_of_mem _ h) x hx
  · have hd:=List.pairwise_cons.1 N.dj
    refine List.pairwise_cons.2 ⟨fun K hK x hx=>?_,hd.2⟩
    rcases hs1 x hx with h | h
    · exact hd.1 K hK x h
    · exact fun hxK=>hGL K hK x hxK h
  · refine (H.dead i hq).add _ ⟨hr,fun _ x hx=>?_⟩ fun x hx=>?_
    · rcases hs1 x hx with h | h
      · exact (H.get j hf).2 rfl x h
      · exact hGf x h
    · rcases hs1 x hx with h | h
      · exact ⟨(hF x h).1,fun i' hi' =>(hF x h).2 i' (hset x i' hi').2⟩
      · exact ⟨(Ql H (hGb x h)).2,fun i' hi' =>(hset x i' hi').1 (H.dist i' i x (hset x i' hi').2 (hGb x h))⟩
theorem inner_get {e:TypeId} (H:St W0 w ps Γ) (j:Nat) {F:yLN} {xs:List Value} {l:List (OwnI e)} (hf:Γ[j]? =some (xe true F xs l)) (c:Nat) (hc:c < l.length):
    ∃ G v,xs[c]? =some v∧OwnAt e w G v (l[c]!).l∧∀ x∈G,x∈F:=by
  obtain ⟨F1,Fk,F2,v1,cs,v2,hFe,hxe,hl1,hl2,⟨u,rfl,hu⟩,_,_⟩:=reps_get (H.get j hf).1 c hc
  have hl1' :v1.length=c:=by rw [hl1];exact Nat.mul_one _
  refine ⟨Fk,u,?_,by rw [getElem!_pos l c hc];exact hu,fun x hx=>by rw [hFe];simp [hx]⟩
  refine (congrArg (fun z:List Value=>z[c]?) hxe).trans ?_
  show (v1++[u]++v2)[c]? =_
  rw [List.append_assoc,List.getElem?_append_right qf]
  simp [hl1']
theorem St.innerHead {e:TypeId} (H:St W0 w ps Γ) (j:Nat) {F:yLN} {xs:List Value} {l:List (OwnI e)} (hf:Γ[j]? =some (xe true F xs l)) (c:Nat) (hc:c < l.length):∃ a m,xs[c]? =some (.slice a (l[c]!).l.length m):=by
  obtain ⟨G,v,h1,h2,_⟩:=inner_get H j hf c hc
  obtain ⟨a,m,rfl⟩:=h2.slice
  exact ⟨a,m,h1⟩
theorem St.innerAddr {e:TypeId} (H:St W0 w ps Γ) (j:Nat) {F:yLN} {xs:List Value} {l:List (OwnI e)} (hf:Γ[j]? =some (xe true F xs l)) (c:Nat) (hc:c < l.length) {a:yOA} {n m:Nat} (hx:xs[c]? =some (.slice a n m)) (h0:0 < (l[c]!).l.length):
    ∃ g,a=some ⟨g,0,none⟩:=by
  obtain ⟨G,v,h1,h2,_⟩:=inner_get H j hf c hc
  rw [hx] at h1
  obtain rfl:=Option.some.inj h1
  rcases h2 with ⟨_,h,_⟩ | ⟨g,cap,cur,h,_⟩
  · rw [h] at h0;simp at h0
  · simp only [Value.slice.injEq] at h
    exact ⟨g,h.1⟩
theorem St.innerInt {e:TypeId} (H:St W0 w ps Γ) (j:Nat) {F:yLN} {xs:List Value} {l:List (OwnI e)} (hf:Γ[j]? =some (xe true F xs l)) (c:Nat) (hc:c < l.length) {g n m:Nat} (hx:xs[c]? =some (.slice (some ⟨g,0,none⟩) n m)) {iv:Int} {k:Nat} (hk:iv.toNat=k) (h1:k < (l[c]!).l.length):
    w.cell? ⟨g,0+iv.toNat * 1,none⟩=some (.int .i64 ((l[c]!).l[k]!)):=by
  subst hk
  obtain ⟨G,v,h1',h2,_⟩:=inner_get H j hf c hc
  rw [hx] at h1'
  obtain rfl:=Option.some.inj h1'
  rcases h2 with ⟨h,_,_⟩ | ⟨g',cap,cur,h,_,hh,_,_,_,ht⟩
  · simp at h
  · simp only [Value.slice.injEq,Option.some.injEq,Addr.mk.injEq,and_true] at h
    obtain ⟨rfl,_,_⟩:=h
    rw [Nat.zero_add,Nat.mul_one,World.cell?,hh]
    have h3:((l[c]!).l.map (Value.int .i64))[iv.toNat]? =some (.int .i64 ((l[c]!).l[iv.toNat]!)):=by
      rw [List.getElem?_map,List.getElem?_eq_getElem h1,getElem!_pos (l[c]!).l iv.toNat h1];rfl
    rw [← ht,List.getElem?_take,if_pos h1] at h3
    simpa using h3
theorem St.innerRep {e:TypeId} (H:St W0 w ps Γ) (j:Nat) {F:yLN} {xs:List Value} {l:List (OwnI e)} (hf:Γ[j]? =some (xe true F xs l)) (c:Nat) (hc:c < l.length) {a:yOA} {n m:Nat} (hx:xs[c]? =some (.slice a n m)):
    ∃ G,n=(l[c]!).l.length∧qR.rep w G [.slice a (l[c]!).l.length m] (l[c]!).l:=by
  obtain ⟨G,v,h1,h2,_⟩:=inner_get H j hf c hc
  rw [hx] at h1
  obtain rfl:=Option.some.inj h1
  have h3:=h2.rep
  obtain ⟨a',m',h4⟩:=h2.slice
  simp only [Value.slice.injEq] at h4
  obtain ⟨rfl,rfl,rfl⟩:=h4
  exact ⟨G,rfl,h3⟩
end
section
variable {P : Program} {Q : Exit → Act → World → Prop} {n : Nat} {ρ : Env} {W0 w : World} {ps : List Prv} {Γ : List Fact}
  {d:Nat} {ty:TypeId} {pos:String} {af:Array Edge} {K:Env→World→Prop}
theorem o_storeII {t e e2:TypeId} {x y:Operand} {b c' :Nat} {nn:Nat} {xs:List Value} (H:St W0 w ps Γ) (k:Nat) (hp:ps[k]? =some (.row (.slice (some ⟨b,0,none⟩) nn c') e2 1 nn xs)) (j:Nat) {F:yLN} {l:List (OwnI e)} (hf:Γ[j]? =some (xe true F xs l))
    {L:List yLN} (N:Fresh W0.heap.size (F :: L)) (ha:∀ K∈L,∀ b∈K,∀ i,jb ps i≠some b) (Γ' :List Fact) (hΓ:∀ f∈Γ',f∈Γ∧∀ x∈f.F,x∉F)
    (c:Nat) (hc:c < nn) {g m m' :Nat} (hx:xs[c]? =some (.slice (some ⟨g,0,none⟩) m m')) {iv:Int} {q:Nat} (u:Int) (hs:∀ w,(Go.sizeOf t).run P w=.ok 1 w)
    (hxp:ev n ρ x=.pointer (some ⟨g,0+iv.toNat * 1,none⟩)) (hy:ev n ρ y=.int .i64 u) (hq:iv.toNat=q) (h2:q < (l[c]!).l.length)
    (kk:∀ w' F',Fresh W0.heap.size (F' :: L)→St W0 w' ps (xe true F' xs (l.set c ⟨(l[c]!).l.set q u⟩) :: Γ')→K ρ w'):
    OW P Q ⟨none,.store t x y,ty,pos,af,none⟩ n ρ w K:=by
  have hxl:=H.rowLen k hp
  have hnl:nn=l.length:=H.rowCountO k hp j hf
  have hF:=(H.facts _ (List.mem_of_getElem? hf)).2
  obtain ⟨a,mm,F1,hcell,N1,H1⟩:=H.openI k hp j hf N (iv:=(c:Int)) c rfl hc Γ' hΓ
  have hcell' :w.cell? ⟨b,c,none⟩=some (.slice (some ⟨g,0,none⟩) m m'):=H.rowGet k hp hx
  have ec:(0:Nat)+((c:Int)).toNat * 1=c:=by omega
  rw [ec,hcell'] at hcell
  simp only [Option.some.injEq,Value.slice.injEq] at hcell
  obtain ⟨rfl,rfl,rfl⟩:=hcell
  refine o_storeInt H1 0 rfl u hs hxp hy hq h2 fun w1 H2=>?_
  -- the blocks of the others are others
  obtain ⟨G,hG,hGb,_,_⟩:=own_at H2 0 rfl
  have hgG:G=[g]:=by
    rcases hG with ⟨h,_,_⟩ | ⟨g',cap,cur,h,h',_⟩
    · simp at h
    · simp only [Value.slice.injEq,Option.some.injEq,Addr.mk.injEq,and_true] at h
      rw [h',h.1]
  have hgF:g∈F:=by
    obtain ⟨G',v,h1,h3,h4⟩:=inner_get H j hf c qf
    rw [hx] at h1
    obtain rfl:=Option.some.inj h1
    rcases h3 with ⟨h,_,_⟩ | ⟨g',cap,cur,h,h',_⟩
    · simp at h
    · simp only [Value.slice.injEq,Option.some.injEq,Addr.mk.injEq,and_true] at h
      rw [h.1];exact h4 g' (by rw [h'];simp)
  have ha1:∀ K∈L,∀ x∈K,∀ i,jb ((.row (.slice (some ⟨g,0,none⟩) (l[c]!).l.length m') e 1 (l[c]!).l.length (((l[c]!).l.set q u).map (Value.int .i64))) :: ps) i≠some x:=by
    intro K hK x hx' i
    cases i with
    | zero=>
      intro h
      have h' :g=x:=by simpa [jb,Prv.blk,Value.ownBlock] using h
      subst h'
      exact (List.pairwise_cons.1 N.dj).1 K hK g hgF hx'
    | succ i=>exact ha K hK x hx' i
  obtain ⟨F2,N2,H3⟩:=H2.closeI 0 rfl 0 rfl N1 ha1 qf
  have e1:xs.set c (.slice (some ⟨g,0,none⟩) (l[c]!).l.length m')=xs:=by
    refine List.ext_getElem? fun i=>?_
    by_cases hi:c=i
    · subst hi;rw [List.getElem?_set_self qf,hx]
    · rw [List.getElem?_set_ne hi]
  have e2' :(l.set c ⟨[]⟩).set c (⟨(l[c]!).l.set q u⟩:OwnI e)=l.set c ⟨(l[c]!).l.set q u⟩:=by rw [List.set_set]
  rw [e1,e2'] at H3
  have H4:St W0 w1 ps (xe true F2 xs (l.set c ⟨(l[c]!).l.set q u⟩) :: Γ'):=by
    refine (H3.erases [0]).sub _ fun f hf' =>?_
    rcases List.mem_cons.1 hf' with rfl | h
    · exact List.mem_cons_self ..
    · exact List.mem_cons_of_mem _ (List.mem_cons_of_mem _ h)
  exact kk w1 F2 N2 H4
end
section
variable {B : Nat} {F : yLN} {L : List yLN}
theorem away_new (N:Fresh B (F :: L)) (i:Nat) {G:yLN} (h:L[i]? =some G):∀ x∈G,x∉F:=fun x hx hF=>(List.pairwise_cons.1 N.dj).1 G (List.mem_of_getElem? h) x hF hx
theorem kept {Γ:List Fact} (j:Nat) {f:Fact} (hf:Γ[j]? =some f) (h:∀ x∈f.F,x∉F):f∈Γ∧∀ x∈f.F,x∉F:=⟨List.mem_of_getElem? hf,h⟩
theorem keeps_nil {Γ:List Fact}:∀ f∈([]:List Fact),f∈Γ∧∀ x∈f.F,x∉F:=fun f hf=>by cases hf
theorem qY {Γ Δ:List Fact} {f:Fact} (h:f∈Γ∧∀ x∈f.F,x∉F) (k:∀ f∈Δ,f∈Γ∧∀ x∈f.F,x∉F):∀ g∈f :: Δ,g∈Γ∧∀ x∈g.F,x∉F:=fun g hg=>by
  rcases List.mem_cons.1 hg with rfl | hg
  · exact h
  · exact k g hg
end
theorem St.rebase {W0 w:World} {ps:List Prv} {Γ:List Fact} (H:St W0 w ps Γ) (Δ:List Fact) (h:∀ f∈Δ,f.φ w∧∀ b∈f.F,b < w.heap.size):St w w [] Δ:=
  ⟨Below.refl _ _,by simp,by intro i j b hi;simp [jb] at hi,fun f hf=>⟨(h f hf).1,fun b hb=>⟨(h f hf).2 b hb,fun i=>by simp [jb]⟩⟩⟩
theorem QU {W0 w:World} {ps:List Prv} {Γ:List Fact} (H:St W0 w ps Γ) (j:Nat) {f:Fact} (hf:Γ[j]? =some f):f.φ w∧∀ b∈f.F,b < w.heap.size:=⟨H.get j hf,fun b hb=>((H.facts f (List.mem_of_getElem? hf)).2 b hb).1⟩
theorem old_box {W0 w:World} {ps:List Prv} {Γ:List Fact} (H:St W0 w ps Γ) (k:Nat) {b:Nat} {cs:List Value} {t:TypeId} (hp:ps[k]? =some (.box b cs t)):(atF b 0 cs).φ w∧∀ x∈(atF b 0 cs).F,x < w.heap.size:=
  ⟨H.cells k hp,fun x hx=>by
    have hx' :x=b:=by simpa [atF] using hx
    subst hx'
    exact ((H.has _ (List.mem_of_getElem? hp)).lt rfl).2⟩
theorem olds_nil {w:World}:∀ f∈([]:List Fact),f.φ w∧∀ b∈f.F,b < w.heap.size:=fun f hf=>by cases hf
theorem yC {w:World} {Δ:List Fact} {f:Fact} (h:f.φ w∧∀ b∈f.F,b < w.heap.size) (k:∀ f∈Δ,f.φ w∧∀ b∈f.F,b < w.heap.size):∀ g∈f :: Δ,g.φ w∧∀ b∈g.F,b < w.heap.size:=fun g hg=>by
  rcases List.mem_cons.1 hg with rfl | hg
  · exact h
  · exact k g hg
theorem xR {B:Nat} {F G:yLN} {L:List yLN} (h:∀ b∈G,b < B) (N:Fresh B (F :: L)):∀ x∈G,x∉F:=fun x hx hF=>by
  have h1:=h x hx
  have h2:=N.ge F qm x hF
  omega
theorem St.ltF {W0 w:World} {ps:List Prv} {Γ:List Fact} (H:St W0 w ps Γ) (i:Nat) {f:Fact} (hf:Γ[i]? =some f):∀ b∈f.F,b < w.heap.size:=fun b hb=>((H.facts f (List.mem_of_getElem? hf)).2 b hb).1
theorem St.oldies {W0 w:World} {ps:List Prv} {Γ Δ:List Fact} (H:St W0 w ps Γ) (HB:St W0 W0 [] Δ) (n:Nat):St W0 w ps (Δ.take n++Γ):=
  ⟨H.base,H.has,H.dist,fun f hf=>by
    rcases List.mem_append.1 hf with h | h
    · have h1:=HB.facts f (List.mem_of_mem_take h)
      exact ⟨f.stay W0 w h1.1 fun b hb=>H.base.block b (h1.2 b hb).1,fun b hb=>⟨Nat.lt_of_lt_of_le (h1.2 b hb).1 H.base.size,fun i hi=>by
        have h2:=(Ql H hi).1
        have h3:=(h1.2 b hb).1
        omega⟩⟩
    · exact H.facts f h⟩
end
section

def sumN (f:Nat→Int):Nat→Int
  | 0=>0
  | n+1=>sumN f n+f n
theorem sumN_zero (n:Nat):sumN (fun _=>0) n=0:=by
  induction n with
  | zero=>rfl
  | succ n ih=>rw [sumN,ih];rfl
theorem sumN_add (f g:Nat→Int) (n:Nat):sumN (fun c=>f c+g c) n=sumN f n+sumN g n:=by
  induction n with
  | zero=>rfl
  | succ n ih=>rw [sumN,sumN,sumN,ih];omega
theorem sumN_one (x v:Int) (n:Nat):sumN (fun c=>if x=(c:Int) then v else 0) n=if 0≤x∧x < n then v else 0:=by
  induction n with
  | zero=>rw [sumN,if_neg qf]
  | succ n ih=>
    rw [sumN,ih]
    by_cases e:x=(n:Int)
    · rw [if_neg qf,if_pos e,if_pos qf];omega
    · rw [if_neg e]
      by_cases h:0≤x∧x < n
      · rw [if_pos h,if_pos qf];omega
      · rw [if_neg h,if_neg qf];rfl
theorem puts_sum {s:qy} {t:qA} {counts:yLI} {n:Nat} (p q:Nat):∀ k,(∀ i,i < k→0≤(s.qw[i]!).qE∧(s.qw[i]!).qE < (n:Int))→
    sumN (fun c=>Qw s t counts (c:Int) k p q) n=putS s t counts k p q
  | 0,_=>by simp only [Qw,putS,sumN_zero]
  | k+1,h=>by
    have ih:=puts_sum (t:=t) (counts:=counts) p q k fun i hi=>h i qf
    simp only [Qw,putS]
    rw [sumN_add,ih,sumN_one,if_pos (h k qf)]
theorem due_step {s:qy} {t:qA} {counts:yLI} (hs:ve s) (p q:Nat):
    base0 s t p q+needS s counts s.qw.length p q+sumN (fun c=>Qw s t counts (c:Int) s.qw.length p q) (xJ s)=stepF s t counts p q:=by
  rw [puts_sum p q _ fun i hi=>?_]
  · rw [stepF,allS_eq];omega
  · have:=(hs.2.2 i hi).1.1
    have hn:xJ s=s.qx.length:=rfl
    unfold Q5 at this
    omega
theorem still_down {s:qy} {counts:yLI} {u:qA} (h:∀ i,i < s.qw.length→(s.qw[i]!).xU=false):∀ j,xC s counts u j=u
  | 0=>rfl
  | j+1=>by
    rw [meltDown_no (fun hm=>?_) rfl]
    · exact still_down h j
    · obtain ⟨i,h1,_,h3,_⟩:=hm
      rw [h i h1] at h3;cases h3

theorem needS_nonpos {s:qy} {counts:yLI} (hs:ve s) (hc:CntOk s counts) (p q:Nat) (hq:q < xY s):∀ k,k≤s.qw.length→needS s counts k p q≤0
  | 0,_=>by simp [needS]
  | k+1,h=>by
    have ih:=needS_nonpos hs hc p q hq k qf
    have hb:=hc.bd (i:=k) qf
    have hn:=(hs.rule (i:=k) qf).2.2.2.2.1
    have hg:=hn.get (k:=q) (by rw [hn.len];exact hq)
    rw [needS]
    have:needF s counts k p q≤0:=by
      unfold needF at'
      split
      · have:=Int.mul_nonneg hb.1 hg.1
        rw [Int.neg_mul];omega
      · exact Int.le_refl _
    omega
theorem needS_one {s:qy} {counts:yLI} (hs:ve s) (hc:CntOk s counts) (p q:Nat) (hq:q < xY s):∀ k,k≤s.qw.length→∀ i,i < k→needS s counts k p q≤needF s counts i p q
  | 0,_,i,hi=>by omega
  | k+1,h,i,hi=>by
    have hz:=needS_nonpos hs hc p q hq k qf
    have hz' :=needS_nonpos hs hc p q hq (k+1) h
    rw [needS] at hz' ⊢
    by_cases e:i=k
    · subst e;omega
    · have ih:=needS_one hs hc p q hq k qf i qf
      have hb:=hc.bd (i:=k) qf
      have hn:=(hs.rule (i:=k) qf).2.2.2.2.1
      have hg:=hn.get (k:=q) (by rw [hn.len];exact hq)
      have:needF s counts k p q≤0:=by
        unfold needF at'
        split
        · have:=Int.mul_nonneg hb.1 hg.1
          rw [Int.neg_mul];omega
        · exact Int.le_refl _
      omega
theorem needS_around {s:qy} {counts:yLI} (hs:ve s) (q:Nat):∀ k,k≤s.qw.length→needS s counts k (xJ s) q=0
  | 0,_=>rfl
  | k+1,h=>by
    have hr:=(hs.rule (i:=k) qf).cell
    rw [needS,needS_around hs q k qf]
    unfold needF at'
    rw [if_neg qf];rfl
theorem sum_some {l:yLI} (h0:∀ k,k < l.length→0≤l[k]!) (h:sumL l≠0):∃ k,k < l.length∧1≤l[k]! :=by
  apply Classical.byContradiction
  intro hn
  have hz:∀ k,k < l.length→l[k]! =0:=fun k hk=>by
    have h1:=h0 k hk
    have h2:¬ 1≤l[k]! :=fun x=>hn ⟨k,hk,x⟩
    omega
  have:∀ n,n≤l.length→sumTo l n=0:=by
    intro n
    induction n with
    | zero=>intro _;simp [sumTo]
    | succ n ih=>intro hk;simp only [sumTo,ih qf,hz n qf];rfl
  exact h (this _ (Nat.le_refl _))
def FewM (M:Int) (s:qy) (t:qA):Prop:=∀ p q,p≤xJ s→q < xY s→base0 s t p q≤M
def PutsD (D:Int) (s:qy):Prop:=∀ i,i < s.qw.length→∀ q,q < xY s→((s.qw[i]!).xW)[q]! ≤D∧((s.qw[i]!).vC)[q]! ≤D∧∀ j,j < (s.qw[i]!).qK.length→(((s.qw[i]!).qK[j]!).yx)[q]! ≤D
theorem rest_get {s:qy} {t:qA} {counts:yLI} (hs:ve s) (ht:xP s t) (hc:CntOk s counts) (h:IsCh s t counts) {p q:Nat} (hp:p < xJ s) (hq:q < xY s):0≤base0 s t p q+needS s counts s.qw.length p q:=by
  have e:=(restR_ent hs ht hc s.qw.length (Nat.le_refl _)).eq p q hp hq
  have hl:=((restR_ent hs ht hc s.qw.length (Nat.le_refl _)).sh.2 p hp).1
  have hn:=h.2
  rw [hc.1] at hn
  have:=hn p (by rw [ht.2.1];exact hp) q (by rw [hl];exact hq)
  rw [e] at this
  unfold base0
  rw [if_pos hp]
  exact this
theorem cnt_few {s:qy} {t:qA} {counts:yLI} {M:Int} (hs:ve s) (ht:xP s t) (hc:CntOk s counts) (h:IsCh s t counts) (hM:FewM M s t) {i:Nat} (hi:i < s.qw.length):counts[i]! ≤M:=by
  have hr:=hs.rule hi
  have hn:=hr.2.2.2.2.1
  obtain ⟨k,hk,h1⟩:=sum_some (fun k hk=>(hn.get hk).1) hr.2.2.2.2.2.2.2.2.2.1
  have hq:k < xY s:=by rw [hn.len] at hk;exact hk
  have hp:=hr.cell
  have e1:=rest_get hs ht hc h hp hq
  have e2:=needS_one hs hc (s.qw[i]!).qE.toNat k hq s.qw.length (Nat.le_refl _) i hi
  have e3:=hM (s.qw[i]!).qE.toNat k qf hq
  have e4:needF s counts i (s.qw[i]!).qE.toNat k= -(counts[i]! * ((s.qw[i]!).xn)[k]!):=by
    unfold needF at'
    rw [if_pos rfl,Int.neg_mul]
  have hb:=hc.bd hi
  have e5:=Int.mul_le_mul_of_nonneg_left h1 hb.1
  omega
theorem at_bd {p c:Nat} {x B:Int} (h:0≤x∧x≤B):0≤at' p c x∧at' p c x≤B:=by
  unfold at'
  split <;> omega
theorem mul_bd {c m M D:Int} (hc:0≤c∧c≤M) (hm:0≤m∧m≤D):0≤c * m∧c * m≤M * D:=by
  refine ⟨Int.mul_nonneg hc.1 hm.1,?_⟩
  have h1:=Int.mul_le_mul_of_nonneg_left hm.2 hc.1
  have h2:=Int.mul_le_mul_of_nonneg_right hc.2 (show 0≤D by omega)
  omega
theorem putF_bd {s:qy} {t:qA} {M D c:Int} (hs:ve s) (hD:PutsD D s) {i:Nat} (hi:i < s.qw.length) (hc:0≤c∧c≤M) (p q:Nat) (hq:q < xY s):0≤putF s t (s.qw[i]!) c p q∧putF s t (s.qw[i]!) c p q≤5 * (M * D):=by
  have hr:=hs.rule hi
  obtain ⟨d1,d2,d3⟩:=hD i hi q hq
  have b1:=hr.2.2.2.2.2.2.2.1
  have b2:=hr.2.2.2.2.2.2.2.2.1
  have h1:=at_bd (p:=p) (c:=(s.qw[i]!).qE.toNat) (mul_bd hc ⟨(b1.get (k:=q) (by rw [b1.len];exact hq)).1,d1⟩)
  have h2:=at_bd (p:=p) (c:=outPl s t (s.qw[i]!)) (mul_bd hc ⟨(b2.get (k:=q) (by rw [b2.len];exact hq)).1,d2⟩)
  have hI:∀ j,j≤(s.qw[i]!).qK.length→0≤intoF (s.qw[i]!) c j p q∧intoF (s.qw[i]!) c j p q≤(j:Int) * (M * D):=by
    intro j
    induction j with
    | zero=>intro _;simp [intoF]
    | succ j ih=>
      intro hj
      have hio:=hr.2.2.2.2.2.2.2.2.2.2 j qf
      have b3:=hio.2.2.1
      have h3:=at_bd (p:=p) (c:=((s.qw[i]!).qK[j]!).qE.toNat) (mul_bd hc ⟨(b3.get (k:=q) (by rw [b3.len];exact hq)).1,d3 j qf⟩)
      have:=ih qf
      rw [intoF]
      have e:((j+1:Nat):Int) * (M * D)=(j:Int) * (M * D)+M * D:=by push_cast;rw [Int.add_mul,Int.one_mul]
      rw [e]
      omega
  have h4:=hI _ (Nat.le_refl _)
  have hl:=hr.2.2.2.1
  have hMD:0≤M * D:=by omega
  have h5:((s.qw[i]!).qK.length:Int) * (M * D)≤3 * (M * D):=Int.mul_le_mul_of_nonneg_right qf hMD
  unfold putF
  omega
theorem putS_bd {s:qy} {t:qA} {M D:Int} {counts:yLI} (hs:ve s) (hD:PutsD D s) (hc:∀ i,i < s.qw.length→0≤counts[i]! ∧counts[i]! ≤M) (p q:Nat) (hq:q < xY s):∀ k,k≤s.qw.length→0≤putS s t counts k p q∧putS s t counts k p q≤(k:Int) * (5 * (M * D))
  | 0,_=>by simp [putS]
  | k+1,h=>by
    have ih:=putS_bd (t:=t) hs hD hc p q hq k qf
    have:=putF_bd (t:=t) hs hD (i:=k) qf (hc k qf) p q hq
    rw [putS]
    have e:((k+1:Nat):Int) * (5 * (M * D))=(k:Int) * (5 * (M * D))+5 * (M * D):=by push_cast;rw [Int.add_mul,Int.one_mul]
    rw [e]
    omega
theorem step_few {s:qy} {t:qA} {counts:yLI} (hs:ve s) (ht:xP s t) (hc:CntOk s counts) (h:IsCh s t counts) (hM:FewM 6 s t) (hD:PutsD 2 s) {p q:Nat} (hp:p≤xJ s) (hq:q < xY s):0≤stepF s t counts p q∧stepF s t counts p q≤966:=by
  have hb:∀ i,i < s.qw.length→0≤counts[i]! ∧counts[i]! ≤6:=fun i hi=>⟨(hc.bd hi).1,cnt_few hs ht hc h hM hi⟩
  have h1:=putS_bd (t:=t) hs hD hb p q hq s.qw.length (Nat.le_refl _)
  have h2:=hM p q hp hq
  have h3:=needS_nonpos hs hc p q hq s.qw.length (Nat.le_refl _)
  have hl:=hs.2.1
  have h4:0≤base0 s t p q+needS s counts s.qw.length p q:=by
    by_cases e:p < xJ s
    · exact rest_get hs ht hc h e hq
    · obtain rfl:p=xJ s:=by omega
      rw [needS_around hs q _ (Nat.le_refl _)]
      unfold base0
      rw [if_neg qf]
      have:=ht.around.2 q hq
      omega
  rw [stepF,allS_eq]
  omega
theorem tab2_line {n K:Nat} {f:Nat→Nat→Int} {p:Nat} (h:p < n):(tab2 n K f)[p]! =(List.range K).map (f p):=by
  rw [getElem!_pos _ _ (by rw [tab2_len];exact h)];simp [tab2]
theorem tab2_at {n K:Nat} {f:Nat→Nat→Int} {p q:Nat} (h:p < n) (hq:q < K):((tab2 n K f)[p]!)[q]! =f p q:=by
  rw [tab2_line h,getElem!_pos _ _ (by simpa using hq)];simp
theorem stepped_row {s:qy} {t:qA} {counts:yLI} {p:Nat} (h:p < xJ s):(xw s t counts).qL[p]! =(List.range (xY s)).map (stepF s t counts p):=by
  have hl:=tab2_len (xJ s+1) (xY s) (stepF s t counts)
  show ((tab2 (xJ s+1) (xY s) (stepF s t counts)).take (xJ s))[p]! =_
  rw [getElem!_pos _ _ (by rw [List.length_take,hl];omega),List.getElem_take,← getElem!_pos,tab2_line qf]
theorem QF {K:Nat} {g:Nat→Int} {q:Nat} (h:q < K):((List.range K).map g)[q]! =g q:=by
  rw [getElem!_pos _ _ (by simpa using h)];simp
theorem stepped_around {s:qy} {t:qA} {counts:yLI}:(xw s t counts).qH=(List.range (xY s)).map (stepF s t counts (xJ s)):=by
  show (tab2 (xJ s+1) (xY s) (stepF s t counts))[xJ s]! =_
  rw [tab2_line qf]

theorem appl_of {s:qy} {t:qA} {counts:yLI} (hc:CntOk s counts) (h:IsCh s t counts) {i:Nat} (hi:i < s.qw.length) (h0:counts[i]! ≠0):EnOk s t (s.qw[i]!):=by
  have hb:=hc.bd hi
  have:=h.1 i (by rw [hc.1];exact hi)
  unfold BadAt at this
  apply Classical.byContradiction
  intro hn
  exact this ⟨by omega,fun ha=>hn ha.1⟩
theorem dead_none {s:qy} {t:qA} {counts:yLI} (hs:ve s) (ht:xP s t) (hc:CntOk s counts) (h:IsCh s t counts) {p:Nat} (hp:p < xJ s) (hd:t.qF[p]! =false) (q:Nat):
    ∀ k,k≤s.qw.length→needS s counts k p q=0∧putS s t counts k p q=0
  | 0,_=>⟨rfl,rfl⟩
  | k+1,hk=>by
    obtain ⟨i1,i2⟩:=dead_none hs ht hc h hp hd q k qf
    rw [needS,putS,i1,i2]
    by_cases h0:counts[k]! =0
    · rw [putF_zero s t _ h0]
      unfold needF
      rw [h0]
      refine ⟨?_,rfl⟩
      unfold at'
      split <;> simp
    · have he:=appl_of hc h (i:=k) qf h0
      have hr:=hs.rule (i:=k) qf
      have hcell:p≠(s.qw[k]!).qE.toNat:=fun e=>by
        subst e
        have h1:=he.1
        rw [hd] at h1;cases h1
      have hout:p≠outPl s t (s.qw[k]!):=by
        intro e
        unfold outPl at e
        split at e
        · omega
        · rename_i hne
          have hcc:=hr.1
          have:=QZ (t:=t) hs.1 ht.2.2.1 (show 0 < (s.qw[k]!).qE by have:=hcc.1;omega) hcc.2
          rw [← e,hd] at this
          exact absurd this.2.2 qj
      have hinto:∀ j,j≤(s.qw[k]!).qK.length→intoF (s.qw[k]!) (counts[k]!) j p q=0:=by
        intro j
        induction j with
        | zero=>intro _;rfl
        | succ j ih=>
          intro hj
          rw [intoF,ih qf]
          have ha:=(he.2.2.2.2 j qf).1
          unfold at'
          rw [if_neg (fun e=>by rw [e] at hd;rw [hd] at ha;cases ha)]
          rfl
      unfold needF putF at'
      rw [if_neg hcell,if_neg hcell,if_neg hout,hinto _ (Nat.le_refl _)]
      exact ⟨rfl,rfl⟩
theorem dead_zero {s:qy} {t:qA} (ht:xP s t) {p q:Nat} (hp:p < xJ s) (hd:t.qF[p]! =false) (hq:q < xY s):base0 s t p q=0:=by
  have hb:=ht.2.2.2.2 p (by rw [ht.2.1];exact hp)
  have hl:=hb.1.len
  unfold base0
  rw [if_pos hp]
  have h0:=hb.1.get (k:=q) (by rw [hl];exact hq)
  apply Classical.byContradiction
  intro hn
  have hs0:sumL (t.qL[p]!)≤0:=hb.2 hd
  have hmono:∀ n,n≤(t.qL[p]!).length→0≤sumTo (t.qL[p]!) n∧(q < n→(t.qL[p]!)[q]! ≤sumTo (t.qL[p]!) n):=by
    intro n
    induction n with
    | zero=>intro _;exact ⟨by simp [sumTo],fun x=>by omega⟩
    | succ n ih=>
      intro hn
      have i:=ih qf
      have g:=(hb.1.get (k:=n) qf).1
      refine ⟨by simp only [sumTo];omega,fun x=>?_⟩
      simp only [sumTo]
      by_cases e:q=n
      · subst e;omega
      · have:=i.2 qf;omega
  have:=(hmono _ (Nat.le_refl _)).2 (by rw [hl];exact hq)
  unfold sumL at hs0
  omega

theorem sumN_le {f g:Nat→Int} {n:Nat} (h:∀ p,p < n→f p≤g p):sumN f n≤sumN g n:=by
  induction n with
  | zero=>exact Int.le_refl _
  | succ n ih=>rw [sumN,sumN];have:=ih fun p hp=>h p qf;have:=h n qf;omega
theorem sumN_const (v:Int) (n:Nat):sumN (fun _=>v) n=n * v:=by
  induction n with
  | zero=>simp [sumN]
  | succ n ih=>rw [sumN,ih];push_cast;rw [Int.add_mul,Int.one_mul]
theorem sumN_at {c n:Nat} {x B:Int} (h:0≤x∧x≤B):sumN (fun p=>at' p c x) n≤B:=by
  have e:∀ n,sumN (fun p=>at' p c x) n=if c < n then x else 0:=by
    intro n
    induction n with
    | zero=>rw [if_neg qf];rfl
    | succ n ih=>
      rw [sumN,ih]
      unfold at'
      by_cases e:n=c
      · subst e;rw [if_neg qf,if_pos rfl,if_pos qf];omega
      · rw [if_neg e]
        by_cases h1:c < n
        · rw [if_pos h1,if_pos qf];omega
        · rw [if_neg h1,if_neg qf];rfl
  rw [e]
  split <;> omega
theorem sumN_into {s:qy} {M D c:Int} (hs:ve s) (hD:PutsD D s) {i:Nat} (hi:i < s.qw.length) (hc:0≤c∧c≤M) (q:Nat) (hq:q < xY s) (n:Nat):∀ j,j≤(s.qw[i]!).qK.length→
    sumN (fun p=>intoF (s.qw[i]!) c j p q) n≤(j:Int) * (M * D)
  | 0,_=>by simp only [intoF,sumN_zero];simp
  | j+1,hj=>by
    have hio:=(hs.rule hi).2.2.2.2.2.2.2.2.2.2 j qf
    have b3:=hio.2.2.1
    have h3:=sumN_at (c:=((s.qw[i]!).qK[j]!).qE.toNat) (n:=n) (mul_bd hc ⟨(b3.get (k:=q) (by rw [b3.len];exact hq)).1,(hD i hi q hq).2.2 j qf⟩)
    have ih:=sumN_into hs hD hi hc q hq n j qf
    simp only [intoF]
    rw [sumN_add]
    have e:((j+1:Nat):Int) * (M * D)=(j:Int) * (M * D)+M * D:=by push_cast;rw [Int.add_mul,Int.one_mul]
    rw [e]
    omega
theorem sumN_putF {s:qy} {t:qA} {M D c:Int} (hs:ve s) (hD:PutsD D s) {i:Nat} (hi:i < s.qw.length) (hc:0≤c∧c≤M) (q:Nat) (hq:q < xY s) (n:Nat):sumN (fun p=>putF s t (s.qw[i]!) c p q) n≤5 * (M * D):=by
  have hr:=hs.rule hi
  obtain ⟨d1,d2,d3⟩:=hD i hi q hq
  have b1:=hr.2.2.2.2.2.2.2.1
  have b2:=hr.2.2.2.2.2.2.2.2.1
  have m1:=mul_bd hc ⟨(b1.get (k:=q) (by rw [b1.len];exact hq)).1,d1⟩
  have h1:=sumN_at (c:=(s.qw[i]!).qE.toNat) (n:=n) m1
  have h2:=sumN_at (c:=outPl s t (s.qw[i]!)) (n:=n) (mul_bd hc ⟨(b2.get (k:=q) (by rw [b2.len];exact hq)).1,d2⟩)
  have h3:=sumN_into hs hD hi hc q hq n _ (Nat.le_refl _)
  have hl:=hr.2.2.2.1
  have h5:((s.qw[i]!).qK.length:Int) * (M * D)≤3 * (M * D):=Int.mul_le_mul_of_nonneg_right qf qf
  simp only [putF]
  rw [sumN_add,sumN_add]
  omega
theorem sumN_putS {s:qy} {t:qA} {M D:Int} {counts:yLI} (hs:ve s) (hD:PutsD D s) (hc:∀ i,i < s.qw.length→0≤counts[i]! ∧counts[i]! ≤M) (q:Nat) (hq:q < xY s) (n:Nat):∀ k,k≤s.qw.length→
    sumN (fun p=>putS s t counts k p q) n≤(k:Int) * (5 * (M * D))
  | 0,_=>by simp only [putS,sumN_zero];simp
  | k+1,h=>by
    have ih:=sumN_putS (t:=t) hs hD hc q hq n k qf
    have:=sumN_putF (t:=t) hs hD (i:=k) qf (hc k qf) q hq n
    simp only [putS]
    rw [sumN_add]
    have e:((k+1:Nat):Int) * (5 * (M * D))=(k:Int) * (5 * (M * D))+5 * (M * D):=by push_cast;rw [Int.add_mul,Int.one_mul]
    rw [e]
    omega
theorem colTo_sum (t:qA) (q:Nat):∀ n,colTo t q n=sumN (fun p=>(t.qL[p]!)[q]!) n
  | 0=>rfl
  | n+1=>by rw [colTo,sumN,colTo_sum t q n]
theorem stepped_col {s:qy} {t:qA} {counts:yLI} (hs:ve s) (ht:xP s t) (hc:CntOk s counts) (h:IsCh s t counts) (hM:FewM 6 s t) (hD:PutsD 2 s) {q:Nat} (hq:q < xY s):colTo (xw s t counts) q (xJ s)≤996:=by
  have hb:∀ i,i < s.qw.length→0≤counts[i]! ∧counts[i]! ≤6:=fun i hi=>⟨(hc.bd hi).1,cnt_few hs ht hc h hM hi⟩
  rw [colTo_sum]
  have h1:sumN (fun p=>((xw s t counts).qL[p]!)[q]!) (xJ s)≤sumN (fun p=>6+putS s t counts s.qw.length p q) (xJ s):=sumN_le fun p hp=>by
    rw [stepped_row hp,QF hq]
    have a1:=hM p q qf hq
    have a2:=needS_nonpos hs hc p q hq s.qw.length (Nat.le_refl _)
    rw [stepF,allS_eq]
    omega
  rw [sumN_add,sumN_const] at h1
  have h2:=sumN_putS (t:=t) hs hD hb q hq (xJ s) s.qw.length (Nat.le_refl _)
  have hl:=hs.2.1
  have hn:=hs.1.2.1
  have hcn:xJ s=s.qx.length:=rfl
  omega
theorem stepped_ok {s:qy} {t:qA} {counts:yLI} (hs:ve s) (ht:xP s t) (hc:CntOk s counts) (h:IsCh s t counts) (hM:FewM 6 s t) (hD:PutsD 2 s):xP s (xw s t counts):=by
  have hK:=hs.1.1
  have hkn:xY s=s.qV.toNat:=rfl
  have hbag:∀ p,p≤xJ s→zA s.qV ((List.range (xY s)).map (stepF s t counts p)):=fun p hp=>by
    refine ⟨⟨fun j hj=>?_,by simp;omega,by simp;omega⟩,by simp;omega⟩
    have hj' :j < xY s:=by simpa using hj
    rw [QF hj']
    have:=step_few hs ht hc h hM hD hp hj'
    omega
  have hl:(xw s t counts).qL.length=xJ s:=by
    show ((tab2 _ _ _).take _).length=_
    rw [List.length_take,tab2_len];omega
  refine ⟨ht.1,hl,ht.2.2.1,by rw [stepped_around];exact hbag _ (Nat.le_refl _),fun p hp=>?_⟩
  rw [hl] at hp
  rw [stepped_row hp]
  refine ⟨hbag p qf,fun hd=>?_⟩
  have hd' :t.qF[p]! =false:=hd
  have hz:∀ n,sumTo ((List.range (xY s)).map (stepF s t counts p)) n≤0:=by
    intro n
    induction n with
    | zero=>simp [sumTo]
    | succ n ih=>
      simp only [sumTo]
      by_cases e:n < xY s
      · rw [QF e]
        obtain ⟨z1,z2⟩:=dead_none hs ht hc h hp hd' n s.qw.length (Nat.le_refl _)
        rw [stepF,allS_eq,z1,z2,dead_zero ht hp hd' e]
        omega
      · rw [getElem!_neg _ _ (by simpa using e)]
        show _+(0:Int)≤0
        omega
  exact hz _

theorem col_two {t:qA} {q:Nat} (h0:∀ p,p < t.qL.length→0≤(t.qL[p]!)[q]!):∀ n,n≤t.qL.length→0≤colTo t q n∧(∀ a,a < n→(t.qL[a]!)[q]! ≤colTo t q n)∧∀ a b,a < b→b < n→(t.qL[a]!)[q]! +(t.qL[b]!)[q]! ≤colTo t q n
  | 0,_=>⟨by simp [colTo],fun a ha=>by omega,fun a b _ hb=>by omega⟩
  | n+1,hn=>by
    obtain ⟨i0,i1,i2⟩:=col_two h0 n qf
    have g:=h0 n qf
    rw [colTo]
    refine ⟨by omega,fun a ha=>?_,fun a b hab hb=>?_⟩
    · by_cases e:a=n
      · subst e;omega
      · have:=i1 a qf;omega
    · by_cases e:b=n
      · subst e
        have:=i1 a qf;omega
      · have:=i2 a b hab qf;omega
theorem Qc.ok1000 {s:qy} {t:qA} {c:Int} (h:Qc s t c) (hf:∀ q,q < xY s→colTo t q (xJ s)≤1000):xP s (melted s t c):=by
  have hcn:xJ s=s.qx.length:=rfl
  have hp:=h.par
  have hc:=h.cell
  have ht:=h.state
  have e1:(melted s t c).qF.length=t.qF.length:=by simp [melted]
  have e2:(melted s t c).qL.length=t.qL.length:=by simp [melted]
  refine ⟨by rw [e1];exact ht.1,by rw [e2];exact ht.2.1,by rw [h.alive',if_neg (by have:=h.pos;omega)];exact ht.2.2.1,ht.2.2.2.1,fun k hk=>?_⟩
  rw [e2] at hk
  rw [h.bags',h.alive']
  have hkk:=ht.2.1
  by_cases g1:c.toNat=k
  · rw [if_pos g1,if_pos g1]
    have hK:=h.frame.1
    refine ⟨⟨⟨fun j hj=>by rw [rep_get];omega,by simp;omega,by simp;omega⟩,by simp;omega⟩,fun _=>?_⟩
    have hz:∀ n,sumTo (List.replicate s.qV.toNat 0) n=0:=by
      intro n
      induction n with
      | zero=>simp [sumTo]
      | succ n ih=>simp only [sumTo,ih,rep_get];omega
    unfold sumL
    rw [hz]
    omega
  · rw [if_neg g1,if_neg g1]
    by_cases g2:(qZ s t c).toNat=k
    · rw [if_pos g2]
      subst g2
      have bp:=ht.bagLen hk
      have bc:=ht.bagLen (k:=c.toNat) qf
      refine ⟨⟨⟨fun j hj=>?_,by rw [yc];exact bp.1.2.1,by rw [yc];exact bp.1.2.2⟩,by rw [yc];exact bp.2⟩,fun hd=>?_⟩
      · rw [yc] at hj
        rw [plusL_get hj]
        have hj2:j < (t.qL[c.toNat]!).length:=by have:=bp.2;have:=bc.2;omega
        have hjk:j < xY s:=by rw [bp.len] at hj;exact hj
        have a1:=bp.1.1 j hj
        have a2:=bc.1.1 j hj2
        have a3:=hf j hjk
        have a4:=(col_two (t:=t) (q:=j) (fun p hp=>by
          have b:=ht.bagLen hp
          exact (b.get (k:=j) (by rw [b.len];exact hjk)).1) (xJ s) (by rw [hkk];exact Nat.le_refl _)).2.2 (qZ s t c).toNat c.toNat qf qf
        omega
      · rw [hp.2.2] at hd;cases hd
    · rw [if_neg g2]
      exact ht.2.2.2.2 k hk
theorem down_ok {s:qy} {t:qA} {counts:yLI} (hs:ve s) (ht:xP s t) (hc:CntOk s counts) (h:IsCh s t counts) (hM:FewM 6 s t) (hD:PutsD 2 s):∀ j,j+1≤xJ s→
    xP s (xC s counts (xw s t counts) j)∧(∀ q,q < xY s→colTo (xC s counts (xw s t counts) j) q (xJ s)≤1000)∧∀ c,c+j < xJ s→(xC s counts (xw s t counts) j).qF[c]! =t.qF[c]!
  | 0,_=>⟨stepped_ok hs ht hc h hM hD,fun q hq=>by have:=stepped_col hs ht hc h hM hD hq;rw [xC];omega,fun c _=>rfl⟩
  | j+1,hj=>by
    obtain ⟨i1,i2,i3⟩:=down_ok hs ht hc h hM hD j qf
    by_cases hm:Melts s counts ((xJ s:Int) - 1 - j)
    · rw [meltDown_yes hm rfl]
      obtain ⟨i,hi,h0,h2,h3⟩:=hm
      have he:=appl_of hc h hi qf
      have hcn:xJ s=s.qx.length:=rfl
      have ha:t.qF[((xJ s:Int) - 1 - j).toNat]! =true:=by rw [← h3];exact he.1
      have cm:Qc s (xC s counts (xw s t counts) j) ((xJ s:Int) - 1 - j):=⟨hs.1,i1,⟨by omega,by omega⟩,by omega,by rw [i3 _ qf];exact ha⟩
      refine ⟨cm.ok1000 i2,fun q hq=>?_,fun c hcc=>?_⟩
      · have hpar:=cm.par
        rw [cm.col hq,if_pos qf,if_pos qf]
        have:=i2 q hq
        omega
      · rw [cm.alive',if_neg qf]
        exact i3 c qf
    · rw [meltDown_no hm rfl]
      exact ⟨i1,i2,fun c hcc=>i3 c qf⟩
theorem step_fine {s:qy} {t:qA} {counts:yLI} (hs:ve s) (ht:xP s t) (hc:CntOk s counts) (h:IsCh s t counts) (hM:FewM 6 s t) (hD:PutsD 2 s):(y5 s t counts).2=0:=by
  rw [stepBy_yes h]
  unfold stepRes
  have hn:=hs.1.2.1
  have hcn:xJ s=s.qx.length:=rfl
  rw [told_yes (down_ok hs ht hc h hM hD (xJ s - 1) qf).1]
theorem putsOf_bd {s:qy} {t:qA} {M D:Int} {counts:yLI} (hs:ve s) (hD:PutsD D s) (hc:∀ i,i < s.qw.length→0≤counts[i]! ∧counts[i]! ≤M) (cell:Int) (p q:Nat) (hq:q < xY s):∀ k,k≤s.qw.length→
    0≤Qw s t counts cell k p q∧Qw s t counts cell k p q≤putS s t counts k p q
  | 0,_=>by simp [Qw,putS]
  | k+1,h=>by
    have ih:=putsOf_bd (t:=t) hs hD hc cell p q hq k qf
    have:=putF_bd (t:=t) hs hD (i:=k) qf (hc k qf) p q hq
    rw [Qw,putS]
    split <;> omega
theorem putsL_at {s:qy} {t:qA} {counts:yLI} {cell:Int} {p q:Nat} (hp:p≤xJ s) (hq:q < xY s):((putsL s t counts cell)[p]!)[q]! =Qw s t counts cell s.qw.length p q:=tab2_at qf hq
theorem puts_law {s:qy} {t:qA} (hs:ve s) (hst:Still s) (ht:xP s t) (hw:Whole t) (hM:FewM 6 s t) (hD:PutsD 2 s):
    (y5 s t (qP s t)).2=0∧(y5 s t (qP s t)).1=xw s t (qP s t)∧xP s (xw s t (qP s t))∧(∀ cell,Q5 s cell→xO s t cell=(putsL s t (qP s t) cell,0))∧
    ∀ p q,p≤xJ s→q < xY s→base0 s t p q+needS s (qP s t) s.qw.length p q+sumN (fun c=>((putsL s t (qP s t) (c:Int))[p]!)[q]!) (xJ s)=stepF s t (qP s t) p q:=by
  have hch:=first_isCh hs ht
  have hc:CntOk s (qP s t):=first_cnt hs ht
  have hf:=step_fine hs ht hc hch hM hD
  have hb:∀ i,i < s.qw.length→0≤(qP s t)[i]! ∧(qP s t)[i]! ≤6:=fun i hi=>⟨(hc.bd hi).1,cnt_few hs ht hc hch hM hi⟩
  have hok:=stepped_ok hs ht hc hch hM hD
  have hkn:xY s=s.qV.toNat:=rfl
  have hK:=hs.1.1
  have hl:=hs.2.1
  refine ⟨hf,?_,hok,fun cell hcell=>?_,fun p q hp hq=>?_⟩
  · rw [stepBy_yes hch]
    unfold stepRes
    rw [still_down hst,told_yes hok]
  · refine puts_0 ⟨hs,hst,ht,hw⟩ hcell rfl fun p hp=>?_
    have hp' :p≤xJ s:=by
      have:(putsL s t (qP s t) cell).length=xJ s+1:=tab2_len _ _ _
      omega
    have hrow:(putsL s t (qP s t) cell)[p]! =(List.range (xY s)).map (Qw s t (qP s t) cell s.qw.length p):=tab2_line qf
    rw [hrow]
    refine ⟨fun j hj=>?_,by simp;omega,by simp;omega⟩
    have hj' :j < xY s:=by simpa using hj
    rw [QF hj']
    have h1:=putsOf_bd (t:=t) hs hD hb cell p j hj' s.qw.length (Nat.le_refl _)
    have h2:=putS_bd (t:=t) hs hD hb p j hj' s.qw.length (Nat.le_refl _)
    omega
  · have e:sumN (fun c=>((putsL s t (qP s t) (c:Int))[p]!)[q]!) (xJ s)=sumN (fun c=>Qw s t (qP s t) (c:Int) s.qw.length p q) (xJ s):=by
      have:(fun c:Nat=>((putsL s t (qP s t) (c:Int))[p]!)[q]!)=fun c:Nat=>Qw s t (qP s t) (c:Int) s.qw.length p q:=by
        funext c
        exact putsL_at hp hq
      rw [this]
    rw [e]
    exact due_step hs p q
def DueIs {e:TypeId} (K:Nat) (l:List (OwnI e)) (n:Nat) (f:Nat→Nat→Int):Prop:=l.length=n∧∀ p,p < n→(l[p]!).l.length=K∧∀ q,q < K→(l[p]!).l[q]! =f p q
section
variable {e : TypeId} {K n : Nat} {l : List (OwnI e)} {f g : Nat → Nat → Int}
theorem DueIs.nil:DueIs K ([]:List (OwnI e)) 0 f:=⟨rfl,fun p hp=>by omega⟩
theorem DueIs.snoc (h:DueIs K l n f) {b:yLI} (hb:b.length=K) (hv:∀ q,q < K→b[q]! =f n q):DueIs K (l++[⟨b⟩]) (n+1) f:=by
  have hl:=h.1
  refine ⟨by simp [hl],fun p hp=>?_⟩
  rw [QG]
  by_cases h1:p < n
  · rw [if_pos qf];exact h.2 p h1
  · have e' :p=n:=by omega
    subst e'
    rw [if_neg qf,if_pos qf]
    exact ⟨hb,hv⟩
theorem DueIs.to (h:DueIs K l n f) (hg:∀ p q,p < n→q < K→f p q=g p q):DueIs K l n g:=⟨h.1,fun p hp=>⟨(h.2 p hp).1,fun q hq=>((h.2 p hp).2 q hq).trans (hg p q hp hq)⟩⟩
theorem DueIs.put (h:DueIs K l n f) {p q:Nat} {v:Int} (hp:p < n) (hq:q < K) (hg:∀ p' q',p' < n→q' < K→g p' q' =if p' =p∧q' =q then v else f p' q'):DueIs K (l.set p ⟨(l[p]!).l.set q v⟩) n g:=by
  have hl:=h.1
  refine ⟨by rw [List.length_set];exact hl,fun p' hp' =>?_⟩
  rw [getElem!_pos (l.set p _) p' (by rw [List.length_set];omega),List.getElem_set]
  obtain ⟨h1,h2⟩:=h.2 p' hp'
  by_cases e' :p=p'
  · subst e'
    rw [if_pos rfl]
    refine ⟨by rw [List.length_set];exact h1,fun q' hq' =>?_⟩
    show ((l[p]!).l.set q v)[q']! =_
    rw [getElem!_pos ((l[p]!).l.set q v) q' (by rw [List.length_set];omega),List.getElem_set,hg p q' hp hq']
    by_cases e2:q=q'
    · subst e2;rw [if_pos rfl,if_pos ⟨rfl,rfl⟩]
    · rw [if_neg e2,if_neg (fun x=>e2 x.2.symm)]
      have:=h2 q' hq'
      rwa [getElem!_pos (l[p]!).l q' qf] at this
  · rw [if_neg e',← getElem!_pos l p' qf]
    refine ⟨h1,fun q' hq' =>?_⟩
    rw [h2 q' hq',hg p' q' hp' hq',if_neg (fun x=>e' x.1.symm)]
theorem DueIs.cast (h:DueIs K l n f) {m:Nat} (e' :n=m):DueIs K l m f:=by subst e';exact h
theorem DueIs.at' (h:DueIs K l n f) {p q:Nat} (hp:p < n) (hq:q < K):(l[p]!).l[q]! =f p q:=(h.2 p hp).2 q hq
theorem DueIs.len (h:DueIs K l n f) {p:Nat} (hp:p < n):(l[p]!).l.length=K:=(h.2 p hp).1
end

section
variable {s : qy} {t : qA}
noncomputable def dueN (s:qy) (t:qA) (m p q:Nat):Int:=base0 s t p q+needS s (qP s t) m p q
noncomputable def dueK (s:qy) (t:qA) (m k p q:Nat):Int:=dueN s t m p q+at' p (s.qw[m]!).qE.toNat (if q < k then -((qP s t)[m]!) * ((s.qw[m]!).xn)[q]! else 0)
noncomputable def putP (s:qy) (t:qA) (c p q:Nat):Int:=((putsL s t (qP s t) (c:Int))[p]!)[q]!
noncomputable def dueP (s:qy) (t:qA) (c p q:Nat):Int:=dueN s t s.qw.length p q+sumN (fun c=>putP s t c p q) c
noncomputable def dueX (s:qy) (t:qA) (c x k p q:Nat):Int:=dueP s t c p q+(if p < x∨(p=x∧q < k) then putP s t c p q else 0)
theorem dueN_0 (p q:Nat):base0 s t p q=dueN s t 0 p q:=by rw [dueN,needS];omega
theorem at_nil (p c:Nat):at' p c 0=0:=by unfold at';split <;> rfl
theorem dueK_0 (m p q:Nat):dueN s t m p q=dueK s t m 0 p q:=by rw [dueK,if_neg qf,at_nil];omega
theorem dueK_end {m K:Nat} (p:Nat) {q:Nat} (hq:q < K):dueK s t m K p q=dueN s t (m+1) p q:=by
  rw [dueK,if_pos hq,dueN,dueN,needS]
  unfold needF
  omega
theorem dueK_put {m k:Nat} (p q:Nat):dueK s t m (k+1) p q=if p=(s.qw[m]!).qE.toNat∧q=k then dueK s t m k (s.qw[m]!).qE.toNat k - (qP s t)[m]! * ((s.qw[m]!).xn)[k]! else dueK s t m k p q:=by
  by_cases h:p=(s.qw[m]!).qE.toNat
  · by_cases h1:q=k
    · subst h1;subst h
      rw [if_pos ⟨rfl,rfl⟩,dueK,dueK,if_pos qf,if_neg qf,at_nil]
      unfold at'
      rw [if_pos rfl,Int.neg_mul]
      omega
    · rw [if_neg (fun x=>h1 x.2),dueK,dueK]
      by_cases h2:q < k
      · rw [if_pos qf,if_pos h2]
      · rw [if_neg qf,if_neg h2]
  · rw [if_neg (fun x=>h x.1),dueK,dueK]
    unfold at'
    rw [if_neg h,if_neg h]
theorem dueP_0 (p q:Nat):dueN s t s.qw.length p q=dueP s t 0 p q:=by rw [dueP,sumN];omega
theorem dueX_0 (c p q:Nat):dueP s t c p q=dueX s t c 0 0 p q:=by rw [dueX,if_neg qf];omega
theorem dueX_row {c x K:Nat} (p:Nat) {q:Nat} (hq:q < K):dueX s t c x K p q=dueX s t c (x+1) 0 p q:=by
  rw [dueX,dueX]
  by_cases h:p < x+1
  · rw [if_pos qf,if_pos (.inl h)]
  · rw [if_neg qf,if_neg qf]
theorem dueX_end {c n:Nat} {p:Nat} (q:Nat) (hp:p < n):dueX s t c n 0 p q=dueP s t (c+1) p q:=by
  rw [dueX,if_pos (.inl hp),dueP,dueP,sumN]
  omega
theorem dueX_put {c x k:Nat} (p q:Nat):dueX s t c x (k+1) p q=if p=x∧q=k then dueX s t c x k x k+putP s t c x k else dueX s t c x k p q:=by
  by_cases h:p=x∧q=k
  · obtain ⟨rfl,rfl⟩:=h
    rw [if_pos ⟨rfl,rfl⟩,dueX,dueX,if_pos qf,if_neg qf]
    omega
  · rw [if_neg h,dueX,dueX]
    by_cases h1:p < x∨(p=x∧q < k)
    · rw [if_pos qf,if_pos h1]
    · rw [if_neg qf,if_neg h1]

structure yw (s:qy) (t:qA):Prop where
  sys:ve s
  st:xP s t
  still:Still s
  whole:Whole t
  few:FewM 6 s t
  puts:PutsD 2 s
theorem yw.cnt (h:yw s t) {i:Nat} (hi:i < s.qw.length):0≤(qP s t)[i]! ∧(qP s t)[i]! ≤6:=
  ⟨((first_cnt h.sys h.st).bd hi).1,cnt_few h.sys h.st (first_cnt h.sys h.st) (first_isCh h.sys h.st) h.few hi⟩
theorem yw.need (h:yw s t) {i q:Nat} (hi:i < s.qw.length) (hq:q < xY s):0≤(qP s t)[i]! * ((s.qw[i]!).xn)[q]! ∧(qP s t)[i]! * ((s.qw[i]!).xn)[q]! ≤6000:=by
  have hn:=(h.sys.rule hi).2.2.2.2.1
  exact mul_bd (M:=6) (D:=1000) (h.cnt hi) (hn.get (by rw [hn.len];exact hq))
theorem yw.bagOf (h:yw s t) {c:Nat} (hc:c < xJ s):(t.qL[c]!).length=xY s∧∀ q,q < xY s→(t.qL[c]!)[q]! =base0 s t c q:=by
  have hb:=h.st.bagLen (k:=c) (by rw [h.st.2.1];exact hc)
  exact ⟨hb.len,fun q hq=>by rw [base0,if_pos hc]⟩
theorem yw.rimOf (h:yw s t):t.qH.length=xY s∧∀ q,q < xY s→t.qH[q]! =base0 s t (xJ s) q:=⟨h.st.around.1,fun q hq=>by rw [base0,if_neg qf]⟩
theorem yw.rule (h:yw s t) {i:Nat} (hi:i < s.qw.length):(0≤(s.qw[i]!).qE∧(s.qw[i]!).qE.toNat < xJ s)∧((s.qw[i]!).xn).length=xY s:=by
  have hr:=h.sys.rule hi
  exact ⟨⟨hr.1.1,hr.cell⟩,hr.2.2.2.2.1.len⟩
theorem yw.res (h:yw s t) {c:Nat} (hc:c < xJ s):(xO s t (c:Int)).2=0∧(xO s t (c:Int)).1.length=xJ s+1∧∀ x,x < xJ s+1→((xO s t (c:Int)).1[x]!).length=xY s∧∀ k,((xO s t (c:Int)).1[x]!)[k]! =putP s t c x k:=by
  obtain ⟨_,_,_,h4,_⟩:=puts_law h.sys h.still h.st h.whole h.few h.puts
  have hr:=h4 (c:Int) ⟨by omega,by have:xJ s=s.qx.length:=rfl;omega⟩
  rw [hr]
  refine ⟨rfl,tab2_len _ _ _,fun x hx=>⟨?_,fun k=>rfl⟩⟩
  show ((putsL s t (qP s t) (c:Int))[x]!).length=_
  unfold putsL
  rw [tab2_line hx]
  simp
theorem yw.base (h:yw s t) {p q:Nat} (hp:p≤xJ s) (hq:q < xY s):0≤base0 s t p q∧base0 s t p q≤1000:=by
  unfold base0
  have ht:=h.st
  by_cases h1:p < xJ s
  · rw [if_pos h1]
    have hb:=ht.bagLen (k:=p) (by rw [ht.2.1];exact h1)
    exact hb.get (by rw [hb.len];exact hq)
  · rw [if_neg h1]
    exact (ht.around).2 q hq
theorem yw.needS_bd (h:yw s t) (p:Nat) {q:Nat} (hq:q < xY s):∀ m,m≤s.qw.length→ -(6000 * (m:Int))≤needS s (qP s t) m p q∧needS s (qP s t) m p q≤0
  | 0,_=>by simp [needS]
  | m+1,hm=>by
    have h1:=h.needS_bd p hq m qf
    have h2:=h.need (i:=m) qf hq
    rw [needS]
    unfold needF at'
    rw [Int.neg_mul]
    split <;> omega
theorem yw.dueN_bd (h:yw s t) {m p q:Nat} (hm:m≤s.qw.length) (hp:p≤xJ s) (hq:q < xY s): -96000≤dueN s t m p q∧dueN s t m p q≤1000:=by
  have h1:=h.base hp hq
  have h2:=h.needS_bd p hq m hm
  have h3:=h.sys.2.1
  unfold dueN
  omega
theorem yw.dueK_bd (h:yw s t) {m k p q:Nat} (hm:m < s.qw.length) (hp:p≤xJ s) (hq:q < xY s): -102000≤dueK s t m k p q∧dueK s t m k p q≤1000:=by
  have h1:=h.dueN_bd (m:=m) qf hp hq
  have h2:=h.need hm hq
  unfold dueK at'
  rw [Int.neg_mul]
  split
  · split <;> omega
  · omega
theorem yw.put_bd (h:yw s t) {c p q:Nat} (hp:p≤xJ s) (hq:q < xY s):0≤putP s t c p q∧putP s t c p q≤960:=by
  have hb:∀ i,i < s.qw.length→0≤(qP s t)[i]! ∧(qP s t)[i]! ≤6:=fun i hi=>h.cnt hi
  have h1:=putsOf_bd (t:=t) h.sys h.puts hb (c:Int) p q hq s.qw.length (Nat.le_refl _)
  have h2:=putS_bd (t:=t) h.sys h.puts hb p q hq s.qw.length (Nat.le_refl _)
  have h3:=h.sys.2.1
  unfold putP
  rw [putsL_at hp hq]
  omega
theorem yw.dueP_bd (h:yw s t) {p q:Nat} (hp:p≤xJ s) (hq:q < xY s):∀ c,-96000≤dueP s t c p q∧dueP s t c p q≤1000+960 * (c:Int)
  | 0=>by rw [← dueP_0];have:=h.dueN_bd (Nat.le_refl _) hp hq;omega
  | c+1=>by
    have h1:=h.dueP_bd hp hq c
    have h2:=h.put_bd (c:=c) hp hq
    rw [dueP] at h1 ⊢
    rw [sumN]
    omega
theorem yw.dueX_bd (h:yw s t) {c x k p q:Nat} (hc:c < xJ s) (hp:p≤xJ s) (hq:q < xY s): -96000≤dueX s t c x k p q∧dueX s t c x k p q≤8000:=by
  have h1:=h.dueP_bd hp hq c
  have h2:=h.put_bd (c:=c) hp hq
  have h3:=h.sys.1.2.1
  have h4:xJ s=s.qx.length:=rfl
  unfold dueX
  split <;> omega
theorem yw.by (h:yw s t):(xX s t (qP s t)).2=0∧(xX s t (qP s t)).1=xw s t (qP s t)∧xP s (xX s t (qP s t)).1∧(∀ c:Nat,c < xJ s→xO s t c=(putsL s t (qP s t) c,0))∧
    ∀ p q,p≤xJ s→q < xY s→dueP s t (xJ s) p q=stepF s t (qP s t) p q:=by
  obtain ⟨h1,h2,h3,h4,h5⟩:=puts_law h.sys h.still h.st h.whole h.few h.puts
  rw [by_ok (ask_0 ⟨h.sys,h.st⟩ (first_cnt h.sys h.st))]
  refine ⟨h1,h2,by rw [h2];exact h3,fun c hc=>h4 c ⟨by omega,by have:xJ s=s.qx.length:=rfl;omega⟩,fun p q hp hq=>?_⟩
  rw [← h5 p q hp hq]
  rfl
theorem list_ext {a b:yLI} {K:Nat} (h1:a.length=K) (h2:b.length=K) (h:∀ q,q < K→a[q]! =b[q]!):a=b:=List.ext_getElem qf fun i h3 h4=>by
  have:=h i qf
  rwa [getElem!_pos a i h3,getElem!_pos b i h4] at this
theorem yw.bag {e:TypeId} {l:List (OwnI e)} (h:yw s t) (hd:DueIs (xY s) l (xJ s+1) (dueP s t (xJ s))) {c:Nat} (hc:c < xJ s):(xX s t (qP s t)).1.qL[c]! =(l[c]!).l:=by
  obtain ⟨_,h2,_,_,h5⟩:=h.by
  rw [h2,stepped_row hc]
  refine list_ext (K:=xY s) qm (hd.len qf) fun q hq=>?_
  rw [QF hq,hd.at' qf hq,h5 c q qf hq]
theorem yw.rim {e:TypeId} {l:List (OwnI e)} (h:yw s t) (hd:DueIs (xY s) l (xJ s+1) (dueP s t (xJ s))):(xX s t (qP s t)).1.qH=(l[xJ s]!).l:=by
  obtain ⟨_,h2,_,_,h5⟩:=h.by
  rw [h2,stepped_around]
  refine list_ext (K:=xY s) qm (hd.len qf) fun q hq=>?_
  rw [QF hq,hd.at' qf hq,h5 _ q qf hq]
end
theorem putsAt_of {kk:Int} {par:yLI} {rules:List vU} {alive:List Bool} {bags:yLL} {around:yLI} (hs:SysDr kk par rules) (ht:StDr kk par.length 6 alive bags around) (ha:AllTo alive) (hm:MildTo rules rules.length):
    yw ⟨kk,par,rules⟩ ⟨alive,bags,around⟩ where
  sys:=hs.ok
  st:=ht.ok hs qf
  still:=hm
  whole:=ha
  few:=fun p q hp hq=>by
    have hq' :q < kk.toNat:=hq
    have hc:xJ ⟨kk,par,rules⟩=par.length:=rfl
    unfold base0
    by_cases h1:p < xJ ⟨kk,par,rules⟩
    · rw [if_pos h1]
      have hb:=(ht.bags p (by rw [ht.lb];omega)).1
      exact (hb.2 q (by rw [hb.1];exact hq')).2
    · rw [if_neg h1]
      have:=(ht.around.2 q (by rw [ht.around.1];exact hq')).2
      show around[q]! ≤6
      omega
  puts:=fun i hi q hq=>by
    have hq' :q < kk.toNat:=hq
    have r:=hs.rules i hi
    refine ⟨(r.here.2 q (by rw [r.here.1];exact hq')).2,(r.out.2 q (by rw [r.out.1];exact hq')).2,fun j hj=>?_⟩
    have hb:=(r.into j hj).2.2.1
    have:=(hb.2 q (by rw [hb.1];exact hq')).2
    show ((rules[i]!).qK[j]!).yx[q]! ≤2
    omega
end
section
open Go.Proofs.Try
open Go.RowKit
set_option linter.unusedVariables false
set_option linter.unusedSimpArgs false
set_option maxRecDepth 100000
set_option maxHeartbeats 4000000
variable {cl bs os qB qG jR jU jS jT Qs jH : Nat}
theorem l01Bag_ok (w:World) (l:yLI) {al:yOA} {Fl:yLN} (hl:qR.rep w Fl [.slice al l.length cl] l):Calls Try.prog 106 #[.slice al l.length cl] w (Ret (fun v w' =>v=.bool (dec (BagAny l))) w):=by
 refine en func106 ntmps106 ?_
 have H:=(St.start w).arg hl
 have nhl:=qX hl
 clear hl
 refine zcr (sp (.bool false) (zjcc (sp (yI 0) (zjn (xq ?_)))))
 refine vg (fun m' ρ w1=>∃ (zB:Env) (k:Nat),ρ=upd (upd zB 0 (.slice al l.length cl)) 3 (yI k)∧(k≤l.length)∧(Counts l k)∧m' =l.length - k∧St w w1 [] [sF false Fl al cl l]) (l.length - 0) ⟨_,0,uE2,qf,(by exact Counts.zero l),rfl,H⟩ ?_
 clear H
 rintro m' ρ w2 ⟨zB,k,rfl,i0,i1,rfl,H⟩
 refine zcc (sps [yI k,.slice al l.length cl] (oN rfl (sp (.bool (decide ((k:Int) < l.length))) (zjn (cD rfl (fun h3=>?_) (fun h3=>?_))))))
 ·skip
  refine xB (t_n (zx (xq (zcr (sps [.slice al l.length cl,yI k] ?_)))))
  obtain ⟨b4,o5,rfl⟩:=H.addr 0 rfl qf
  refine oI rfl rfl (oL rfl (H.jB 0 rfl k qf qf) (sw (oq (l00In_ok w2 (l[k]!) 0 1000) H fun w6 H=>sp (.bool (!(inR (l[k]!) 0 1000))) (zjn (xZ (!(inR (l[k]!) 0 1000)) rfl (fun h8=>?_) (fun h8=>?_))))))
  ·skip
   replace h8:=xF h8
   replace h8:=Qy h8
   refine zcr (sp (.bool false) (zjr (zr5 (ret1 (.bool false) rfl rfl ⟨_,rfl,?_,H.base⟩))))
   rw [xg (fun h=>‹¬ (0≤l[k]! ∧l[k]! ≤1000)› (h.1 k qf))]
  replace h8:=xm h8
  replace h8:=y7.1 h8
  refine xB (b_n (t_n (zJ (sp (yI k) (sw (vk k 1 rfl rfl qf (sp (yI (k+1)) (zK (xH (m' :=l.length - (k+1)) qf ⟨_,k+1,uE2,?_,?_,rfl,H⟩)))))))))
  · omega
  · exact i1.succ ‹_›
 refine zx4 (zcr (sp (.slice al l.length cl) (oN rfl (sw (oq (l00In_ok w2 l.length 1 8) H fun w9 H=>sp (.bool (inR l.length 1 8)) (zjr (ret1 (.bool (inR l.length 1 8)) rfl rfl ⟨_,rfl,?_,H.base⟩)))))))
 obtain rfl:k=l.length:=by omega
 refine congrArg Value.bool (dec_eq ?_)
 rw [y7]
 exact ⟨fun h=>⟨i1,by omega,by omega⟩,fun h=>by have:=h.2;omega⟩

theorem yO (w:World) (s:qy) (b:yLI) {qC:yOA} {xk:yLN} {qJ:yOA} {xN:yLN} {ab:yOA} {cb:Nat} {Fb:yLN} (hs:jQ w bs os (yS s qC qB qJ qG)) (qW:qR.rep w xk [.slice qC s.qx.length qB] s.qx) (xG:qR.rep w xN [.slice qJ s.qw.length qG] s.qw) (hb:qR.rep w Fb [.slice ab b.length cb] b):Calls Try.prog 69 #[pp bs os,.slice ab b.length cb] w (Ret (fun v w' =>v=.bool (dec (zA s.qV b))) w):=by
 refine en func69 ntmps69 ?_
 have H:=((((St.start w).arg hb).arg xG).arg qW).argAt hs
 have zY:=qX qW
 have jw:=qX xG
 have nhb:=qX hb
 clear hs qW xG hb
 refine zcr (sp (.bool false) (zjc (sp (.slice ab b.length cb) (sw (oq (l01Bag_ok _ b (H.get 3 rfl).1) H fun w1 H=>sp (.bool (dec (BagAny b))) ?_)))))
 cases h3:(dec (BagAny b))
 ·skip
  replace h3:=zD h3
  refine xQ [8,9,10,11,12,13,14] (sps [.bool false,.bool false] (zjr (ret1 (.bool false) rfl rfl ⟨_,rfl,?_,H.base⟩)))
  rw [xg (fun h=>‹¬ BagAny b› h.1)]
 replace h3:=yg h3
 refine qO 7 rfl rfl (sp (.slice ab b.length cb) (qO 7 rfl rfl (oN rfl (qO 7 rfl rfl (sp (pp bs os) (qO 7 rfl rfl (sp (pp bs os) (qO 7 rfl rfl (oF rfl (qO 7 rfl rfl (oL rfl (H.zZ 0 rfl 0 rfl) (qO 7 rfl rfl (sps [.bool ((b.length:Int) == s.qV),.bool ((b.length:Int) == s.qV),.bool ((b.length:Int) == s.qV)] (zjr (ret1 (.bool ((b.length:Int) == s.qV)) rfl rfl ⟨_,rfl,(congrArg Value.bool (dec_eq ?_)),H.base⟩)))))))))))))))
 rw [beq_iff_eq]
 exact ⟨fun h=>⟨‹_›,h⟩,fun h=>h.2⟩

theorem l02Frame_ok (w:World) (s:qy) {qC:yOA} {xk:yLN} {qJ:yOA} {xN:yLN} (hs:jQ w bs os (yS s qC qB qJ qG)) (qW:qR.rep w xk [.slice qC s.qx.length qB] s.qx) (xG:qR.rep w xN [.slice qJ s.qw.length qG] s.qw):Calls Try.prog 67 #[pp bs os] w (Ret (fun v w' =>v=.bool (dec (jd s))) w):=by
 refine en func67 ntmps67 ?_
 have H:=(((St.start w).arg xG).arg qW).argAt hs
 have zY:=qX qW
 have jw:=qX xG
 clear hs qW xG
 refine zcr (sp (.bool false) (zjcc (sps [pp bs os,pp bs os] (oF rfl (oL rfl (H.zZ 0 rfl 0 rfl) (sw (oq (l00In_ok w s.qV 1 8) H fun w1 H=>sps [.bool (!(inR s.qV 1 8)),.bool (!(inR s.qV 1 8))] ?_)))))))
 cases h3:(!(inR s.qV 1 8))
 ·skip
  replace h3:=xm h3
  replace h3:=y7.1 h3
  refine qO 10 rfl rfl (sp (pp bs os) (qO 10 rfl rfl (sp (pp bs os) (qO 10 rfl rfl (oF rfl (qO 10 rfl rfl (oL rfl (H.zZ 0 rfl 1 rfl) (qO 10 rfl rfl (oN rfl (qO 10 rfl rfl (sw (oq (l00In_ok w1 s.qx.length 1 6) H fun w4 H=>qO 10 rfl rfl (sps [.bool (!(inR s.qx.length 1 6)),.bool (!(inR s.qx.length 1 6)),.bool (!(inR s.qx.length 1 6))] ?_)))))))))))))
  cases h6:(!(inR s.qx.length 1 6))
  ·skip
   replace h6:=xm h6
   replace h6:=y7.1 h6
   refine qO 19 rfl rfl (sp (pp bs os) (qO 19 rfl rfl (sp (pp bs os) (qO 19 rfl rfl (oF rfl (qO 19 rfl rfl (oL rfl (H.zZ 0 rfl 1 rfl) (qO 19 rfl rfl ?_))))))))
   obtain ⟨b7,o8,rfl⟩:=H.addr 1 rfl qf
   refine oI rfl rfl (qO 19 rfl rfl (oL rfl (H.jB 1 rfl 0 qf qf) (qO 19 rfl rfl (sps [.bool ((s.qx[0]! :Int) != (-1)),.bool ((s.qx[0]! :Int) != (-1))] (zjn (xZ ((s.qx[0]! :Int) != (-1)) rfl (fun h9=>?_) (fun h9=>?_)))))))
   ·skip
    replace h9:=bne_iff_ne.1 h9
    refine zcr (sp (.bool false) (zjr (t_r (ret1 (.bool false) rfl rfl ⟨_,rfl,?_,H.base⟩))))
    rw [xg (fun h=>by obtain ⟨h1,h2,h3,h4⟩:=h;first | omega | (have:=h4 k qf qf;omega))]
   replace h9:=zT h9
   refine xB (t_n (zcc (sp (yI 1) (zjn (xq ?_)))))
   refine vg (fun m' ρ w10=>∃ (zB:Env) (k:Nat),ρ=upd (upd zB 0 (pp bs os)) 3 (yI k)∧(k≤s.qx.length)∧(1≤k)∧(FrameTo s k)∧m' =s.qx.length - k∧St w w10 [] [atF bs os [yI s.qV,.slice (aa b7 o8) s.qx.length qB,.slice qJ s.qw.length qG],sF false xk (aa b7 o8) qB s.qx,sF false xN qJ qG s.qw]) (s.qx.length - 1) ⟨_,1,uE2,qf,qf,(by exact FrameTo.one s),rfl,H⟩ ?_
   clear H
   rintro m' ρ w11 ⟨zB,k,rfl,i0,i2,i1,rfl,H⟩
   refine zcc (sps [yI k,pp bs os,pp bs os] (oF rfl (oL rfl (H.zZ 0 rfl 1 rfl) (oN rfl (sp (.bool (decide ((k:Int) < s.qx.length))) (zjn (cD rfl (fun h12=>?_) (fun h12=>?_))))))))
   ·skip
    refine xB (t_n (zx (xq (zcr (sps [pp bs os,pp bs os] (oF rfl (oL rfl (H.zZ 0 rfl 1 rfl) (sp (yI k) (oI rfl rfl (oL rfl (H.jB 1 rfl k qf qf) (sp (yI k) (sw (o_sub k 1 rfl rfl qf (sw (oq (l00In_ok w11 (s.qx[k]!) 0 (k - 1)) H fun w13 H=>sp (.bool (!(inR (s.qx[k]!) 0 (k - 1)))) (zjn (xZ (!(inR (s.qx[k]!) 0 (k - 1))) rfl (fun h15=>?_) (fun h15=>?_))))))))))))))))))
    ·skip
     replace h15:=xF h15
     replace h15:=Qy h15
     refine zcr (sp (.bool false) (zjr (zr5 (ret1 (.bool false) rfl rfl ⟨_,rfl,?_,H.base⟩))))
     rw [xg (fun h=>by obtain ⟨h1,h2,h3,h4⟩:=h;first | omega | (have:=h4 k qf qf;omega))]
    replace h15:=xm h15
    replace h15:=y7.1 h15
    refine xB (b_n (t_n (zJ (sp (yI k) (sw (vk k 1 rfl rfl qf (sp (yI (k+1)) (zK (xH (m' :=s.qx.length - (k+1)) qf ⟨_,k+1,uE2,?_,?_,?_,rfl,H⟩)))))))))
    · omega
    · omega
    · exact i1.succ ‹_›
   refine zx4 (zcr (sp (.bool true) (zjr (ret1 (.bool true) rfl rfl ⟨_,rfl,?_,H.base⟩))))
   obtain rfl:k=s.qx.length:=by omega
   rw [yz ⟨by omega,by omega,by omega,i1⟩]
  replace h6:=xF h6
  replace h6:=Qy h6
  refine xQ [20,21,22,23,24,25,26] (sp (.bool true) (zjn (xZ true rfl (fun _=>zcr (sp (.bool false) (zjr (t_r (ret1 (.bool false) rfl rfl ⟨_,rfl,?_,H.base⟩))))) (fun h=>absurd h qj))))
  rw [xg (fun h=>by obtain ⟨h1,h2,h3,h4⟩:=h;first | omega | (have:=h4 k qf qf;omega))]
 replace h3:=xF h3
 replace h3:=Qy h3
 refine xQ [11,12,13,14,15,16,17] (sps [.bool true,.bool true] (xQ [20,21,22,23,24,25,26] (sp (.bool true) (zjn (xZ true rfl (fun _=>zcr (sp (.bool false) (zjr (t_r (ret1 (.bool false) rfl rfl ⟨_,rfl,?_,H.base⟩))))) (fun h=>absurd h qj))))))
 rw [xg (fun h=>by obtain ⟨h1,h2,h3,h4⟩:=h;first | omega | (have:=h4 k qf qf;omega))]

theorem l02In_ok (w:World) (s:qy) (c:Int) (other:Int) {qC:yOA} {xk:yLN} {qJ:yOA} {xN:yLN} (hs:jQ w bs os (yS s qC qB qJ qG)) (qW:qR.rep w xk [.slice qC s.qx.length qB] s.qx) (xG:qR.rep w xN [.slice qJ s.qw.length qG] s.qw) (p0:jd s) (p1:Q5 s c):Calls Try.prog 105 #[pp bs os,yI c,yI other] w (Ret (fun v w' =>v=.bool (dec (Lies s.qx other c))) w):=by
 refine en func105 ntmps105 ?_
 have H:=(((St.start w).arg xG).arg qW).argAt hs
 have zY:=qX qW
 have jw:=qX xG
 clear hs qW xG
 refine zcr (sp (.bool false) (zjn (zx (xq ?_))))
 refine vg (fun m' ρ w1=>∃ (zB:Env) (y:Int),ρ=upd (upd (upd zB 0 (pp bs os)) 1 (yI y)) 2 (yI other)∧(0≤y∧y≤(s.qx.length:Int) - 1)∧(Lies s.qx other c↔Lies s.qx other y)∧m' =y.toNat∧St w w1 [] [atF bs os (yS s qC qB qJ qG),sF false xk qC qB s.qx,sF false xN qJ qG s.qw]) (c.toNat) ⟨_,c,uE3,(by exact p1),(by exact Iff.rfl),rfl,H⟩ ?_
 clear H
 rintro m' ρ w2 ⟨zB,y,rfl,i0,i1,rfl,H⟩
 have up:=fun h=>p0.up (c:=y) h i0.2
 refine zcc (sps [yI y,.bool (decide ((y:Int) > 0))] (zjn (cD rfl (fun h3=>?_) (fun h3=>?_))))
 ·skip
  refine xB (t_n (xq (zcr (sps [pp bs os,pp bs os] (oF rfl (oL rfl (H.zZ 0 rfl 1 rfl) (sp (yI y) ?_)))))))
  obtain ⟨b4,o5,rfl⟩:=H.addr 1 rfl qf
  refine oI rfl rfl (oL rfl (H.jB 1 rfl y qf qf) (sp (yI (s.qx[y.toNat]!)) (zjc (sps [yI (s.qx[y.toNat]!),yI other,.bool ((s.qx[y.toNat]! :Int) == other)] (zjn (cE rfl (fun h6=>?_) (fun h6=>?_)))))))
  ·skip
   refine zcr (sp (.bool true) (zjr (b_r (t_r (b_r (t_r (ret1 (.bool true) rfl rfl ⟨_,rfl,?_,H.base⟩)))))))
   rw [yz (i1.2 (.here qf ‹_›))]
  refine xB (b_n ?_)
  have up1:=up qf
  refine xH (m' :=(s.qx[y.toNat]!).toNat) qf ⟨_,(s.qx[y.toNat]!),uE3,?_,?_,rfl,H⟩
  · have:=up qf;omega
  · exact i1.trans (lies_iff.trans ⟨fun h=>h.2.resolve_left ‹_›,fun h=>⟨by omega,.inr h⟩⟩)
 refine zx4 (zcr (sp (.bool false) (zjr (ret1 (.bool false) rfl rfl ⟨_,rfl,?_,H.base⟩))))
 rw [xg (fun h=>by have:=(lies_iff.1 (i1.1 h)).1;omega)]

theorem l02Rule_ok (w:World) (s:qy) (r:vU) {qC:yOA} {xk:yLN} {qJ:yOA} {xN:yLN} {br or:Nat} {jV:yOA} {FrNeed:yLN} {jY:yOA} {FrHave:yLN} {jW:yOA} {FrLack:yLN} {jX:yOA} {FrHere:yLN} {Qu:yOA} {FrOut:yLN} {jI:yOA} {FrInto:yLN} (hs:jQ w bs os (yS s qC qB qJ qG)) (qW:qR.rep w xk [.slice qC s.qx.length qB] s.qx) (xG:qR.rep w xN [.slice qJ s.qw.length qG] s.qw) (hr:jQ w br or [yI r.qE,yI r.zS,.slice jV r.xn.length jR,.slice jY r.zf.length jU,.slice jW r.x8.length jS,.slice jX r.xW.length jT,.slice Qu r.vC.length Qs,.slice jI r.qK.length jH,.bool r.xU]) (hrNeed:qR.rep w FrNeed [.slice jV r.xn.length jR] r.xn) (hrHave:qR.rep w FrHave [.slice jY r.zf.length jU] r.zf) (hrLack:qR.rep w FrLack [.slice jW r.x8.length jS] r.x8) (hrHere:qR.rep w FrHere [.slice jX r.xW.length jT] r.xW) (hrOut:qR.rep w FrOut [.slice Qu r.vC.length Qs] r.vC) (hrInto:qR.rep w FrInto [.slice jI r.qK.length jH] r.qK) (p0:jd s):Calls Try.prog 68 #[pp bs os,pp br or] w (Ret (fun v w' =>v=.bool (dec (RuleOk s r))) w):=by
 refine en func68 ntmps68 ?_
 have H:=((((((((((St.start w).arg hrInto).arg hrOut).arg hrHere).arg hrLack).arg hrHave).arg hrNeed).argAt hr).arg xG).arg qW).argAt hs
 have zY:=qX qW
 have jw:=qX xG
 have nhrNeed:=qX hrNeed
 have nhrHave:=qX hrHave
 have nhrLack:=qX hrLack
 have nhrHere:=qX hrHere
 have nhrOut:=qX hrOut
 have nhrInto:=qX hrInto
 clear hs qW xG hr hrNeed hrHave hrLack hrHere hrOut hrInto
 refine zcr (sp (.bool false) (zjn (zx (zx ?_))))
 refine y9 rfl H fun H=>rtp 0 (pp br or) H ?_
 refine rtp 1 (pp br or) H ?_
 refine tF 2 rfl rfl H ?_
 refine tL 3 rfl rfl (fun _ h=>h.zZ 3 rfl 0 rfl) H ?_
 refine rtp 4 (pp bs os) H ?_
 refine rtp 5 (pp bs os) H ?_
 refine tF 6 rfl rfl H ?_
 refine tL 7 rfl rfl (fun _ h=>h.zZ 0 rfl 1 rfl) H ?_
 refine tN 8 rfl rfl H ?_
 refine rt 9 (yI (s.qx.length - 1)) (y_sub s.qx.length 1 rfl rfl qf) H ?_
 refine ro 10 rfl (oq (l00In_ok w.drew r.qE 0 (s.qx.length - 1)) H fun w2 H=>⟨H,(rtp 11 (.bool (!(inR r.qE 0 (s.qx.length - 1)))) H ?_)⟩)
 refine rtp 12 (.bool (!(inR r.qE 0 (s.qx.length - 1)))) H ?_
 cases h4:(!(inR r.qE 0 (s.qx.length - 1)))
 ·skip
  replace h4:=xm h4
  replace h4:=y7.1 h4
  refine rgp 13 (pp br or) 19 H ?_
  refine rgp 14 (pp br or) 19 H ?_
  refine gF 15 rfl rfl H ?_
  refine gL 16 rfl rfl (fun _ h=>h.zZ 3 rfl 1 rfl) H ?_
  refine zH [17] qh qm (r_opG rfl (e:=19) rfl rfl (oq (l00In_ok w2 r.zS 0 9) H fun w5 H=>⟨H,(rgp 18 (.bool (!(inR r.zS 0 9))) 19 H ?_)⟩) zI)
  refine rtp 19 (.bool (!(inR r.zS 0 9))) H ?_
  refine rtp 20 (.bool (!(inR r.zS 0 9))) H ?_
  cases h7:(!(inR r.zS 0 9))
  ·skip
   replace h7:=xm h7
   replace h7:=y7.1 h7
   refine rgp 21 (pp br or) 27 H ?_
   refine rgp 22 (pp br or) 27 H ?_
   refine gF 23 rfl rfl H ?_
   refine gL 24 rfl rfl (fun _ h=>h.zZ 3 rfl 8 rfl) H ?_
   refine rgp 25 (.bool r.xU) 27 H ?_
   cases h8:(r.xU)
   ·skip
    rw [h8] at H
    refine zG [26,27,28,29,30] 5 (H) (rgp 31 (.bool false) 27 H ?_)
    refine rtp 32 (.bool false) H ?_
    refine rtp 33 (.bool false) H ?_
    refine rgp 34 (pp br or) 40 H ?_
    refine rgp 35 (pp br or) 40 H ?_
    refine gF 36 rfl rfl H ?_
    refine gL 37 rfl rfl (fun _ h=>h.zZ 3 rfl 7 rfl) H ?_
    refine gN 38 rfl rfl H ?_
    refine rgp 39 (.bool (decide ((r.qK.length:Int) > 3))) 40 H ?_
    refine rtp 40 (.bool (decide ((r.qK.length:Int) > 3))) H ?_
    refine xh qh (t_n (cD rfl (fun h9=>?_) (fun h9=>?_)))
    ·skip
     refine zcr (sp (.bool false) (zjr (t_r (ret1 (.bool false) rfl rfl ⟨_,rfl,?_,H.base⟩))))
     rw [xg (fun h=>by obtain ⟨h1,h2,h3,h4,h5,h6,h7,h8,h9,h10,h11⟩:=h;first | contradiction | omega | exact h3 ⟨‹_›,‹_›⟩ | (obtain ⟨q1,q2,q3,q4,q5⟩:=h11 k qf;first | contradiction | omega | (have:=q5 qf;omega)))]
    refine xB (t_n (zcc (sps [pp bs os,pp br or,pp br or] (oF rfl (oL rfl (H.zZ 3 rfl 2 rfl) (sw (oq (yO _ s r.xn (qI (H.get 0 rfl) 0 3) (H.get 1 rfl).1 (H.get 2 rfl).1 (H.get 4 rfl).1) H fun w10 H=>sps [.bool (!(dec (zA s.qV r.xn))),.bool (!(dec (zA s.qV r.xn)))] ?_)))))))
    cases h12:(!(dec (zA s.qV r.xn)))
    ·skip
     replace h12:=xm h12
     replace h12:=yg h12
     refine qO 55 rfl rfl (sp (pp bs os) (qO 55 rfl rfl (sp (pp br or) (qO 55 rfl rfl (sp (pp br or) (qO 55 rfl rfl (oF rfl (qO 55 rfl rfl (oL rfl (H.zZ 3 rfl 3 rfl) (qO 55 rfl rfl (sw (oq (yO _ s r.zf (qI (H.get 0 rfl) 0 3) (H.get 1 rfl).1 (H.get 2 rfl).1 (H.get 5 rfl).1) H fun w13 H=>qO 55 rfl rfl (sps [.bool (!(dec (zA s.qV r.zf))),.bool (!(dec (zA s.qV r.zf))),.bool (!(dec (zA s.qV r.zf)))] ?_)))))))))))))
     cases h15:(!(dec (zA s.qV r.zf)))
     ·skip
      replace h15:=xm h15
      replace h15:=yg h15
      refine qO 64 rfl rfl (sp (pp bs os) (qO 64 rfl rfl (sp (pp br or) (qO 64 rfl rfl (sp (pp br or) (qO 64 rfl rfl (oF rfl (qO 64 rfl rfl (oL rfl (H.zZ 3 rfl 4 rfl) (qO 64 rfl rfl (sw (oq (yO _ s r.x8 (qI (H.get 0 rfl) 0 3) (H.get 1 rfl).1 (H.get 2 rfl).1 (H.get 6 rfl).1) H fun w16 H=>qO 64 rfl rfl (sps [.bool (!(dec (zA s.qV r.x8))),.bool (!(dec (zA s.qV r.x8))),.bool (!(dec (zA s.qV r.x8)))] ?_)))))))))))))
      cases h18:(!(dec (zA s.qV r.x8)))
      ·skip
       replace h18:=xm h18
       replace h18:=yg h18
       refine qO 73 rfl rfl (sp (pp bs os) (qO 73 rfl rfl (sp (pp br or) (qO 73 rfl rfl (sp (pp br or) (qO 73 rfl rfl (oF rfl (qO 73 rfl rfl (oL rfl (H.zZ 3 rfl 5 rfl) (qO 73 rfl rfl (sw (oq (yO _ s r.xW (qI (H.get 0 rfl) 0 3) (H.get 1 rfl).1 (H.get 2 rfl).1 (H.get 7 rfl).1) H fun w19 H=>qO 73 rfl rfl (sps [.bool (!(dec (zA s.qV r.xW))),.bool (!(dec (zA s.qV r.xW))),.bool (!(dec (zA s.qV r.xW)))] ?_)))))))))))))
       cases h21:(!(dec (zA s.qV r.xW)))
       ·skip
        replace h21:=xm h21
        replace h21:=yg h21
        refine qO 82 rfl rfl (sp (pp bs os) (qO 82 rfl rfl (sp (pp br or) (qO 82 rfl rfl (sp (pp br or) (qO 82 rfl rfl (oF rfl (qO 82 rfl rfl (oL rfl (H.zZ 3 rfl 6 rfl) (qO 82 rfl rfl (sw (oq (yO _ s r.vC (qI (H.get 0 rfl) 0 3) (H.get 1 rfl).1 (H.get 2 rfl).1 (H.get 8 rfl).1) H fun w22 H=>qO 82 rfl rfl (sps [.bool (!(dec (zA s.qV r.vC))),.bool (!(dec (zA s.qV r.vC))),.bool (!(dec (zA s.qV r.vC)))] ?_)))))))))))))
        cases h24:(!(dec (zA s.qV r.vC)))
        ·skip
         replace h24:=xm h24
         replace h24:=yg h24
         refine qO 91 rfl rfl (sp (pp br or) (qO 91 rfl rfl (sp (pp br or) (qO 91 rfl rfl (oF rfl (qO 91 rfl rfl (oL rfl (H.zZ 3 rfl 2 rfl) (qO 91 rfl rfl (sw (oq (l01Size_ok _ r.xn (H.get 4 rfl).1 (by first | assumption | exact vY ql | exact Qa ql)) H fun w25 H=>qO 91 rfl rfl (sps [.bool ((sumL r.xn:Int) == 0),.bool ((sumL r.xn:Int) == 0)] (zjn (cE rfl (fun h27=>?_) (fun h27=>?_))))))))))))))
         ·skip
          refine zcr (sp (.bool false) (zjr (t_r (ret1 (.bool false) rfl rfl ⟨_,rfl,?_,H.base⟩))))
          rw [xg (fun h=>by obtain ⟨h1,h2,h3,h4,h5,h6,h7,h8,h9,h10,h11⟩:=h;first | contradiction | omega | exact h3 ⟨‹_›,‹_›⟩ | (obtain ⟨q1,q2,q3,q4,q5⟩:=h11 k qf;first | contradiction | omega | (have:=q5 qf;omega)))]
         refine xB (t_n (zcc (sp (yI 0) (zjn (xq ?_)))))
         refine vg (fun m' ρ w28=>∃ (zB:Env) (k:Nat),ρ=upd (upd (upd zB 0 (pp bs os)) 1 (pp br or)) 5 (yI k)∧(k≤r.qK.length)∧(IntosTo s r k)∧m' =r.qK.length - k∧St w w28 [] [atF bs os (yS s qC qB qJ qG),sF false xk qC qB s.qx,sF false xN qJ qG s.qw,atF br or [yI r.qE,yI r.zS,.slice jV r.xn.length jR,.slice jY r.zf.length jU,.slice jW r.x8.length jS,.slice jX r.xW.length jT,.slice Qu r.vC.length Qs,.slice jI r.qK.length jH,.bool false],sF false FrNeed jV jR r.xn,sF false FrHave jY jU r.zf,sF false FrLack jW jS r.x8,sF false FrHere jX jT r.xW,sF false FrOut Qu Qs r.vC,sF false FrInto jI jH r.qK]) (r.qK.length - 0) ⟨_,0,uE3,qf,(by exact fun j hj=>by omega),rfl,H⟩ ?_
         clear H
         rintro m' ρ w29 ⟨zB,k,rfl,i0,i1,rfl,H⟩
         refine zcc (sps [yI k,pp br or,pp br or] (oF rfl (oL rfl (H.zZ 3 rfl 7 rfl) (oN rfl (sp (.bool (decide ((k:Int) < r.qK.length))) (zjn (cD rfl (fun h30=>?_) (fun h30=>?_))))))))
         ·skip
          refine xB (t_n (zx (xq (zcr (sps [pp br or,pp br or] (oF rfl (oL rfl (H.zZ 3 rfl 7 rfl) (sp (yI k) ?_))))))))
          obtain ⟨b31,o32,rfl⟩:=H.addr 9 rfl qf
          obtain ⟨ae33Bag,ce33Bag,Fe33Bag,H⟩:=H.yh 9 rfl k k qf qf qf
          refine oI rfl rfl (sp (pp b31 (o32+(k:Int).toNat * 2)) (zjn (zx (zx ?_))))
          refine y9 rfl H fun H=>rtp 0 (pp b31 (o32+(k:Int).toNat * 2)) H ?_
          refine rtp 1 (pp b31 (o32+(k:Int).toNat * 2)) H ?_
          refine tF 2 rfl rfl H ?_
          refine tL 3 rfl rfl (fun _ h=>h.zZ 1 rfl 0 rfl) H ?_
          refine rtp 4 (pp bs os) H ?_
          refine rtp 5 (pp bs os) H ?_
          refine tF 6 rfl rfl H ?_
          refine tL 7 rfl rfl (fun _ h=>h.zZ 2 rfl 1 rfl) H ?_
          refine tN 8 rfl rfl H ?_
          refine rt 9 (yI (s.qx.length - 1)) (y_sub s.qx.length 1 rfl rfl qf) H ?_
          refine ro 10 rfl (oq (l00In_ok w29.drew ((r.qK[k]!).qE) 0 (s.qx.length - 1)) H fun w35 H=>⟨H,(rtp 11 (.bool (!(inR ((r.qK[k]!).qE) 0 (s.qx.length - 1)))) H ?_)⟩)
          refine rtp 12 (.bool (!(inR ((r.qK[k]!).qE) 0 (s.qx.length - 1)))) H ?_
          cases h37:(!(inR ((r.qK[k]!).qE) 0 (s.qx.length - 1)))
          ·skip
           replace h37:=xm h37
           replace h37:=y7.1 h37
           refine rgp 13 (pp bs os) 126 H ?_
           refine rgp 14 (pp b31 (o32+(k:Int).toNat * 2)) 126 H ?_
           refine rgp 15 (pp b31 (o32+(k:Int).toNat * 2)) 126 H ?_
           refine gF 16 rfl rfl H ?_
           refine gL 17 rfl rfl (fun _ h=>h.zZ 1 rfl 0 rfl) H ?_
           refine rgp 18 (pp br or) 126 H ?_
           refine rgp 19 (pp br or) 126 H ?_
           refine gF 20 rfl rfl H ?_
           refine gL 21 rfl rfl (fun _ h=>h.zZ 5 rfl 0 rfl) H ?_
           refine zH [22] qh qm (r_opG rfl (e:=126) rfl rfl (oq (l02In_ok _ s ((r.qK[k]!).qE) r.qE (qI (H.get 2 rfl) 0 3) (H.get 3 rfl).1 (H.get 4 rfl).1 ql ql) H fun w38 H=>⟨H,(rgp 23 (.bool (!(dec (Lies s.qx r.qE ((r.qK[k]!).qE))))) 126 H ?_)⟩) zI)
           refine rtp 24 (.bool (!(dec (Lies s.qx r.qE ((r.qK[k]!).qE))))) H ?_
           refine rtp 25 (.bool (!(dec (Lies s.qx r.qE ((r.qK[k]!).qE))))) H ?_
           cases h40:(!(dec (Lies s.qx r.qE ((r.qK[k]!).qE))))
           ·skip
            replace h40:=xm h40
            replace h40:=yg h40
            refine rgp 26 (pp bs os) 139 H ?_
            refine rgp 27 (pp b31 (o32+(k:Int).toNat * 2)) 139 H ?_
            refine rgp 28 (pp b31 (o32+(k:Int).toNat * 2)) 139 H ?_
            refine gF 29 rfl rfl H ?_
            refine gL 30 rfl rfl (fun _ h=>h.zZ 1 rfl 1 rfl) H ?_
            refine zH [31] qh qm (r_opG rfl (e:=139) rfl rfl (oq (yO _ s ((r.qK[k]!).yx) (qI (H.get 2 rfl) 0 3) (H.get 3 rfl).1 (H.get 4 rfl).1 (H.get 0 rfl).1) H fun w41 H=>⟨H,(rgp 32 (.bool (!(dec (zA s.qV ((r.qK[k]!).yx))))) 139 H ?_)⟩) zI)
            refine rtp 33 (.bool (!(dec (zA s.qV ((r.qK[k]!).yx))))) H ?_
            refine rtp 34 (.bool (!(dec (zA s.qV ((r.qK[k]!).yx))))) H ?_
            cases h43:(!(dec (zA s.qV ((r.qK[k]!).yx))))
            ·skip
             replace h43:=xm h43
             replace h43:=yg h43
             refine rgp 35 (pp b31 (o32+(k:Int).toNat * 2)) 148 H ?_
             refine rgp 36 (pp b31 (o32+(k:Int).toNat * 2)) 148 H ?_
             refine gF 37 rfl rfl H ?_
             refine gL 38 rfl rfl (fun _ h=>h.zZ 1 rfl 1 rfl) H ?_
             refine zH [39] qh qm (r_opG rfl (e:=148) rfl rfl (oq (l01Size_ok _ ((r.qK[k]!).yx) (H.get 0 rfl).1 (by first | assumption | exact vY ql | exact Qa ql)) H fun w44 H=>⟨H,(rgp 40 (.bool ((sumL ((r.qK[k]!).yx):Int) == 0)) 148 H ?_)⟩) zI)
             refine rtp 41 (.bool ((sumL ((r.qK[k]!).yx):Int) == 0)) H ?_
             refine xh qh (t_n (cE rfl (fun h46=>?_) (fun h46=>?_)))
             ·skip
              refine zcr (sp (.bool false) (zjr (t_r (zr5 (ret1 (.bool false) rfl rfl ⟨_,rfl,?_,H.base⟩)))))
              rw [xg (fun h=>by obtain ⟨h1,h2,h3,h4,h5,h6,h7,h8,h9,h10,h11⟩:=h;first | contradiction | omega | exact h3 ⟨‹_›,‹_›⟩ | (obtain ⟨q1,q2,q3,q4,q5⟩:=h11 k qf;first | contradiction | omega | (have:=q5 qf;omega)))]
             refine xB (t_n (zx ?_))
             refine y9 rfl H fun H=>rtp 0 (yI k) H ?_
             refine rtp 1 (.bool (decide ((k:Int) > 0))) H ?_
             refine rtp 2 (.bool (decide ((k:Int) > 0))) H ?_
             cases h48:(decide ((k:Int) > 0))
             ·skip
              replace h48:=of_decide_eq_false h48
              refine zG [3,4,5,6,7,8,9,10,11,12,13,14,15,16] 14 (H) (rtp 17 (.bool false) H ?_)
              refine xh qh (t_n (xZ false rfl (fun h=>absurd h qj) (fun _=>xB (b_n (t_n (zJ (sp (yI k) (sw (vk k 1 rfl rfl qf (sp (yI (k+1)) (zK (xH (m' :=r.qK.length - (k+1)) qf ⟨_,k+1,uE3,?_,?_,rfl,H.sel _ (.refl _) _ qm⟩))))))))))))
              · omega
              · exact i1.succ ⟨‹_›,‹_›,‹_›,‹_›,fun hk=>by omega⟩
             replace h48:=of_decide_eq_true h48
             refine rgp 3 (pp br or) 158 H ?_
             refine rgp 4 (pp br or) 158 H ?_
             refine gF 5 rfl rfl H ?_
             refine gL 6 rfl rfl (fun _ h=>h.zZ 5 rfl 7 rfl) H ?_
             refine rgp 7 (yI k) 158 H ?_
             refine rg 8 (yI (k - 1)) 158 (y_sub k 1 rfl rfl qf) H ?_
             obtain ⟨ae49Bag,ce49Bag,Fe49Bag,H⟩:=H.yh 11 rfl (k - 1) (k - 1) qf qf qf
             refine gI 9 rfl rfl rfl (H.sel _ (.refl _) _ (fun _ h=>List.mem_cons_of_mem _ (List.mem_cons_of_mem _ (h)))) ?_
             refine gF 10 rfl rfl (H.sel _ (.refl _) _ (fun _ h=>List.mem_cons_of_mem _ (List.mem_cons_of_mem _ (h)))) ?_
             refine rgp 12 (pp b31 (o32+(k:Int).toNat * 2)) 158 (H.sel _ (.refl _) _ (fun _ h=>List.mem_cons_of_mem _ (List.mem_cons_of_mem _ (h)))) ?_
             refine rgp 13 (pp b31 (o32+(k:Int).toNat * 2)) 158 (H.sel _ (.refl _) _ (fun _ h=>List.mem_cons_of_mem _ (List.mem_cons_of_mem _ (h)))) ?_
             refine gF 14 rfl rfl (H.sel _ (.refl _) _ (fun _ h=>List.mem_cons_of_mem _ (List.mem_cons_of_mem _ (h)))) ?_
             refine gL 15 rfl rfl (fun _ h=>h.zZ 1 rfl 0 rfl) (H.sel _ (.refl _) _ (fun _ h=>List.mem_cons_of_mem _ (List.mem_cons_of_mem _ (h)))) ?_
             refine zH [11] qh qm (r_opG rfl (e:=158) rfl rfl (zk (yI ((r.qK[k - 1]!).qE)) isAgg2 rfl (H.zZ 1 rfl 0 rfl) (⟨H.dF 2,(rgp 16 (.bool (decide (((r.qK[k - 1]!).qE:Int)≥((r.qK[k]!).qE)))) 158 (H.sel _ (.refl _) _ (fun _ h=>List.mem_cons_of_mem _ (List.mem_cons_of_mem _ (h)))) ?_)⟩)) zI)
             refine rtp 17 (.bool (decide (((r.qK[k - 1]!).qE:Int)≥((r.qK[k]!).qE)))) (H.sel _ (.refl _) _ (fun _ h=>List.mem_cons_of_mem _ (List.mem_cons_of_mem _ (h)))) ?_
             refine xh qh (t_n (cD rfl (fun h50=>?_) (fun h50=>?_)))
             ·skip
              refine zcr (sp (.bool false) (zjr (zr5 (ret1 (.bool false) rfl rfl ⟨_,rfl,?_,H.base⟩))))
              rw [xg (fun h=>by obtain ⟨h1,h2,h3,h4,h5,h6,h7,h8,h9,h10,h11⟩:=h;first | contradiction | omega | exact h3 ⟨‹_›,‹_›⟩ | (obtain ⟨q1,q2,q3,q4,q5⟩:=h11 k qf;first | contradiction | omega | (have:=q5 qf;omega)))]
             refine xB (b_n (t_n (zJ (sp (yI k) (sw (vk k 1 rfl rfl qf (sp (yI (k+1)) (zK (xH (m' :=r.qK.length - (k+1)) qf ⟨_,k+1,uE3,?_,?_,rfl,H.sel _ (.refl _) _ qm⟩)))))))))
             · omega
             · exact i1.succ ⟨‹_›,‹_›,‹_›,‹_›,fun hk=>by omega⟩
            replace h43:=xF h43
            replace h43:=zD h43
            refine zG [35,36,37,38,39,40] 6 (H) (rtp 41 (.bool true) H ?_)
            refine xh qh (t_n (xZ true rfl (fun _=>zcr (sp (.bool false) (zjr (t_r (zr5 (ret1 (.bool false) rfl rfl ⟨_,rfl,?_,H.base⟩)))))) (fun h=>absurd h qj)))
            rw [xg (fun h=>by obtain ⟨h1,h2,h3,h4,h5,h6,h7,h8,h9,h10,h11⟩:=h;first | contradiction | omega | exact h3 ⟨‹_›,‹_›⟩ | (obtain ⟨q1,q2,q3,q4,q5⟩:=h11 k qf;first | contradiction | omega | (have:=q5 qf;omega)))]
           replace h40:=xF h40
           replace h40:=zD h40
           refine zG [26,27,28,29,30,31,32] 7 (H) (rtp 33 (.bool true) H ?_)
           refine rtp 34 (.bool true) H ?_
           refine zG [35,36,37,38,39,40] 6 (H) (rtp 41 (.bool true) H ?_)
           refine xh qh (t_n (xZ true rfl (fun _=>zcr (sp (.bool false) (zjr (t_r (zr5 (ret1 (.bool false) rfl rfl ⟨_,rfl,?_,H.base⟩)))))) (fun h=>absurd h qj)))
           rw [xg (fun h=>by obtain ⟨h1,h2,h3,h4,h5,h6,h7,h8,h9,h10,h11⟩:=h;first | contradiction | omega | exact h3 ⟨‹_›,‹_›⟩ | (obtain ⟨q1,q2,q3,q4,q5⟩:=h11 k qf;first | contradiction | omega | (have:=q5 qf;omega)))]
          replace h37:=xF h37
          replace h37:=Qy h37
          refine zG [13,14,15,16,17,18,19,20,21,22,23] 11 (H) (rtp 24 (.bool true) H ?_)
          refine rtp 25 (.bool true) H ?_
          refine zG [26,27,28,29,30,31,32] 7 (H) (rtp 33 (.bool true) H ?_)
          refine rtp 34 (.bool true) H ?_
          refine zG [35,36,37,38,39,40] 6 (H) (rtp 41 (.bool true) H ?_)
          refine xh qh (t_n (xZ true rfl (fun _=>zcr (sp (.bool false) (zjr (t_r (zr5 (ret1 (.bool false) rfl rfl ⟨_,rfl,?_,H.base⟩)))))) (fun h=>absurd h qj)))
          rw [xg (fun h=>by obtain ⟨h1,h2,h3,h4,h5,h6,h7,h8,h9,h10,h11⟩:=h;first | contradiction | omega | exact h3 ⟨‹_›,‹_›⟩ | (obtain ⟨q1,q2,q3,q4,q5⟩:=h11 k qf;first | contradiction | omega | (have:=q5 qf;omega)))]
         refine zx4 (zcr (sp (.bool true) (zjr (ret1 (.bool true) rfl rfl ⟨_,rfl,?_,H.base⟩))))
         obtain rfl:k=r.qK.length:=by omega
         rw [yz ⟨by assumption,by omega,by simp_all,by omega,by assumption,by assumption,by assumption,by assumption,by assumption,by assumption,i1⟩]
        replace h24:=xF h24
        replace h24:=zD h24
        refine xQ [92,93,94,95,96,97] (sp (.bool true) (zjn (xZ true rfl (fun _=>zcr (sp (.bool false) (zjr (t_r (ret1 (.bool false) rfl rfl ⟨_,rfl,?_,H.base⟩))))) (fun h=>absurd h qj))))
        rw [xg (fun h=>by obtain ⟨h1,h2,h3,h4,h5,h6,h7,h8,h9,h10,h11⟩:=h;first | contradiction | omega | exact h3 ⟨‹_›,‹_›⟩ | (obtain ⟨q1,q2,q3,q4,q5⟩:=h11 k qf;first | contradiction | omega | (have:=q5 qf;omega)))]
       replace h21:=xF h21
       replace h21:=zD h21
       refine xQ [83,84,85,86,87,88,89] (sps [.bool true,.bool true] (xQ [92,93,94,95,96,97] (sp (.bool true) (zjn (xZ true rfl (fun _=>zcr (sp (.bool false) (zjr (t_r (ret1 (.bool false) rfl rfl ⟨_,rfl,?_,H.base⟩))))) (fun h=>absurd h qj))))))
       rw [xg (fun h=>by obtain ⟨h1,h2,h3,h4,h5,h6,h7,h8,h9,h10,h11⟩:=h;first | contradiction | omega | exact h3 ⟨‹_›,‹_›⟩ | (obtain ⟨q1,q2,q3,q4,q5⟩:=h11 k qf;first | contradiction | omega | (have:=q5 qf;omega)))]
      replace h18:=xF h18
      replace h18:=zD h18
      refine xQ [74,75,76,77,78,79,80] (sps [.bool true,.bool true] (xQ [83,84,85,86,87,88,89] (sps [.bool true,.bool true] (xQ [92,93,94,95,96,97] (sp (.bool true) (zjn (xZ true rfl (fun _=>zcr (sp (.bool false) (zjr (t_r (ret1 (.bool false) rfl rfl ⟨_,rfl,?_,H.base⟩))))) (fun h=>absurd h qj))))))))
      rw [xg (fun h=>by obtain ⟨h1,h2,h3,h4,h5,h6,h7,h8,h9,h10,h11⟩:=h;first | contradiction | omega | exact h3 ⟨‹_›,‹_›⟩ | (obtain ⟨q1,q2,q3,q4,q5⟩:=h11 k qf;first | contradiction | omega | (have:=q5 qf;omega)))]
     replace h15:=xF h15
     replace h15:=zD h15
     refine xQ [65,66,67,68,69,70,71] (sps [.bool true,.bool true] (xQ [74,75,76,77,78,79,80] (sps [.bool true,.bool true] (xQ [83,84,85,86,87,88,89] (sps [.bool true,.bool true] (xQ [92,93,94,95,96,97] (sp (.bool true) (zjn (xZ true rfl (fun _=>zcr (sp (.bool false) (zjr (t_r (ret1 (.bool false) rfl rfl ⟨_,rfl,?_,H.base⟩))))) (fun h=>absurd h qj))))))))))
     rw [xg (fun h=>by obtain ⟨h1,h2,h3,h4,h5,h6,h7,h8,h9,h10,h11⟩:=h;first | contradiction | omega | exact h3 ⟨‹_›,‹_›⟩ | (obtain ⟨q1,q2,q3,q4,q5⟩:=h11 k qf;first | contradiction | omega | (have:=q5 qf;omega)))]
    replace h12:=xF h12
    replace h12:=zD h12
    refine xQ [56,57,58,59,60,61,62] (sps [.bool true,.bool true] (xQ [65,66,67,68,69,70,71] (sps [.bool true,.bool true] (xQ [74,75,76,77,78,79,80] (sps [.bool true,.bool true] (xQ [83,84,85,86,87,88,89] (sps [.bool true,.bool true] (xQ [92,93,94,95,96,97] (sp (.bool true) (zjn (xZ true rfl (fun _=>zcr (sp (.bool false) (zjr (t_r (ret1 (.bool false) rfl rfl ⟨_,rfl,?_,H.base⟩))))) (fun h=>absurd h qj))))))))))))
    rw [xg (fun h=>by obtain ⟨h1,h2,h3,h4,h5,h6,h7,h8,h9,h10,h11⟩:=h;first | contradiction | omega | exact h3 ⟨‹_›,‹_›⟩ | (obtain ⟨q1,q2,q3,q4,q5⟩:=h11 k qf;first | contradiction | omega | (have:=q5 qf;omega)))]
   rw [h8] at H
   refine rgp 26 (pp br or) 32 H ?_
   refine rgp 27 (pp br or) 32 H ?_
   refine gF 28 rfl rfl H ?_
   refine gL 29 rfl rfl (fun _ h=>h.zZ 3 rfl 0 rfl) H ?_
   refine rgp 30 (.bool ((r.qE:Int) == 0)) 32 H ?_
   refine rgp 31 (.bool ((r.qE:Int) == 0)) 27 H ?_
   refine rtp 32 (.bool ((r.qE:Int) == 0)) H ?_
   refine rtp 33 (.bool ((r.qE:Int) == 0)) H ?_
   cases h51:((r.qE:Int) == 0)
   ·skip
    replace h51:=ne_of_beq_false h51
    refine rgp 34 (pp br or) 40 H ?_
    refine rgp 35 (pp br or) 40 H ?_
    refine gF 36 rfl rfl H ?_
    refine gL 37 rfl rfl (fun _ h=>h.zZ 3 rfl 7 rfl) H ?_
    refine gN 38 rfl rfl H ?_
    refine rgp 39 (.bool (decide ((r.qK.length:Int) > 3))) 40 H ?_
    refine rtp 40 (.bool (decide ((r.qK.length:Int) > 3))) H ?_
    refine xh qh (t_n (cD rfl (fun h52=>?_) (fun h52=>?_)))
    ·skip
     refine zcr (sp (.bool false) (zjr (t_r (ret1 (.bool false) rfl rfl ⟨_,rfl,?_,H.base⟩))))
     rw [xg (fun h=>by obtain ⟨h1,h2,h3,h4,h5,h6,h7,h8,h9,h10,h11⟩:=h;first | contradiction | omega | exact h3 ⟨‹_›,‹_›⟩ | (obtain ⟨q1,q2,q3,q4,q5⟩:=h11 k qf;first | contradiction | omega | (have:=q5 qf;omega)))]
    refine xB (t_n (zcc (sps [pp bs os,pp br or,pp br or] (oF rfl (oL rfl (H.zZ 3 rfl 2 rfl) (sw (oq (yO _ s r.xn (qI (H.get 0 rfl) 0 3) (H.get 1 rfl).1 (H.get 2 rfl).1 (H.get 4 rfl).1) H fun w53 H=>sps [.bool (!(dec (zA s.qV r.xn))),.bool (!(dec (zA s.qV r.xn)))] ?_)))))))
    cases h55:(!(dec (zA s.qV r.xn)))
    ·skip
     replace h55:=xm h55
     replace h55:=yg h55
     refine qO 55 rfl rfl (sp (pp bs os) (qO 55 rfl rfl (sp (pp br or) (qO 55 rfl rfl (sp (pp br or) (qO 55 rfl rfl (oF rfl (qO 55 rfl rfl (oL rfl (H.zZ 3 rfl 3 rfl) (qO 55 rfl rfl (sw (oq (yO _ s r.zf (qI (H.get 0 rfl) 0 3) (H.get 1 rfl).1 (H.get 2 rfl).1 (H.get 5 rfl).1) H fun w56 H=>qO 55 rfl rfl (sps [.bool (!(dec (zA s.qV r.zf))),.bool (!(dec (zA s.qV r.zf))),.bool (!(dec (zA s.qV r.zf)))] ?_)))))))))))))
     cases h58:(!(dec (zA s.qV r.zf)))
     ·skip
      replace h58:=xm h58
      replace h58:=yg h58
      refine qO 64 rfl rfl (sp (pp bs os) (qO 64 rfl rfl (sp (pp br or) (qO 64 rfl rfl (sp (pp br or) (qO 64 rfl rfl (oF rfl (qO 64 rfl rfl (oL rfl (H.zZ 3 rfl 4 rfl) (qO 64 rfl rfl (sw (oq (yO _ s r.x8 (qI (H.get 0 rfl) 0 3) (H.get 1 rfl).1 (H.get 2 rfl).1 (H.get 6 rfl).1) H fun w59 H=>qO 64 rfl rfl (sps [.bool (!(dec (zA s.qV r.x8))),.bool (!(dec (zA s.qV r.x8))),.bool (!(dec (zA s.qV r.x8)))] ?_)))))))))))))
      cases h61:(!(dec (zA s.qV r.x8)))
      ·skip
       replace h61:=xm h61
       replace h61:=yg h61
       refine qO 73 rfl rfl (sp (pp bs os) (qO 73 rfl rfl (sp (pp br or) (qO 73 rfl rfl (sp (pp br or) (qO 73 rfl rfl (oF rfl (qO 73 rfl rfl (oL rfl (H.zZ 3 rfl 5 rfl) (qO 73 rfl rfl (sw (oq (yO _ s r.xW (qI (H.get 0 rfl) 0 3) (H.get 1 rfl).1 (H.get 2 rfl).1 (H.get 7 rfl).1) H fun w62 H=>qO 73 rfl rfl (sps [.bool (!(dec (zA s.qV r.xW))),.bool (!(dec (zA s.qV r.xW))),.bool (!(dec (zA s.qV r.xW)))] ?_)))))))))))))
       cases h64:(!(dec (zA s.qV r.xW)))
       ·skip
        replace h64:=xm h64
        replace h64:=yg h64
        refine qO 82 rfl rfl (sp (pp bs os) (qO 82 rfl rfl (sp (pp br or) (qO 82 rfl rfl (sp (pp br or) (qO 82 rfl rfl (oF rfl (qO 82 rfl rfl (oL rfl (H.zZ 3 rfl 6 rfl) (qO 82 rfl rfl (sw (oq (yO _ s r.vC (qI (H.get 0 rfl) 0 3) (H.get 1 rfl).1 (H.get 2 rfl).1 (H.get 8 rfl).1) H fun w65 H=>qO 82 rfl rfl (sps [.bool (!(dec (zA s.qV r.vC))),.bool (!(dec (zA s.qV r.vC))),.bool (!(dec (zA s.qV r.vC)))] ?_)))))))))))))
        cases h67:(!(dec (zA s.qV r.vC)))
        ·skip
         replace h67:=xm h67
         replace h67:=yg h67
         refine qO 91 rfl rfl (sp (pp br or) (qO 91 rfl rfl (sp (pp br or) (qO 91 rfl rfl (oF rfl (qO 91 rfl rfl (oL rfl (H.zZ 3 rfl 2 rfl) (qO 91 rfl rfl (sw (oq (l01Size_ok _ r.xn (H.get 4 rfl).1 (by first | assumption | exact vY ql | exact Qa ql)) H fun w68 H=>qO 91 rfl rfl (sps [.bool ((sumL r.xn:Int) == 0),.bool ((sumL r.xn:Int) == 0)] (zjn (cE rfl (fun h70=>?_) (fun h70=>?_))))))))))))))
         ·skip
          refine zcr (sp (.bool false) (zjr (t_r (ret1 (.bool false) rfl rfl ⟨_,rfl,?_,H.base⟩))))
          rw [xg (fun h=>by obtain ⟨h1,h2,h3,h4,h5,h6,h7,h8,h9,h10,h11⟩:=h;first | contradiction | omega | exact h3 ⟨‹_›,‹_›⟩ | (obtain ⟨q1,q2,q3,q4,q5⟩:=h11 k qf;first | contradiction | omega | (have:=q5 qf;omega)))]
         refine xB (t_n (zcc (sp (yI 0) (zjn (xq ?_)))))
         refine vg (fun m' ρ w71=>∃ (zB:Env) (k:Nat),ρ=upd (upd (upd zB 0 (pp bs os)) 1 (pp br or)) 5 (yI k)∧(k≤r.qK.length)∧(IntosTo s r k)∧m' =r.qK.length - k∧St w w71 [] [atF bs os (yS s qC qB qJ qG),sF false xk qC qB s.qx,sF false xN qJ qG s.qw,atF br or [yI r.qE,yI r.zS,.slice jV r.xn.length jR,.slice jY r.zf.length jU,.slice jW r.x8.length jS,.slice jX r.xW.length jT,.slice Qu r.vC.length Qs,.slice jI r.qK.length jH,.bool true],sF false FrNeed jV jR r.xn,sF false FrHave jY jU r.zf,sF false FrLack jW jS r.x8,sF false FrHere jX jT r.xW,sF false FrOut Qu Qs r.vC,sF false FrInto jI jH r.qK]) (r.qK.length - 0) ⟨_,0,uE3,qf,(by exact fun j hj=>by omega),rfl,H⟩ ?_
         clear H
         rintro m' ρ w72 ⟨zB,k,rfl,i0,i1,rfl,H⟩
         refine zcc (sps [yI k,pp br or,pp br or] (oF rfl (oL rfl (H.zZ 3 rfl 7 rfl) (oN rfl (sp (.bool (decide ((k:Int) < r.qK.length))) (zjn (cD rfl (fun h73=>?_) (fun h73=>?_))))))))
         ·skip
          refine xB (t_n (zx (xq (zcr (sps [pp br or,pp br or] (oF rfl (oL rfl (H.zZ 3 rfl 7 rfl) (sp (yI k) ?_))))))))
          obtain ⟨b74,o75,rfl⟩:=H.addr 9 rfl qf
          obtain ⟨ae76Bag,ce76Bag,Fe76Bag,H⟩:=H.yh 9 rfl k k qf qf qf
          refine oI rfl rfl (sp (pp b74 (o75+(k:Int).toNat * 2)) (zjn (zx (zx ?_))))
          refine y9 rfl H fun H=>rtp 0 (pp b74 (o75+(k:Int).toNat * 2)) H ?_
          refine rtp 1 (pp b74 (o75+(k:Int).toNat * 2)) H ?_
          refine tF 2 rfl rfl H ?_
          refine tL 3 rfl rfl (fun _ h=>h.zZ 1 rfl 0 rfl) H ?_
          refine rtp 4 (pp bs os) H ?_
          refine rtp 5 (pp bs os) H ?_
          refine tF 6 rfl rfl H ?_
          refine tL 7 rfl rfl (fun _ h=>h.zZ 2 rfl 1 rfl) H ?_
          refine tN 8 rfl rfl H ?_
          refine rt 9 (yI (s.qx.length - 1)) (y_sub s.qx.length 1 rfl rfl qf) H ?_
          refine ro 10 rfl (oq (l00In_ok w72.drew ((r.qK[k]!).qE) 0 (s.qx.length - 1)) H fun w78 H=>⟨H,(rtp 11 (.bool (!(inR ((r.qK[k]!).qE) 0 (s.qx.length - 1)))) H ?_)⟩)
          refine rtp 12 (.bool (!(inR ((r.qK[k]!).qE) 0 (s.qx.length - 1)))) H ?_
          cases h80:(!(inR ((r.qK[k]!).qE) 0 (s.qx.length - 1)))
          ·skip
           replace h80:=xm h80
           replace h80:=y7.1 h80
           refine rgp 13 (pp bs os) 126 H ?_
           refine rgp 14 (pp b74 (o75+(k:Int).toNat * 2)) 126 H ?_
           refine rgp 15 (pp b74 (o75+(k:Int).toNat * 2)) 126 H ?_
           refine gF 16 rfl rfl H ?_
           refine gL 17 rfl rfl (fun _ h=>h.zZ 1 rfl 0 rfl) H ?_
           refine rgp 18 (pp br or) 126 H ?_
           refine rgp 19 (pp br or) 126 H ?_
           refine gF 20 rfl rfl H ?_
           refine gL 21 rfl rfl (fun _ h=>h.zZ 5 rfl 0 rfl) H ?_
           refine zH [22] qh qm (r_opG rfl (e:=126) rfl rfl (oq (l02In_ok _ s ((r.qK[k]!).qE) r.qE (qI (H.get 2 rfl) 0 3) (H.get 3 rfl).1 (H.get 4 rfl).1 ql ql) H fun w81 H=>⟨H,(rgp 23 (.bool (!(dec (Lies s.qx r.qE ((r.qK[k]!).qE))))) 126 H ?_)⟩) zI)
           refine rtp 24 (.bool (!(dec (Lies s.qx r.qE ((r.qK[k]!).qE))))) H ?_
           refine rtp 25 (.bool (!(dec (Lies s.qx r.qE ((r.qK[k]!).qE))))) H ?_
           cases h83:(!(dec (Lies s.qx r.qE ((r.qK[k]!).qE))))
           ·skip
            replace h83:=xm h83
            replace h83:=yg h83
            refine rgp 26 (pp bs os) 139 H ?_
            refine rgp 27 (pp b74 (o75+(k:Int).toNat * 2)) 139 H ?_
            refine rgp 28 (pp b74 (o75+(k:Int).toNat * 2)) 139 H ?_
            refine gF 29 rfl rfl H ?_
            refine gL 30 rfl rfl (fun _ h=>h.zZ 1 rfl 1 rfl) H ?_
            refine zH [31] qh qm (r_opG rfl (e:=139) rfl rfl (oq (yO _ s ((r.qK[k]!).yx) (qI (H.get 2 rfl) 0 3) (H.get 3 rfl).1 (H.get 4 rfl).1 (H.get 0 rfl).1) H fun w84 H=>⟨H,(rgp 32 (.bool (!(dec (zA s.qV ((r.qK[k]!).yx))))) 139 H ?_)⟩) zI)
            refine rtp 33 (.bool (!(dec (zA s.qV ((r.qK[k]!).yx))))) H ?_
            refine rtp 34 (.bool (!(dec (zA s.qV ((r.qK[k]!).yx))))) H ?_
            cases h86:(!(dec (zA s.qV ((r.qK[k]!).yx))))
            ·skip
             replace h86:=xm h86
             replace h86:=yg h86
             refine rgp 35 (pp b74 (o75+(k:Int).toNat * 2)) 148 H ?_
             refine rgp 36 (pp b74 (o75+(k:Int).toNat * 2)) 148 H ?_
             refine gF 37 rfl rfl H ?_
             refine gL 38 rfl rfl (fun _ h=>h.zZ 1 rfl 1 rfl) H ?_
             refine zH [39] qh qm (r_opG rfl (e:=148) rfl rfl (oq (l01Size_ok _ ((r.qK[k]!).yx) (H.get 0 rfl).1 (by first | assumption | exact vY ql | exact Qa ql)) H fun w87 H=>⟨H,(rgp 40 (.bool ((sumL ((r.qK[k]!).yx):Int) == 0)) 148 H ?_)⟩) zI)
             refine rtp 41 (.bool ((sumL ((r.qK[k]!).yx):Int) == 0)) H ?_
             refine xh qh (t_n (cE rfl (fun h89=>?_) (fun h89=>?_)))
             ·skip
              refine zcr (sp (.bool false) (zjr (t_r (zr5 (ret1 (.bool false) rfl rfl ⟨_,rfl,?_,H.base⟩)))))
              rw [xg (fun h=>by obtain ⟨h1,h2,h3,h4,h5,h6,h7,h8,h9,h10,h11⟩:=h;first | contradiction | omega | exact h3 ⟨‹_›,‹_›⟩ | (obtain ⟨q1,q2,q3,q4,q5⟩:=h11 k qf;first | contradiction | omega | (have:=q5 qf;omega)))]
             refine xB (t_n (zx ?_))
             refine y9 rfl H fun H=>rtp 0 (yI k) H ?_
             refine rtp 1 (.bool (decide ((k:Int) > 0))) H ?_
             refine rtp 2 (.bool (decide ((k:Int) > 0))) H ?_
             cases h91:(decide ((k:Int) > 0))
             ·skip
              replace h91:=of_decide_eq_false h91
              refine zG [3,4,5,6,7,8,9,10,11,12,13,14,15,16] 14 (H) (rtp 17 (.bool false) H ?_)
              refine xh qh (t_n (xZ false rfl (fun h=>absurd h qj) (fun _=>xB (b_n (t_n (zJ (sp (yI k) (sw (vk k 1 rfl rfl qf (sp (yI (k+1)) (zK (xH (m' :=r.qK.length - (k+1)) qf ⟨_,k+1,uE3,?_,?_,rfl,H.sel _ (.refl _) _ qm⟩))))))))))))
              · omega
              · exact i1.succ ⟨‹_›,‹_›,‹_›,‹_›,fun hk=>by omega⟩
             replace h91:=of_decide_eq_true h91
             refine rgp 3 (pp br or) 158 H ?_
             refine rgp 4 (pp br or) 158 H ?_
             refine gF 5 rfl rfl H ?_
             refine gL 6 rfl rfl (fun _ h=>h.zZ 5 rfl 7 rfl) H ?_
             refine rgp 7 (yI k) 158 H ?_
             refine rg 8 (yI (k - 1)) 158 (y_sub k 1 rfl rfl qf) H ?_
             obtain ⟨ae92Bag,ce92Bag,Fe92Bag,H⟩:=H.yh 11 rfl (k - 1) (k - 1) qf qf qf
             refine gI 9 rfl rfl rfl (H.sel _ (.refl _) _ (fun _ h=>List.mem_cons_of_mem _ (List.mem_cons_of_mem _ (h)))) ?_
             refine gF 10 rfl rfl (H.sel _ (.refl _) _ (fun _ h=>List.mem_cons_of_mem _ (List.mem_cons_of_mem _ (h)))) ?_
             refine rgp 12 (pp b74 (o75+(k:Int).toNat * 2)) 158 (H.sel _ (.refl _) _ (fun _ h=>List.mem_cons_of_mem _ (List.mem_cons_of_mem _ (h)))) ?_
             refine rgp 13 (pp b74 (o75+(k:Int).toNat * 2)) 158 (H.sel _ (.refl _) _ (fun _ h=>List.mem_cons_of_mem _ (List.mem_cons_of_mem _ (h)))) ?_
             refine gF 14 rfl rfl (H.sel _ (.refl _) _ (fun _ h=>List.mem_cons_of_mem _ (List.mem_cons_of_mem _ (h)))) ?_
             refine gL 15 rfl rfl (fun _ h=>h.zZ 1 rfl 0 rfl) (H.sel _ (.refl _) _ (fun _ h=>List.mem_cons_of_mem _ (List.mem_cons_of_mem _ (h)))) ?_
             refine zH [11] qh qm (r_opG rfl (e:=158) rfl rfl (zk (yI ((r.qK[k - 1]!).qE)) isAgg2 rfl (H.zZ 1 rfl 0 rfl) (⟨H.dF 2,(rgp 16 (.bool (decide (((r.qK[k - 1]!).qE:Int)≥((r.qK[k]!).qE)))) 158 (H.sel _ (.refl _) _ (fun _ h=>List.mem_cons_of_mem _ (List.mem_cons_of_mem _ (h)))) ?_)⟩)) zI)
             refine rtp 17 (.bool (decide (((r.qK[k - 1]!).qE:Int)≥((r.qK[k]!).qE)))) (H.sel _ (.refl _) _ (fun _ h=>List.mem_cons_of_mem _ (List.mem_cons_of_mem _ (h)))) ?_
             refine xh qh (t_n (cD rfl (fun h93=>?_) (fun h93=>?_)))
             ·skip
              refine zcr (sp (.bool false) (zjr (zr5 (ret1 (.bool false) rfl rfl ⟨_,rfl,?_,H.base⟩))))
              rw [xg (fun h=>by obtain ⟨h1,h2,h3,h4,h5,h6,h7,h8,h9,h10,h11⟩:=h;first | contradiction | omega | exact h3 ⟨‹_›,‹_›⟩ | (obtain ⟨q1,q2,q3,q4,q5⟩:=h11 k qf;first | contradiction | omega | (have:=q5 qf;omega)))]
             refine xB (b_n (t_n (zJ (sp (yI k) (sw (vk k 1 rfl rfl qf (sp (yI (k+1)) (zK (xH (m' :=r.qK.length - (k+1)) qf ⟨_,k+1,uE3,?_,?_,rfl,H.sel _ (.refl _) _ qm⟩)))))))))
             · omega
             · exact i1.succ ⟨‹_›,‹_›,‹_›,‹_›,fun hk=>by omega⟩
            replace h86:=xF h86
            replace h86:=zD h86
            refine zG [35,36,37,38,39,40] 6 (H) (rtp 41 (.bool true) H ?_)
            refine xh qh (t_n (xZ true rfl (fun _=>zcr (sp (.bool false) (zjr (t_r (zr5 (ret1 (.bool false) rfl rfl ⟨_,rfl,?_,H.base⟩)))))) (fun h=>absurd h qj)))
            rw [xg (fun h=>by obtain ⟨h1,h2,h3,h4,h5,h6,h7,h8,h9,h10,h11⟩:=h;first | contradiction | omega | exact h3 ⟨‹_›,‹_›⟩ | (obtain ⟨q1,q2,q3,q4,q5⟩:=h11 k qf;first | contradiction | omega | (have:=q5 qf;omega)))]
           replace h83:=xF h83
           replace h83:=zD h83
           refine zG [26,27,28,29,30,31,32] 7 (H) (rtp 33 (.bool true) H ?_)
           refine rtp 34 (.bool true) H ?_
           refine zG [35,36,37,38,39,40] 6 (H) (rtp 41 (.bool true) H ?_)
           refine xh qh (t_n (xZ true rfl (fun _=>zcr (sp (.bool false) (zjr (t_r (zr5 (ret1 (.bool false) rfl rfl ⟨_,rfl,?_,H.base⟩)))))) (fun h=>absurd h qj)))
           rw [xg (fun h=>by obtain ⟨h1,h2,h3,h4,h5,h6,h7,h8,h9,h10,h11⟩:=h;first | contradiction | omega | exact h3 ⟨‹_›,‹_›⟩ | (obtain ⟨q1,q2,q3,q4,q5⟩:=h11 k qf;first | contradiction | omega | (have:=q5 qf;omega)))]
          replace h80:=xF h80
          replace h80:=Qy h80
          refine zG [13,14,15,16,17,18,19,20,21,22,23] 11 (H) (rtp 24 (.bool true) H ?_)
          refine rtp 25 (.bool true) H ?_
          refine zG [26,27,28,29,30,31,32] 7 (H) (rtp 33 (.bool true) H ?_)
          refine rtp 34 (.bool true) H ?_
          refine zG [35,36,37,38,39,40] 6 (H) (rtp 41 (.bool true) H ?_)
          refine xh qh (t_n (xZ true rfl (fun _=>zcr (sp (.bool false) (zjr (t_r (zr5 (ret1 (.bool false) rfl rfl ⟨_,rfl,?_,H.base⟩)))))) (fun h=>absurd h qj)))
          rw [xg (fun h=>by obtain ⟨h1,h2,h3,h4,h5,h6,h7,h8,h9,h10,h11⟩:=h;first | contradiction | omega | exact h3 ⟨‹_›,‹_›⟩ | (obtain ⟨q1,q2,q3,q4,q5⟩:=h11 k qf;first | contradiction | omega | (have:=q5 qf;omega)))]
         refine zx4 (zcr (sp (.bool true) (zjr (ret1 (.bool true) rfl rfl ⟨_,rfl,?_,H.base⟩))))
         obtain rfl:k=r.qK.length:=by omega
         rw [yz ⟨by assumption,by omega,by simp_all,by omega,by assumption,by assumption,by assumption,by assumption,by assumption,by assumption,i1⟩]
        replace h67:=xF h67
        replace h67:=zD h67
        refine xQ [92,93,94,95,96,97] (sp (.bool true) (zjn (xZ true rfl (fun _=>zcr (sp (.bool false) (zjr (t_r (ret1 (.bool false) rfl rfl ⟨_,rfl,?_,H.base⟩))))) (fun h=>absurd h qj))))
        rw [xg (fun h=>by obtain ⟨h1,h2,h3,h4,h5,h6,h7,h8,h9,h10,h11⟩:=h;first | contradiction | omega | exact h3 ⟨‹_›,‹_›⟩ | (obtain ⟨q1,q2,q3,q4,q5⟩:=h11 k qf;first | contradiction | omega | (have:=q5 qf;omega)))]
       replace h64:=xF h64
       replace h64:=zD h64
       refine xQ [83,84,85,86,87,88,89] (sps [.bool true,.bool true] (xQ [92,93,94,95,96,97] (sp (.bool true) (zjn (xZ true rfl (fun _=>zcr (sp (.bool false) (zjr (t_r (ret1 (.bool false) rfl rfl ⟨_,rfl,?_,H.base⟩))))) (fun h=>absurd h qj))))))
       rw [xg (fun h=>by obtain ⟨h1,h2,h3,h4,h5,h6,h7,h8,h9,h10,h11⟩:=h;first | contradiction | omega | exact h3 ⟨‹_›,‹_›⟩ | (obtain ⟨q1,q2,q3,q4,q5⟩:=h11 k qf;first | contradiction | omega | (have:=q5 qf;omega)))]
      replace h61:=xF h61
      replace h61:=zD h61
      refine xQ [74,75,76,77,78,79,80] (sps [.bool true,.bool true] (xQ [83,84,85,86,87,88,89] (sps [.bool true,.bool true] (xQ [92,93,94,95,96,97] (sp (.bool true) (zjn (xZ true rfl (fun _=>zcr (sp (.bool false) (zjr (t_r (ret1 (.bool false) rfl rfl ⟨_,rfl,?_,H.base⟩))))) (fun h=>absurd h qj))))))))
      rw [xg (fun h=>by obtain ⟨h1,h2,h3,h4,h5,h6,h7,h8,h9,h10,h11⟩:=h;first | contradiction | omega | exact h3 ⟨‹_›,‹_›⟩ | (obtain ⟨q1,q2,q3,q4,q5⟩:=h11 k qf;first | contradiction | omega | (have:=q5 qf;omega)))]
     replace h58:=xF h58
     replace h58:=zD h58
     refine xQ [65,66,67,68,69,70,71] (sps [.bool true,.bool true] (xQ [74,75,76,77,78,79,80] (sps [.bool true,.bool true] (xQ [83,84,85,86,87,88,89] (sps [.bool true,.bool true] (xQ [92,93,94,95,96,97] (sp (.bool true) (zjn (xZ true rfl (fun _=>zcr (sp (.bool false) (zjr (t_r (ret1 (.bool false) rfl rfl ⟨_,rfl,?_,H.base⟩))))) (fun h=>absurd h qj))))))))))
     rw [xg (fun h=>by obtain ⟨h1,h2,h3,h4,h5,h6,h7,h8,h9,h10,h11⟩:=h;first | contradiction | omega | exact h3 ⟨‹_›,‹_›⟩ | (obtain ⟨q1,q2,q3,q4,q5⟩:=h11 k qf;first | contradiction | omega | (have:=q5 qf;omega)))]
    replace h55:=xF h55
    replace h55:=zD h55
    refine xQ [56,57,58,59,60,61,62] (sps [.bool true,.bool true] (xQ [65,66,67,68,69,70,71] (sps [.bool true,.bool true] (xQ [74,75,76,77,78,79,80] (sps [.bool true,.bool true] (xQ [83,84,85,86,87,88,89] (sps [.bool true,.bool true] (xQ [92,93,94,95,96,97] (sp (.bool true) (zjn (xZ true rfl (fun _=>zcr (sp (.bool false) (zjr (t_r (ret1 (.bool false) rfl rfl ⟨_,rfl,?_,H.base⟩))))) (fun h=>absurd h qj))))))))))))
    rw [xg (fun h=>by obtain ⟨h1,h2,h3,h4,h5,h6,h7,h8,h9,h10,h11⟩:=h;first | contradiction | omega | exact h3 ⟨‹_›,‹_›⟩ | (obtain ⟨q1,q2,q3,q4,q5⟩:=h11 k qf;first | contradiction | omega | (have:=q5 qf;omega)))]
   replace h51:=eq_of_beq h51
   refine zG [34,35,36,37,38,39] 6 (H) (rtp 40 (.bool true) H ?_)
   refine xh qh (t_n (xZ true rfl (fun _=>zcr (sp (.bool false) (zjr (t_r (ret1 (.bool false) rfl rfl ⟨_,rfl,?_,H.base⟩))))) (fun h=>absurd h qj)))
   rw [xg (fun h=>by obtain ⟨h1,h2,h3,h4,h5,h6,h7,h8,h9,h10,h11⟩:=h;first | contradiction | omega | exact h3 ⟨‹_›,‹_›⟩ | (obtain ⟨q1,q2,q3,q4,q5⟩:=h11 k qf;first | contradiction | omega | (have:=q5 qf;omega)))]
  replace h7:=xF h7
  replace h7:=Qy h7
  refine zG [21,22,23,24,25,26,27,28,29,30,31] 11 (H) (rtp 32 (.bool true) H ?_)
  refine rtp 33 (.bool true) H ?_
  refine zG [34,35,36,37,38,39] 6 (H) (rtp 40 (.bool true) H ?_)
  refine xh qh (t_n (xZ true rfl (fun _=>zcr (sp (.bool false) (zjr (t_r (ret1 (.bool false) rfl rfl ⟨_,rfl,?_,H.base⟩))))) (fun h=>absurd h qj)))
  rw [xg (fun h=>by obtain ⟨h1,h2,h3,h4,h5,h6,h7,h8,h9,h10,h11⟩:=h;first | contradiction | omega | exact h3 ⟨‹_›,‹_›⟩ | (obtain ⟨q1,q2,q3,q4,q5⟩:=h11 k qf;first | contradiction | omega | (have:=q5 qf;omega)))]
 replace h4:=xF h4
 replace h4:=Qy h4
 refine zG [13,14,15,16,17,18] 6 (H) (rtp 19 (.bool true) H ?_)
 refine rtp 20 (.bool true) H ?_
 refine zG [21,22,23,24,25,26,27,28,29,30,31] 11 (H) (rtp 32 (.bool true) H ?_)
 refine rtp 33 (.bool true) H ?_
 refine zG [34,35,36,37,38,39] 6 (H) (rtp 40 (.bool true) H ?_)
 refine xh qh (t_n (xZ true rfl (fun _=>zcr (sp (.bool false) (zjr (t_r (ret1 (.bool false) rfl rfl ⟨_,rfl,?_,H.base⟩))))) (fun h=>absurd h qj)))
 rw [xg (fun h=>by obtain ⟨h1,h2,h3,h4,h5,h6,h7,h8,h9,h10,h11⟩:=h;first | contradiction | omega | exact h3 ⟨‹_›,‹_›⟩ | (obtain ⟨q1,q2,q3,q4,q5⟩:=h11 k qf;first | contradiction | omega | (have:=q5 qf;omega)))]

theorem l02State_ok (w:World) (s:qy) (t:qA) {qC:yOA} {xk:yLN} {qJ:yOA} {xN:yLN} {bt ot:Nat} {qU:yOA} {qQ:Nat} {zF:yLN} {xE:yOA} {xu:Nat} {vF:yLN} {qN:yOA} {qM:Nat} {zh:yLN} (hs:jQ w bs os (yS s qC qB qJ qG)) (qW:qR.rep w xk [.slice qC s.qx.length qB] s.qx) (xG:qR.rep w xN [.slice qJ s.qw.length qG] s.qw) (ht:jQ w bt ot (yT t qU qQ xE xu qN qM)) (zC:qR.rep w zF [.slice qU t.qF.length qQ] t.qF) (vz:qR.rep w vF [.slice xE t.qL.length xu] t.qL) (zn:qR.rep w zh [.slice qN t.qH.length qM] t.qH) (p0:jd s):Calls Try.prog 36 #[pp bs os,pp bt ot] w (Ret (fun v w' =>v=.bool (dec (xP s t))) w):=by
 refine en func36 ntmps36 ?_
 have H:=(((((((St.start w).arg zn).arg vz).arg zC).argAt ht).arg xG).arg qW).argAt hs
 have zY:=qX qW
 have jw:=qX xG
 have Qq:=qX zC
 have nhtBags:=qX vz
 have yM:=qX zn
 clear hs qW xG ht zC vz zn
 have p1:=p0.2.1
 refine zcr (sp (.bool false) (zjn (zx (zx ?_))))
 refine y9 rfl H fun H=>rtp 0 (pp bt ot) H ?_
 refine rtp 1 (pp bt ot) H ?_
 refine tF 2 rfl rfl H ?_
 refine tL 3 rfl rfl (fun _ h=>h.zZ 3 rfl 0 rfl) H ?_
 refine tN 4 rfl rfl H ?_
 refine rtp 5 (pp bs os) H ?_
 refine rtp 6 (pp bs os) H ?_
 refine tF 7 rfl rfl H ?_
 refine tL 8 rfl rfl (fun _ h=>h.zZ 0 rfl 1 rfl) H ?_
 refine tN 9 rfl rfl H ?_
 refine rtp 10 (.bool ((t.qF.length:Int) != s.qx.length)) H ?_
 refine rtp 11 (.bool ((t.qF.length:Int) != s.qx.length)) H ?_
 cases h2:((t.qF.length:Int) != s.qx.length)
 ·skip
  replace h2:=zT h2
  refine rgp 12 (pp bt ot) 17 H ?_
  refine rgp 13 (pp bt ot) 17 H ?_
  refine gF 14 rfl rfl H ?_
  refine gL 15 rfl rfl (fun _ h=>h.zZ 3 rfl 1 rfl) H ?_
  refine gN 16 rfl rfl H ?_
  refine rgp 17 (pp bs os) 17 H ?_
  refine rgp 18 (pp bs os) 17 H ?_
  refine gF 19 rfl rfl H ?_
  refine gL 20 rfl rfl (fun _ h=>h.zZ 0 rfl 1 rfl) H ?_
  refine gN 21 rfl rfl H ?_
  refine rgp 22 (.bool ((t.qL.length:Int) != s.qx.length)) 17 H ?_
  refine rtp 23 (.bool ((t.qL.length:Int) != s.qx.length)) H ?_
  refine rtp 24 (.bool ((t.qL.length:Int) != s.qx.length)) H ?_
  cases h3:((t.qL.length:Int) != s.qx.length)
  ·skip
   replace h3:=zT h3
   refine rgp 25 (pp bt ot) 30 H ?_
   refine rgp 26 (pp bt ot) 30 H ?_
   refine gF 27 rfl rfl H ?_
   refine gL 28 rfl rfl (fun _ h=>h.zZ 3 rfl 0 rfl) H ?_
   obtain ⟨b4,o5,rfl⟩:=H.addr 4 rfl qf
   refine gI 29 rfl rfl rfl H ?_
   refine gL 30 rfl rfl (fun _ h=>h.elemBool 4 rfl 0 qf qf) H ?_
   refine rgp 31 (.bool (!(t.qF[0]!))) 30 H ?_
   refine rtp 32 (.bool (!(t.qF[0]!))) H ?_
   refine rtp 33 (.bool (!(t.qF[0]!))) H ?_
   cases h6:(!(t.qF[0]!))
   ·skip
    replace h6:=xm h6
    refine rgp 34 (pp bs os) 39 H ?_
    refine rgp 35 (pp bt ot) 39 H ?_
    refine rgp 36 (pp bt ot) 39 H ?_
    refine gF 37 rfl rfl H ?_
    refine gL 38 rfl rfl (fun _ h=>h.zZ 3 rfl 2 rfl) H ?_
    refine zH [39] qh qm (r_opG rfl (e:=39) rfl rfl (oq (yO _ s t.qH (qI (H.get 0 rfl) 0 3) (H.get 1 rfl).1 (H.get 2 rfl).1 (H.get 6 rfl).1) H fun w7 H=>⟨H,(rgp 40 (.bool (!(dec (zA s.qV t.qH)))) 39 H ?_)⟩) zI)
    refine rtp 41 (.bool (!(dec (zA s.qV t.qH)))) H ?_
    refine xh qh (t_n (cQ rfl (fun h9=>?_) (fun h9=>?_)))
    ·skip
     refine zcr (sp (.bool false) (zjr (t_r (ret1 (.bool false) rfl rfl ⟨_,rfl,?_,H.base⟩))))
     rw [xg (fun h=>by obtain ⟨h1,h2,h3,h4,h5⟩:=h;first | contradiction | omega | (simp_all;done) | (obtain ⟨q1,q2⟩:=h5 k qf;first | contradiction | (have:=q2 ql;omega)))]
    refine xB (t_n (zcc (sp (yI 0) (zjn (xq ?_)))))
    refine vg (fun m' ρ w10=>∃ (zB:Env) (k:Nat),ρ=upd (upd (upd zB 0 (pp bs os)) 1 (pp bt ot)) 5 (yI k)∧(k≤t.qL.length)∧(BagsTo s t k)∧m' =t.qL.length - k∧St w w10 [] [atF bs os (yS s qC qB qJ qG),sF false xk qC qB s.qx,sF false xN qJ qG s.qw,atF bt ot [.slice (aa b4 o5) t.qF.length qQ,.slice xE t.qL.length xu,.slice qN t.qH.length qM],sF false zF (aa b4 o5) qQ t.qF,sF false vF xE xu t.qL,sF false zh qN qM t.qH]) (t.qL.length - 0) ⟨_,0,uE3,qf,(by exact fun j hj=>by omega),rfl,H⟩ ?_
    clear H
    rintro m' ρ w11 ⟨zB,k,rfl,i0,i1,rfl,H⟩
    refine zcc (sps [yI k,pp bt ot,pp bt ot] (oF rfl (oL rfl (H.zZ 3 rfl 1 rfl) (oN rfl (sp (.bool (decide ((k:Int) < t.qL.length))) (zjn (cD rfl (fun h12=>?_) (fun h12=>?_))))))))
    ·skip
     refine xB (t_n (zx (xq (zcr (sps [pp bs os,pp bt ot,pp bt ot] (oF rfl (oL rfl (H.zZ 3 rfl 1 rfl) (sp (yI k) ?_))))))))
     obtain ⟨b13,o14,rfl⟩:=H.addr 5 rfl qf
     obtain ⟨ae15,ce15,Fe15,H⟩:=H.QH 5 rfl k k qf qf qf
     refine oI rfl rfl (oL rfl (H.zZ 1 rfl 0 rfl) (sw (oq (yO _ s (t.qL[k]!) (qI (H.get 2 rfl) 0 3) (H.get 3 rfl).1 (H.get 4 rfl).1 (H.get 0 rfl).1) H fun w16 H=>sps [.bool (!(dec (zA s.qV (t.qL[k]!)))),.bool (!(dec (zA s.qV (t.qL[k]!))))] ?_)))
     cases h18:(!(dec (zA s.qV (t.qL[k]!))))
     ·skip
      replace h18:=xm h18
      replace h18:=yg h18
      refine qO 67 rfl rfl (sp (pp bt ot) (qO 67 rfl rfl (sp (pp bt ot) (qO 67 rfl rfl (oF rfl (qO 67 rfl rfl (oL rfl (H.zZ 5 rfl 0 rfl) (qO 67 rfl rfl (sp (yI k) (qO 67 rfl rfl (oI rfl rfl (qO 67 rfl rfl (oL rfl (H.elemBool 6 rfl k qf qf) (qO 67 rfl rfl (sp (.bool (!(t.qF[k]!))) (qO 67 rfl rfl (sp (.bool (!(t.qF[k]!))) ?_)))))))))))))))))
      cases h19:(!(t.qF[k]!))
      ·skip
       replace h19:=xm h19
       refine xQ [77,78,79,80,81,82,83,84,85] (qO 67 rfl rfl (sps [.bool false,.bool false] (zjn (xZ false rfl (fun h=>absurd h qj) (fun _=>xB (b_n (t_n (zJ (sp (yI k) (sw (vk k 1 rfl rfl qf (sp (yI (k+1)) (zK (xH (m' :=t.qL.length - (k+1)) qf ⟨_,k+1,uE3,?_,?_,rfl,H.sel _ (.refl _) _ qm⟩))))))))))))))
       · omega
       · exact i1.succ ‹_› (fun hk=>by first | omega | simp_all)
      replace h19:=xF h19
      refine qO 76 rfl rfl (sp (pp bt ot) (qO 76 rfl rfl (sp (pp bt ot) (qO 76 rfl rfl (oF rfl (qO 76 rfl rfl (oL rfl (H.zZ 5 rfl 1 rfl) (qO 76 rfl rfl (sp (yI k) (qO 76 rfl rfl (oI rfl rfl (qO 76 rfl rfl (oL rfl (H.zZ 1 rfl 0 rfl) (qO 76 rfl rfl (sw (oq (l01Size_ok _ (t.qL[k]!) (H.get 0 rfl).1 (by first | assumption | exact vY ql | exact Qa ql)) H fun w20 H=>qO 76 rfl rfl (sp (.bool (decide ((sumL (t.qL[k]!):Int) > 0))) (qO 67 rfl rfl ?_))))))))))))))))))
      refine sps [.bool (decide ((sumL (t.qL[k]!):Int) > 0)),.bool (decide ((sumL (t.qL[k]!):Int) > 0))] (zjn (cD rfl (fun h22=>?_) (fun h22=>?_)))
      ·skip
       refine zcr (sp (.bool false) (zjr (zr5 (ret1 (.bool false) rfl rfl ⟨_,rfl,?_,H.base⟩))))
       rw [xg (fun h=>by obtain ⟨h1,h2,h3,h4,h5⟩:=h;first | contradiction | omega | (simp_all;done) | (obtain ⟨q1,q2⟩:=h5 k qf;first | contradiction | (have:=q2 ql;omega)))]
      refine xB (b_n (t_n (zJ (sp (yI k) (sw (vk k 1 rfl rfl qf (sp (yI (k+1)) (zK (xH (m' :=t.qL.length - (k+1)) qf ⟨_,k+1,uE3,?_,?_,rfl,H.sel _ (.refl _) _ qm⟩)))))))))
      · omega
      · exact i1.succ ‹_› (fun hk=>by first | omega | simp_all)
     replace h18:=xF h18
     replace h18:=zD h18
     refine xQ [68,69,70,71,72,73,74,75,76,77,78,79,80,81,82,83,84,85,86] (sp (.bool true) (zjn (xZ true rfl (fun _=>zcr (sp (.bool false) (zjr (zr5 (ret1 (.bool false) rfl rfl ⟨_,rfl,?_,H.base⟩))))) (fun h=>absurd h qj))))
     rw [xg (fun h=>by obtain ⟨h1,h2,h3,h4,h5⟩:=h;first | contradiction | omega | (simp_all;done) | (obtain ⟨q1,q2⟩:=h5 k qf;first | contradiction | (have:=q2 ql;omega)))]
    refine zx4 (zcr (sp (.bool true) (zjr (ret1 (.bool true) rfl rfl ⟨_,rfl,?_,H.base⟩))))
    obtain rfl:k=t.qL.length:=by omega
    rw [yz ⟨by omega,by omega,by first | assumption | simp_all,by assumption,i1⟩]
   replace h6:=xF h6
   refine zG [34,35,36,37,38,39,40] 7 (H) (rtp 41 (.bool true) H ?_)
   refine xh qh (t_n (xZ true rfl (fun _=>zcr (sp (.bool false) (zjr (t_r (ret1 (.bool false) rfl rfl ⟨_,rfl,?_,H.base⟩))))) (fun h=>absurd h qj)))
   rw [xg (fun h=>by obtain ⟨h1,h2,h3,h4,h5⟩:=h;first | contradiction | omega | (simp_all;done) | (obtain ⟨q1,q2⟩:=h5 k qf;first | contradiction | (have:=q2 ql;omega)))]
  replace h3:=bne_iff_ne.1 h3
  refine zG [25,26,27,28,29,30,31] 7 (H) (rtp 32 (.bool true) H ?_)
  refine rtp 33 (.bool true) H ?_
  refine zG [34,35,36,37,38,39,40] 7 (H) (rtp 41 (.bool true) H ?_)
  refine xh qh (t_n (xZ true rfl (fun _=>zcr (sp (.bool false) (zjr (t_r (ret1 (.bool false) rfl rfl ⟨_,rfl,?_,H.base⟩))))) (fun h=>absurd h qj)))
  rw [xg (fun h=>by obtain ⟨h1,h2,h3,h4,h5⟩:=h;first | contradiction | omega | (simp_all;done) | (obtain ⟨q1,q2⟩:=h5 k qf;first | contradiction | (have:=q2 ql;omega)))]
 replace h2:=bne_iff_ne.1 h2
 refine zG [12,13,14,15,16,17,18,19,20,21,22] 11 (H) (rtp 23 (.bool true) H ?_)
 refine rtp 24 (.bool true) H ?_
 refine zG [25,26,27,28,29,30,31] 7 (H) (rtp 32 (.bool true) H ?_)
 refine rtp 33 (.bool true) H ?_
 refine zG [34,35,36,37,38,39,40] 7 (H) (rtp 41 (.bool true) H ?_)
 refine xh qh (t_n (xZ true rfl (fun _=>zcr (sp (.bool false) (zjr (t_r (ret1 (.bool false) rfl rfl ⟨_,rfl,?_,H.base⟩))))) (fun h=>absurd h qj)))
 rw [xg (fun h=>by obtain ⟨h1,h2,h3,h4,h5⟩:=h;first | contradiction | omega | (simp_all;done) | (obtain ⟨q1,q2⟩:=h5 k qf;first | contradiction | (have:=q2 ql;omega)))]

theorem l02Ok_ok (w:World) (s:qy) {qC:yOA} {xk:yLN} {qJ:yOA} {xN:yLN} (hs:jQ w bs os (yS s qC qB qJ qG)) (qW:qR.rep w xk [.slice qC s.qx.length qB] s.qx) (xG:qR.rep w xN [.slice qJ s.qw.length qG] s.qw):Calls Try.prog 35 #[pp bs os] w (Ret (fun v w' =>v=.bool (dec (ve s))) w):=by
 refine en func35 ntmps35 ?_
 have H:=(((St.start w).arg xG).arg qW).argAt hs
 have zY:=qX qW
 have jw:=qX xG
 clear hs qW xG
 have p1:=fun h:jd s=>h.2.1
 refine zcr (sp (.bool false) (zjcc (sp (pp bs os) (sw (oq (l02Frame_ok _ s (qI (H.get 0 rfl) 0 3) (H.get 1 rfl).1 (H.get 2 rfl).1) H fun w1 H=>sps [.bool (!(dec (jd s))),.bool (!(dec (jd s)))] ?_)))))
 cases h3:(!(dec (jd s)))
 ·skip
  replace h3:=xm h3
  replace h3:=yg h3
  refine qO 8 rfl rfl (sp (pp bs os) (qO 8 rfl rfl (sp (pp bs os) (qO 8 rfl rfl (oF rfl (qO 8 rfl rfl (oL rfl (H.zZ 0 rfl 2 rfl) (qO 8 rfl rfl (oN rfl (qO 8 rfl rfl (sps [.bool (decide ((s.qw.length:Int) > 16)),.bool (decide ((s.qw.length:Int) > 16))] (zjn (cD rfl (fun h4=>?_) (fun h4=>?_))))))))))))))
  ·skip
   refine zcr (sp (.bool false) (zjr (t_r (ret1 (.bool false) rfl rfl ⟨_,rfl,?_,H.base⟩))))
   rw [xg (fun h=>by obtain ⟨h1,h2,h3⟩:=h;first | contradiction | omega | (obtain ⟨q1,q2⟩:=h3 k qf;first | contradiction | (have:=Q4 (k:=k+1) q;omega)))]
  have p2:=p1 ql
  refine xB (t_n (zcr (sps [pp bs os,pp bs os] (oF rfl (oL rfl (H.zZ 0 rfl 1 rfl) (oN rfl (sw (o_make1 H underlying24 ti2 rfl s.qx.length rfl rfl qf qf fun b5 w6 H=>?_))))))))
  replace H:St _ _ [.box b5 (List.replicate s.qx.length (yI 0)) 2] _:=H
  refine sp (.slice (aa b5 0) s.qx.length s.qx.length) (zjcc (sp (yI 0) (zjn (xq ?_))))
  rw [ints_zero,counts_zero] at H
  refine vg (fun m' ρ w7=>∃ (zB:Env) (k:Nat),ρ=upd (upd (upd zB 0 (pp bs os)) 3 (.slice (aa b5 0) s.qx.length s.qx.length)) 4 (yI k)∧(k≤s.qw.length)∧(RulesTo s k)∧m' =s.qw.length - k∧St w w7 [.box b5 ((counts s k).map (Value.int .i64)) 2] [atF bs os (yS s qC qB qJ qG),sF false xk qC qB s.qx,sF false xN qJ qG s.qw]) (s.qw.length - 0) ⟨_,0,uE3,qf,(by exact fun j hj=>by omega),rfl,H⟩ ?_
  clear H
  rintro m' ρ w8 ⟨zB,k,rfl,i0,i1,rfl,H⟩
  refine zcc (sps [yI k,pp bs os,pp bs os] (oF rfl (oL rfl (H.zZ 0 rfl 2 rfl) (oN rfl (sp (.bool (decide ((k:Int) < s.qw.length))) (zjn (cD rfl (fun h9=>?_) (fun h9=>?_))))))))
  ·skip
   refine xB (t_n (zx (xq (zcc (sps [pp bs os,pp bs os,pp bs os] (oF rfl (oL rfl (H.zZ 0 rfl 2 rfl) (sp (yI k) ?_))))))))
   obtain ⟨b10,o11,rfl⟩:=H.addr 2 rfl qf
   obtain ⟨ae12Need,ce12Need,Fe12Need,ae12Have,ce12Have,Fe12Have,ae12Lack,ce12Lack,Fe12Lack,ae12Here,ce12Here,Fe12Here,ae12Out,ce12Out,Fe12Out,ae12Into,ce12Into,Fe12Into,H⟩:=H.Qm 2 rfl k k qf qf qf
   refine oI rfl rfl (sw (oq (l02Rule_ok _ s (s.qw[k]!) (qI (H.get 7 rfl) 0 3) (H.get 8 rfl).1 (H.get 9 rfl).1 (qI (H.get 6 rfl) 0 9) (H.get 0 rfl).1 (H.get 1 rfl).1 (H.get 2 rfl).1 (H.get 3 rfl).1 (H.get 4 rfl).1 (H.get 5 rfl).1 ql) H fun w13 H=>sp (.bool (!(dec (RuleOk s (s.qw[k]!))))) (zjn (cQ rfl (fun h15=>?_) (fun h15=>?_)))))
   ·skip
    refine zcr (sp (.bool false) (zjr (t_r (zr5 (ret1 (.bool false) rfl rfl ⟨_,rfl,?_,H.base⟩)))))
    rw [xg (fun h=>by obtain ⟨h1,h2,h3⟩:=h;first | contradiction | omega | (obtain ⟨q1,q2⟩:=h3 k qf;first | contradiction | (have:=Q4 (k:=k+1) q;omega)))]
   have q:=(h15).1
   refine xB (t_n (zcr (sps [.slice (aa b5 0) s.qx.length s.qx.length,pp bs os,pp bs os] (oF rfl (oL rfl (H.zZ 7 rfl 2 rfl) (sp (yI k) (oI rfl rfl (oF rfl (oL rfl (H.zZ 6 rfl 0 rfl) (oI rfl rfl (oL rfl (H.cell 0 rfl (ints_get (by rw [counts_len];omega))) (sw (vk ((counts s k)[((s.qw[k]!).qE:Int).toNat]!) 1 rfl rfl (by (first | omega | (rw [Q4 q];have:=ofCell_bd s.qw (s.qw[k]!).qE k;omega))) (oI rfl rfl ?_))))))))))))))
   refine sw (o_store1 H 0 rfl (yI (((counts s k)[((s.qw[k]!).qE:Int).toNat]!)+1)) sizeOf2 rfl rfl rfl (ints_lt (by rw [counts_len];omega)) fun w16 H=>?_)
   rw [ints_set] at H
   rw [counts_succ q] at H
   replace H:St _ _ [.box b5 ((counts s (k+1)).map (Value.int .i64)) 2] _:=H
   refine zjc (sps [.slice (aa b5 0) s.qx.length s.qx.length,pp bs os,pp bs os] (oF rfl (oL rfl (H.zZ 7 rfl 2 rfl) (sp (yI k) (oI rfl rfl (oF rfl (oL rfl (H.zZ 6 rfl 0 rfl) (oI rfl rfl (oL rfl (H.cell 0 rfl (ints_get (by rw [counts_len];omega))) (sp (.bool (decide (((counts s (k+1))[((s.qw[k]!).qE:Int).toNat]! :Int) > 8))) (zjn (cD rfl (fun h17=>?_) (fun h17=>?_)))))))))))))
   ·skip
    refine zcr (sp (.bool false) (zjr (zr5 (ret1 (.bool false) rfl rfl ⟨_,rfl,?_,H.base⟩))))
    rw [xg (fun h=>by obtain ⟨h1,h2,h3⟩:=h;first | contradiction | omega | (obtain ⟨q1,q2⟩:=h3 k qf;first | contradiction | (have:=Q4 (k:=k+1) q;omega)))]
   refine xB (b_n (t_n (zJ (sp (yI k) (sw (vk k 1 rfl rfl (by (first | omega | (rw [Q4 q];have:=ofCell_bd s.qw (s.qw[k]!).qE k;omega))) (sp (yI (k+1)) (zK (xH (m' :=s.qw.length - (k+1)) qf ⟨_,k+1,uE3,?_,?_,rfl,H.sel _ (.refl _) _ qm⟩)))))))))
   · omega
   · exact i1.succ ‹_› (by have:=Q4 (k:=k+1) q;omega)
  refine zx4 (zcr (sp (.bool true) (zjr (ret1 (.bool true) rfl rfl ⟨_,rfl,?_,H.base⟩))))
  obtain rfl:k=s.qw.length:=by omega
  rw [yz ⟨by assumption,by omega,i1⟩]
 replace h3:=xF h3
 replace h3:=zD h3
 refine xQ [9,10,11,12,13,14] (sp (.bool true) (zjn (xZ true rfl (fun _=>zcr (sp (.bool false) (zjr (t_r (ret1 (.bool false) rfl rfl ⟨_,rfl,?_,H.base⟩))))) (fun h=>absurd h qj))))
 rw [xg (fun h=>by obtain ⟨h1,h2,h3⟩:=h;first | contradiction | omega | (obtain ⟨q1,q2⟩:=h3 k qf;first | contradiction | (have:=Q4 (k:=k+1) q;omega)))]
theorem cloneB_ok (w:World) (l:List Bool) {al:yOA} {Fl:yLN} (hl:qR.rep w Fl [.slice al l.length cl] l) (p0:l.length≤1000000):Calls Try.prog 66 #[.slice al l.length cl] w (Ret (fun v w' =>∃ (ra:yOA) (rn:Nat) (rc:Nat),v=.slice ra rn rc∧Fresh w.heap.size []∧St w w' [rr ra rn rc 4 1 (l.map (Value.bool))] []) w):=by
 refine en func66 ntmps66 ?_
 have H:=(St.start w).arg hl
 have nhl:=qX hl
 clear hl
 have N:=Fresh.nil w.heap.size
 refine zcr (sp yN (zjcc (sp (.slice al l.length cl) (sw (o_eqnil underlying28 al l.length cl rfl (zjn (xZ (al.isNone) rfl (fun h1=>?_) (fun h1=>?_))))))))
 ·skip
  refine zcr (sp yN (zjr (t_r ?_)))
  replace H:=H.nilRowB 4
  refine ret1 yN rfl rfl ⟨_,rfl,?_,H.base⟩
  obtain rfl:=H.nilOf 0 rfl ‹_›
  exact ⟨none,0,0,rfl,N,H.pick [0] []⟩
 refine xB (t_n (zcr (sw (o_build0 H underlying28 ti4 fun b2 w3 H=>sp (.slice al l.length cl) ?_))))
 replace H:=H.boxRowB 0 [] 0
 refine sw (o_appendFR H 0 rfl 0 rfl underlying28 ti4 rfl qj rfl rfl qp qf fun a4 c5 w6 us7 G8 H hG9=>?_)
 obtain ⟨_,rfl⟩:=reps_bools (H.get 0 rfl).1
 replace H:=H.sub _ fun f hf=>List.mem_cons_of_mem _ hf
 rw [catB] at H
 refine sp (.slice a4 (0+l.length) c5) (zjr (ret1 (.slice a4 (0+l.length) c5) rfl rfl ⟨_,rfl,(⟨a4,0+l.length,c5,rfl,N,H.pick [0] []⟩),H.base⟩))
theorem isShell_ok (w:World) (s:qy) {qC:yOA} {xk:yLN} {qJ:yOA} {xN:yLN} (qW:qR.rep w xk [.slice qC s.qx.length qB] s.qx) (xG:qR.rep w xN [.slice qJ s.qw.length qG] s.qw):Calls Try.prog 107 #[.agg #[yI s.qV,.slice qC s.qx.length qB,.slice qJ s.qw.length qG]] w (Ret (fun v w' =>v=.bool (dec (jd s))) w):=by
 refine en func107 ntmps107 ?_
 have H:=((St.start w).arg xG).arg qW
 have zY:=qX qW
 have jw:=qX xG
 clear qW xG
 have N:=Fresh.nil w.heap.size
 refine zcr (sw (vP H (yS s qC qB qJ qG) fun b1 w2 H=>sp (.bool false) (zjcc (oF rfl (oL rfl (H.cell 0 rfl rfl) (sw (oq (Q3 w2 s.qV 1 8) H fun w3 H=>sps [.bool (!(inR s.qV 1 8)),.bool (!(inR s.qV 1 8))] ?_)))))))
 cases h5:(!(inR s.qV 1 8))
 ·skip
  replace h5:=xm h5
  replace h5:=y7.1 h5
  refine qO 9 rfl rfl (oF rfl (qO 9 rfl rfl (oL rfl (H.cell 0 rfl rfl) (qO 9 rfl rfl (sw (oq (sizeI_ok _ s.qx (H.get 0 rfl).1) H fun w6 H=>qO 9 rfl rfl (sw (oq (Q3 w6 (s.qx.length:Int) 1 6) H fun w8 H=>qO 9 rfl rfl (sps [.bool (!(inR (s.qx.length:Int) 1 6)),.bool (!(inR (s.qx.length:Int) 1 6)),.bool (!(inR (s.qx.length:Int) 1 6))] ?_)))))))))
  cases h10:(!(inR (s.qx.length:Int) 1 6))
  ·skip
   replace h10:=xm h10
   replace h10:=y7.1 h10
   refine qO 16 rfl rfl (oF rfl (qO 16 rfl rfl (oL rfl (H.cell 0 rfl rfl) (qO 16 rfl rfl ?_))))
   obtain ⟨b11,o12,rfl⟩:=H.addr 0 rfl qf
   refine oI rfl rfl (qO 16 rfl rfl (oL rfl (H.jB 0 rfl 0 qf qf) (qO 16 rfl rfl (sps [.bool ((s.qx[0]! :Int) != (-1)),.bool ((s.qx[0]! :Int) != (-1))] (zjn (xZ ((s.qx[0]! :Int) != (-1)) rfl (fun h14=>?_) (fun h14=>?_)))))))
   ·skip
    replace h14:=bne_iff_ne.1 h14
    refine zcr (sp (.bool false) (zjr (t_r (ret1 (.bool false) rfl rfl ⟨_,rfl,?_,H.base⟩))))
    rw [xg (fun h=>by obtain ⟨h1,h2,h3,h4⟩:=h;first | omega | (have:=h4 (c+1) qf qf;rw [← dg qf] at this;omega))]
   replace h14:=zT h14
   refine xB (t_n (zcc (oF rfl (oL rfl (H.cell 0 rfl rfl) (sw (o_tail H 0 rfl 1 underlying24 ti2 rfl qf fun a15 G16 hG17 H=>?_))))))
   have hl18:(s.qx.drop 1).length=s.qx.length - 1:=List.length_drop
   refine oN rfl (sp (yI 0) (zjn (xq ?_)))
   refine vg (fun m' ρ w19=>∃ (zB:Env) (c:Nat),ρ=upd (upd (upd zB 25 (.slice a15 ((s.qx.drop 1).length) (qB - 1))) 26 (yI ((s.qx.drop 1).length))) 27 (yI c)∧((c:Int)≤((s.qx.drop 1).length))∧(FrameTo s (c+1))∧m' =(((s.qx.drop 1).length) - (c:Int)).toNat∧Fresh w.heap.size []∧St w w19 [.box b1 [yI s.qV,.slice (aa b11 o12) s.qx.length qB,.slice qJ s.qw.length qG] 27] [sF false G16 a15 (qB - 1) (s.qx.drop 1),sF false xk (aa b11 o12) qB s.qx,sF false xN qJ qG s.qw]) ((((s.qx.drop 1).length) - (0:Int)).toNat) ⟨_,0,uE3,qf,(by exact FrameTo.one s),rfl,N,H⟩ ?_
   clear H N
   rintro m' ρ w20 ⟨zB,c,rfl,i0,i1,rfl,N,H⟩
   have dg:=drop_get (l:=s.qx) (k:=c)
   refine zcr (sp (.bool (decide ((c:Int) < ((s.qx.drop 1).length)))) (zjn (zx (cD rfl (fun h21=>?_) (fun h21=>?_)))))
   ·skip
    refine xB (t_n (zx (xq (zcr (sp (yI c) ?_)))))
    obtain ⟨b22,o23,rfl⟩:=H.addr 0 rfl qf
    refine oI rfl rfl (oL rfl (H.jB 0 rfl c qf qf) (sps [yI c,yI ((s.qx.drop 1)[c]!)] (zjc (sps [yI ((s.qx.drop 1)[c]!),yI c] (sw (oq (Q3 w20 ((s.qx.drop 1)[c]!) 0 c) H fun w25 H=>sp (.bool (!(inR ((s.qx.drop 1)[c]!) 0 c))) (zjn (xZ (!(inR ((s.qx.drop 1)[c]!) 0 c)) rfl (fun h27=>?_) (fun h27=>?_)))))))))
    ·skip
     replace h27:=xF h27
     replace h27:=Qy h27
     refine zcr (sp (.bool false) (zjr (zr5 (ret1 (.bool false) rfl rfl ⟨_,rfl,?_,H.base⟩))))
     rw [xg (fun h=>by obtain ⟨h1,h2,h3,h4⟩:=h;first | omega | (have:=h4 (c+1) qf qf;rw [← dg qf] at this;omega))]
    replace h27:=xm h27
    replace h27:=y7.1 h27
    refine xB (b_n (t_n (zJ (sw (vk c 1 rfl rfl qf (sp (yI (c+1)) (zK (xH (m' :=(((s.qx.drop 1).length) - ((c+1):Int)).toNat) qf ⟨_,c+1,uE3,?_,?_,rfl,N,H⟩))))))))
    · omega
    · exact i1.succ (by rw [← dg qf];omega)
   refine zx4 (zcr (sp (.bool true) (zjr (ret1 (.bool true) rfl rfl ⟨_,rfl,?_,H.base⟩))))
   rw [yz ⟨by omega,by omega,by omega,(show s.qx.length=c+1 by omega)▸i1⟩]
  replace h10:=xF h10
  replace h10:=Qy h10
  refine xQ [17,18,19,20,21] (sp (.bool true) (zjn (xZ true rfl (fun _=>zcr (sp (.bool false) (zjr (t_r (ret1 (.bool false) rfl rfl ⟨_,rfl,?_,H.base⟩))))) (fun h=>absurd h qj))))
  rw [xg (fun h=>by obtain ⟨h1,h2,h3,h4⟩:=h;first | omega | (have:=h4 (c+1) qf qf;rw [← dg qf] at this;omega))]
 replace h5:=xF h5
 replace h5:=Qy h5
 refine xQ [10,11,12,13,14] (sps [.bool true,.bool true] (xQ [17,18,19,20,21] (sp (.bool true) (zjn (xZ true rfl (fun _=>zcr (sp (.bool false) (zjr (t_r (ret1 (.bool false) rfl rfl ⟨_,rfl,?_,H.base⟩))))) (fun h=>absurd h qj))))))
 rw [xg (fun h=>by obtain ⟨h1,h2,h3,h4⟩:=h;first | omega | (have:=h4 (c+1) qf qf;rw [← dg qf] at this;omega))]

theorem isCell_ok (w:World) (s:qy) (c:Int) {qC:yOA} {xk:yLN} {qJ:yOA} {xN:yLN} (qW:qR.rep w xk [.slice qC s.qx.length qB] s.qx) (xG:qR.rep w xN [.slice qJ s.qw.length qG] s.qw):Calls Try.prog 49 #[.agg #[yI s.qV,.slice qC s.qx.length qB,.slice qJ s.qw.length qG],yI c] w (Ret (fun v w' =>v=.bool (inR c 0 ((s.qx.length:Int) - 1))) w):=by
 refine en func49 ntmps49 ?_
 have H:=((St.start w).arg xG).arg qW
 have zY:=qX qW
 have jw:=qX xG
 clear qW xG
 have N:=Fresh.nil w.heap.size
 refine zcr (sw (vP H (yS s qC qB qJ qG) fun b1 w2 H=>sp (.bool false) (zjc (sp (yI c) (oF rfl (oL rfl (H.cell 0 rfl rfl) (sw (oq (sizeI_ok _ s.qx (H.get 0 rfl).1) H fun w3 H=>sw (o_sub (s.qx.length:Int) 1 rfl rfl qf (sw (oq (Q3 w3 c 0 ((s.qx.length:Int) - 1)) H fun w5 H=>sp (.bool (inR c 0 ((s.qx.length:Int) - 1))) (zjr (ret1 (.bool (inR c 0 ((s.qx.length:Int) - 1))) rfl rfl ⟨_,rfl,?_,H.base⟩)))))))))))))
 rfl

theorem lies_ok (w:World) (s:qy) (c:Int) (within:Int) {qC:yOA} {xk:yLN} {qJ:yOA} {xN:yLN} (qW:qR.rep w xk [.slice qC s.qx.length qB] s.qx) (xG:qR.rep w xN [.slice qJ s.qw.length qG] s.qw) (p0:jd s) (p1:Q5 s c):Calls Try.prog 121 #[.agg #[yI s.qV,.slice qC s.qx.length qB,.slice qJ s.qw.length qG],yI c,yI within] w (Ret (fun v w' =>v=.bool (dec (Lies s.qx within c))) w):=by
 refine en func121 ntmps121 ?_
 have H:=((St.start w).arg xG).arg qW
 have zY:=qX qW
 have jw:=qX xG
 clear qW xG
 have N:=Fresh.nil w.heap.size
 have p2:=p0.step p1.1 p1.2
 refine zcr (sw (vP H (yS s qC qB qJ qG) fun b1 w2 H=>sp (.bool false) (zjcc (oF rfl (oL rfl (H.cell 0 rfl rfl) (sp (yI c) ?_))))))
 obtain ⟨b3,o4,rfl⟩:=H.addr 0 rfl qf
 refine oI rfl rfl (oL rfl (H.jB 0 rfl c qf qf) (sp (yI (s.qx[c.toNat]!)) (zjn (xq ?_))))
 refine vg (fun m' ρ w6=>∃ (zB:Env) (c_1:Int),ρ=upd (upd (upd zB 1 (yI c_1)) 2 (yI within)) 3 (pp b1 0)∧(-1≤c_1∧c_1≤(s.qx.length:Int) - 1)∧(Lies s.qx within c↔0≤c_1∧(c_1=within∨Lies s.qx within c_1))∧m' =(c_1+1).toNat∧Fresh w.heap.size []∧St w w6 [.box b1 [yI s.qV,.slice (aa b3 o4) s.qx.length qB,.slice qJ s.qw.length qG] 27] [sF false xk (aa b3 o4) qB s.qx,sF false xN qJ qG s.qw]) (((s.qx[c.toNat]!)+1).toNat) ⟨_,s.qx[c.toNat]!,uE3,qf,(by exact lies_up p0 p1),rfl,N,H⟩ ?_
 clear H N
 rintro m' ρ w7 ⟨zB,c_1,rfl,i0,i1,rfl,N,H⟩
 have up:=fun h=>p0.step (c:=c_1) h i0.2
 refine zcc (sps [yI c_1,.bool (decide ((c_1:Int)≥0))] (zjn (cD rfl (fun h8=>?_) (fun h8=>?_))))
 ·skip
  refine xB (t_n (zx (xq (zcr (sps [yI c_1,yI within,.bool ((c_1:Int) == within)] (zjn (cE rfl (fun h9=>?_) (fun h9=>?_))))))))
  ·skip
   refine zcr (sp (.bool true) (zjr (zr5 (ret1 (.bool true) rfl rfl ⟨_,rfl,?_,H.base⟩))))
   rw [yz (i1.2 ⟨by omega,.inl ‹_›⟩)]
  refine xB (b_n (t_n (zJ (oF rfl (oL rfl (H.cell 0 rfl rfl) (sp (yI c_1) (oI rfl rfl (oL rfl (H.jB 0 rfl c_1 qf qf) (sp (yI (s.qx[c_1.toNat]!)) (zK ?_))))))))))
  have up1:=up qf
  refine xH (m' :=((s.qx[c_1.toNat]!)+1).toNat) qf ⟨_,s.qx[c_1.toNat]!,uE3,?_,?_,rfl,N,H⟩
  · omega
  · exact i1.trans ⟨fun h=>(lies_up p0 ⟨by omega,by omega⟩).1 (h.2.resolve_left ‹_›),fun h=>⟨by omega,.inr ((lies_up p0 ⟨by omega,by omega⟩).2 h)⟩⟩
 refine zx4 (zcr (sp (.bool false) (zjr (ret1 (.bool false) rfl rfl ⟨_,rfl,?_,H.base⟩))))
 rw [xg (fun h=>by have:=(i1.1 h).1;omega)]

theorem isRule_ok (w:World) (s:qy) (r:vU) {qC:yOA} {xk:yLN} {qJ:yOA} {xN:yLN} {jV:yOA} {FrNeed:yLN} {jY:yOA} {FrHave:yLN} {jW:yOA} {FrLack:yLN} {jX:yOA} {FrHere:yLN} {Qu:yOA} {FrOut:yLN} {jI:yOA} {FrInto:yLN} (qW:qR.rep w xk [.slice qC s.qx.length qB] s.qx) (xG:qR.rep w xN [.slice qJ s.qw.length qG] s.qw) (hrNeed:qR.rep w FrNeed [.slice jV r.xn.length jR] r.xn) (hrHave:qR.rep w FrHave [.slice jY r.zf.length jU] r.zf) (hrLack:qR.rep w FrLack [.slice jW r.x8.length jS] r.x8) (hrHere:qR.rep w FrHere [.slice jX r.xW.length jT] r.xW) (hrOut:qR.rep w FrOut [.slice Qu r.vC.length Qs] r.vC) (hrInto:qR.rep w FrInto [.slice jI r.qK.length jH] r.qK) (p0:jd s):Calls Try.prog 108 #[.agg #[yI s.qV,.slice qC s.qx.length qB,.slice qJ s.qw.length qG],.agg #[yI r.qE,yI r.zS,.slice jV r.xn.length jR,.slice jY r.zf.length jU,.slice jW r.x8.length jS,.slice jX r.xW.length jT,.slice Qu r.vC.length Qs,.slice jI r.qK.length jH,.bool r.xU]] w (Ret (fun v w' =>v=.bool (dec (RuleOk s r))) w):=by
 refine en func108 ntmps108 ?_
 have H:=((((((((St.start w).arg hrInto).arg hrOut).arg hrHere).arg hrLack).arg hrHave).arg hrNeed).arg xG).arg qW
 have zY:=qX qW
 have jw:=qX xG
 have nhrNeed:=qX hrNeed
 have nhrHave:=qX hrHave
 have nhrLack:=qX hrLack
 have nhrHere:=qX hrHere
 have nhrOut:=qX hrOut
 have nhrInto:=qX hrInto
 clear qW xG hrNeed hrHave hrLack hrHere hrOut hrInto
 have N:=Fresh.nil w.heap.size
 refine zcr (sw (vP H (yS s qC qB qJ qG) fun b1 w2 H=>sw (vP H [yI r.qE,yI r.zS,.slice jV r.xn.length jR,.slice jY r.zf.length jU,.slice jW r.x8.length jS,.slice jX r.xW.length jT,.slice Qu r.vC.length Qs,.slice jI r.qK.length jH,.bool r.xU] fun b3 w4 H=>sp (.bool false) (zjcc ?_))))
 refine sw (zi (yS s qC qB qJ qG) isAgg27 sizeOf27 rfl (qI (H.cells 1 rfl) 0 3) (oF rfl (oL rfl (H.cell 0 rfl rfl) (sw (oq (isCell_ok _ s r.qE (H.get 0 rfl).1 (H.get 1 rfl).1) H fun w6 H=>sps [.bool (!(inR r.qE 0 ((s.qx.length:Int) - 1))),.bool (!(inR r.qE 0 ((s.qx.length:Int) - 1)))] ?_)))))
 cases h8:(!(inR r.qE 0 ((s.qx.length:Int) - 1)))
 ·skip
  replace h8:=xm h8
  replace h8:=y7.1 h8
  refine qO 14 rfl rfl (oF rfl (qO 14 rfl rfl (oL rfl (H.cell 0 rfl rfl) (qO 14 rfl rfl (sw (oq (Q3 w6 r.zS 0 9) H fun w9 H=>qO 14 rfl rfl (sps [.bool (!(inR r.zS 0 9)),.bool (!(inR r.zS 0 9)),.bool (!(inR r.zS 0 9))] ?_)))))))
  cases h11:(!(inR r.zS 0 9))
  ·skip
   replace h11:=xm h11
   replace h11:=y7.1 h11
   refine qO 20 rfl rfl (oF rfl (qO 20 rfl rfl (oL rfl (H.cell 0 rfl rfl) (qO 20 rfl rfl (sp (.bool r.xU) ?_)))))
   cases h12:(r.xU)
   ·skip
    rw [h12] at H
    refine xQ [24,25,26] (qO 20 rfl rfl (sps [.bool false,.bool false,.bool false] (qO 29 rfl rfl (oF rfl (qO 29 rfl rfl (oL rfl (H.cell 0 rfl rfl) (qO 29 rfl rfl (oN rfl (qO 29 rfl rfl (sps [.bool (decide ((r.qK.length:Int) > 3)),.bool (decide ((r.qK.length:Int) > 3))] (zjn (cD rfl (fun h13=>?_) (fun h13=>?_)))))))))))))
    ·skip
     refine zcr (sp (.bool false) (zjr (t_r (ret1 (.bool false) rfl rfl ⟨_,rfl,?_,H.base⟩))))
     rw [xg (fun h=>by obtain ⟨h1,h2,h3,h4,h5,h6,h7,h8,h9,h10,h11⟩:=h;first | contradiction | omega | exact h3 ⟨‹_›,‹_›⟩ | (obtain ⟨q1,q2,q3,q4,q5⟩:=h11 i qf;first | contradiction | omega | (have:=q5 qf;omega)) | (refine absurd ?_ ‹¬ zA _ _›;rcases (show k=0∨k=1∨k=2∨k=3∨k=4 by omega) with e | e | e | e | e <;> subst e <;> assumption))]
    refine xB (t_n (zcc (oF rfl (oL rfl (H.cell 0 rfl rfl) (oF rfl (oL rfl (H.cell 0 rfl rfl) (oF rfl (oL rfl (H.cell 0 rfl rfl) (oF rfl (oL rfl (H.cell 0 rfl rfl) (oF rfl (oL rfl (H.cell 0 rfl rfl) (sw (o_buildF H underlying29 ti24 [.slice jV r.xn.length jR,.slice jY r.zf.length jU,.slice jW r.x8.length jS,.slice jX r.xW.length jT,.slice Qu r.vC.length Qs] rfl (by simp [Value.cells]) rfl qj qj fun b14 w15 H=>oN rfl (sp (yI 0) (zjn (xq ?_)))))))))))))))))
    replace H:=H.boxRow 0 rfl 1 5 rfl qj
    replace H:=H.Qn (α:=yLI)
    replace H:=H.repsCons false 7 rfl 0 rfl qm
    replace H:=H.repsCons false 7 rfl 0 rfl qm
    replace H:=H.repsCons false 7 rfl 0 rfl qm
    replace H:=H.repsCons false 7 rfl 0 rfl qm
    replace H:=H.repsCons false 7 rfl 0 rfl qm
    refine vg (fun m' ρ w16=>∃ (zB:Env) (k:Nat),ρ=upd (upd (upd (upd (upd zB 2 (pp b1 0)) 3 (pp b3 0)) 45 (.slice (aa b14 0) 5 5)) 46 (yI 5)) 47 (yI k)∧((k:Int)≤5)∧(∀ j,j < k→zA s.qV ([r.xn,r.zf,r.x8,r.xW,r.vC][j]!))∧m' =(5 - (k:Int)).toNat∧Fresh w.heap.size []∧St w w16 [rr (aa b14 0) 5 5 24 1 [.slice jV r.xn.length jR,.slice jY r.zf.length jU,.slice jW r.x8.length jS,.slice jX r.xW.length jT,.slice Qu r.vC.length Qs],.box b3 [yI r.qE,yI r.zS,.slice jV r.xn.length jR,.slice jY r.zf.length jU,.slice jW r.x8.length jS,.slice jX r.xW.length jT,.slice Qu r.vC.length Qs,.slice jI r.qK.length jH,.bool false] 51,.box b1 (yS s qC qB qJ qG) 27] [xe false (FrNeed++(FrHave++(FrLack++(FrHere++(FrOut++[]))))) [.slice jV r.xn.length jR,.slice jY r.zf.length jU,.slice jW r.x8.length jS,.slice jX r.xW.length jT,.slice Qu r.vC.length Qs] [r.xn,r.zf,r.x8,r.xW,r.vC],sF false xk qC qB s.qx,sF false xN qJ qG s.qw,sF false FrNeed jV jR r.xn,sF false FrHave jY jU r.zf,sF false FrLack jW jS r.x8,sF false FrHere jX jT r.xW,sF false FrOut Qu Qs r.vC,sF false FrInto jI jH r.qK]) ((5 - (0:Int)).toNat) ⟨_,0,uE5,qf,(by intro j hj;omega),rfl,N,H.pick [0,1,2] [0,6,7,8,9,10,11,12,13]⟩ ?_
    clear H N
    rintro m' ρ w17 ⟨zB,k,rfl,i0,i1,rfl,N,H⟩
    refine zcr (sp (.bool (decide ((k:Int) < 5))) (zjn (zx (cD rfl (fun h18=>?_) (fun h18=>?_)))))
    ·skip
     refine xB (t_n (zx (xq (zcr (oI rfl rfl ?_)))))
     obtain ⟨a19,c20,G21,s22,h23,H⟩:=H.jf 0 rfl 0 rfl (iv:=k) k qf qf
     refine oL rfl (h23) (sp (.slice a19 (([r.xn,r.zf,r.x8,r.xW,r.vC][k]!).length) c20) (zjc (oF rfl (oL rfl (H.cell 2 rfl rfl) (sp (.slice a19 (([r.xn,r.zf,r.x8,r.xW,r.vC][k]!).length) c20) (sw (oq (QV _ s.qV ([r.xn,r.zf,r.x8,r.xW,r.vC][k]!) (H.get 0 rfl).1) H fun w24 H=>sp (.bool (!(dec (zA s.qV ([r.xn,r.zf,r.x8,r.xW,r.vC][k]!))))) (zjn (cQ rfl (fun h26=>?_) (fun h26=>?_))))))))))
     ·skip
      refine zcr (sp (.bool false) (zjr (zr5 (ret1 (.bool false) rfl rfl ⟨_,rfl,?_,H.base⟩))))
      rw [xg (fun h=>by obtain ⟨h1,h2,h3,h4,h5,h6,h7,h8,h9,h10,h11⟩:=h;first | contradiction | omega | exact h3 ⟨‹_›,‹_›⟩ | (obtain ⟨q1,q2,q3,q4,q5⟩:=h11 i qf;first | contradiction | omega | (have:=q5 qf;omega)) | (refine absurd ?_ ‹¬ zA _ _›;rcases (show k=0∨k=1∨k=2∨k=3∨k=4 by omega) with e | e | e | e | e <;> subst e <;> assumption))]
     refine xB (b_n (t_n (zJ (sw (vk k 1 rfl rfl qf (sp (yI (k+1)) (zK (xH (m' :=(5 - ((k+1):Int)).toNat) qf ⟨_,k+1,uE5,?_,?_,rfl,N,H.pick [0,1,2] [1,2,3,4,5,6,7,8,9]⟩))))))))
     · omega
     · intro j hj;by_cases e:j=k;(subst e;assumption);exact i1 j qf
    refine zx4 (zcc (oF rfl (oL rfl (H.cell 1 rfl rfl) (oN rfl (sp (yI 0) (zjn (xq ?_)))))))
    have n1:zA s.qV r.xn:=i1 0 qf
    have n2:zA s.qV r.zf:=i1 1 qf
    have n3:zA s.qV r.x8:=i1 2 qf
    have n4:zA s.qV r.xW:=i1 3 qf
    have n5:zA s.qV r.vC:=i1 4 qf
    refine vg (fun m' ρ w27=>∃ (zB:Env) (i:Nat),ρ=upd (upd (upd (upd (upd zB 2 (pp b1 0)) 3 (pp b3 0)) 58 (.slice jI r.qK.length jH)) 59 (yI r.qK.length)) 60 (yI i)∧((i:Int)≤r.qK.length)∧(IntosTo s r i)∧m' =(r.qK.length - (i:Int)).toNat∧Fresh w.heap.size []∧St w w27 [rr (aa b14 0) 5 5 24 1 [.slice jV r.xn.length jR,.slice jY r.zf.length jU,.slice jW r.x8.length jS,.slice jX r.xW.length jT,.slice Qu r.vC.length Qs],.box b3 [yI r.qE,yI r.zS,.slice jV r.xn.length jR,.slice jY r.zf.length jU,.slice jW r.x8.length jS,.slice jX r.xW.length jT,.slice Qu r.vC.length Qs,.slice jI r.qK.length jH,.bool false] 51,.box b1 (yS s qC qB qJ qG) 27] [xe false (FrNeed++(FrHave++(FrLack++(FrHere++(FrOut++[]))))) [.slice jV r.xn.length jR,.slice jY r.zf.length jU,.slice jW r.x8.length jS,.slice jX r.xW.length jT,.slice Qu r.vC.length Qs] [r.xn,r.zf,r.x8,r.xW,r.vC],sF false xk qC qB s.qx,sF false xN qJ qG s.qw,sF false FrNeed jV jR r.xn,sF false FrHave jY jU r.zf,sF false FrLack jW jS r.x8,sF false FrHere jX jT r.xW,sF false FrOut Qu Qs r.vC,sF false FrInto jI jH r.qK]) ((r.qK.length - (0:Int)).toNat) ⟨_,0,uE5,qf,(by exact fun j hj=>by omega),rfl,N,H⟩ ?_
    clear H N
    rintro m' ρ w28 ⟨zB,i,rfl,i0,i2,rfl,N,H⟩
    refine zcr (sp (.bool (decide ((i:Int) < r.qK.length))) (zjn (zx (cD rfl (fun h29=>?_) (fun h29=>?_)))))
    ·skip
     refine xB (t_n (zx (xq (zcr (sp (yI i) ?_)))))
     obtain ⟨b30,o31,rfl⟩:=H.addr 8 rfl qf
     obtain ⟨ae33Bag,ce33Bag,Fe33Bag,H⟩:=H.yh 8 rfl i i qf qf qf
     refine oI rfl rfl (sw (zi [yI ((r.qK[i]!).qE),.slice ae33Bag (((r.qK[i]!).yx).length) ce33Bag] isAgg121 sizeOf121 rfl (qI (H.get 1 rfl) 0 2) (sw (xx H ti121 [yI 0,yN] fun b34 w35 H=>sp (yI i) (sw (xf H 0 [yI ((r.qK[i]!).qE),.slice ae33Bag (((r.qK[i]!).yx).length) ce33Bag] sizeOf121 fun w36 H=>zjn (zx ?_)))))))
     refine y9 rfl H fun H=>rt 0 (.agg #[yI s.qV,.slice qC s.qx.length qB,.slice qJ s.qw.length qG]) (yj (cs:=(yS s qC qB qJ qG)) isAgg27 sizeOf27 rfl (fun _ h=>qI (h.cells 3 rfl) 0 3)) H ?_
     refine tF 1 rfl rfl H ?_
     refine tL 2 rfl rfl (fun _ h=>h.cell 0 rfl rfl) H ?_
     refine ro 3 rfl (oq (isCell_ok _ s ((r.qK[i]!).qE) (H.get 3 rfl).1 (H.get 4 rfl).1) H fun w39 H=>⟨H,(rtp 4 (.bool (!(inR ((r.qK[i]!).qE) 0 ((s.qx.length:Int) - 1)))) H ?_)⟩)
     refine rtp 5 (.bool (!(inR ((r.qK[i]!).qE) 0 ((s.qx.length:Int) - 1)))) H ?_
     cases h41:(!(inR ((r.qK[i]!).qE) 0 ((s.qx.length:Int) - 1)))
     ·skip
      replace h41:=xm h41
      replace h41:=y7.1 h41
      refine rg 6 (.agg #[yI s.qV,.slice qC s.qx.length qB,.slice qJ s.qw.length qG]) 70 (yj (cs:=(yS s qC qB qJ qG)) isAgg27 sizeOf27 rfl (fun _ h=>qI (h.cells 3 rfl) 0 3)) H ?_
      refine gF 7 rfl rfl H ?_
      refine gL 8 rfl rfl (fun _ h=>h.cell 0 rfl rfl) H ?_
      refine gF 9 rfl rfl H ?_
      refine gL 10 rfl rfl (fun _ h=>h.cell 2 rfl rfl) H ?_
      refine zH [11] qh qm (r_opG rfl (e:=70) rfl rfl (oq (lies_ok _ s ((r.qK[i]!).qE) r.qE (H.get 3 rfl).1 (H.get 4 rfl).1 qg qg) H fun w43 H=>⟨H,(rgp 12 (.bool (!(dec (Lies s.qx r.qE ((r.qK[i]!).qE))))) 70 H ?_)⟩) zI)
      refine rtp 13 (.bool (!(dec (Lies s.qx r.qE ((r.qK[i]!).qE))))) H ?_
      refine rtp 14 (.bool (!(dec (Lies s.qx r.qE ((r.qK[i]!).qE))))) H ?_
      cases h45:(!(dec (Lies s.qx r.qE ((r.qK[i]!).qE))))
      ·skip
       replace h45:=xm h45
       replace h45:=yg h45
       refine gF 15 rfl rfl H ?_
       refine gL 16 rfl rfl (fun _ h=>h.cell 3 rfl rfl) H ?_
       refine gF 17 rfl rfl H ?_
       refine gL 18 rfl rfl (fun _ h=>h.cell 0 rfl rfl) H ?_
       refine zH [19] qh qm (r_opG rfl (e:=79) rfl rfl (oq (QV _ s.qV ((r.qK[i]!).yx) (H.get 0 rfl).1) H fun w46 H=>⟨H,(rgp 20 (.bool (!(dec (zA s.qV ((r.qK[i]!).yx))))) 79 H ?_)⟩) zI)
       refine rtp 21 (.bool (!(dec (zA s.qV ((r.qK[i]!).yx))))) H ?_
       refine rtp 22 (.bool (!(dec (zA s.qV ((r.qK[i]!).yx))))) H ?_
       cases h48:(!(dec (zA s.qV ((r.qK[i]!).yx))))
       ·skip
        replace h48:=xm h48
        replace h48:=yg h48
        refine gF 23 rfl rfl H ?_
        refine gL 24 rfl rfl (fun _ h=>h.cell 0 rfl rfl) H ?_
        refine zH [25] qh qm (r_opG rfl (e:=87) rfl rfl ?_ zI)
        have sm:Small ((r.qK[i]!).yx):=vY (by first | assumption | exact i1 0 qf)
        refine oq (bagSize_ok _ ((r.qK[i]!).yx) (H.get 0 rfl).1 (by first | assumption | exact vY ql | exact Qa ql)) H fun w49 H=>⟨H,(rgp 26 (.bool ((sumL ((r.qK[i]!).yx):Int) == 0)) 87 H ?_)⟩
        refine rtp 27 (.bool ((sumL ((r.qK[i]!).yx):Int) == 0)) H ?_
        refine rtp 28 (.bool ((sumL ((r.qK[i]!).yx):Int) == 0)) H ?_
        cases h51:((sumL ((r.qK[i]!).yx):Int) == 0)
        ·skip
         replace h51:=ne_of_beq_false h51
         refine rgp 29 (yI i) 93 H ?_
         refine rgp 30 (.bool (decide ((i:Int) > 0))) 93 H ?_
         refine rgp 31 (.bool (decide ((i:Int) > 0))) 93 H ?_
         cases h52:(decide ((i:Int) > 0))
         ·skip
          replace h52:=of_decide_eq_false h52
          refine zG [32,33,34,35,36,37,38,39,40,41] 10 (H) (rgp 42 (.bool false) 93 H ?_)
          refine rtp 43 (.bool false) H ?_
          refine xh qh (t_n (xZ false rfl (fun h=>absurd h qj) (fun _=>xB (b_n (t_n (zJ (sw (vk i 1 rfl rfl qf (sp (yI (i+1)) (zK (xH (m' :=(r.qK.length - ((i+1):Int)).toNat) qf ⟨_,i+1,uE5,?_,?_,rfl,N,H.pick [1,2,3] [2,3,4,5,6,7,8,9,10]⟩)))))))))))
          · omega
          · exact i2.succ ⟨‹_›,‹_›,‹_›,‹_›,fun hk=>by omega⟩
         replace h52:=of_decide_eq_true h52
         refine gF 32 rfl rfl H ?_
         refine gL 33 rfl rfl (fun _ h=>h.cell 0 rfl rfl) H ?_
         refine gF 34 rfl rfl H ?_
         refine gL 35 rfl rfl (fun _ h=>h.cell 2 rfl rfl) H ?_
         refine rgp 36 (yI i) 96 H ?_
         refine rg 37 (yI (i - 1)) 96 (y_sub i 1 rfl rfl qf) H ?_
         obtain ⟨ae53Bag,ce53Bag,Fe53Bag,H⟩:=H.yh 10 rfl (i - 1) (i - 1) qf qf qf
         have S:=H.jm [0,1,2,3] [2,3,4,5,6,7,8,9,10,11,12]
         refine gI 38 rfl rfl rfl S ?_
         refine gF 39 rfl rfl S ?_
         refine zH [40] qh qm (r_opG rfl (e:=96) rfl rfl (zk (yI ((r.qK[i - 1]!).qE)) isAgg2 rfl (H.zZ 1 rfl 0 rfl) (⟨H.pick [0,1,2,3] [2,3,4,5,6,7,8,9,10,11,12],?_⟩)) zI)
         have S:=H.jm [0,1,2,3] [2,3,4,5,6,7,8,9,10,11,12]
         refine rgp 41 (.bool (decide (((r.qK[i]!).qE:Int)≤((r.qK[i - 1]!).qE)))) 96 S ?_
         refine rgp 42 (.bool (decide (((r.qK[i]!).qE:Int)≤((r.qK[i - 1]!).qE)))) 93 S ?_
         refine rtp 43 (.bool (decide (((r.qK[i]!).qE:Int)≤((r.qK[i - 1]!).qE)))) S ?_
         refine xh qh (t_n (cD rfl (fun h54=>?_) (fun h54=>?_)))
         ·skip
          refine zcr (sp (.bool false) (zjr (zr5 (ret1 (.bool false) rfl rfl ⟨_,rfl,?_,H.base⟩))))
          rw [xg (fun h=>by obtain ⟨h1,h2,h3,h4,h5,h6,h7,h8,h9,h10,h11⟩:=h;first | contradiction | omega | exact h3 ⟨‹_›,‹_›⟩ | (obtain ⟨q1,q2,q3,q4,q5⟩:=h11 i qf;first | contradiction | omega | (have:=q5 qf;omega)) | (refine absurd ?_ ‹¬ zA _ _›;rcases (show k=0∨k=1∨k=2∨k=3∨k=4 by omega) with e | e | e | e | e <;> subst e <;> assumption))]
         refine xB (b_n (t_n (zJ (sw (vk i 1 rfl rfl qf (sp (yI (i+1)) (zK (xH (m' :=(r.qK.length - ((i+1):Int)).toNat) qf ⟨_,i+1,uE5,?_,?_,rfl,N,H.pick [1,2,3] [4,5,6,7,8,9,10,11,12]⟩))))))))
         · omega
         · exact i2.succ ⟨‹_›,‹_›,‹_›,‹_›,fun hk=>by omega⟩
        replace h51:=eq_of_beq h51
        refine zG [29,30,31,32,33,34,35,36,37,38,39,40,41,42] 14 (H) (rtp 43 (.bool true) H ?_)
        refine xh qh (t_n (xZ true rfl (fun _=>zcr (sp (.bool false) (zjr (zr5 (ret1 (.bool false) rfl rfl ⟨_,rfl,?_,H.base⟩))))) (fun h=>absurd h qj)))
        rw [xg (fun h=>by obtain ⟨h1,h2,h3,h4,h5,h6,h7,h8,h9,h10,h11⟩:=h;first | contradiction | omega | exact h3 ⟨‹_›,‹_›⟩ | (obtain ⟨q1,q2,q3,q4,q5⟩:=h11 i qf;first | contradiction | omega | (have:=q5 qf;omega)) | (refine absurd ?_ ‹¬ zA _ _›;rcases (show k=0∨k=1∨k=2∨k=3∨k=4 by omega) with e | e | e | e | e <;> subst e <;> assumption))]
       replace h48:=xF h48
       replace h48:=zD h48
       refine zG [23,24,25,26] 4 (H) (rtp 27 (.bool true) H ?_)
       refine rtp 28 (.bool true) H ?_
       refine zG [29,30,31,32,33,34,35,36,37,38,39,40,41,42] 14 (H) (rtp 43 (.bool true) H ?_)
       refine xh qh (t_n (xZ true rfl (fun _=>zcr (sp (.bool false) (zjr (zr5 (ret1 (.bool false) rfl rfl ⟨_,rfl,?_,H.base⟩))))) (fun h=>absurd h qj)))
       rw [xg (fun h=>by obtain ⟨h1,h2,h3,h4,h5,h6,h7,h8,h9,h10,h11⟩:=h;first | contradiction | omega | exact h3 ⟨‹_›,‹_›⟩ | (obtain ⟨q1,q2,q3,q4,q5⟩:=h11 i qf;first | contradiction | omega | (have:=q5 qf;omega)) | (refine absurd ?_ ‹¬ zA _ _›;rcases (show k=0∨k=1∨k=2∨k=3∨k=4 by omega) with e | e | e | e | e <;> subst e <;> assumption))]
      replace h45:=xF h45
      replace h45:=zD h45
      refine zG [15,16,17,18,19,20] 6 (H) (rtp 21 (.bool true) H ?_)
      refine rtp 22 (.bool true) H ?_
      refine zG [23,24,25,26] 4 (H) (rtp 27 (.bool true) H ?_)
      refine rtp 28 (.bool true) H ?_
      refine zG [29,30,31,32,33,34,35,36,37,38,39,40,41,42] 14 (H) (rtp 43 (.bool true) H ?_)
      refine xh qh (t_n (xZ true rfl (fun _=>zcr (sp (.bool false) (zjr (zr5 (ret1 (.bool false) rfl rfl ⟨_,rfl,?_,H.base⟩))))) (fun h=>absurd h qj)))
      rw [xg (fun h=>by obtain ⟨h1,h2,h3,h4,h5,h6,h7,h8,h9,h10,h11⟩:=h;first | contradiction | omega | exact h3 ⟨‹_›,‹_›⟩ | (obtain ⟨q1,q2,q3,q4,q5⟩:=h11 i qf;first | contradiction | omega | (have:=q5 qf;omega)) | (refine absurd ?_ ‹¬ zA _ _›;rcases (show k=0∨k=1∨k=2∨k=3∨k=4 by omega) with e | e | e | e | e <;> subst e <;> assumption))]
     replace h41:=xF h41
     replace h41:=Qy h41
     refine zG [6,7,8,9,10,11,12] 7 (H) (rtp 13 (.bool true) H ?_)
     refine rtp 14 (.bool true) H ?_
     refine zG [15,16,17,18,19,20] 6 (H) (rtp 21 (.bool true) H ?_)
     refine rtp 22 (.bool true) H ?_
     refine zG [23,24,25,26] 4 (H) (rtp 27 (.bool true) H ?_)
     refine rtp 28 (.bool true) H ?_
     refine zG [29,30,31,32,33,34,35,36,37,38,39,40,41,42] 14 (H) (rtp 43 (.bool true) H ?_)
     refine xh qh (t_n (xZ true rfl (fun _=>zcr (sp (.bool false) (zjr (zr5 (ret1 (.bool false) rfl rfl ⟨_,rfl,?_,H.base⟩))))) (fun h=>absurd h qj)))
     rw [xg (fun h=>by obtain ⟨h1,h2,h3,h4,h5,h6,h7,h8,h9,h10,h11⟩:=h;first | contradiction | omega | exact h3 ⟨‹_›,‹_›⟩ | (obtain ⟨q1,q2,q3,q4,q5⟩:=h11 i qf;first | contradiction | omega | (have:=q5 qf;omega)) | (refine absurd ?_ ‹¬ zA _ _›;rcases (show k=0∨k=1∨k=2∨k=3∨k=4 by omega) with e | e | e | e | e <;> subst e <;> assumption))]
    refine zx4 (zcr (oF rfl (oL rfl (H.cell 1 rfl rfl) ?_)))
    have sm:Small r.xn:=vY (by first | assumption | exact i1 0 qf)
    refine sw (oq (bagSize_ok _ r.xn (H.get 3 rfl).1 (by first | assumption | exact vY ql | exact Qa ql)) H fun w55 H=>sps [.bool (decide ((sumL r.xn:Int) > 0)),.bool (decide ((sumL r.xn:Int) > 0))] (zjr (ret1 (.bool (decide ((sumL r.xn:Int) > 0))) rfl rfl ⟨_,rfl,(congrArg Value.bool (dec_eq ?_)),H.base⟩)))
    rw [decide_eq_true_iff]
    exact ⟨fun h=>⟨by omega,by omega,by simp_all,by omega,n1,n2,n3,n4,n5,by omega,(show i=r.qK.length by omega)▸i2⟩,fun h=>by have:=h.2.2.2.2.2.2.2.2.2.1;have:=sum_nonneg n1.1;omega⟩
   rw [h12] at H
   refine qO 23 rfl rfl (oF rfl (qO 23 rfl rfl (oL rfl (H.cell 0 rfl rfl) (qO 23 rfl rfl (sp (.bool ((r.qE:Int) == 0)) (qO 20 rfl rfl (sps [.bool ((r.qE:Int) == 0),.bool ((r.qE:Int) == 0),.bool ((r.qE:Int) == 0)] ?_)))))))
   cases h57:((r.qE:Int) == 0)
   ·skip
    replace h57:=ne_of_beq_false h57
    refine qO 29 rfl rfl (oF rfl (qO 29 rfl rfl (oL rfl (H.cell 0 rfl rfl) (qO 29 rfl rfl (oN rfl (qO 29 rfl rfl (sps [.bool (decide ((r.qK.length:Int) > 3)),.bool (decide ((r.qK.length:Int) > 3))] (zjn (cD rfl (fun h58=>?_) (fun h58=>?_))))))))))
    ·skip
     refine zcr (sp (.bool false) (zjr (t_r (ret1 (.bool false) rfl rfl ⟨_,rfl,?_,H.base⟩))))
     rw [xg (fun h=>by obtain ⟨h1,h2,h3,h4,h5,h6,h7,h8,h9,h10,h11⟩:=h;first | contradiction | omega | exact h3 ⟨‹_›,‹_›⟩ | (obtain ⟨q1,q2,q3,q4,q5⟩:=h11 i qf;first | contradiction | omega | (have:=q5 qf;omega)) | (refine absurd ?_ ‹¬ zA _ _›;rcases (show k=0∨k=1∨k=2∨k=3∨k=4 by omega) with e | e | e | e | e <;> subst e <;> assumption))]
    refine xB (t_n (zcc (oF rfl (oL rfl (H.cell 0 rfl rfl) (oF rfl (oL rfl (H.cell 0 rfl rfl) (oF rfl (oL rfl (H.cell 0 rfl rfl) (oF rfl (oL rfl (H.cell 0 rfl rfl) (oF rfl (oL rfl (H.cell 0 rfl rfl) (sw (o_buildF H underlying29 ti24 [.slice jV r.xn.length jR,.slice jY r.zf.length jU,.slice jW r.x8.length jS,.slice jX r.xW.length jT,.slice Qu r.vC.length Qs] rfl (by simp [Value.cells]) rfl qj qj fun b59 w60 H=>oN rfl (sp (yI 0) (zjn (xq ?_)))))))))))))))))
    replace H:=H.boxRow 0 rfl 1 5 rfl qj
    replace H:=H.Qn (α:=yLI)
    replace H:=H.repsCons false 7 rfl 0 rfl qm
    replace H:=H.repsCons false 7 rfl 0 rfl qm
    replace H:=H.repsCons false 7 rfl 0 rfl qm
    replace H:=H.repsCons false 7 rfl 0 rfl qm
    replace H:=H.repsCons false 7 rfl 0 rfl qm
    refine vg (fun m' ρ w61=>∃ (zB:Env) (k:Nat),ρ=upd (upd (upd (upd (upd zB 2 (pp b1 0)) 3 (pp b3 0)) 45 (.slice (aa b59 0) 5 5)) 46 (yI 5)) 47 (yI k)∧((k:Int)≤5)∧(∀ j,j < k→zA s.qV ([r.xn,r.zf,r.x8,r.xW,r.vC][j]!))∧m' =(5 - (k:Int)).toNat∧Fresh w.heap.size []∧St w w61 [rr (aa b59 0) 5 5 24 1 [.slice jV r.xn.length jR,.slice jY r.zf.length jU,.slice jW r.x8.length jS,.slice jX r.xW.length jT,.slice Qu r.vC.length Qs],.box b3 [yI r.qE,yI r.zS,.slice jV r.xn.length jR,.slice jY r.zf.length jU,.slice jW r.x8.length jS,.slice jX r.xW.length jT,.slice Qu r.vC.length Qs,.slice jI r.qK.length jH,.bool true] 51,.box b1 (yS s qC qB qJ qG) 27] [xe false (FrNeed++(FrHave++(FrLack++(FrHere++(FrOut++[]))))) [.slice jV r.xn.length jR,.slice jY r.zf.length jU,.slice jW r.x8.length jS,.slice jX r.xW.length jT,.slice Qu r.vC.length Qs] [r.xn,r.zf,r.x8,r.xW,r.vC],sF false xk qC qB s.qx,sF false xN qJ qG s.qw,sF false FrNeed jV jR r.xn,sF false FrHave jY jU r.zf,sF false FrLack jW jS r.x8,sF false FrHere jX jT r.xW,sF false FrOut Qu Qs r.vC,sF false FrInto jI jH r.qK]) ((5 - (0:Int)).toNat) ⟨_,0,uE5,qf,(by intro j hj;omega),rfl,N,H.pick [0,1,2] [0,6,7,8,9,10,11,12,13]⟩ ?_
    clear H N
    rintro m' ρ w62 ⟨zB,k,rfl,i0,i1,rfl,N,H⟩
    refine zcr (sp (.bool (decide ((k:Int) < 5))) (zjn (zx (cD rfl (fun h63=>?_) (fun h63=>?_)))))
    ·skip
     refine xB (t_n (zx (xq (zcr (oI rfl rfl ?_)))))
     obtain ⟨a64,c65,G66,s67,h68,H⟩:=H.jf 0 rfl 0 rfl (iv:=k) k qf qf
     refine oL rfl (h68) (sp (.slice a64 (([r.xn,r.zf,r.x8,r.xW,r.vC][k]!).length) c65) (zjc (oF rfl (oL rfl (H.cell 2 rfl rfl) (sp (.slice a64 (([r.xn,r.zf,r.x8,r.xW,r.vC][k]!).length) c65) (sw (oq (QV _ s.qV ([r.xn,r.zf,r.x8,r.xW,r.vC][k]!) (H.get 0 rfl).1) H fun w69 H=>sp (.bool (!(dec (zA s.qV ([r.xn,r.zf,r.x8,r.xW,r.vC][k]!))))) (zjn (cQ rfl (fun h71=>?_) (fun h71=>?_))))))))))
     ·skip
      refine zcr (sp (.bool false) (zjr (zr5 (ret1 (.bool false) rfl rfl ⟨_,rfl,?_,H.base⟩))))
      rw [xg (fun h=>by obtain ⟨h1,h2,h3,h4,h5,h6,h7,h8,h9,h10,h11⟩:=h;first | contradiction | omega | exact h3 ⟨‹_›,‹_›⟩ | (obtain ⟨q1,q2,q3,q4,q5⟩:=h11 i qf;first | contradiction | omega | (have:=q5 qf;omega)) | (refine absurd ?_ ‹¬ zA _ _›;rcases (show k=0∨k=1∨k=2∨k=3∨k=4 by omega) with e | e | e | e | e <;> subst e <;> assumption))]
     refine xB (b_n (t_n (zJ (sw (vk k 1 rfl rfl qf (sp (yI (k+1)) (zK (xH (m' :=(5 - ((k+1):Int)).toNat) qf ⟨_,k+1,uE5,?_,?_,rfl,N,H.pick [0,1,2] [1,2,3,4,5,6,7,8,9]⟩))))))))
     · omega
     · intro j hj;by_cases e:j=k;(subst e;assumption);exact i1 j qf
    refine zx4 (zcc (oF rfl (oL rfl (H.cell 1 rfl rfl) (oN rfl (sp (yI 0) (zjn (xq ?_)))))))
    have n1:zA s.qV r.xn:=i1 0 qf
    have n2:zA s.qV r.zf:=i1 1 qf
    have n3:zA s.qV r.x8:=i1 2 qf
    have n4:zA s.qV r.xW:=i1 3 qf
    have n5:zA s.qV r.vC:=i1 4 qf
    refine vg (fun m' ρ w72=>∃ (zB:Env) (i:Nat),ρ=upd (upd (upd (upd (upd zB 2 (pp b1 0)) 3 (pp b3 0)) 58 (.slice jI r.qK.length jH)) 59 (yI r.qK.length)) 60 (yI i)∧((i:Int)≤r.qK.length)∧(IntosTo s r i)∧m' =(r.qK.length - (i:Int)).toNat∧Fresh w.heap.size []∧St w w72 [rr (aa b59 0) 5 5 24 1 [.slice jV r.xn.length jR,.slice jY r.zf.length jU,.slice jW r.x8.length jS,.slice jX r.xW.length jT,.slice Qu r.vC.length Qs],.box b3 [yI r.qE,yI r.zS,.slice jV r.xn.length jR,.slice jY r.zf.length jU,.slice jW r.x8.length jS,.slice jX r.xW.length jT,.slice Qu r.vC.length Qs,.slice jI r.qK.length jH,.bool true] 51,.box b1 (yS s qC qB qJ qG) 27] [xe false (FrNeed++(FrHave++(FrLack++(FrHere++(FrOut++[]))))) [.slice jV r.xn.length jR,.slice jY r.zf.length jU,.slice jW r.x8.length jS,.slice jX r.xW.length jT,.slice Qu r.vC.length Qs] [r.xn,r.zf,r.x8,r.xW,r.vC],sF false xk qC qB s.qx,sF false xN qJ qG s.qw,sF false FrNeed jV jR r.xn,sF false FrHave jY jU r.zf,sF false FrLack jW jS r.x8,sF false FrHere jX jT r.xW,sF false FrOut Qu Qs r.vC,sF false FrInto jI jH r.qK]) ((r.qK.length - (0:Int)).toNat) ⟨_,0,uE5,qf,(by exact fun j hj=>by omega),rfl,N,H⟩ ?_
    clear H N
    rintro m' ρ w73 ⟨zB,i,rfl,i0,i2,rfl,N,H⟩
    refine zcr (sp (.bool (decide ((i:Int) < r.qK.length))) (zjn (zx (cD rfl (fun h74=>?_) (fun h74=>?_)))))
    ·skip
     refine xB (t_n (zx (xq (zcr (sp (yI i) ?_)))))
     obtain ⟨b75,o76,rfl⟩:=H.addr 8 rfl qf
     obtain ⟨ae78Bag,ce78Bag,Fe78Bag,H⟩:=H.yh 8 rfl i i qf qf qf
     refine oI rfl rfl (sw (zi [yI ((r.qK[i]!).qE),.slice ae78Bag (((r.qK[i]!).yx).length) ce78Bag] isAgg121 sizeOf121 rfl (qI (H.get 1 rfl) 0 2) (sw (xx H ti121 [yI 0,yN] fun b79 w80 H=>sp (yI i) (sw (xf H 0 [yI ((r.qK[i]!).qE),.slice ae78Bag (((r.qK[i]!).yx).length) ce78Bag] sizeOf121 fun w81 H=>zjn (zx ?_)))))))
     refine y9 rfl H fun H=>rt 0 (.agg #[yI s.qV,.slice qC s.qx.length qB,.slice qJ s.qw.length qG]) (yj (cs:=(yS s qC qB qJ qG)) isAgg27 sizeOf27 rfl (fun _ h=>qI (h.cells 3 rfl) 0 3)) H ?_
     refine tF 1 rfl rfl H ?_
     refine tL 2 rfl rfl (fun _ h=>h.cell 0 rfl rfl) H ?_
     refine ro 3 rfl (oq (isCell_ok _ s ((r.qK[i]!).qE) (H.get 3 rfl).1 (H.get 4 rfl).1) H fun w84 H=>⟨H,(rtp 4 (.bool (!(inR ((r.qK[i]!).qE) 0 ((s.qx.length:Int) - 1)))) H ?_)⟩)
     refine rtp 5 (.bool (!(inR ((r.qK[i]!).qE) 0 ((s.qx.length:Int) - 1)))) H ?_
     cases h86:(!(inR ((r.qK[i]!).qE) 0 ((s.qx.length:Int) - 1)))
     ·skip
      replace h86:=xm h86
      replace h86:=y7.1 h86
      refine rg 6 (.agg #[yI s.qV,.slice qC s.qx.length qB,.slice qJ s.qw.length qG]) 70 (yj (cs:=(yS s qC qB qJ qG)) isAgg27 sizeOf27 rfl (fun _ h=>qI (h.cells 3 rfl) 0 3)) H ?_
      refine gF 7 rfl rfl H ?_
      refine gL 8 rfl rfl (fun _ h=>h.cell 0 rfl rfl) H ?_
      refine gF 9 rfl rfl H ?_
      refine gL 10 rfl rfl (fun _ h=>h.cell 2 rfl rfl) H ?_
      refine zH [11] qh qm (r_opG rfl (e:=70) rfl rfl (oq (lies_ok _ s ((r.qK[i]!).qE) r.qE (H.get 3 rfl).1 (H.get 4 rfl).1 qg qg) H fun w88 H=>⟨H,(rgp 12 (.bool (!(dec (Lies s.qx r.qE ((r.qK[i]!).qE))))) 70 H ?_)⟩) zI)
      refine rtp 13 (.bool (!(dec (Lies s.qx r.qE ((r.qK[i]!).qE))))) H ?_
      refine rtp 14 (.bool (!(dec (Lies s.qx r.qE ((r.qK[i]!).qE))))) H ?_
      cases h90:(!(dec (Lies s.qx r.qE ((r.qK[i]!).qE))))
      ·skip
       replace h90:=xm h90
       replace h90:=yg h90
       refine gF 15 rfl rfl H ?_
       refine gL 16 rfl rfl (fun _ h=>h.cell 3 rfl rfl) H ?_
       refine gF 17 rfl rfl H ?_
       refine gL 18 rfl rfl (fun _ h=>h.cell 0 rfl rfl) H ?_
       refine zH [19] qh qm (r_opG rfl (e:=79) rfl rfl (oq (QV _ s.qV ((r.qK[i]!).yx) (H.get 0 rfl).1) H fun w91 H=>⟨H,(rgp 20 (.bool (!(dec (zA s.qV ((r.qK[i]!).yx))))) 79 H ?_)⟩) zI)
       refine rtp 21 (.bool (!(dec (zA s.qV ((r.qK[i]!).yx))))) H ?_
       refine rtp 22 (.bool (!(dec (zA s.qV ((r.qK[i]!).yx))))) H ?_
       cases h93:(!(dec (zA s.qV ((r.qK[i]!).yx))))
       ·skip
        replace h93:=xm h93
        replace h93:=yg h93
        refine gF 23 rfl rfl H ?_
        refine gL 24 rfl rfl (fun _ h=>h.cell 0 rfl rfl) H ?_
        refine zH [25] qh qm (r_opG rfl (e:=87) rfl rfl ?_ zI)
        have sm:Small ((r.qK[i]!).yx):=vY (by first | assumption | exact i1 0 qf)
        refine oq (bagSize_ok _ ((r.qK[i]!).yx) (H.get 0 rfl).1 (by first | assumption | exact vY ql | exact Qa ql)) H fun w94 H=>⟨H,(rgp 26 (.bool ((sumL ((r.qK[i]!).yx):Int) == 0)) 87 H ?_)⟩
        refine rtp 27 (.bool ((sumL ((r.qK[i]!).yx):Int) == 0)) H ?_
        refine rtp 28 (.bool ((sumL ((r.qK[i]!).yx):Int) == 0)) H ?_
        cases h96:((sumL ((r.qK[i]!).yx):Int) == 0)
        ·skip
         replace h96:=ne_of_beq_false h96
         refine rgp 29 (yI i) 93 H ?_
         refine rgp 30 (.bool (decide ((i:Int) > 0))) 93 H ?_
         refine rgp 31 (.bool (decide ((i:Int) > 0))) 93 H ?_
         cases h97:(decide ((i:Int) > 0))
         ·skip
          replace h97:=of_decide_eq_false h97
          refine zG [32,33,34,35,36,37,38,39,40,41] 10 (H) (rgp 42 (.bool false) 93 H ?_)
          refine rtp 43 (.bool false) H ?_
          refine xh qh (t_n (xZ false rfl (fun h=>absurd h qj) (fun _=>xB (b_n (t_n (zJ (sw (vk i 1 rfl rfl qf (sp (yI (i+1)) (zK (xH (m' :=(r.qK.length - ((i+1):Int)).toNat) qf ⟨_,i+1,uE5,?_,?_,rfl,N,H.pick [1,2,3] [2,3,4,5,6,7,8,9,10]⟩)))))))))))
          · omega
          · exact i2.succ ⟨‹_›,‹_›,‹_›,‹_›,fun hk=>by omega⟩
         replace h97:=of_decide_eq_true h97
         refine gF 32 rfl rfl H ?_
         refine gL 33 rfl rfl (fun _ h=>h.cell 0 rfl rfl) H ?_
         refine gF 34 rfl rfl H ?_
         refine gL 35 rfl rfl (fun _ h=>h.cell 2 rfl rfl) H ?_
         refine rgp 36 (yI i) 96 H ?_
         refine rg 37 (yI (i - 1)) 96 (y_sub i 1 rfl rfl qf) H ?_
         obtain ⟨ae98Bag,ce98Bag,Fe98Bag,H⟩:=H.yh 10 rfl (i - 1) (i - 1) qf qf qf
         have S:=H.jm [0,1,2,3] [2,3,4,5,6,7,8,9,10,11,12]
         refine gI 38 rfl rfl rfl S ?_
         refine gF 39 rfl rfl S ?_
         refine zH [40] qh qm (r_opG rfl (e:=96) rfl rfl (zk (yI ((r.qK[i - 1]!).qE)) isAgg2 rfl (H.zZ 1 rfl 0 rfl) (⟨H.pick [0,1,2,3] [2,3,4,5,6,7,8,9,10,11,12],?_⟩)) zI)
         have S:=H.jm [0,1,2,3] [2,3,4,5,6,7,8,9,10,11,12]
         refine rgp 41 (.bool (decide (((r.qK[i]!).qE:Int)≤((r.qK[i - 1]!).qE)))) 96 S ?_
         refine rgp 42 (.bool (decide (((r.qK[i]!).qE:Int)≤((r.qK[i - 1]!).qE)))) 93 S ?_
         refine rtp 43 (.bool (decide (((r.qK[i]!).qE:Int)≤((r.qK[i - 1]!).qE)))) S ?_
         refine xh qh (t_n (cD rfl (fun h99=>?_) (fun h99=>?_)))
         ·skip
          refine zcr (sp (.bool false) (zjr (zr5 (ret1 (.bool false) rfl rfl ⟨_,rfl,?_,H.base⟩))))
          rw [xg (fun h=>by obtain ⟨h1,h2,h3,h4,h5,h6,h7,h8,h9,h10,h11⟩:=h;first | contradiction | omega | exact h3 ⟨‹_›,‹_›⟩ | (obtain ⟨q1,q2,q3,q4,q5⟩:=h11 i qf;first | contradiction | omega | (have:=q5 qf;omega)) | (refine absurd ?_ ‹¬ zA _ _›;rcases (show k=0∨k=1∨k=2∨k=3∨k=4 by omega) with e | e | e | e | e <;> subst e <;> assumption))]
         refine xB (b_n (t_n (zJ (sw (vk i 1 rfl rfl qf (sp (yI (i+1)) (zK (xH (m' :=(r.qK.length - ((i+1):Int)).toNat) qf ⟨_,i+1,uE5,?_,?_,rfl,N,H.pick [1,2,3] [4,5,6,7,8,9,10,11,12]⟩))))))))
         · omega
         · exact i2.succ ⟨‹_›,‹_›,‹_›,‹_›,fun hk=>by omega⟩
        replace h96:=eq_of_beq h96
        refine zG [29,30,31,32,33,34,35,36,37,38,39,40,41,42] 14 (H) (rtp 43 (.bool true) H ?_)
        refine xh qh (t_n (xZ true rfl (fun _=>zcr (sp (.bool false) (zjr (zr5 (ret1 (.bool false) rfl rfl ⟨_,rfl,?_,H.base⟩))))) (fun h=>absurd h qj)))
        rw [xg (fun h=>by obtain ⟨h1,h2,h3,h4,h5,h6,h7,h8,h9,h10,h11⟩:=h;first | contradiction | omega | exact h3 ⟨‹_›,‹_›⟩ | (obtain ⟨q1,q2,q3,q4,q5⟩:=h11 i qf;first | contradiction | omega | (have:=q5 qf;omega)) | (refine absurd ?_ ‹¬ zA _ _›;rcases (show k=0∨k=1∨k=2∨k=3∨k=4 by omega) with e | e | e | e | e <;> subst e <;> assumption))]
       replace h93:=xF h93
       replace h93:=zD h93
       refine zG [23,24,25,26] 4 (H) (rtp 27 (.bool true) H ?_)
       refine rtp 28 (.bool true) H ?_
       refine zG [29,30,31,32,33,34,35,36,37,38,39,40,41,42] 14 (H) (rtp 43 (.bool true) H ?_)
       refine xh qh (t_n (xZ true rfl (fun _=>zcr (sp (.bool false) (zjr (zr5 (ret1 (.bool false) rfl rfl ⟨_,rfl,?_,H.base⟩))))) (fun h=>absurd h qj)))
       rw [xg (fun h=>by obtain ⟨h1,h2,h3,h4,h5,h6,h7,h8,h9,h10,h11⟩:=h;first | contradiction | omega | exact h3 ⟨‹_›,‹_›⟩ | (obtain ⟨q1,q2,q3,q4,q5⟩:=h11 i qf;first | contradiction | omega | (have:=q5 qf;omega)) | (refine absurd ?_ ‹¬ zA _ _›;rcases (show k=0∨k=1∨k=2∨k=3∨k=4 by omega) with e | e | e | e | e <;> subst e <;> assumption))]
      replace h90:=xF h90
      replace h90:=zD h90
      refine zG [15,16,17,18,19,20] 6 (H) (rtp 21 (.bool true) H ?_)
      refine rtp 22 (.bool true) H ?_
      refine zG [23,24,25,26] 4 (H) (rtp 27 (.bool true) H ?_)
      refine rtp 28 (.bool true) H ?_
      refine zG [29,30,31,32,33,34,35,36,37,38,39,40,41,42] 14 (H) (rtp 43 (.bool true) H ?_)
      refine xh qh (t_n (xZ true rfl (fun _=>zcr (sp (.bool false) (zjr (zr5 (ret1 (.bool false) rfl rfl ⟨_,rfl,?_,H.base⟩))))) (fun h=>absurd h qj)))
      rw [xg (fun h=>by obtain ⟨h1,h2,h3,h4,h5,h6,h7,h8,h9,h10,h11⟩:=h;first | contradiction | omega | exact h3 ⟨‹_›,‹_›⟩ | (obtain ⟨q1,q2,q3,q4,q5⟩:=h11 i qf;first | contradiction | omega | (have:=q5 qf;omega)) | (refine absurd ?_ ‹¬ zA _ _›;rcases (show k=0∨k=1∨k=2∨k=3∨k=4 by omega) with e | e | e | e | e <;> subst e <;> assumption))]
     replace h86:=xF h86
     replace h86:=Qy h86
     refine zG [6,7,8,9,10,11,12] 7 (H) (rtp 13 (.bool true) H ?_)
     refine rtp 14 (.bool true) H ?_
     refine zG [15,16,17,18,19,20] 6 (H) (rtp 21 (.bool true) H ?_)
     refine rtp 22 (.bool true) H ?_
     refine zG [23,24,25,26] 4 (H) (rtp 27 (.bool true) H ?_)
     refine rtp 28 (.bool true) H ?_
     refine zG [29,30,31,32,33,34,35,36,37,38,39,40,41,42] 14 (H) (rtp 43 (.bool true) H ?_)
     refine xh qh (t_n (xZ true rfl (fun _=>zcr (sp (.bool false) (zjr (zr5 (ret1 (.bool false) rfl rfl ⟨_,rfl,?_,H.base⟩))))) (fun h=>absurd h qj)))
     rw [xg (fun h=>by obtain ⟨h1,h2,h3,h4,h5,h6,h7,h8,h9,h10,h11⟩:=h;first | contradiction | omega | exact h3 ⟨‹_›,‹_›⟩ | (obtain ⟨q1,q2,q3,q4,q5⟩:=h11 i qf;first | contradiction | omega | (have:=q5 qf;omega)) | (refine absurd ?_ ‹¬ zA _ _›;rcases (show k=0∨k=1∨k=2∨k=3∨k=4 by omega) with e | e | e | e | e <;> subst e <;> assumption))]
    refine zx4 (zcr (oF rfl (oL rfl (H.cell 1 rfl rfl) ?_)))
    have sm:Small r.xn:=vY (by first | assumption | exact i1 0 qf)
    refine sw (oq (bagSize_ok _ r.xn (H.get 3 rfl).1 (by first | assumption | exact vY ql | exact Qa ql)) H fun w100 H=>sps [.bool (decide ((sumL r.xn:Int) > 0)),.bool (decide ((sumL r.xn:Int) > 0))] (zjr (ret1 (.bool (decide ((sumL r.xn:Int) > 0))) rfl rfl ⟨_,rfl,(congrArg Value.bool (dec_eq ?_)),H.base⟩)))
    rw [decide_eq_true_iff]
    exact ⟨fun h=>⟨by omega,by omega,by simp_all,by omega,n1,n2,n3,n4,n5,by omega,(show i=r.qK.length by omega)▸i2⟩,fun h=>by have:=h.2.2.2.2.2.2.2.2.2.1;have:=sum_nonneg n1.1;omega⟩
   replace h57:=eq_of_beq h57
   refine xQ [30,31,32,33] (sp (.bool true) (zjn (xZ true rfl (fun _=>zcr (sp (.bool false) (zjr (t_r (ret1 (.bool false) rfl rfl ⟨_,rfl,?_,H.base⟩))))) (fun h=>absurd h qj))))
   rw [xg (fun h=>by obtain ⟨h1,h2,h3,h4,h5,h6,h7,h8,h9,h10,h11⟩:=h;first | contradiction | omega | exact h3 ⟨‹_›,‹_›⟩ | (obtain ⟨q1,q2,q3,q4,q5⟩:=h11 i qf;first | contradiction | omega | (have:=q5 qf;omega)) | (refine absurd ?_ ‹¬ zA _ _›;rcases (show k=0∨k=1∨k=2∨k=3∨k=4 by omega) with e | e | e | e | e <;> subst e <;> assumption))]
  replace h11:=xF h11
  replace h11:=Qy h11
  refine xQ [21,22,23,24,25,26,27] (sps [.bool true,.bool true] (xQ [30,31,32,33] (sp (.bool true) (zjn (xZ true rfl (fun _=>zcr (sp (.bool false) (zjr (t_r (ret1 (.bool false) rfl rfl ⟨_,rfl,?_,H.base⟩))))) (fun h=>absurd h qj))))))
  rw [xg (fun h=>by obtain ⟨h1,h2,h3,h4,h5,h6,h7,h8,h9,h10,h11⟩:=h;first | contradiction | omega | exact h3 ⟨‹_›,‹_›⟩ | (obtain ⟨q1,q2,q3,q4,q5⟩:=h11 i qf;first | contradiction | omega | (have:=q5 qf;omega)) | (refine absurd ?_ ‹¬ zA _ _›;rcases (show k=0∨k=1∨k=2∨k=3∨k=4 by omega) with e | e | e | e | e <;> subst e <;> assumption))]
 replace h8:=xF h8
 replace h8:=Qy h8
 refine xQ [15,16,17,18] (sps [.bool true,.bool true] (xQ [21,22,23,24,25,26,27] (sps [.bool true,.bool true] (xQ [30,31,32,33] (sp (.bool true) (zjn (xZ true rfl (fun _=>zcr (sp (.bool false) (zjr (t_r (ret1 (.bool false) rfl rfl ⟨_,rfl,?_,H.base⟩))))) (fun h=>absurd h qj))))))))
 rw [xg (fun h=>by obtain ⟨h1,h2,h3,h4,h5,h6,h7,h8,h9,h10,h11⟩:=h;first | contradiction | omega | exact h3 ⟨‹_›,‹_›⟩ | (obtain ⟨q1,q2,q3,q4,q5⟩:=h11 i qf;first | contradiction | omega | (have:=q5 qf;omega)) | (refine absurd ?_ ‹¬ zA _ _›;rcases (show k=0∨k=1∨k=2∨k=3∨k=4 by omega) with e | e | e | e | e <;> subst e <;> assumption))]
end
end Go.Proofs.Ytcpnclokildllaa
