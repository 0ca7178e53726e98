/- Walks and laws, printed by program and by hand: what each function comes to, for all arguments, part 2. -/
import Derived.Test.YtcpnclokildllaaA1
namespace Go.Proofs.Ytcpnclokildllaa
set_option linter.unusedVariables false
set_option linter.unusedSimpArgs false
open Go.Proofs.Ytcpnclokildllaa.Tot (tot)
open Go.Proofs.Ytcpnclokildllaa.Mark (cnt mrk mkd mkd_mark cnt_mark)
section

theorem yH.rule {s:qy} (h:yH s) {i:Nat} (hi:i < s.qw.length):RuleOk s (s.qw[i]!):=(h.2.2 i hi).1
theorem RuleOk.cell {s:qy} {r:jq} (h:RuleOk s r):r.qE.toNat < jb s:=by have:=h.1.1;have:=h.1.2;unfold jb;omega
theorem zM.len {s:qy} {l:yLI} (h:zM s.xn l):l.length=yV s:=by have:=h.2;unfold yV;omega
theorem zM.get {n:Int} {l:yLI} (h:zM n l) {k:Nat} (hk:k < l.length):0≤l[k]! ∧l[k]! ≤1000:=h.1.1 k hk
theorem zM.mul {s:qy} {m:yLI} (h:zM s.xn m) {t:Int} (ht: -1000≤t∧t≤1000):∀ k,k < yV s→ -1000000≤t * m[k]! ∧t * m[k]! ≤1000000:=fun k hk=>by
  have h1:=h.1.1 k (by rw [h.len];exact hk)
  rcases Int.le_total 0 t with h0 | h0
  · have h2:=Int.mul_nonneg h0 h1.1
    have h3:=Int.mul_le_mul_of_nonneg_left h1.2 h0
    omega
  · have h2:=Int.mul_nonneg (show 0≤ -t by omega) h1.1
    have h3:=Int.mul_le_mul_of_nonneg_left h1.2 (show 0≤ -t by omega)
    have h4: -t * m[k]! = -(t * m[k]!):=Int.neg_mul ..
    omega
theorem zM.jX {s:qy} {m:yLI} (h:zM s.xn m) {t:Int} (ht: -1000≤t∧t≤1000):SmallT m t:=bagOk_smallT h qf
theorem kinds_le {s:qy} (h:yH s):yV s≤8:=by have:=h.1.1.2;unfold yV;omega
theorem zl.shape {s:qy} {t:qG} (h:zl s t):Shape (jb s) (yV s) 1000 t.qI:=by
  refine ⟨h.2.1,fun p hp=>?_⟩
  have hb:=h.bagLen (k:=p) (by rw [h.2.1];exact hp)
  refine ⟨hb.len,fun k hk=>?_⟩
  have:=hb.get (k:=k) (by rw [hb.len];exact hk)
  omega
def CntOk (s:qy) (counts:yLI):Prop:=counts.length=s.qw.length∧∀ i,i < counts.length→0≤counts[i]! ∧counts[i]! ≤1000
theorem CntOk.bd {s:qy} {counts:yLI} (h:CntOk s counts) {i:Nat} (hi:i < s.qw.length):0≤counts[i]! ∧counts[i]! ≤1000:=h.2 i (by rw [h.1];exact hi)

def jS (s:qy) (t:qG) (counts:yLI):Nat→yLL
  | 0=>t.qI
  | k+1=>(jS s t counts k).set (s.qw[k]!).qE.toNat (jW ((jS s t counts k)[(s.qw[k]!).qE.toNat]!) (s.qw[k]!).xy (-(counts[k]!)))
def needF (s:qy) (counts:yLI) (i p k:Nat):Int:=at' p (s.qw[i]!).qE.toNat (-(counts[i]!) * ((s.qw[i]!).xy)[k]!)
def needS (s:qy) (counts:yLI):Nat→Nat→Nat→Int
  | 0,_,_=>0
  | i+1,p,k=>needS s counts i p k+needF s counts i p k
theorem restR_ent {s:qy} {t:qG} {counts:yLI} (hs:yH s) (ht:zl s t) (hc:CntOk s counts):∀ k,k≤s.qw.length→
    Ent (jb s) (yV s) (fun p q=>(t.qI[p]!)[q]! +needS s counts k p q) (1000+1000000 * k) (jS s t counts k)
  | 0,_=>⟨by simpa [jS] using ht.shape,fun p k hp hk=>by simp [jS,needS]⟩
  | k+1,h=>by
    have hr:=hs.rule (i:=k) qf
    have hcb:=hc.bd (i:=k) qf
    refine ((restR_ent hs ht hc k qf).add (D:=1000000) rfl hr.cell (hr.2.2.2.2.1.mul qf) qf).to (fun p q=>?_) qf
    show _=_+(needS s counts k p q+needF s counts k p q)
    unfold needF;omega
theorem restR_row {s:qy} {t:qG} {counts:yLI} (hs:yH s) (ht:zl s t) (hc:CntOk s counts) {k c:Nat} (hk:k≤s.qw.length) (h:c < jb s):
    ((jS s t counts k)[c]!).length=yV s∧Mid ((jS s t counts k)[c]!):=(restR_ent hs ht hc k hk).sh.row (by have:=hs.2.1;omega) (kinds_le hs) h
theorem restR_len {s:qy} {t:qG} {counts:yLI}:∀ k,(jS s t counts k).length=t.qI.length
  | 0=>rfl
  | k+1=>by rw [jS,List.length_set];exact restR_len k
theorem restR_skip {s:qy} {t:qG} {counts:yLI} (hs:yH s) (ht:zl s t) {k:Nat} (hk:k < s.qw.length) (h:counts[k]! =0):jS s t counts (k+1)=jS s t counts k:=by
  rw [jS,plus_zero qf]
  exact set_self (by rw [restR_len,ht.2.1];exact (hs.rule hk).cell) rfl
open Classical in
noncomputable def Qk (P:Nat→Prop):Nat→Nat
  | 0=>0
  | n+1=>if Qk P n < n then Qk P n else if P n then n else n+1
theorem stop_none {P:Nat→Prop}:∀ {n:Nat},(∀ j,j < n→¬ P j)→Qk P n=n
  | 0,_=>rfl
  | n+1,h=>by rw [Qk,stop_none (n:=n) (fun j hj=>h j qf),if_neg qf,if_neg (h n qf)]
theorem stop_first {P:Nat→Prop}:∀ {n k:Nat},(∀ j,j < k→¬ P j)→k < n→P k→Qk P n=k
  | n+1,k,h,hk,hp=>by
    rw [Qk]
    by_cases e:k=n
    · subst e;rw [stop_none h,if_neg qf,if_pos hp]
    · rw [stop_first (n:=n) h qf hp,if_pos qf]
def BadAt (s:qy) (t:qG) (counts:yLI) (i:Nat):Prop:=0 < counts[i]! ∧¬ Appl s t i
def GoodTo (s:qy) (t:qG) (counts:yLI) (k:Nat):Prop:=∀ i,i < k→¬ BadAt s t counts i
theorem GoodTo.succ {s:qy} {t:qG} {counts:yLI} {k:Nat} (h:GoodTo s t counts k) (h1:¬ BadAt s t counts k):GoodTo s t counts (k+1):=fun j hj=>by
  by_cases e:j=k
  · subst e;exact h1
  · exact h j qf
def NonNeg (b:yLL) (n:Nat):Prop:=∀ p,p < n→∀ k,k < (b[p]!).length→0≤(b[p]!)[k]!
theorem NonNeg.succ {b:yLL} {n:Nat} (h:NonNeg b n) (h1:∀ k,k < (b[n]!).length→0≤(b[n]!)[k]!):NonNeg b (n+1):=fun j hj=>by
  by_cases e:j=n
  · subst e;exact h1
  · exact h j qf
def IsCh (s:qy) (t:qG) (counts:yLI):Prop:=GoodTo s t counts counts.length∧NonNeg (jS s t counts counts.length) t.qI.length
def IsMost (s:qy) (t:qG) (counts:yLI):Prop:=IsCh s t counts∧∀ i,i < s.qw.length→Appl s t i→within (s.qw[i]!).xy ((jS s t counts counts.length)[(s.qw[i]!).qE.toNat]!)=false

def yY (l m:yLI):Nat→Int
  | 0=>1000
  | k+1=>if 0 < l[k]! then min (yY l m k) (m[k]! / l[k]!) else yY l m k
def y8 (l m:yLI):Int:=yY l m l.length
theorem timesTo_pos {l m:yLI} {k:Nat} (h:0 < l[k]!):yY l m (k+1)=min (yY l m k) (m[k]! / l[k]!):=by rw [yY,if_pos h]
theorem timesTo_skip {l m:yLI} {k:Nat} (h:¬ 0 < l[k]!):yY l m (k+1)=yY l m k:=by rw [yY,if_neg h]
theorem XF {l m:yLI} (hm:∀ k,k < l.length→0≤m[k]!):∀ k,k≤l.length→0≤yY l m k∧yY l m k≤1000
  | 0,_=>by simp [yY]
  | k+1,h=>by
    have:=XF hm k qf
    rw [yY]
    split
    · next h1=>have:=Int.ediv_nonneg (hm k qf) (show 0≤l[k]! by omega);omega
    · exact this
theorem timesTo_le {l m:yLI}:∀ {k j:Nat},j < k→0 < l[j]! →yY l m k≤m[j]! / l[j]!
  | k+1,j,h,h1=>by
    rw [yY]
    by_cases e:j=k
    · subst e;rw [if_pos h1];omega
    · have:=timesTo_le (m:=m) (show j < k by omega) h1
      split <;> omega
theorem timesL_left {l m:yLI} (hl:∀ k,k < l.length→0≤l[k]!) (hm:∀ k,k < l.length→0≤m[k]!) {k:Nat} (hk:k < l.length):0≤m[k]! + -(y8 l m) * l[k]! :=by
  have h0:=XF hm l.length (Nat.le_refl _)
  rcases Int.lt_or_eq_of_le (hl k hk) with h | h
  · have h1:=timesTo_le (m:=m) hk h
    have h2:m[k]! / l[k]! * l[k]! ≤m[k]! :=Int.ediv_mul_le _ qf
    have h3:=Int.mul_le_mul_of_nonneg_right h1 (show 0≤l[k]! by omega)
    have h4: -(y8 l m) * l[k]! = -(y8 l m * l[k]!):=Int.neg_mul ..
    unfold y8 at *
    omega
  · rw [← h];have:=hm k hk;omega
def QM (l m:yLI) (i:Nat) (best:Int):Prop:=(best=yY l m i∧∃ j,j < i∧0 < l[j]!)∨(best= -1∧yY l m i=1000∧∀ j,j < i→l[j]! ≤0)
theorem QM.zero (l m:yLI):QM l m 0 (-1):=.inr ⟨rfl,rfl,fun j hj=>by omega⟩
theorem QM.take {l m:yLI} {i:Nat} {best:Int} (h:QM l m i best) (hm:0≤m[i]! ∧m[i]! ≤1000) (hl:0 < l[i]!) (hb:best < 0∨m[i]! / l[i]! < best) (hn:0≤yY l m i):QM l m (i+1) (m[i]! / l[i]!):=by
  refine .inl ⟨?_,i,by omega,hl⟩
  rw [timesTo_pos hl]
  have h1:m[i]! / l[i]! ≤m[i]! :=Int.ediv_le_self _ hm.1
  rcases h with ⟨h,_⟩ | ⟨h,h2,_⟩ <;> omega
theorem QM.keep {l m:yLI} {i:Nat} {best:Int} (h:QM l m i best) (hl:¬ 0 < l[i]!):QM l m (i+1) best:=by
  unfold QM
  rw [timesTo_skip hl]
  rcases h with ⟨h,j,h1,h2⟩ | ⟨h,h2,h3⟩
  · exact .inl ⟨h,j,by omega,h2⟩
  · refine .inr ⟨h,h2,fun j hj=>?_⟩
    by_cases e:j=i
    · subst e;omega
    · exact h3 j qf
theorem QM.keep2 {l m:yLI} {i:Nat} {best:Int} (h:QM l m i best) (hl:0 < l[i]!) (hb:¬ best < 0) (hn:¬ m[i]! / l[i]! < best):QM l m (i+1) best:=by
  refine .inl ⟨?_,i,by omega,hl⟩
  rw [timesTo_pos hl]
  rcases h with ⟨h,_⟩ | ⟨h,_⟩ <;> omega
theorem QM.done {l m:yLI} {i:Nat} {best:Int} (h:QM l m i best) (hp:∃ j,j < i∧0 < l[j]!):best=yY l m i:=by
  rcases h with ⟨h,_⟩ | ⟨_,_,h3⟩
  · exact h
  · obtain ⟨j,h1,h2⟩:=hp
    have:=h3 j h1;omega
theorem sum_pos {l:yLI} (h:BagAny l) (h1:sumL l≠0):∃ j,j < l.length∧0 < l[j]! :=by
  apply Classical.byContradiction
  intro hn
  have h0:∀ k,k≤l.length→sumTo l k=0:=by
    intro k
    induction k with
    | zero=>intro _;rfl
    | succ k ih=>
      intro hk
      have h2:=h.1 k qf
      have h3:¬ 0 < l[k]! :=fun h4=>hn ⟨k,by omega,h4⟩
      rw [sumTo,ih qf];omega
  exact h1 (h0 _ (Nat.le_refl _))
open Classical in
noncomputable def zU (s:qy) (t:qG):Nat→yLL
  | 0=>t.qI
  | k+1=>if Appl s t k then (zU s t k).set (s.qw[k]!).qE.toNat (jW ((zU s t k)[(s.qw[k]!).qE.toNat]!) (s.qw[k]!).xy (-(y8 (s.qw[k]!).xy ((zU s t k)[(s.qw[k]!).qE.toNat]!)))) else zU s t k
open Classical in
noncomputable def firstC (s:qy) (t:qG) (k:Nat):Int:=if Appl s t k then y8 (s.qw[k]!).xy ((zU s t k)[(s.qw[k]!).qE.toNat]!) else 0
noncomputable def firstTo (s:qy) (t:qG) (m n:Nat):yLI:=(List.range n).map fun j=>if j < m then firstC s t j else 0
noncomputable def xR (s:qy) (t:qG):yLI:=firstTo s t s.qw.length s.qw.length
theorem firstR_yes {s:qy} {t:qG} {k:Nat} (h:Appl s t k):zU s t (k+1)=(zU s t k).set (s.qw[k]!).qE.toNat (jW ((zU s t k)[(s.qw[k]!).qE.toNat]!) (s.qw[k]!).xy (-(y8 (s.qw[k]!).xy ((zU s t k)[(s.qw[k]!).qE.toNat]!)))):=by rw [zU,if_pos h]
theorem firstR_no {s:qy} {t:qG} {k:Nat} (h:¬ Appl s t k):zU s t (k+1)=zU s t k:=by rw [zU,if_neg h]
theorem firstR_skip {s:qy} {t:qG} {m:Nat}:∀ {d:Nat},(∀ j,m≤j→j < m+d→¬ Appl s t j)→zU s t (m+d)=zU s t m
  | 0,_=>rfl
  | d+1,h=>by rw [← Nat.add_assoc,firstR_no (h (m+d) qf qf),firstR_skip fun j h1 h2=>h j h1 qf]
theorem firstR_same {s:qy} {t:qG} {m i:Nat} (hm:m≤i) (h:∀ j,m≤j→j < i→¬ Appl s t j):zU s t i=zU s t m:=by
  obtain ⟨d,rfl⟩:∃ d,i=m+d:=⟨i - m,by omega⟩
  exact firstR_skip h
theorem QZ {s:qy} {t:qG} {k:Nat} (h:Appl s t k):firstC s t k=y8 (s.qw[k]!).xy ((zU s t k)[(s.qw[k]!).qE.toNat]!):=by rw [firstC,if_pos h]
theorem firstC_no {s:qy} {t:qG} {k:Nat} (h:¬ Appl s t k):firstC s t k=0:=by rw [firstC,if_neg h]
theorem jo (s:qy) (t:qG) (m n:Nat):(firstTo s t m n).length=n:=by simp [firstTo]
theorem QF {s:qy} {t:qG} {m n j:Nat} (h:j < n):(firstTo s t m n)[j]! =if j < m then firstC s t j else 0:=by
  rw [getElem!_pos (firstTo s t m n) j (by rw [jo];exact h)];simp [firstTo]
theorem firstTo_snoc (s:qy) (t:qG) (m:Nat):firstTo s t m m++[firstC s t m]=firstTo s t (m+1) (m+1):=by
  refine ext_get (by simp [jo]) fun k hk=>?_
  rw [List.length_append,jo] at hk
  simp only [List.length_cons,List.length_nil] at hk
  rw [QF qf,if_pos qf]
  rw [getElem!_pos (firstTo s t m m++[firstC s t m]) k (by simp [jo];omega)]
  by_cases e:k=m
  · subst e;rw [List.getElem_append_right (by simp [jo])];simp [jo]
  · rw [List.getElem_append_left (by rw [jo];omega)]
    have:=QF (s:=s) (t:=t) (m:=m) (n:=m) (j:=k) qf
    rw [getElem!_pos (firstTo s t m m) k (by rw [jo];omega),if_pos qf] at this
    exact this
theorem firstTo_snoc' {s:qy} {t:qG} {m:Nat} {x:Int} (h:x=firstC s t m):firstTo s t m m++[x]=firstTo s t (m+1) (m+1):=h▸firstTo_snoc s t m
theorem firstTo_zero (s:qy) (t:qG) (n:Nat):List.replicate n (0:Int)=firstTo s t 0 n:=by
  refine ext_get (by simp [jo]) fun k hk=>?_
  rw [List.length_replicate] at hk
  rw [QF hk,if_neg qf,getElem!_pos (List.replicate n (0:Int)) k (by simpa using hk)];simp
theorem firstTo_set {s:qy} {t:qG} {m i n:Nat} (hm:m≤i) (hi:i < n) (h:∀ j,m≤j→j < i→¬ Appl s t j) {x:Int} (hx:x=firstC s t i):(firstTo s t m n).set i x=firstTo s t (i+1) n:=by
  refine ext_get (by simp [jo]) fun k hk=>?_
  rw [List.length_set,jo] at hk
  rw [getset (by rw [jo];exact hi),QF hk,QF hk]
  by_cases e:k=i
  · subst e;rw [if_pos rfl,if_pos qf,hx]
  · rw [if_neg e]
    by_cases h1:k < m
    · rw [if_pos h1,if_pos qf]
    · rw [if_neg h1]
      by_cases h2:k < i
      · rw [if_pos qf,firstC_no (h k qf h2)]
      · rw [if_neg qf]
theorem firstTo_end {s:qy} {t:qG} {m n:Nat} (hm:m≤n) (h:∀ j,m≤j→j < n→¬ Appl s t j):firstTo s t m n=firstTo s t n n:=by
  refine ext_get (by simp [jo]) fun k hk=>?_
  rw [jo] at hk
  rw [QF hk,QF hk,if_pos hk]
  by_cases h1:k < m
  · rw [if_pos h1]
  · rw [if_neg h1,firstC_no (h k qf hk)]
def Box (n K:Nat) (b:yLL):Prop:=b.length=n∧∀ p,p < n→(b[p]!).length=K∧∀ k,k < K→0≤(b[p]!)[k]! ∧(b[p]!)[k]! ≤1000
theorem zl.box {s:qy} {t:qG} (h:zl s t):Box (jb s) (yV s) t.qI:=by
  refine ⟨h.2.1,fun p hp=>?_⟩
  have hb:=h.bagLen (k:=p) (by rw [h.2.1];exact hp)
  exact ⟨hb.len,fun k hk=>hb.get (by rw [hb.len];exact hk)⟩
theorem firstR_box {s:qy} {t:qG} (hs:yH s) (ht:zl s t):∀ k,k≤s.qw.length→Box (jb s) (yV s) (zU s t k)
  | 0,_=>ht.box
  | k+1,h=>by
    have ih:=firstR_box hs ht k qf
    by_cases ha:Appl s t k
    · rw [firstR_yes ha]
      have hr:=hs.rule (i:=k) qf
      have hb:=hr.2.2.2.2.1
      have hc:=ih.2 _ hr.cell
      refine ⟨by rw [List.length_set];exact ih.1,fun p hp=>?_⟩
      rw [getset (by rw [ih.1];exact hr.cell)]
      by_cases e:p=(s.qw[k]!).qE.toNat
      · rw [if_pos e,plusL_len]
        refine ⟨hc.1,fun q hq=>?_⟩
        rw [plus_get (by rw [hc.1];exact hq)]
        have h1:=timesL_left (l:=(s.qw[k]!).xy) (m:=(zU s t k)[(s.qw[k]!).qE.toNat]!) (fun j hj=>(hb.get hj).1) (fun j hj=>(hc.2 j (by rw [← hb.len];exact hj)).1) (k:=q) (by rw [hb.len];exact hq)
        refine ⟨h1,?_⟩
        have h2:=XF (l:=(s.qw[k]!).xy) (m:=(zU s t k)[(s.qw[k]!).qE.toNat]!) (fun j hj=>(hc.2 j (by rw [← hb.len];exact hj)).1) _ (Nat.le_refl _)
        have h3:=Int.mul_nonneg h2.1 (hb.get (k:=q) (by rw [hb.len];exact hq)).1
        have h4:=(hc.2 q hq).2
        have h5: -(y8 (s.qw[k]!).xy ((zU s t k)[(s.qw[k]!).qE.toNat]!)) * ((s.qw[k]!).xy)[q]! = -(y8 (s.qw[k]!).xy ((zU s t k)[(s.qw[k]!).qE.toNat]!) * ((s.qw[k]!).xy)[q]!):=Int.neg_mul ..
        unfold y8 at *
        omega
      · rw [if_neg e];exact ih.2 p hp
    · rw [firstR_no ha];exact ih
theorem firstR_row {s:qy} {t:qG} (hs:yH s) (ht:zl s t) {k c:Nat} (hk:k≤s.qw.length) (h:c < jb s):
    ((zU s t k)[c]!).length=yV s∧Mid ((zU s t k)[c]!)∧∀ q,q < yV s→0≤((zU s t k)[c]!)[q]! ∧((zU s t k)[c]!)[q]! ≤1000:=by
  have h1:=(firstR_box hs ht k hk).2 c h
  have:=kinds_le hs
  exact ⟨h1.1,⟨by have:=h1.1;omega,fun q hq=>by have:=h1.2 q (by have:=h1.1;omega);omega⟩,h1.2⟩
theorem firstC_bd {s:qy} {t:qG} (hs:yH s) (ht:zl s t) {k:Nat} (hk:k < s.qw.length):0≤firstC s t k∧firstC s t k≤1000:=by
  by_cases ha:Appl s t k
  · rw [QZ ha]
    have hr:=hs.rule hk
    have hc:=firstR_row hs ht (Nat.le_of_lt hk) hr.cell
    exact XF (fun j hj=>(hc.2.2 j (by rw [← hr.2.2.2.2.1.len];exact hj)).1) _ (Nat.le_refl _)
  · rw [firstC_no ha];omega
theorem first_cnt {s:qy} {t:qG} (hs:yH s) (ht:zl s t):CntOk s (xR s t):=by
  refine ⟨jo _ _ _ _,fun i hi=>?_⟩
  rw [xR,jo] at hi
  rw [xR,QF hi,if_pos hi]
  exact firstC_bd hs ht hi
theorem first_rest {s:qy} {t:qG} (hs:yH s) (ht:zl s t):∀ k,k≤s.qw.length→jS s t (xR s t) k=zU s t k
  | 0,_=>rfl
  | k+1,h=>by
    have ih:=first_rest hs ht k qf
    have hg:(xR s t)[k]! =firstC s t k:=by rw [xR,QF qf,if_pos qf]
    by_cases ha:Appl s t k
    · rw [firstR_yes ha,jS,ih,hg,QZ ha]
    · rw [firstR_no ha,restR_skip hs ht qf (by rw [hg,firstC_no ha]),ih]
theorem first_isCh {s:qy} {t:qG} (hs:yH s) (ht:zl s t):IsCh s t (xR s t):=by
  have hl:(xR s t).length=s.qw.length:=jo _ _ _ _
  constructor
  · intro i hi
    rw [hl] at hi
    rintro ⟨h1,h2⟩
    rw [xR,QF hi,if_pos hi,firstC_no h2] at h1
    omega
  · rw [hl,first_rest hs ht _ (Nat.le_refl _)]
    have hb:=firstR_box hs ht _ (Nat.le_refl _)
    intro p hp k hk
    rw [ht.2.1] at hp
    have:=hb.2 p hp
    exact (this.2 k (by rw [← this.1];exact hk)).1
theorem parentNow_root {s:qy} {t:qG} (hs:jE s):xg s t 0= -1:=by
  unfold xg
  rw [show s.qx[(0:Int).toNat]! = -1 from hs.2.2.1]
  exact climb_end fun h=>by omega
def outPl (s:qy) (t:qG) (r:jq):Nat:=if r.qE=0 then jb s else (xg s t r.qE).toNat
theorem outPl_root {s:qy} {t:qG} {r:jq} (h:r.qE=0):outPl s t r=jb s:=by rw [outPl,if_pos h]
theorem outPl_up {s:qy} {t:qG} {r:jq} (h:r.qE≠0):outPl s t r=(xg s t r.qE).toNat:=by rw [outPl,if_neg h]
def intoF (r:jq) (c:Int):Nat→Nat→Nat→Int
  | 0,_,_=>0
  | j+1,p,k=>intoF r c j p k+at' p (r.qM[j]!).qE.toNat (c * ((r.qM[j]!).Qz)[k]!)
def putF (s:qy) (t:qG) (r:jq) (c:Int) (p k:Nat):Int:=at' p r.qE.toNat (c * r.x9[k]!)+at' p (outPl s t r) (c * r.ja[k]!)+intoF r c r.qM.length p k
def putS (s:qy) (t:qG) (counts:yLI):Nat→Nat→Nat→Int
  | 0,_,_=>0
  | i+1,p,k=>putS s t counts i p k+putF s t (s.qw[i]!) (counts[i]!) p k
def allS (s:qy) (t:qG) (counts:yLI):Nat→Nat→Nat→Int
  | 0,_,_=>0
  | i+1,p,k=>allS s t counts i p k+needF s counts i p k+putF s t (s.qw[i]!) (counts[i]!) p k
theorem allS_eq (s:qy) (t:qG) (counts:yLI) (p k:Nat):∀ i,allS s t counts i p k=needS s counts i p k+putS s t counts i p k
  | 0=>rfl
  | i+1=>by
    have:=allS_eq s t counts p k i
    simp only [allS,needS,putS]
    omega
theorem at_zero (p c:Nat) (x:Int):at' p c (0 * x)=0:=by unfold at';split <;> simp
theorem intoF_zero (r:jq) (p k:Nat):∀ j,intoF r 0 j p k=0
  | 0=>rfl
  | j+1=>by rw [intoF,intoF_zero r p k j,at_zero];rfl
theorem putF_zero (s:qy) (t:qG) (r:jq) {c:Int} (h:c=0) (p k:Nat):putF s t r c p k=0:=by
  subst h;rw [putF,at_zero,at_zero,intoF_zero];rfl
theorem putS_skip {s:qy} {t:qG} {counts:yLI} {i:Nat} (h:counts[i]! =0) (p k:Nat):putS s t counts (i+1) p k=putS s t counts i p k:=by
  rw [putS,putF_zero s t _ h];omega
def base0 (s:qy) (t:qG) (p k:Nat):Int:=if p < jb s then (t.qI[p]!)[k]! else t.qF[k]!
def stepF (s:qy) (t:qG) (counts:yLI) (p k:Nat):Int:=base0 s t p k+allS s t counts s.qw.length p k
noncomputable def qY (s:qy) (t:qG) (counts:yLI):qG:=
  ⟨t.qC,(tab2 (jb s+1) (yV s) (stepF s t counts)).take (jb s),(tab2 (jb s+1) (yV s) (stepF s t counts))[jb s]!⟩
theorem zl.around {s:qy} {t:qG} (h:zl s t):t.qF.length=yV s∧∀ k,k < yV s→0≤t.qF[k]! ∧t.qF[k]! ≤1000:=by
  have hb:=h.2.2.2.1
  exact ⟨hb.len,fun k hk=>hb.get (by rw [hb.len];exact hk)⟩
theorem start_ent {s:qy} {t:qG} {counts:yLI} (ht:zl s t):Ent (jb s+1) (yV s) (fun p k=>base0 s t p k+allS s t counts 0 p k) 1000 (t.qI++[t.qF]):=by
  have h1:Ent (jb s) (yV s) (fun p k=>base0 s t p k+allS s t counts 0 p k) 1000 t.qI:=⟨ht.shape,fun p k hp hk=>by simp [base0,hp,allS]⟩
  refine h1.snoc ht.around.1 (fun k hk=>by have:=ht.around.2 k hk;omega) fun k hk=>?_
  simp [base0,allS]
theorem rest_ent {s:qy} {t:qG} {counts:yLI} (hs:yH s) (ht:zl s t) (hc:CntOk s counts):
    Ent (jb s+1) (yV s) (fun p k=>base0 s t p k+needS s counts s.qw.length p k+putS s t counts 0 p k) (1000+1000000 * s.qw.length) (jS s t counts s.qw.length++[t.qF]):=by
  have h1:Ent (jb s) (yV s) (fun p k=>base0 s t p k+needS s counts s.qw.length p k+putS s t counts 0 p k) (1000+1000000 * s.qw.length) (jS s t counts s.qw.length):=by
    have h0:=restR_ent hs ht hc _ (Nat.le_refl _)
    exact ⟨h0.sh,fun p k hp hk=>by rw [h0.eq p k hp hk];simp [base0,hp,putS]⟩
  refine h1.snoc ht.around.1 (fun k hk=>by have:=ht.around.2 k hk;omega) fun k hk=>?_
  have h2:∀ i,i≤s.qw.length→needS s counts i (jb s) k=0:=by
    intro i
    induction i with
    | zero=>intro _;rfl
    | succ i ih=>
      intro hi
      have:=(hs.rule (i:=i) qf).cell
      rw [needS,ih qf,needF,at',if_neg qf];rfl
  rw [h2 _ (Nat.le_refl _)]
  simp [base0,putS]
theorem step_tab {s:qy} {t:qG} {counts:yLI} {B:Int} {b:yLL} (h:Ent (jb s+1) (yV s) (fun p k=>base0 s t p k+allS s t counts s.qw.length p k) B b):
    b.take (jb s)=(qY s t counts).qI∧b[jb s]! =(qY s t counts).qF:=by
  have e:=h.tab
  constructor
  · show _=(tab2 _ _ _).take _
    rw [e];rfl
  · show _=(tab2 _ _ _)[_]!
    rw [e];rfl
theorem step_tab2 {s:qy} {t:qG} {counts:yLI} {B:Int} {b:yLL} {a:yLI} (hb:b.length=jb s) (h:Ent (jb s+1) (yV s) (fun p k=>base0 s t p k+needS s counts s.qw.length p k+putS s t counts s.qw.length p k) B (b++[a])):
    b=(qY s t counts).qI∧a=(qY s t counts).qF:=by
  have h1:=step_tab (h.to (g:=fun p k=>base0 s t p k+allS s t counts s.qw.length p k) (fun p k=>by rw [allS_eq];omega) (Int.le_refl _))
  rw [← hb,List.take_left] at h1
  refine ⟨h1.1,?_⟩
  rw [← h1.2,getElem!_pos (b++[a]) b.length qm,List.getElem_append_right (Nat.le_refl _)];simp
theorem cat_set {b:yLL} {a v:yLI} {c:Nat} (hc:c < b.length):(b++[a]).set c v=b.set c v++[a]:=List.set_append_left c v hc
theorem cat_setN {b:yLL} {a v:yLI} {n:Nat} (h:b.length=n):(b++[a]).set n v=b++[v]:=by
  rw [List.set_append_right _ _ qf,h];simp
theorem cat_get {b:yLL} {a:yLI} {c:Nat} (hc:c < b.length):(b++[a])[c]! =b[c]! :=by
  rw [getElem!_pos (b++[a]) c (by simp;omega),getElem!_pos b c hc,List.getElem_append_left hc]
theorem cat_getN {b:yLL} {a:yLI} {n:Nat} (h:b.length=n):(b++[a])[n]! =a:=by
  rw [getElem!_pos (b++[a]) n (by simp;omega),List.getElem_append_right qf];simp [h]
theorem Ent.addL {n K:Nat} {f:Nat→Nat→Int} {B D:Int} {b:yLL} {a:yLI} (h:Ent (n+1) K f B (b++[a])) {c:Nat} {m:yLI} {t:Int} {b' :yLL} (e:b' =b.set c (jW (b[c]!) m t)) (hb:b.length=n) (hc:c < n) (ht:∀ k,k < K→ -D≤t * m[k]! ∧t * m[k]! ≤D) (hD:0≤D):
    Ent (n+1) K (fun p k=>f p k+at' p c (t * m[k]!)) (B+D) (b' ++[a]):=
  h.add (by rw [e,← cat_set qf,cat_get qf]) qf ht hD
theorem Ent.addN {n K:Nat} {f:Nat→Nat→Int} {B D:Int} {b:yLL} {a:yLI} (h:Ent (n+1) K f B (b++[a])) {m:yLI} {t:Int} {a' :yLI} (e:a' =jW a m t) (hb:b.length=n) (ht:∀ k,k < K→ -D≤t * m[k]! ∧t * m[k]! ≤D) (hD:0≤D):
    Ent (n+1) K (fun p k=>f p k+at' p n (t * m[k]!)) (B+D) (b++[a']):=
  h.add (by rw [e,cat_setN hb,cat_getN hb]) qf ht hD
theorem Ent.rowL {n K:Nat} {f:Nat→Nat→Int} {B:Int} {b:yLL} {a:yLI} (h:Ent (n+1) K f B (b++[a])) (hb:b.length=n) (hB:B≤1000000000000000) (hK:K≤8) {c:Nat} (hc:c < n):(b[c]!).length=K∧Mid (b[c]!):=by
  have:=h.sh.row hB hK (c:=c) qf
  rwa [cat_get qf] at this
theorem Ent.rowN {n K:Nat} {f:Nat→Nat→Int} {B:Int} {b:yLL} {a:yLI} (h:Ent (n+1) K f B (b++[a])) (hb:b.length=n) (hB:B≤1000000000000000) (hK:K≤8):a.length=K∧Mid a:=by
  have:=h.sh.row hB hK (c:=n) qf
  rwa [cat_getN hb] at this

def Qx (s:qy) (counts:yLI) (c:Int) (k:Nat):Prop:=∃ i,i < k∧0 < counts[i]! ∧(s.qw[i]!).zW=true∧(s.qw[i]!).qE=c
theorem melts_zero (s:qy) (counts:yLI) (c:Int):¬ Qx s counts c 0:=fun ⟨i,h,_⟩=>by omega
theorem melts_succ {s:qy} {counts:yLI} {c:Int} {k:Nat}:Qx s counts c (k+1)↔Qx s counts c k∨(0 < counts[k]! ∧(s.qw[k]!).zW=true∧(s.qw[k]!).qE=c):=by
  constructor
  · rintro ⟨i,h,h1⟩
    by_cases e:i=k
    · subst e;exact .inr h1
    · exact .inl ⟨i,by omega,h1⟩
  · rintro (⟨i,h,h1⟩ | h)
    · exact ⟨i,by omega,h1⟩
    · exact ⟨k,by omega,h⟩
theorem melts_1 {s:qy} {counts:yLI} {c:Int} {k:Nat} (h:dec (Qx s counts c k)=true):true=dec (Qx s counts c (k+1)):=(yC (melts_succ.2 (.inl (Qd h)))).symm
theorem melts_2 {s:qy} {counts:yLI} {c:Int} {k:Nat} (h:dec (Qx s counts c k)=false) (h1:¬ counts[k]! > 0):false=dec (Qx s counts c (k+1)):=
  (xh fun x=>(melts_succ.1 x).elim (zJ h) fun y=>h1 y.1).symm
theorem melts_3 {s:qy} {counts:yLI} {c:Int} {k:Nat} (h:dec (Qx s counts c k)=false) (h1:(s.qw[k]!).zW=false):false=dec (Qx s counts c (k+1)):=
  (xh fun x=>(melts_succ.1 x).elim (zJ h) fun y=>ft y.2.1 h1).symm
theorem melts_4 {s:qy} {counts:yLI} {c:Int} {k:Nat} (h:dec (Qx s counts c k)=false) (h1:counts[k]! > 0) (h2:(s.qw[k]!).zW=true):((s.qw[k]!).qE == c)=dec (Qx s counts c (k+1)):=by
  refine dec_eq ?_
  rw [beq_iff_eq,melts_succ]
  exact ⟨fun e=>.inr ⟨h1,h2,e⟩,fun x=>x.elim (fun y=>absurd y (zJ h)) fun y=>y.2.2⟩
abbrev Melts (s:qy) (counts:yLI) (c:Int):Prop:=Qx s counts c s.qw.length
noncomputable def jZ (s:qy) (counts:yLI) (n k:Nat):List Bool:=(List.range n).map fun c:Nat=>dec (Qx s counts (c:Int) k)
theorem meltsL_len (s:qy) (counts:yLI) (n k:Nat):(jZ s counts n k).length=n:=by simp [jZ]
theorem meltsL_get {s:qy} {counts:yLI} {n k c:Nat} (h:c < n):(jZ s counts n k)[c]! =dec (Qx s counts (c:Int) k):=by
  rw [getElem!_pos (jZ s counts n k) c (by rw [meltsL_len];exact h)];simp [jZ]
theorem meltsL_zero (s:qy) (counts:yLI) (n:Nat):List.replicate n false=jZ s counts n 0:=by
  refine ext_get (by simp [meltsL_len]) fun k hk=>?_
  rw [List.length_replicate] at hk
  rw [meltsL_get hk,xh (melts_zero _ _ _),getElem!_pos (List.replicate n false) k (by simpa using hk)];simp
theorem meltsL_set {s:qy} {counts:yLI} {n k:Nat} (h0:0≤(s.qw[k]!).qE) (h:(s.qw[k]!).qE.toNat < n) {x:Bool} (hx:x=true↔((jZ s counts n k)[(s.qw[k]!).qE.toNat]! =true∨(0 < counts[k]! ∧(s.qw[k]!).zW=true))):
    (jZ s counts n k).set (s.qw[k]!).qE.toNat x=jZ s counts n (k+1):=by
  refine ext_get (by simp [meltsL_len]) fun p hp=>?_
  rw [List.length_set,meltsL_len] at hp
  rw [getset (by rw [meltsL_len];exact h),meltsL_get hp,meltsL_get hp]
  rw [meltsL_get h] at hx
  by_cases e:p=(s.qw[k]!).qE.toNat
  · rw [if_pos e]
    refine dec_eq (hx.trans ?_)
    rw [melts_succ,e,show (((s.qw[k]!).qE.toNat:Nat):Int)=(s.qw[k]!).qE by omega]
    constructor
    · rintro (h1 | h1)
      · exact .inl (Qd h1)
      · exact .inr ⟨h1.1,h1.2,rfl⟩
    · rintro (h1 | h1)
      · exact .inl (yC h1)
      · exact .inr ⟨h1.1,h1.2.1⟩
  · rw [if_neg e]
    refine dec_congr ?_
    rw [melts_succ]
    constructor
    · exact .inl
    · rintro (h1 | ⟨_,_,h1⟩)
      · exact h1
      · exfalso;omega
open Classical in
noncomputable def qW (s:qy) (counts:yLI) (u:qG):Nat→qG
  | 0=>u
  | j+1=>if Melts s counts ((jb s:Int) - 1 - j) then melted s (qW s counts u j) ((jb s:Int) - 1 - j) else qW s counts u j
theorem meltDown_yes {s:qy} {counts:yLI} {u:qG} {j:Nat} {c:Int} (h:Melts s counts c) (hc:c=(jb s:Int) - 1 - j):qW s counts u (j+1)=melted s (qW s counts u j) c:=by subst hc;rw [qW,if_pos h]
theorem meltDown_no {s:qy} {counts:yLI} {u:qG} {j:Nat} {c:Int} (h:¬ Melts s counts c) (hc:c=(jb s:Int) - 1 - j):qW s counts u (j+1)=qW s counts u j:=by subst hc;rw [qW,if_neg h]
theorem Qi {s:qy} {counts:yLI} {u:qG} {j i:Nat} {c:Int} (h:dec (Qx s counts c i)=true) (hi:i=s.qw.length) (hc:c=(jb s:Int) - 1 - j):qW s counts u (j+1)=melted s (qW s counts u j) c:=by subst hi;exact meltDown_yes (Qd h) hc
theorem meltDown_no' {s:qy} {counts:yLI} {u:qG} {j i:Nat} {c:Int} (h:dec (Qx s counts c i)=false) (hi:i=s.qw.length) (hc:c=(jb s:Int) - 1 - j):qW s counts u (j+1)=qW s counts u j:=by subst hi;exact meltDown_no (zJ h) hc
theorem Qe (s:qy) (counts:yLI) (u:qG):∀ j,(qW s counts u j).qF=u.qF
  | 0=>rfl
  | j+1=>by
    rw [qW]
    split
    · exact Qe s counts u j
    · exact Qe s counts u j
structure Live (s:qy) (B:Int) (u:qG):Prop where
  alive:u.qC.length=jb s
  root:u.qC[0]! =true
  bags:Shape (jb s) (yV s) B u.qI
  around:u.qF.length=yV s
theorem Live.melt {s:qy} {B:Int} {u:qG} (hs:yH s) (h:Live s B u) (hB:0≤B) {c:Int} (h0:0 < c) (h1:c≤(jb s:Int) - 1):Live s (2 * B) (melted s u c):=by
  have hp:=XH (t:=u) hs.1 h.root h0 h1
  have hpc:(xg s u c).toNat < jb s:=by omega
  have hcc:c.toNat < jb s:=by omega
  refine ⟨by simp [melted,h.alive],?_,?_,h.around⟩
  · show (u.qC.set c.toNat false)[0]! =true
    rw [getset (by rw [h.alive];exact hcc),if_neg qf];exact h.root
  · have hr:=(h.bags.2 _ hcc).2
    have hk:=(h.bags.2 _ hcc).1
    have h2:=h.bags.plus (m:=u.qI[c.toNat]!) (t:=1) (D:=B) hpc (fun k hk=>by have:=hr k hk;omega) hB
    refine (h2.set (D:=B+B) hcc (by simp [yV]) (fun k hk=>?_) qf).mono qf
    rw [getElem!_pos (List.replicate s.xn.toNat (0:Int)) k (by simpa [yV] using hk)]
    simp;omega
def bnd:Nat→Int
  | 0=>200000000
  | j+1=>2 * bnd j
theorem bnd_pos:∀ j,0≤bnd j
  | 0=>by simp [bnd]
  | j+1=>by have:=bnd_pos j;simp only [bnd];omega
theorem bnd_mono:∀ {i j:Nat},i≤j→bnd i≤bnd j
  | i, 0, h => by obtain rfl : i = 0 := by omega
                  exact Int.le_refl _
  | i,j+1,h=>by
    by_cases e:i=j+1
    · subst e;exact Int.le_refl _
    · have:=bnd_mono (show i≤j by omega)
      have:=bnd_pos j
      simp only [bnd];omega
theorem bnd_le {j:Nat} (h:j≤6):bnd j≤12800000000:=Int.le_trans (bnd_mono h) (by simp [bnd])
theorem Live.mono {s:qy} {B D:Int} {u:qG} (h:Live s B u) (hD:B≤D):Live s D u:=⟨h.alive,h.root,h.bags.mono hD,h.around⟩
theorem stepped_live {s:qy} {t:qG} {counts:yLI} {B:Int} {b:yLL} (ht:zl s t) (h:Ent (jb s+1) (yV s) (fun p k=>base0 s t p k+allS s t counts s.qw.length p k) B b) (hB:B≤200000000):Live s (bnd 0) (qY s t counts):=by
  have h1:=step_tab h
  have hr:=h.sh.2 (jb s) qf
  refine ⟨ht.1,ht.2.2.1,?_,by rw [← h1.2];exact hr.1⟩
  rw [← h1.1]
  refine ⟨by rw [List.length_take,h.sh.1];omega,fun p hp=>?_⟩
  have e:(b.take (jb s))[p]! =b[p]! :=by
    rw [getElem!_pos (b.take (jb s)) p (by rw [List.length_take,h.sh.1];omega),getElem!_pos b p (by rw [h.sh.1];omega)];simp
  rw [e]
  have:=h.sh.2 p qf
  exact ⟨this.1,fun k hk=>by have:=this.2 k hk;simp only [bnd];omega⟩
theorem meltDown_live {s:qy} {counts:yLI} {u:qG} (hs:yH s) (h:Live s (bnd 0) u):∀ j,j+1≤jb s→Live s (bnd j) (qW s counts u j)
  | 0,_=>h
  | j+1,hj=>by
    have ih:=meltDown_live (counts:=counts) hs h j qf
    by_cases hm:Melts s counts ((jb s:Int) - 1 - j)
    · rw [meltDown_yes hm rfl];exact ih.melt hs (bnd_pos j) qf qf
    · rw [meltDown_no hm rfl];exact ih.mono (bnd_mono qf)
theorem Live.rows {s:qy} {B:Int} {u:qG} (hs:yH s) (h:Live s B u) (hB:B≤12800000000) {p c:Nat} (hp:p < jb s) (hc:c < jb s):
    (u.qI[p]!).length≤(u.qI[c]!).length∧Mid (u.qI[p]!)∧SmallT (u.qI[c]!) 1:=by
  have h1:=h.bags.row qf (kinds_le hs) hp
  have h2:=h.bags.row qf (kinds_le hs) hc
  refine ⟨by omega,h1.2,fun k hk=>?_⟩
  have:=h2.2.2 k hk
  omega
noncomputable def stepRes (s:qy) (t:qG) (counts:yLI):qG×Int:=told s (qW s counts (qY s t counts) (jb s - 1))
open Classical in
noncomputable def xQ (s:qy) (t:qG) (counts:yLI):qG×Int:=if IsCh s t counts then stepRes s t counts else (default,4)
theorem stepBy_yes {s:qy} {t:qG} {counts:yLI} (h:IsCh s t counts):xQ s t counts=stepRes s t counts:=by rw [xQ,if_pos h]
theorem stepBy_no {s:qy} {t:qG} {counts:yLI} (h:¬ IsCh s t counts):xQ s t counts=(default,4):=by rw [xQ,if_neg h]
def minus (k:Nat):yLI:=(List.range 6).map fun j=>if j < k then -1 else 0
theorem minus_len (k:Nat):(minus k).length=6:=by simp [minus]
theorem minus_get {k j:Nat} (h:j < 6):(minus k)[j]! =if j < k then -1 else 0:=by
  rw [getElem!_pos (minus k) j (by rw [minus_len];exact h)];simp [minus]
theorem minus_set {k:Nat} (h:k < 6):(minus k).set k (-1)=minus (k+1):=by
  refine ext_get (by simp [minus_len]) fun p hp=>?_
  rw [List.length_set,minus_len] at hp
  rw [getset (by rw [minus_len];exact h),minus_get hp,minus_get hp]
  by_cases e:p=k
  · rw [if_pos e,if_pos qf]
  · rw [if_neg e]
    by_cases h1:p < k
    · rw [if_pos h1,if_pos qf]
    · rw [if_neg h1,if_neg qf]
theorem minus_six {k:Nat} (h:k=6) (s:qy) (t:qG):minus k=bests s t (-1) 6 0:=by
  subst h
  rw [← bests_zero];rfl
theorem appl_yes {s:qy} {t:qG} {i k n:Nat} {z:Int} (hk:k=s.qw.length) (hi:i < s.qw.length) (hz:z≤(s.qw[i]!).vC) (hc:(s.qw[i]!).qE.toNat < n) (h1:(s.qw[i]!).vC=(bests s t z n k)[(s.qw[i]!).qE.toNat]!) (h2:EnOk s t (s.qw[i]!)):Appl s t i:=by
  rw [bests_get hc,hk] at h1
  exact (appl_iff hi hz).2 ⟨h2,h1⟩
theorem appl_no {s:qy} {t:qG} {i k n:Nat} {z:Int} (hk:k=s.qw.length) (hi:i < s.qw.length) (hz:z≤(s.qw[i]!).vC) (hc:(s.qw[i]!).qE.toNat < n) (h1:(s.qw[i]!).vC≠(bests s t z n k)[(s.qw[i]!).qE.toNat]!):¬ Appl s t i:=fun h=>by
  rw [bests_get hc,hk] at h1
  exact h1 ((appl_iff hi hz).1 h).2
theorem appls_halt {s:qy} {t:qG}:(appls s t).length=0↔Halted s t:=by
  constructor
  · intro h j hj ha
    have:(j:Int)∈appls s t:=mem_applL.2 ⟨Int.natCast_nonneg j,by simpa using hj,by simpa using ha⟩
    rw [List.length_eq_zero_iff.1 h] at this;cases this
  · intro h
    rw [List.length_eq_zero_iff]
    apply List.eq_nil_iff_forall_not_mem.2
    intro x hx
    obtain ⟨h0,h1,h2⟩:=mem_applL.1 hx
    exact h _ h1 h2
theorem outPl_in {s:qy} {t:qG} {r:jq} (hs:jE s) (h:0≤xg s t r.qE):outPl s t r=(xg s t r.qE).toNat:=by
  refine outPl_up fun e=>?_
  rw [e,parentNow_root hs] at h;omega
theorem outPl_out {s:qy} {t:qG} {r:jq} (hs:jE s) (h0:t.qC[0]! =true) (hc:CellIn s r.qE) (h:¬ 0≤xg s t r.qE):outPl s t r=s.qx.length:=by
  refine outPl_root ?_
  rcases Int.lt_or_eq_of_le hc.1 with h1 | h1
  · exact absurd (XH hs h0 h1 hc.2).1 h
  · exact h1.symm
theorem parentNow_lt {s:qy} {t:qG} (hs:jE s) (h0:t.qC[0]! =true) {c:Int} (hc:CellIn s c):xg s t c≤(s.qx.length:Int) - 1:=by
  rcases Int.lt_or_eq_of_le hc.1 with h1 | h1
  · have:=XH hs h0 h1 hc.2;have:=hc.2;omega
  · rw [← h1,parentNow_root hs];have:=hs.2.1;omega
theorem stepBy_ok {s:qy} {t:qG} {counts:yLI} (h:(xQ s t counts).2=0):zl s (xQ s t counts).1:=by
  by_cases hc:IsCh s t counts
  · rw [stepBy_yes hc] at h ⊢
    unfold stepRes at h ⊢
    by_cases ho:zl s (qW s counts (qY s t counts) (jb s - 1))
    · rw [told_yes ho];exact ho
    · rw [told_no ho] at h;cases h
  · rw [stepBy_no hc] at h;cases h
theorem appls_at' {s:qy} {t:qG} {q m:Nat} (hm:(applL s t m).length=q) (hn:m≤s.qw.length) (hq:q < (appls s t).length):
    0≤(appls s t)[q]! ∧m≤((appls s t)[q]!).toNat∧((appls s t)[q]!).toNat < s.qw.length∧Appl s t ((appls s t)[q]!).toNat∧(∀ j,m≤j→j < ((appls s t)[q]!).toNat→¬ Appl s t j)∧(applL s t (((appls s t)[q]!).toNat+1)).length=q+1:=by
  obtain ⟨i,h1,h2,h3,h4,h5,h6⟩:=appls_at hm hn hq
  rw [h1]
  exact ⟨Int.natCast_nonneg i,h2,h3,h4,h5,h6⟩
theorem firstR_step {s:qy} {t:qG} {m j:Nat} (h1:m≤j) (hj:j < s.qw.length) (ha:Appl s t j) (h4:∀ i,m≤i→i < j→¬ Appl s t i) {x:Int} (hx:x=y8 (s.qw[j]!).xy ((zU s t m)[(s.qw[j]!).qE.toNat]!)):
    (zU s t m).set (s.qw[j]!).qE.toNat (jW ((zU s t m)[(s.qw[j]!).qE.toNat]!) (s.qw[j]!).xy (-x))=zU s t (j+1):=by
  rw [hx,← firstR_same h1 h4,firstR_yes ha]
theorem firstC_step {s:qy} {t:qG} {m j:Nat} (h1:m≤j) (ha:Appl s t j) (h4:∀ i,m≤i→i < j→¬ Appl s t i):y8 (s.qw[j]!).xy ((zU s t m)[(s.qw[j]!).qE.toNat]!)=firstC s t j:=by
  rw [QZ ha,firstR_same h1 h4]
theorem meltsL_1 {s:qy} {counts:yLI} {n k:Nat} (h0:0≤(s.qw[k]!).qE) (h:(s.qw[k]!).qE.toNat < n) (h1:(jZ s counts n k)[(s.qw[k]!).qE.toNat]! =true):(jZ s counts n k).set (s.qw[k]!).qE.toNat true=jZ s counts n (k+1):=
  meltsL_set h0 h ⟨fun _=>.inl h1,fun _=>rfl⟩
theorem meltsL_2 {s:qy} {counts:yLI} {n k:Nat} (h0:0≤(s.qw[k]!).qE) (h:(s.qw[k]!).qE.toNat < n) (h1:(jZ s counts n k)[(s.qw[k]!).qE.toNat]! =false) (h2:¬ counts[k]! > 0):(jZ s counts n k).set (s.qw[k]!).qE.toNat false=jZ s counts n (k+1):=
  meltsL_set h0 h ⟨fun h=>(by cases h),fun h=>h.elim (fun h=>(ft h h1).elim) fun h=>(h2 h.1).elim⟩
theorem meltsL_3 {s:qy} {counts:yLI} {n k:Nat} (h0:0≤(s.qw[k]!).qE) (h:(s.qw[k]!).qE.toNat < n) (h1:(jZ s counts n k)[(s.qw[k]!).qE.toNat]! =false) (h2:counts[k]! > 0):(jZ s counts n k).set (s.qw[k]!).qE.toNat (s.qw[k]!).zW=jZ s counts n (k+1):=
  meltsL_set h0 h ⟨fun h=>.inr ⟨h2,h⟩,fun h=>h.elim (fun h=>(ft h h1).elim) fun h=>h.2⟩
theorem meltDown_yesL {s:qy} {counts:yLI} {u:qG} {j i n:Nat} {c:Int} (h:(jZ s counts n i)[c.toNat]! =true) (hn:c.toNat < n) (h0:0≤c) (hi:i=s.qw.length) (hc:c=(jb s:Int) - 1 - j):qW s counts u (j+1)=melted s (qW s counts u j) c:=by
  rw [meltsL_get hn,show ((c.toNat:Nat):Int)=c by omega] at h
  exact Qi h hi hc
theorem meltDown_noL {s:qy} {counts:yLI} {u:qG} {j i n:Nat} {c:Int} (h:(jZ s counts n i)[c.toNat]! =false) (hn:c.toNat < n) (h0:0≤c) (hi:i=s.qw.length) (hc:c=(jb s:Int) - 1 - j):qW s counts u (j+1)=qW s counts u j:=by
  rw [meltsL_get hn,show ((c.toNat:Nat):Int)=c by omega] at h
  exact meltDown_no' h hi hc
theorem copy_pre {n K:Nat} {f:Nat→Nat→Int} {B:Int} {b:yLL} {al:List Bool} (h:Ent (n+1) K f B b) (hK:K≤8) (hn:n≤6) (ha:al.length=n):
    (⟨al,b.take n,b[n]!⟩:qG).qC.length≤1000000∧(⟨al,b.take n,b[n]!⟩:qG).qF.length≤1000000∧(⟨al,b.take n,b[n]!⟩:qG).qI.length≤1000000∧
      ∀ j,j < (⟨al,b.take n,b[n]!⟩:qG).qI.length→((⟨al,b.take n,b[n]!⟩:qG).qI[j]!).length≤1000000:=by
  have hl:(b.take n).length=n:=by rw [List.length_take,h.sh.1];omega
  have hr:=h.sh.2 n qf
  refine ⟨?_,?_,?_,fun j hj=>?_⟩
  · show al.length≤1000000;omega
  · show (b[n]!).length≤1000000;omega
  · show (b.take n).length≤1000000;omega
  · have hj:j < (b.take n).length:=hj
    show ((b.take n)[j]!).length≤1000000
    rw [getElem!_pos (b.take n) j hj,List.getElem_take,← getElem!_pos b j (by rw [h.sh.1];omega)]
    have:=(h.sh.2 j qf).1;omega

open Classical in
noncomputable def QJ (s:qy):Nat→Int→qG→qG×Int×Int
  | 0,made,u=>(u,made,0)
  | f+1,made,u=>if Halted s u then (u,made,0) else if (xQ s u (xR s u)).2≠0 then (default,0,(xQ s u (xR s u)).2) else QJ s f (made+1) (xQ s u (xR s u)).1
theorem Qy {s:qy} {f:Nat} {made:Int} {u:qG} (h:Halted s u):QJ s f made u=(u,made,0):=by
  cases f with
  | zero=>rfl
  | succ f=>rw [QJ,if_pos h]
theorem runGo_end {s:qy} {f:Nat} {made:Int} {u:qG} (h:f=0):QJ s f made u=(u,made,0):=by subst h;rfl
theorem runGo_bad {s:qy} {f:Nat} {made:Int} {u:qG} (hf:0 < f) (h:¬ Halted s u) (h1:(xQ s u (xR s u)).2≠0):QJ s f made u=(default,0,(xQ s u (xR s u)).2):=by
  obtain ⟨g,rfl⟩:∃ g,f=g+1:=⟨f - 1,by omega⟩
  rw [QJ,if_neg h,if_pos h1]
theorem runGo_go {s:qy} {f g:Nat} {made:Int} {u:qG} (hf:f=g+1) (h:¬ Halted s u) (h1:(xQ s u (xR s u)).2=0):QJ s f made u=QJ s g (made+1) (xQ s u (xR s u)).1:=by
  subst hf
  rw [QJ,if_neg h,if_neg (by simp [h1])]
open Classical in
noncomputable def xk (s:qy) (t:qG) (steps:Int):qG×Int×Int:=
  if ¬ (yH s∧zl s t) then (default,0,1) else if ¬ (0≤steps∧steps≤200) then (default,0,2) else QJ s steps.toNat 0 t
theorem run_1 {s:qy} {t:qG} {steps:Int} (h:¬ (yH s∧zl s t)):xk s t steps=(default,0,1):=by rw [xk,if_pos h]
theorem run_2 {s:qy} {t:qG} {steps:Int} (h:yH s∧zl s t) (h1:¬ (0≤steps∧steps≤200)):xk s t steps=(default,0,2):=by rw [xk,if_neg (by simpa using h),if_pos h1]
theorem run_0 {s:qy} {t:qG} {steps:Int} (h:yH s∧zl s t) (h1:0≤steps∧steps≤200):xk s t steps=QJ s steps.toNat 0 t:=by rw [xk,if_neg (by simpa using h),if_neg (by simpa using h1)]
theorem mem_appls {s:qy} {t:qG} {i:Nat} (hi:i < s.qw.length):(i:Int)∈appls s t↔Appl s t i:=by
  unfold appls
  rw [mem_applL]
  constructor
  · rintro ⟨_,_,h⟩;simpa using h
  · intro h;exact ⟨Int.natCast_nonneg i,by simpa using hi,by simpa using h⟩
def single (s:qy) (i:Nat):yLI:=(List.replicate s.qw.length (0:Int)).set i 1
theorem most_of {s:qy} {t:qG} {P:Nat→Prop} (h:∀ q,q < (appls s t).length→P ((appls s t)[q]!).toNat):∀ i,i < s.qw.length→Appl s t i→P i:=by
  intro i hi ha
  obtain ⟨q,hq,e⟩:=List.mem_iff_getElem.1 ((mem_appls hi).2 ha)
  have:=h q hq
  rwa [getElem!_pos _ q hq,e] at this
def MostTo (s:qy) (t:qG) (counts:yLI) (k:Nat):Prop:=∀ i,i < k→Appl s t i→within (s.qw[i]!).xy ((jS s t counts counts.length)[(s.qw[i]!).qE.toNat]!)=false
theorem MostTo.succ {s:qy} {t:qG} {counts:yLI} {k:Nat} (h:MostTo s t counts k) (h1:Appl s t k→within (s.qw[k]!).xy ((jS s t counts counts.length)[(s.qw[k]!).qE.toNat]!)=false):MostTo s t counts (k+1):=fun j hj=>by
  by_cases e:j=k
  · subst e;exact h1
  · exact h j qf
def MostL (s:qy) (t:qG) (counts:yLI) (k:Nat):Prop:=∀ q,q < k→within (s.qw[((appls s t)[q]!).toNat]!).xy ((jS s t counts counts.length)[(s.qw[((appls s t)[q]!).toNat]!).qE.toNat]!)=false
theorem MostL.succ {s:qy} {t:qG} {counts:yLI} {k:Nat} (h:MostL s t counts k) (h1:within (s.qw[((appls s t)[k]!).toNat]!).xy ((jS s t counts counts.length)[(s.qw[((appls s t)[k]!).toNat]!).qE.toNat]!)=false):MostL s t counts (k+1):=fun j hj=>by
  by_cases e:j=k
  · subst e;exact h1
  · exact h j qf
theorem MostL.most {s:qy} {t:qG} {counts:yLI} (h:MostL s t counts (appls s t).length) (hc:IsCh s t counts):IsMost s t counts:=
  ⟨hc,most_of (P:=fun i=>within (s.qw[i]!).xy ((jS s t counts counts.length)[(s.qw[i]!).qE.toNat]!)=false) h⟩
def AllCnt (s:qy) (ch:yLL) (k:Nat):Prop:=∀ j,j < k→CntOk s (ch[j]!)
theorem AllCnt.succ {s:qy} {ch:yLL} {k:Nat} (h:AllCnt s ch k) (h1:CntOk s (ch[k]!)):AllCnt s ch (k+1):=fun j hj=>by
  by_cases e:j=k
  · subst e;exact h1
  · exact h j qf
theorem state_eq {a b:qG} (h1:a.qC=b.qC) (h2:a.qI=b.qI) (h3:a.qF=b.qF):a=b:=by
  cases a;cases b;simp only at h1 h2 h3;subst h1 h2 h3;rfl
def CodeBad (s:qy) (t:qG) (cs:yLL) (k:Nat):Prop:=(xQ s t (cs[k]!)).2≠0
def NoBad (s:qy) (t:qG) (cs:yLL) (k:Nat):Prop:=∀ j,j < k→¬ CodeBad s t cs j
theorem NoBad.succ {s:qy} {t:qG} {cs:yLL} {k:Nat} (h:NoBad s t cs k) (h1:(xQ s t (cs[k]!)).2=0):NoBad s t cs (k+1):=fun j hj=>by
  by_cases e:j=k
  · subst e;exact fun x=>x h1
  · exact h j qf
def NotIn (l:List qG) (u:qG) (k:Nat):Prop:=∀ j,j < k→l[j]! ≠u
theorem NotIn.succ {l:List qG} {u:qG} {k:Nat} (h:NotIn l u k) (h1:l[k]! ≠u):NotIn l u (k+1):=fun j hj=>by
  by_cases e:j=k
  · subst e;exact h1
  · exact h j qf
theorem NotIn.out {l:List qG} {u:qG} (h:NotIn l u l.length):¬ u∈l:=fun hm=>by
  obtain ⟨k,hk,e⟩:=List.mem_iff_getElem.1 hm
  exact h k hk (by rw [getElem!_pos l k hk];exact e)
def StillTo (s:qy) (k:Nat):Prop:=∀ i,i < k→(s.qw[i]!).zW=false
theorem StillTo.succ {s:qy} {k:Nat} (h:StillTo s k) (h1:(s.qw[k]!).zW=false):StillTo s (k+1):=fun j hj=>by
  by_cases e:j=k
  · subst e;exact h1
  · exact h j qf
def WholeTo (t:qG) (k:Nat):Prop:=∀ c,c < k→t.qC[c]! =true
theorem WholeTo.succ {t:qG} {k:Nat} (h:WholeTo t k) (h1:t.qC[k]! =true):WholeTo t (k+1):=fun j hj=>by
  by_cases e:j=k
  · subst e;exact h1
  · exact h j qf
abbrev Whole (t:qG):Prop:=WholeTo t t.qC.length
def TookOk (s:qy) (l:yLI) (i:Nat):Prop:=l.length=yV s∧∀ q,q < yV s→ -(1000000 * (i:Int))≤l[q]! ∧l[q]! ≤1000000 * (i:Int)
theorem TookOk.zero (s:qy):TookOk s (List.replicate s.xn.toNat 0) 0:=by
  refine ⟨by simp [yV],fun k hk=>?_⟩
  rw [getElem!_pos (List.replicate s.xn.toNat (0:Int)) k (by simpa [yV] using hk)];simp
theorem TookOk.keep {s:qy} {l:yLI} {i:Nat} (h:TookOk s l i):TookOk s l (i+1):=⟨h.1,fun q hq=>by have:=h.2 q hq;omega⟩
theorem TookOk.plus {s:qy} {l m:yLI} {i:Nat} {n:Int} (h:TookOk s l i) (hm:zM s.xn m) (hn: -1000≤n∧n≤1000):TookOk s (jW l m n) (i+1):=by
  refine ⟨by rw [plusL_len];exact h.1,fun q hq=>?_⟩
  rw [plus_get (by rw [h.1];exact hq)]
  have:=h.2 q hq
  have:=hm.mul hn q hq
  omega
theorem TookOk.mid {s:qy} {l:yLI} {i:Nat} (h:TookOk s l i) (hi:i≤16) (hk:yV s≤8):l.length=yV s∧Mid l:=by
  refine ⟨h.1,by have:=h.1;omega,fun q hq=>?_⟩
  have:=h.2 q (by have:=h.1;omega)
  omega
def AllBags (b:yLL) (k:Nat):Prop:=∀ j,j < k→BagAny (b[j]!)
theorem AllBags.succ {b:yLL} {k:Nat} (h:AllBags b k) (h1:BagAny (b[k]!)):AllBags b (k+1):=fun j hj=>by
  by_cases e:j=k
  · subst e;exact h1
  · exact h j qf
end
section
open Go.RowKit
set_option linter.unusedVariables false
set_option linter.unusedSimpArgs false
instance:qU UInt8 where
  size:=1
  rep:=fun _ F cs x=>F=[]∧cs=[.int .u8 (x.toNat:Int)]
  len:=by rintro w F cs x ⟨_,rfl⟩;rfl
  one:=by rintro w F cs x ⟨_,rfl⟩ u hu;simp only [List.mem_singleton] at hu;subst hu;rfl
  stay:=by rintro w w' F cs x h _;exact h
  lt:=by rintro w F cs x ⟨rfl,_⟩ b hb;simp at hb

section
variable {P : Program} {ops : Array Oper} {Q : Exit → Act → World → Prop} {n : Nat} {ρ : Env} {W0 w : World} {rest : List Oper} {ps : List Prv} {Γ : List Fact}
  {d:Nat} {ty:TypeId} {pos:String} {af:Array Edge} {K:Env→World→Prop}
theorem St.elemByte (H:St W0 w ps Γ) (i:Nat) {fr:Bool} {F:yLN} {b o m c:Nat} {l:List UInt8} (hf:Γ[i]? =some (isF fr F (.slice (some ⟨b,o,none⟩) m c) l)) (iv:Int) (k:Nat) (hk:iv.toNat=k) (h0:0≤iv) (h1:iv < l.length):
    w.cell? ⟨b,o+iv.toNat * 1,none⟩=some (.int .u8 (((l[k]!).toNat:Nat):Int)):=by
  obtain ⟨cs,Fk,hc,hr,_⟩:=H.elem i hf iv h0 h1
  rw [hk] at hr
  obtain ⟨_,rfl⟩:=hr
  have:=hc 0 _ rfl
  simpa [qU.size] using this
theorem byte_lt (x:UInt8):((x.toNat:Nat):Int)≤255:=by have:=x.toNat_lt;omega
theorem o_mulU {x y:Operand} {t u:TypeId} (a b:Int) (hx:ev n ρ x=.int .u64 a) (hy:ev n ρ y=.int .u64 b) (k:∀ r,K (upd ρ d (.int .u64 r)) w):OW P Q ⟨some d,.binOp .mul t x y u,ty,pos,af,none⟩ n ρ w K:=
  Xn (.int .u64 (IntKind.u64.wrap (a * b))) (by simp [execOp,hx,hy,eqGuard,binOp,Op.intArith]) (k _)
theorem o_addU {x y:Operand} {t u:TypeId} (a b:Int) (hx:ev n ρ x=.int .u64 a) (hy:ev n ρ y=.int .u64 b) (k:∀ r,K (upd ρ d (.int .u64 r)) w):OW P Q ⟨some d,.binOp .add t x y u,ty,pos,af,none⟩ n ρ w K:=
  Xn (.int .u64 (IntKind.u64.wrap (a+b))) (by simp [execOp,hx,hy,eqGuard,binOp,Op.intArith]) (k _)
theorem o_shrU {x y:Operand} {t u:TypeId} (a b:Int) (h:0≤b) (hx:ev n ρ x=.int .u64 a) (hy:ev n ρ y=.int .u64 b) (k:∀ r,K (upd ρ d (.int .u64 r)) w):OW P Q ⟨some d,.binOp .shr t x y u,ty,pos,af,none⟩ n ρ w K:=
  Xn (.int .u64 (a.fdiv (2 ^ (min b.toNat IntKind.u64.bits)))) (by simp [execOp,hx,hy,eqGuard,binOp,Op.shift,show ¬ b < 0 by omega]) (k _)
theorem and_bd (a:Int):0≤IntKind.u64.wrap ((BitVec.ofInt IntKind.u64.bits a &&& BitVec.ofInt IntKind.u64.bits 255).toNat:Int)∧IntKind.u64.wrap ((BitVec.ofInt IntKind.u64.bits a &&& BitVec.ofInt IntKind.u64.bits 255).toNat:Int)≤255:=by
  have b6:IntKind.u64.bits=64:=rfl
  have s6:IntKind.u64.signed=false:=rfl
  have h:(BitVec.ofInt IntKind.u64.bits a &&& BitVec.ofInt IntKind.u64.bits 255).toNat≤255:=by
    rw [BitVec.toNat_and]
    exact Nat.le_trans Nat.and_le_right qj
  generalize (BitVec.ofInt IntKind.u64.bits a &&& BitVec.ofInt IntKind.u64.bits 255).toNat=m at h ⊢
  simp only [IntKind.wrap,b6,s6,Bool.false_and,Bool.false_eq_true,if_false]
  omega
theorem o_andU {x y:Operand} {t u:TypeId} (a:Int) (hx:ev n ρ x=.int .u64 a) (hy:ev n ρ y=.int .u64 255) (k:∀ r,0≤r∧r≤255→K (upd ρ d (.int .u64 r)) w):OW P Q ⟨some d,.binOp .and t x y u,ty,pos,af,none⟩ n ρ w K:=
  Xn (.int .u64 (IntKind.u64.wrap ((BitVec.ofInt IntKind.u64.bits a &&& BitVec.ofInt IntKind.u64.bits 255).toNat:Int))) (by simp [execOp,hx,hy,eqGuard,binOp,Op.intBits]) (k _ (and_bd a))
theorem o_conv {x:Operand} {s t:TypeId} {ds:TypeDesc} {k k' :IntKind} (a:Int) (hs:P.underlying s=some ds) (ht:P.underlying t=some (.int k')) (hx:ev n ρ x=.int k a) (h:K (upd ρ d (.int k' (k'.wrap a))) w):
    OW P Q ⟨some d,.convert s t x,ty,pos,af,none⟩ n ρ w K:=
  Xn _ (by simp [execOp,hx,convert,run_underlying hs,run_underlying ht,Conv.intToInt]) h
theorem o_convI {x:Operand} {s t:TypeId} {ds:TypeDesc} {k:IntKind} (a:Int) (hs:P.underlying s=some ds) (ht:P.underlying t=some (.int .i64)) (hx:ev n ρ x=.int k a) (h0:0≤a∧a≤255) (h:K (upd ρ d (.int .i64 a)) w):
    OW P Q ⟨some d,.convert s t x,ty,pos,af,none⟩ n ρ w K:=by
  refine o_conv a hs ht hx ?_
  rw [wrap_in qf]
  exact h
theorem o_convU {x:Operand} {s t:TypeId} {ds:TypeDesc} {k:IntKind} (a:Int) (hs:P.underlying s=some ds) (ht:P.underlying t=some (.int .u64)) (hx:ev n ρ x=.int k a) (h:∀ r,K (upd ρ d (.int .u64 r)) w):
    OW P Q ⟨some d,.convert s t x,ty,pos,af,none⟩ n ρ w K:=o_conv a hs ht hx (h _)
end
section
variable {P : Program} {n : Nat} {ρ : Env} {W0 w : World} {ps : List Prv} {Γ : List Fact}
theorem retCC {fn:Func} {R:Ending→World→Prop} {t u T U b c:Nat} {cs ds:List Value} {tb tc:TypeId} (H:St W0 w ps Γ) (i:Nat) (hp:ps[i]? =some (.box b cs tb)) (j:Nat) (hq:ps[j]? =some (.box c ds tc)) (hr:fn.results=#[.cell t T,.cell u U])
    (ha:∀ w,(isAgg T).run P w=.ok true w) (hs:∀ w,(Go.sizeOf T).run P w=.ok cs.length w) (ha' :∀ w,(isAgg U).run P w=.ok true w) (hs' :∀ w,(Go.sizeOf U).run P w=.ok ds.length w)
    (hv:ev n ρ (.tmp t)=.pointer (some ⟨b,0,none⟩)) (hx:ev n ρ (.tmp u)=.pointer (some ⟨c,0,none⟩)) (h:R (.returned (.tuple #[.agg cs.toArray,.agg ds.toArray])) w):bodyPost P fn R .ret (mk n ρ) w:=by
  have hl:=run_loadCells_list (P:=P) w ⟨b,0,none⟩ cs (fun j v hv=>by rw [Addr.add_mid];exact H.cells i hp j v hv)
  have hl' :=run_loadCells_list (P:=P) w ⟨c,0,none⟩ ds (fun k v hv=>by rw [Addr.add_mid];exact H.cells j hq k v hv)
  have e:=congrFun (Q3 n ρ) (.tmp t)
  have e' :=congrFun (Q3 n ρ) (.tmp u)
  simp only [Act.eval,Array.getD_eq_getD_getElem?] at e e'
  rw [hv] at e
  rw [hx] at e'
  exact bodyPost_ret (v:=.tuple #[.agg cs.toArray,.agg ds.toArray]) (by simp [results,hr,e,e',asAddr,loadVar,ha,hs,hl,ha',hs',hl']) rfl h
end
end
section

def zV (kk M:Int) (l:yLI):Prop:=l.length=kk.toNat∧∀ j,j < l.length→0≤l[j]! ∧l[j]! ≤M
theorem zV.len {kk M:Int} {l:yLI} (h:zV kk M l) (h0:0≤kk):(l.length:Int)=kk:=by have:=h.1;omega
theorem zV.zero {kk M:Int} (h0:0≤kk) (hM:0≤M):zV kk M (List.replicate kk.toNat 0):=⟨by simp,fun j hj=>by
  have hj' :j < kk.toNat:=by simpa using hj
  rw [getElem!_pos (List.replicate kk.toNat (0:Int)) j hj,List.getElem_replicate]
  omega⟩
theorem zV.mono {kk M M' :Int} {l:yLI} (h:zV kk M l) (hM:M≤M'):zV kk M' l:=⟨h.1,fun j hj=>by have:=h.2 j hj;omega⟩
theorem zV.put {kk M:Int} {l:yLI} {v:Int} {i:Nat} (h:zV kk M l) (h0:0≤v∧v≤M):zV kk M (l.set i v):=⟨by rw [List.length_set];exact h.1,fun j hj=>by
  rw [List.length_set] at hj
  rw [getElem!_pos (l.set i v) j (by rw [List.length_set];exact hj),List.getElem_set]
  split
  · exact h0
  · have:=h.2 j hj
    rwa [getElem!_pos l j hj] at this⟩
theorem zV.up {kk M M' :Int} {l:yLI} {i:Nat} (h:zV kk M l) (hi:i < l.length) (hM:M+1≤M'):zV kk M' (l.set i (l[i]! +1)):=
  (h.mono (by omega:M≤M')).put (by have:=h.2 i hi;omega)
theorem zV.ok {kk M:Int} {l:yLI} (h:zV kk M l) (hk:1≤kk∧kk≤8) (hM:M≤1000):zM kk l:=
  ⟨⟨fun j hj=>by have:=h.2 j hj;omega,by have:=h.len qf;omega,by have:=h.len qf;omega⟩,h.len qf⟩
theorem zV.small {kk M:Int} {l:yLI} (h:zV kk M l) (hk:1≤kk∧kk≤8) (hM:M≤1000):Small l:=je (h.ok hk hM)
theorem sumTo_up {l:yLI} (h:∀ j,j < l.length→0≤l[j]!):∀ k,k≤l.length→0≤sumTo l k∧∀ i,i < k→l[i]! ≤sumTo l k
  | 0,_=>⟨Int.le_refl _,fun i hi=>by omega⟩
  | k+1,hk=>by
    obtain ⟨h1,h2⟩:=sumTo_up h k qf
    have h3:=h k qf
    refine ⟨by simp only [sumTo];omega,fun i hi=>?_⟩
    simp only [sumTo]
    rcases Nat.lt_or_eq_of_le (Nat.le_of_lt_succ hi) with h4 | h4
    · have:=h2 i h4;omega
    · subst h4;omega
theorem zV.one {kk M:Int} {l:yLI} {i:Nat} (h:zV kk M l) (hk:1≤kk∧kk≤8) (hM:1≤M) (hs:sumL l=0) (hi:i < l.length):sumL (l.set i 1)≠0:=by
  have h1:=h.put (i:=i) (v:=1) qf
  have h2:=(sumTo_up (l:=l.set i 1) (fun j hj=>(h1.2 j hj).1) _ (Nat.le_refl _)).2 i (by rw [List.length_set];exact hi)
  rw [getElem!_pos (l.set i 1) i (by rw [List.length_set];exact hi),List.getElem_set_self] at h2
  show sumTo _ _≠0
  omega

def IntoDr (kk:Int) (par:yLI) (cell:Int) (l:List Q8) (c:Int):Prop:=
  ∀ j,j < l.length→(0≤(l[j]!).qE∧(l[j]!).qE < c)∧Lies par cell (l[j]!).qE∧zV kk 1 (l[j]!).Qz∧sumL (l[j]!).Qz≠0∧(0 < j→(l[j - 1]!).qE < (l[j]!).qE)
theorem IntoDr.nil (kk:Int) (par:yLI) (cell c:Int):IntoDr kk par cell [] c:=fun j hj=>by simp at hj
theorem IntoDr.mono {kk:Int} {par:yLI} {cell c c' :Int} {l:List Q8} (h:IntoDr kk par cell l c) (hc:c≤c'):IntoDr kk par cell l c' :=fun j hj=>by
  obtain ⟨h1,h2⟩:=h j hj
  exact ⟨by omega,h2⟩
theorem get_snoc {α:Type} [Inhabited α] {l:List α} {x:α} {j:Nat}:(l++[x])[j]! =if j < l.length then l[j]! else if j=l.length then x else default:=by
  by_cases h:j < l.length
  · rw [if_pos h,getElem!_pos (l++[x]) j (by simp;omega),getElem!_pos l j h,List.getElem_append_left h]
  · rw [if_neg h]
    by_cases h2:j=l.length
    · subst h2
      rw [if_pos rfl,getElem!_pos (l++[x]) l.length qm]
      simp
    · rw [if_neg h2,getElem!_neg (l++[x]) j (by simp;omega)]
theorem IntoDr.snoc {kk:Int} {par:yLI} {cell c:Int} {l:List Q8} {b:yLI} (h:IntoDr kk par cell l c) (hc:0≤c) (hl:Lies par cell c) (hb:zV kk 1 b) (hs:sumL b≠0):IntoDr kk par cell (l++[⟨c,b⟩]) (c+1):=fun j hj=>by
  have hj' :j < l.length∨j=l.length:=by simp at hj;omega
  rcases hj' with hj' | hj'
  · obtain ⟨h1,h2,h3,h4,h5⟩:=h j hj'
    rw [get_snoc,if_pos hj',get_snoc,if_pos qf]
    exact ⟨by omega,h2,h3,h4,h5⟩
  · subst hj'
    rw [get_snoc,if_neg qf,if_pos rfl]
    refine ⟨⟨hc,by show c < c+1;omega⟩,hl,hb,hs,fun h0=>?_⟩
    rw [get_snoc,if_pos qf]
    exact (h (l.length - 1) qf).1.2
structure RuleDr (kk:Int) (par:yLI) (r:jq):Prop where
  cell:0≤r.qE∧r.qE < par.length
  rank:0≤r.vC∧r.vC≤2
  melts:¬ (r.zW=true∧r.qE=0)
  need:zV kk 2 r.xy∧sumL r.xy≠0
  hav:zV kk 1 r.xZ
  lack:zV kk 1 r.xY
  here:zV kk 2 r.x9
  out:zV kk 2 r.ja
  many:r.qM.length≤3
  into:IntoDr kk par r.qE r.qM par.length
theorem RuleDr.ok {s:qy} {r:jq} (h:RuleDr s.xn s.qx r) (hk:1≤s.xn∧s.xn≤8):RuleOk s r:=
  ⟨⟨h.cell.1,by have:=h.cell.2;omega⟩,by have:=h.rank;omega,h.melts,h.many,h.need.1.ok hk qf,h.hav.ok hk qf,h.lack.ok hk qf,h.here.ok hk qf,h.out.ok hk qf,h.need.2,
    fun j hj=>by
      obtain ⟨h1,h2,h3,h4,h5⟩:=h.into j hj
      exact ⟨⟨h1.1,by omega⟩,h2,h3.ok hk qf,h4,h5⟩⟩
theorem ruleDr_of {kk:Int} {par:yLI} {cell rank:Int} {need hav lack here out:yLI} {into:List Q8} {melts:Bool} (h1:0≤cell∧cell < (par.length:Int)) (h2:0≤rank∧rank≤2) (h3:melts=true→cell≠0)
    (h4:zV kk 2 need∧sumL need≠0) (h5:zV kk 1 hav) (h6:zV kk 1 lack) (h7:zV kk 2 here) (h8:zV kk 1 out) (h9:into.length≤3∧IntoDr kk par cell into par.length):RuleDr kk par ⟨cell,rank,need,hav,lack,here,out,into,melts⟩:=
  ⟨h1,h2,fun h=>h3 h.1 h.2,h4,h5,h6,h7,h8.mono qf,h9.1,h9.2⟩
def jC (kk:Int) (par:yLI) (l:List jq):Prop:=∀ j,j < l.length→RuleDr kk par (l[j]!)
theorem jC.nil (kk:Int) (par:yLI):jC kk par []:=fun j hj=>by simp at hj
theorem jC.snoc {kk:Int} {par:yLI} {l:List jq} {r:jq} (h:jC kk par l) (hr:RuleDr kk par r):jC kk par (l++[r]):=fun j hj=>by
  rw [get_snoc]
  by_cases h1:j < l.length
  · rw [if_pos h1];exact h j h1
  · rw [if_neg h1,if_pos (by simp at hj;omega)];exact hr
theorem jC.set {kk:Int} {par:yLI} {l:List jq} {r:jq} {i:Nat} (h:jC kk par l) (hr:RuleDr kk par r):jC kk par (l.set i r):=fun j hj=>by
  rw [List.length_set] at hj
  rw [getElem!_pos (l.set i r) j (by rw [List.length_set];exact hj),List.getElem_set]
  split
  · exact hr
  · have:=h j hj;rwa [getElem!_pos l j hj] at this
def ParDr (par:yLI):Prop:=1≤par.length∧par[0]! = -1∧∀ c,1≤c→c < par.length→0≤par[c]! ∧par[c]! ≤(c:Int) - 1
theorem ParDr.one:ParDr [-1]:=⟨by simp,rfl,fun c h1 h2=>by simp at h2;omega⟩
theorem ParDr.snoc {par:yLI} {v:Int} (h:ParDr par) (hv:0≤v∧v < par.length):ParDr (par++[v]):=by
  obtain ⟨h1,h2,h3⟩:=h
  refine ⟨by simp,by rw [get_snoc,if_pos qf];exact h2,fun c hc hl=>?_⟩
  rw [get_snoc]
  by_cases h4:c < par.length
  · rw [if_pos h4];exact h3 c hc h4
  · have h5:c=par.length:=by simp at hl;omega
    rw [if_neg h4,if_pos h5];omega
theorem frame_of {kk:Int} {par:yLI} {rules:List jq} (h:ParDr par) (hk:1≤kk∧kk≤3) (hl:par.length≤3):jE ⟨kk,par,rules⟩:=
  ⟨⟨hk.1,by show kk≤8;omega⟩,⟨h.1,by show par.length≤6;omega⟩,h.2.1,h.2.2⟩
structure SysDr (kk:Int) (par:yLI) (rules:List jq):Prop where
  kinds:1≤kk∧kk≤3
  cells:1≤par.length∧par.length≤3
  skin:par[0]! = -1
  up:∀ c,1≤c→c < par.length→0≤par[c]! ∧par[c]! ≤(c:Int) - 1
  few:rules.length≤5
  rules:jC kk par rules
theorem sysDr_of {kk:Int} {par:yLI} {rules:List jq} (h:ParDr par) (hk:1≤kk∧kk≤3) (hl:par.length≤3) (hr:rules.length≤5) (hd:jC kk par rules):SysDr kk par rules:=⟨hk,⟨h.1,hl⟩,h.2.1,h.2.2,hr,hd⟩
theorem SysDr.frame {kk:Int} {par:yLI} {rules:List jq} (h:SysDr kk par rules):jE ⟨kk,par,rules⟩:=by
  have h1:=h.kinds
  have h2:=h.cells
  exact ⟨⟨h1.1,by show kk≤8;omega⟩,⟨h2.1,by show par.length≤6;omega⟩,h.skin,h.up⟩
theorem SysDr.ok {kk:Int} {par:yLI} {rules:List jq} (h:SysDr kk par rules):yH ⟨kk,par,rules⟩:=by
  have h1:=h.kinds
  have h3:=h.few
  refine ⟨h.frame,by show rules.length≤16;omega,fun j hj=>⟨(h.rules j hj).ok (s:=⟨kk,par,rules⟩) ⟨h1.1,by show kk≤8;omega⟩,?_⟩⟩
  have h4:=(ofCell_bd rules (rules[j]!).qE (j+1)).2
  have h5:j < rules.length:=hj
  show ofCell rules (rules[j]!).qE (j+1)≤8
  omega
structure StDr (kk:Int) (n:Nat) (M:Int) (alive:List Bool) (bags:yLL) (around:yLI):Prop where
  la:alive.length=n
  lb:bags.length=n
  skin:alive[0]! =true
  around:zV kk 2 around
  bags:∀ c,c < bags.length→zV kk M (bags[c]!)∧(alive[c]! =false→sumL (bags[c]!)≤0)
theorem StDr.ok {kk M:Int} {par:yLI} {rules:List jq} {alive:List Bool} {bags:yLL} {around:yLI} (h:StDr kk par.length M alive bags around) (hs:SysDr kk par rules) (hM:M≤1000):zl ⟨kk,par,rules⟩ ⟨alive,bags,around⟩:=by
  have h1:=hs.kinds
  exact ⟨h.la,h.lb,h.skin,h.around.ok ⟨h1.1,by omega⟩ qf,fun c hc=>⟨(h.bags c hc).1.ok ⟨h1.1,by show kk≤8;omega⟩ hM,(h.bags c hc).2⟩⟩
theorem sum_zeros (n:Nat):sumL (List.replicate n (0:Int))≤0:=by
  have:∀ k,k≤n→sumTo (List.replicate n (0:Int)) k=0:=fun k=>by
    induction k with
    | zero=>intro _;rfl
    | succ k ih=>
      intro hk
      rw [sumTo,ih qf,getElem!_pos (List.replicate n (0:Int)) k (by simp;omega),List.getElem_replicate]
      rfl
  have h:=this (List.replicate n (0:Int)).length qm
  show sumTo _ _≤0
  omega
structure StTo (kk M:Int) (c:Nat) (alive:List Bool) (bags:yLL):Prop where
  la:alive.length=c
  lb:bags.length=c
  skin:0 < c→alive[0]! =true
  bags:∀ j,j < bags.length→zV kk M (bags[j]!)∧(alive[j]! =false→sumL (bags[j]!)≤0)
theorem StTo.nil (kk M:Int):StTo kk M 0 [] []:=⟨rfl,rfl,fun h=>by omega,fun j hj=>by simp at hj⟩
theorem StTo.snoc {kk M:Int} {c:Nat} {alive:List Bool} {bags:yLL} {a:Bool} {b:yLI} (h:StTo kk M c alive bags) (ha:c=0→a=true) (hb:zV kk M b) (hz:a=false→sumL b≤0):StTo kk M (c+1) (alive++[a]) (bags++[b]):=by
  have la:=h.la
  have lb:=h.lb
  refine ⟨by simp [la],by simp [lb],fun _=>?_,fun j hj=>?_⟩
  · rw [get_snoc]
    by_cases h0:0 < c
    · rw [if_pos qf];exact h.skin h0
    · rw [if_neg qf,if_pos qf];exact ha qf
  · rw [get_snoc,get_snoc]
    by_cases h1:j < c
    · rw [if_pos qf,if_pos qf];exact h.bags j qf
    · rw [if_neg qf,if_pos (by simp at hj;omega),if_neg qf,if_pos (by simp at hj;omega)];exact ⟨hb,hz⟩
end
section
open Go.RowKit
set_option linter.unusedVariables false
set_option linter.unusedSimpArgs false
theorem St.rowel_RuleD {W0 w:World} {ps:List Prv} {Γ:List Fact} (H:St W0 w ps Γ) (k:Nat) {b c:Nat} {e:TypeId} {nn:Nat} {xs:List Value} (hp:ps[k]? =some (.row (.slice (some ⟨b,0,none⟩) nn c) e 9 nn xs)) (j:Nat) {fr:Bool} {F:yLN} {l:List jq}
    (hf:Γ[j]? =some (xf fr F xs l)) {iv:Int} (i:Nat) (h:iv.toNat=i) (h1:i < nn):
    ∃ (aN:yOA) (cN:Nat) (FN:yLN) (aH:yOA) (cH:Nat) (FH:yLN) (aL:yOA) (cL:Nat) (FL:yLN) (aE:yOA) (cE:Nat) (FE:yLN) (aO:yOA) (cO:Nat) (FO:yLN) (aI:yOA) (cI:Nat) (FI:yLN),
      (∀ (q:Nat) (v:Value),([.int .i64 (l[i]!).qE,.int .i64 (l[i]!).vC,.slice aN ((l[i]!).xy.length) cN,.slice aH ((l[i]!).xZ.length) cH,.slice aL ((l[i]!).xY.length) cL,.slice aE ((l[i]!).x9.length) cE,.slice aO ((l[i]!).ja.length) cO,.slice aI ((l[i]!).qM.length) cI,.bool (l[i]!).zW]:List Value)[q]? =some v→xs[0+iv.toNat * 9+q]? =some v)∧
      St W0 w ps (isF fr FN (.slice aN ((l[i]!).xy.length) cN) ((l[i]!).xy) :: isF fr FH (.slice aH ((l[i]!).xZ.length) cH) ((l[i]!).xZ) :: isF fr FL (.slice aL ((l[i]!).xY.length) cL) ((l[i]!).xY) ::
        isF fr FE (.slice aE ((l[i]!).x9.length) cE) ((l[i]!).x9) :: isF fr FO (.slice aO ((l[i]!).ja.length) cO) ((l[i]!).ja) :: isF fr FI (.slice aI ((l[i]!).qM.length) cI) ((l[i]!).qM) :: Γ):=by
  obtain ⟨cs,G,hc,hr,hsub,hfr,v1,v2,hv,hv1⟩:=St.rowElem (α:=jq) H k hp j hf qj h h1
  obtain ⟨vN,vH,vL,vE,vO,vI,FN,FH,FL,FE,FO,FI,rfl,hFF,hN,hH,hL,hE,hO,hI⟩:=id hr
  obtain ⟨aN,cN,rfl⟩:=slice_form hN
  obtain ⟨aH,cH,rfl⟩:=slice_form hH
  obtain ⟨aL,cL,rfl⟩:=slice_form hL
  obtain ⟨aE,cE,rfl⟩:=slice_form hE
  obtain ⟨aO,cO,rfl⟩:=slice_form hO
  obtain ⟨aI,cI,rfl⟩:=slice_form hI
  refine ⟨aN,cN,FN,aH,cH,FH,aL,cL,FL,aE,cE,FE,aO,cO,FO,aI,cI,FI,fun q v hq=>?_,?_⟩
  · have hv1:v1.length=i * 9:=hv1
    have hlt:q < 9:=by
      rcases Nat.lt_or_ge q 9 with h | h
      · exact h
      · rw [List.getElem?_eq_none (by simpa using h)] at hq;cases hq
    rw [hv,List.append_assoc,Nat.zero_add,h,← hv1,List.getElem?_append_right qf,Nat.add_sub_cancel_left,List.getElem?_append_left (by simpa using hlt)]
    exact hq
  · have hs:∀ {x:Nat} {X:yLN},x∈X→(∀ y∈X,y∈G)→x∈G:=fun h h' =>h' _ h
    have s6:=H.Qw j hf (isF fr FI (.slice aI ((l[i]!).qM.length) cI) ((l[i]!).qM)) ⟨hI,fun e=>(hfr e).sub (by rw [hFF];intro x hx;simp [hx])⟩ (fun x hx=>hsub x (by rw [hFF];have hx:x∈FI:=hx;simp [hx]))
    have s5:=s6.Qw (j+1) hf (isF fr FO (.slice aO ((l[i]!).ja.length) cO) ((l[i]!).ja)) ⟨hO,fun e=>(hfr e).sub (by rw [hFF];intro x hx;simp [hx])⟩ (fun x hx=>hsub x (by rw [hFF];have hx:x∈FO:=hx;simp [hx]))
    have s4:=s5.Qw (j+2) hf (isF fr FE (.slice aE ((l[i]!).x9.length) cE) ((l[i]!).x9)) ⟨hE,fun e=>(hfr e).sub (by rw [hFF];intro x hx;simp [hx])⟩ (fun x hx=>hsub x (by rw [hFF];have hx:x∈FE:=hx;simp [hx]))
    have s3:=s4.Qw (j+3) hf (isF fr FL (.slice aL ((l[i]!).xY.length) cL) ((l[i]!).xY)) ⟨hL,fun e=>(hfr e).sub (by rw [hFF];intro x hx;simp [hx])⟩ (fun x hx=>hsub x (by rw [hFF];have hx:x∈FL:=hx;simp [hx]))
    have s2:=s3.Qw (j+4) hf (isF fr FH (.slice aH ((l[i]!).xZ.length) cH) ((l[i]!).xZ)) ⟨hH,fun e=>(hfr e).sub (by rw [hFF];intro x hx;simp [hx])⟩ (fun x hx=>hsub x (by rw [hFF];have hx:x∈FH:=hx;simp [hx]))
    exact s2.Qw (j+5) hf (isF fr FN (.slice aN ((l[i]!).xy.length) cN) ((l[i]!).xy)) ⟨hN,fun e=>(hfr e).sub (by rw [hFF];intro x hx;simp [hx])⟩ (fun x hx=>hsub x (by rw [hFF];have hx:x∈FN:=hx;simp [hx]))

theorem part_lt {xs:List Value} {q:Nat} {v:Value} (h:xs[q]? =some v):q < xs.length:=(List.getElem?_eq_some_iff.1 h).1
theorem part_get {cells xs:List Value} {B:Nat} (hx:∀ (q:Nat) (v:Value),cells[q]? =some v→xs[B+q]? =some v) (j:Nat) (u:Value) (hj:j < cells.length):
    ∀ (q:Nat) (v:Value),(cells.set j u)[q]? =some v→(xs.set (B+j) u)[B+q]? =some v:=fun q v h=>by
  have hl:=part_lt (hx j _ (List.getElem?_eq_getElem hj))
  by_cases e:q=j
  · subst e
    rw [List.getElem?_set_self hj] at h
    rw [List.getElem?_set_self hl]
    exact h
  · rw [List.getElem?_set_ne (fun h=>e h.symm)] at h
    rw [List.getElem?_set_ne qf]
    exact hx q v h

section
variable {P : Program} {ops : Array Oper} {Q : Exit → Act → World → Prop} {n : Nat} {ρ : Env} {W0 w : World} {rest : List Oper} {ps : List Prv} {Γ : List Fact}
  {d:Nat} {ty:TypeId} {pos:String} {af:Array Edge} {K:Env→World→Prop}
theorem o_storePart {t:TypeId} {x y:Operand} {b c off:Nat} {e:TypeId} {sz nn:Nat} {xs:List Value} (H:St W0 w ps Γ) (k:Nat) (hp:ps[k]? =some (.row (.slice (some ⟨b,0,none⟩) nn c) e sz nn xs)) (v:Value)
    (hs:∀ w,(Go.sizeOf t).run P w=.ok 1 w) (hx:ev n ρ x=.pointer (some ⟨b,off,none⟩)) (hy:ev n ρ y=v) (h1:v.oneCell' =true) (h2:off < xs.length)
    (kk:∀ w',St W0 w' (ps.set k (.row (.slice (some ⟨b,0,none⟩) nn c) e sz nn (xs.set off v))) Γ→K ρ w'):
    OW P Q ⟨none,.store t x y,ty,pos,af,none⟩ n ρ w K:=by
  have hc:v.cells=#[v]:=by cases v <;> first | rfl | (simp [Value.oneCell'] at h1)
  refine o_storeRow H k hp v (by simpa [hc] using hs) hx hy (by simp [hc,h1]) (by simp [hc];omega) ?_
  simp only [hc,List.size_toArray,List.length_cons,List.length_nil,Nat.zero_add]
  rw [show xs.take off++[v]++xs.drop (off+1)=xs.set off v by rw [List.set_eq_take_append_cons_drop,if_pos qf];simp]
  exact kk
end

theorem reps_part {α:Type} [qU α] [Inhabited α] {w:World} {F G:yLN} {X:List Value} {l:List α} {v:Value} {f:α} (i q:Nat) (hi:i < l.length) (hq:q < qU.size α)
    (hr:∀ Fk ck,qU.rep w Fk ck (l[i]!)→∃ F',qU.rep w F' (ck.set q v) f∧∀ b∈F',b∈Fk∨b∈G) (h:reps w F X l):
    ∃ F',reps w F' (X.set (i * qU.size α+q) v) (l.set i f)∧∀ b∈F',b∈F∨b∈G:=by
  obtain ⟨F1,Fk,F2,v1,cs,v2,hF,hv,hl1,hlc,h1,h2,h3⟩:=reps_get h i hi
  obtain ⟨F',hr',hs⟩:=hr Fk cs (by rw [getElem!_pos l i hi];exact h1)
  refine ⟨F1++F' ++F2,?_,fun b hb=>?_⟩
  · rw [hv,← hl1,List.append_assoc v1,List.set_append_right _ _ qf,Nat.add_sub_cancel_left,List.set_append_left _ _ qf,List.set_eq_take_append_cons_drop (l:=l),if_pos hi,← List.append_assoc]
    have:=QD (QD h2 (reps_one hr')) h3
    simpa using this
  · simp only [List.mem_append] at hb
    rw [hF]
    rcases hb with (hb | hb) | hb
    · exact .inl (by simp [hb])
    · rcases hs b hb with h | h
      · exact .inl (by simp [h])
      · exact .inr h
    · exact .inl (by simp [hb])
section
variable {W0 w : World} {ps : List Prv} {Γ : List Fact}
theorem St.part {β:Type} [qU β] (H:St W0 w ps Γ) (j:Nat) {fr:Bool} {F:yLN} {X:List Value} {l:List jq} (hf:Γ[j]? =some (xf fr F X l)) (m:Nat) {fr' :Bool} {G:yLN} {v:Value} {z:β} (hg:Γ[m]? =some (isF fr' G v z))
    {iv:Int} (i:Nat) (hi:iv.toNat=i) (h1:i < l.length) (q:Nat) (hq:q < 9) (f:jq) (hr:∀ Fk ck,qU.rep w Fk ck (l[i]!)→∃ F',qU.rep w F' (ck.set q v) f∧∀ b∈F',b∈Fk∨b∈G):
    ∃ F',St W0 w ps (xf false F' (X.set (0+iv.toNat * 9+q) v) (l.set i f) :: Γ):=by
  subst hi
  obtain ⟨F',h2,h3⟩:=reps_part (α:=jq) iv.toNat q h1 hq hr (H.get j hf).1
  refine ⟨F',H.add _ ⟨by rw [Nat.zero_add];exact h2,by simp⟩ fun b hb=>?_⟩
  rcases h3 b hb with h | h
  · exact (H.facts _ (List.mem_of_getElem? hf)).2 b h
  · exact (H.facts _ (List.mem_of_getElem? hg)).2 b h
theorem St.part_5 (H:St W0 w ps Γ) (j:Nat) {fr:Bool} {F:yLN} {X:List Value} {l:List jq} (hf:Γ[j]? =some (xf fr F X l)) (m:Nat) {fr' :Bool} {G:yLN} {v:Value} {z:yLI} (hg:Γ[m]? =some (isF fr' G v z)) {iv:Int} (i:Nat) (hi:iv.toNat=i) (h1:i < l.length):
    ∃ F',St W0 w ps (xf false F' (X.set (0+iv.toNat * 9+5) v) (l.set i { l[i]! with x9:=z }) :: Γ):=by
  refine H.part j hf m hg i hi h1 5 qj _ fun Fk ck hk=>?_
  obtain ⟨v1,v2,v3,v4,v5,v6,F1,F2,F3,F4,F5,F6,rfl,rfl,k1,k2,k3,k4,k5,k6⟩:=hk
  refine ⟨_,⟨v1,v2,v3,v,v5,v6,F1,F2,F3,G,F5,F6,rfl,rfl,k1,k2,k3,(H.get m hg).1,k5,k6⟩,fun b hb=>?_⟩
  simp only [List.mem_append] at hb
  rcases hb with ((((hb | hb) | hb) | hb) | hb) | hb <;> simp [hb]
theorem St.part_6 (H:St W0 w ps Γ) (j:Nat) {fr:Bool} {F:yLN} {X:List Value} {l:List jq} (hf:Γ[j]? =some (xf fr F X l)) (m:Nat) {fr' :Bool} {G:yLN} {v:Value} {z:yLI} (hg:Γ[m]? =some (isF fr' G v z)) {iv:Int} (i:Nat) (hi:iv.toNat=i) (h1:i < l.length):
    ∃ F',St W0 w ps (xf false F' (X.set (0+iv.toNat * 9+6) v) (l.set i { l[i]! with ja:=z }) :: Γ):=by
  refine H.part j hf m hg i hi h1 6 qj _ fun Fk ck hk=>?_
  obtain ⟨v1,v2,v3,v4,v5,v6,F1,F2,F3,F4,F5,F6,rfl,rfl,k1,k2,k3,k4,k5,k6⟩:=hk
  refine ⟨_,⟨v1,v2,v3,v4,v,v6,F1,F2,F3,F4,G,F6,rfl,rfl,k1,k2,k3,k4,(H.get m hg).1,k6⟩,fun b hb=>?_⟩
  simp only [List.mem_append] at hb
  rcases hb with ((((hb | hb) | hb) | hb) | hb) | hb <;> simp [hb]
theorem St.part_7 (H:St W0 w ps Γ) (j:Nat) {fr:Bool} {F:yLN} {X:List Value} {l:List jq} (hf:Γ[j]? =some (xf fr F X l)) (m:Nat) {fr' :Bool} {G:yLN} {v:Value} {z:List Q8} (hg:Γ[m]? =some (isF fr' G v z)) {iv:Int} (i:Nat) (hi:iv.toNat=i) (h1:i < l.length):
    ∃ F',St W0 w ps (xf false F' (X.set (0+iv.toNat * 9+7) v) (l.set i { l[i]! with qM:=z }) :: Γ):=by
  refine H.part j hf m hg i hi h1 7 qj _ fun Fk ck hk=>?_
  obtain ⟨v1,v2,v3,v4,v5,v6,F1,F2,F3,F4,F5,F6,rfl,rfl,k1,k2,k3,k4,k5,k6⟩:=hk
  refine ⟨_,⟨v1,v2,v3,v4,v5,v,F1,F2,F3,F4,F5,G,rfl,rfl,k1,k2,k3,k4,k5,(H.get m hg).1⟩,fun b hb=>?_⟩
  simp only [List.mem_append] at hb
  rcases hb with ((((hb | hb) | hb) | hb) | hb) | hb <;> simp [hb]
end

theorem jC.here {kk:Int} {par:yLI} {l:List jq} {i:Nat} {b:yLI} (h:jC kk par l) (hi:i < l.length) (hb:zV kk 2 b):jC kk par (l.set i { l[i]! with x9:=b }):=
  h.set (let r:=h i hi;⟨r.cell,r.rank,r.melts,r.need,r.hav,r.lack,hb,r.out,r.many,r.into⟩)
theorem jC.out {kk:Int} {par:yLI} {l:List jq} {i:Nat} {b:yLI} (h:jC kk par l) (hi:i < l.length) (hb:zV kk 2 b):jC kk par (l.set i { l[i]! with ja:=b }):=
  h.set (let r:=h i hi;⟨r.cell,r.rank,r.melts,r.need,r.hav,r.lack,r.here,hb,r.many,r.into⟩)
theorem jC.into {kk:Int} {par:yLI} {l:List jq} {i:Nat} (h:jC kk par l) (hi:i < l.length):jC kk par (l.set i { l[i]! with qM:=[]}):=
  h.set (let r:=h i hi;⟨r.cell,r.rank,r.melts,r.need,r.hav,r.lack,r.here,r.out,by simp,IntoDr.nil _ _ _ _⟩)
theorem SysDr.with {kk:Int} {par:yLI} {rules rules' :List jq} (h:SysDr kk par rules) (h1:rules'.length≤5) (h2:jC kk par rules'):SysDr kk par rules' :=⟨h.kinds,h.cells,h.skin,h.up,h1,h2⟩
def HereTo (kk:Int) (k:Nat) (l:yLI):Prop:=zV kk 2 l∧∀ j,j < l.length→k≤j+1→l[j]! =0
theorem HereTo.zero {kk:Int} (h0:0≤kk):HereTo kk 1 (List.replicate kk.toNat 0):=⟨zV.zero h0 qf,fun j hj _=>by rw [getElem!_pos (List.replicate kk.toNat (0:Int)) j hj,List.getElem_replicate]⟩
theorem HereTo.go {kk:Int} {k:Nat} {l:yLI} (h:HereTo kk k l):HereTo kk (k+1) l:=⟨h.1,fun j hj hk=>h.2 j hj qf⟩
theorem HereTo.put {kk:Int} {k i:Nat} {l:yLI} {v:Int} (h:HereTo kk k l) (hi:i < l.length) (hk:i+1=k) (hv:0≤v∧v≤2):HereTo kk (k+1) (l.set i (l[i]! +v)):=by
  have h0:=h.2 i hi qf
  refine ⟨h.1.put qf,fun j hj hk' =>?_⟩
  rw [List.length_set] at hj
  rw [getElem!_pos (l.set i _) j (by rw [List.length_set];exact hj),List.getElem_set,if_neg qf]
  have:=h.2 j hj qf
  rwa [getElem!_pos l j hj] at this
end
section

theorem runGo_ok {s:qy}:∀ (f:Nat) (made:Int) (u:qG),zl s u→(QJ s f made u).2.2=0→zl s (QJ s f made u).1
  | 0,made,u,h,_=>h
  | f+1,made,u,h,hz=>by
    by_cases hh:Halted s u
    · rw [Qy hh];exact h
    · by_cases hc:(xQ s u (xR s u)).2=0
      · rw [runGo_go rfl hh hc] at hz ⊢;exact runGo_ok f _ _ (stepBy_ok hc) hz
      · rw [runGo_bad qf hh hc] at hz;exact absurd hz hc

theorem runGo_made {s:qy}:∀ (f:Nat) (made:Int) (u:qG),(QJ s f 0 u).2.2=(QJ s f made u).2.2∧(QJ s f 0 u).1=(QJ s f made u).1∧
    ((QJ s f made u).2.2=0→(QJ s f made u).2.1=made+(QJ s f 0 u).2.1)
  | 0,made,u=>⟨rfl,rfl,fun _=>by simp [QJ]⟩
  | f+1,made,u=>by
    by_cases hh:Halted s u
    · rw [Qy hh,Qy hh];exact ⟨rfl,rfl,fun _=>by simp⟩
    · by_cases hc:(xQ s u (xR s u)).2=0
      · rw [runGo_go rfl hh hc,runGo_go rfl hh hc]
        obtain ⟨h1,h2,h3⟩:=runGo_made f (made+1) (xQ s u (xR s u)).1
        obtain ⟨g1,g2,g3⟩:=runGo_made f (0+1) (xQ s u (xR s u)).1
        refine ⟨g1.symm.trans h1,g2.symm.trans h2,fun hz=>?_⟩
        rw [h3 hz,g3 (by rw [← g1,h1];exact hz)]
        omega
      · rw [runGo_bad qf hh hc,runGo_bad qf hh hc]
        exact ⟨rfl,rfl,fun hz=>absurd hz hc⟩

theorem runGo_add {s:qy} (b:Nat):∀ (a:Nat) (made:Int) (u:qG),(QJ s (a+b) made u).2.2=0→
    (QJ s a made u).2.2=0∧QJ s (a+b) made u=QJ s b (QJ s a made u).2.1 (QJ s a made u).1
  | 0,made,u,_=>⟨rfl,by rw [Nat.zero_add];rfl⟩
  | a+1,made,u,hz=>by
    rw [show a+1+b=(a+b)+1 by omega] at hz ⊢
    by_cases hh:Halted s u
    · rw [Qy hh,Qy hh,Qy hh];exact ⟨rfl,rfl⟩
    · by_cases hc:(xQ s u (xR s u)).2=0
      · have e1:QJ s (a+b+1) made u=QJ s (a+b) (made+1) (xQ s u (xR s u)).1:=runGo_go rfl hh hc
        have e2:QJ s (a+1) made u=QJ s a (made+1) (xQ s u (xR s u)).1:=runGo_go rfl hh hc
        rw [e1] at hz ⊢
        rw [e2]
        exact runGo_add b a _ _ hz
      · rw [runGo_bad qf hh hc] at hz;exact absurd hz hc

theorem runGo_stop {s:qy}:∀ (f:Nat) (made:Int) (u:qG),(QJ s f made u).2.2=0→(QJ s f made u).2.1=made+f∨Halted s (QJ s f made u).1
  | 0,made,u,_=>Or.inl (by simp [QJ])
  | f+1,made,u,hz=>by
    by_cases hh:Halted s u
    · rw [Qy hh];exact Or.inr hh
    · by_cases hc:(xQ s u (xR s u)).2=0
      · rw [runGo_go rfl hh hc] at hz ⊢
        rcases runGo_stop f _ _ hz with h | h
        · exact Or.inl (by rw [h];push_cast;omega)
        · exact Or.inr h
      · rw [runGo_bad qf hh hc] at hz;exact absurd hz hc

theorem run_two {s:qy} {t:qG} {a b:Int} (h:yH s∧zl s t) (ha:0≤a∧a≤5) (hb:0≤b∧b≤5) (hz:(xk s t (a+b)).2.2=0):
    (xk s t a).2.2=0∧zl s (xk s t a).1∧(xk s (xk s t a).1 b).2.2=0∧zl s (xk s t (a+b)).1∧(xk s (xk s t a).1 b).1=(xk s t (a+b)).1∧
    (xk s t (a+b)).2.1=(xk s t a).2.1+(xk s (xk s t a).1 b).2.1∧((xk s t (a+b)).2.1=a+b∨Halted s (xk s t (a+b)).1):=by
  rw [run_0 (steps:=a+b) h qf] at hz ⊢
  rw [run_0 (steps:=a) h qf]
  have e:(a+b).toNat=a.toNat+b.toNat:=by omega
  rw [e] at hz ⊢
  obtain ⟨h1,h2⟩:=runGo_add b.toNat a.toNat 0 t hz
  have hv:=runGo_ok a.toNat 0 t h.2 h1
  have hu:=runGo_ok _ 0 t h.2 hz
  obtain ⟨m1,m2,m3⟩:=runGo_made (s:=s) b.toNat (QJ s a.toNat 0 t).2.1 (QJ s a.toNat 0 t).1
  rw [run_0 (t:=(QJ s a.toNat 0 t).1) ⟨h.1,hv⟩ qf]
  rw [h2] at hz
  refine ⟨h1,hv,m1.trans hz,hu,by rw [h2];exact m2,by rw [h2];exact m3 hz,?_⟩
  rcases runGo_stop (a.toNat+b.toNat) 0 t (by rw [h2];exact hz) with g | g
  · exact Or.inl (by rw [g];omega)
  · exact Or.inr g
def atV (code:List UInt8) (i n:Int):Int:=if i≥code.length∨n < 1 then 0 else (((code[i.toNat]!).toNat:Nat):Int) % n
theorem atV_no {code:List UInt8} {i n:Int} (h:i≥code.length∨n < 1):atV code i n=0:=by rw [atV,if_pos h]
theorem atV_yes {code:List UInt8} {i n:Int} (h:¬ i≥code.length) (h1:¬ n < 1):atV code i n=(((code[i.toNat]!).toNat:Nat):Int) % n:=by rw [atV,if_neg qf]
theorem atV_bd (code:List UInt8) (i:Int) {n:Int} (h:1≤n):0≤atV code i n∧atV code i n≤n - 1:=by
  rw [atV]
  split
  · omega
  · have h1:=Int.emod_nonneg (((code[i.toNat]!).toNat:Nat):Int) (show n≠0 by omega)
    have h2:=Int.emod_lt_of_pos (((code[i.toNat]!).toNat:Nat):Int) (show 0 < n by omega)
    omega
theorem runGo_bd {s:qy}:∀ (f:Nat) (made:Int) (u:qG),0≤made→0≤(QJ s f made u).2.1∧(QJ s f made u).2.1≤made+f
  | 0,made,u,h=>by rw [runGo_end rfl];show 0≤made∧made≤made+((0:Nat):Int);omega
  | f+1,made,u,h=>by
    by_cases hh:Halted s u
    · rw [Qy hh];show 0≤made∧made≤made+((f+1:Nat):Int);omega
    · by_cases hc:(xQ s u (xR s u)).2=0
      · rw [runGo_go rfl hh hc]
        have:=runGo_bd (s:=s) f (made+1) (xQ s u (xR s u)).1 qf
        omega
      · rw [runGo_bad qf hh hc];show (0:Int)≤0∧0≤made+((f+1:Nat):Int);omega
theorem run_bd {s:qy} {t:qG} {n:Int}:0≤(xk s t n).2.1∧(xk s t n).2.1≤200:=by
  rw [xk]
  split
  · decide
  · split
    · decide
    · rename_i h1 h2
      have h3:0≤n∧n≤200:=Classical.byContradiction h2
      have:=runGo_bd (s:=s) n.toNat 0 t qf
      omega
theorem halt_eq {s:qy} {t:qG}:((((appls s t).length:Nat):Int) == 0)=dec (Halted s t):=by
  by_cases h:Halted s t
  · rw [yC h,appls_halt.2 h];rfl
  · rw [xh h]
    have:(appls s t).length≠0:=fun e=>h (appls_halt.1 e)
    simpa using this
end
section
open Go.Proofs.Try
open Go.RowKit
set_option linter.unusedVariables false
set_option linter.unusedSimpArgs false
set_option maxRecDepth 100000
set_option maxHeartbeats 4000000
variable {cl bs os qA qJ yc yh yf yg QG jP bt ot qR xA qN : Nat}
theorem l01Bag_ok (w:World) (l:yLI) {al:yOA} {Fl:yLN} (hl:qU.rep w Fl [.slice al l.length cl] l):Calls Try.prog 106 #[.slice al l.length cl] w (Ret (fun v w' =>v=.bool (dec (BagAny l))) w):=by
 refine en func106 ntmps106 ?_
 have H:=(St.start w).arg hl
 have nhl:=qP hl
 clear hl
 refine zcr (sp (.bool false) (zjcc (sp (yI 0) (zjn (xw ?_)))))
 refine vJ (fun m' ρ w1=>∃ (zB:Env) (k:Nat),ρ=upd (upd zB 0 (.slice al l.length cl)) 3 (yI k)∧(k≤l.length)∧(Counts l k)∧m' =l.length - k∧St w w1 [] [sF false Fl al cl l]) (l.length - 0) ⟨_,0,uE2,qf,(by exact Counts.zero l),rfl,H⟩ ?_
 clear H
 rintro m' ρ w2 ⟨zB,k,rfl,i0,i1,rfl,H⟩
 refine zcc (sps [yI k,.slice al l.length cl] (oN rfl (sp (.bool (decide ((k:Int) < l.length))) (zjn (cD rfl (fun h3=>?_) (fun h3=>?_))))))
 ·skip
  refine xx (t_n (zn (xw (zcr (sps [.slice al l.length cl,yI k] ?_)))))
  obtain ⟨b4,o5,rfl⟩:=H.addr 0 rfl qf
  refine oI rfl rfl (oL rfl (H.yE 0 rfl k qf qf) (sw (oq (l00In_ok w2 (l[k]!) 0 1000) H fun w6 H=>sp (.bool (!(inR (l[k]!) 0 1000))) (zjn (xW (!(inR (l[k]!) 0 1000)) rfl (fun h8=>?_) (fun h8=>?_))))))
  ·skip
   replace h8:=xB h8
   replace h8:=Q4 h8
   refine zcr (sp (.bool false) (zjr (zr5 (ret1 (.bool false) rfl rfl ⟨_,rfl,?_,H.base⟩))))
   rw [xh (fun h=>‹¬ (0≤l[k]! ∧l[k]! ≤1000)› (h.1 k qf))]
  replace h8:=xm h8
  replace h8:=QE.1 h8
  refine xx (b_n (t_n (zk (sp (yI k) (sw (zX k 1 rfl rfl qf (sp (yI (k+1)) (zt (xu (m' :=l.length - (k+1)) qf ⟨_,k+1,uE2,?_,?_,rfl,H⟩)))))))))
  · omega
  · exact i1.succ ‹_›
 refine zx4 (zcr (sp (.slice al l.length cl) (oN rfl (sw (oq (l00In_ok w2 l.length 1 8) H fun w9 H=>sp (.bool (inR l.length 1 8)) (zjr (ret1 (.bool (inR l.length 1 8)) rfl rfl ⟨_,rfl,?_,H.base⟩)))))))
 obtain rfl:k=l.length:=by omega
 refine congrArg Value.bool (dec_eq ?_)
 rw [QE]
 exact ⟨fun h=>⟨i1,by omega,by omega⟩,fun h=>by have:=h.2;omega⟩

theorem QA (w:World) (s:qy) (b:yLI) {qB:yOA} {xe:yLN} {qL:yOA} {xI:yLN} {ab:yOA} {cb:Nat} {Fb:yLN} (hs:vV w bs os (yS s qB qA qL qJ)) (qV:qU.rep w xe [.slice qB s.qx.length qA] s.qx) (xF:qU.rep w xI [.slice qL s.qw.length qJ] s.qw) (hb:qU.rep w Fb [.slice ab b.length cb] b):Calls Try.prog 69 #[pp bs os,.slice ab b.length cb] w (Ret (fun v w' =>v=.bool (dec (zM s.xn b))) w):=by
 refine en func69 ntmps69 ?_
 have H:=((((St.start w).arg hb).arg xF).arg qV).argAt hs
 have vG:=qP qV
 have jM:=qP xF
 have nhb:=qP hb
 clear hs qV xF hb
 refine zcr (sp (.bool false) (zjc (sp (.slice ab b.length cb) (sw (oq (l01Bag_ok _ b (H.get 3 rfl).1) H fun w1 H=>sp (.bool (dec (BagAny b))) ?_)))))
 cases h3:(dec (BagAny b))
 ·skip
  replace h3:=zJ h3
  refine xK [8,9,10,11,12,13,14] (sps [.bool false,.bool false] (zjr (ret1 (.bool false) rfl rfl ⟨_,rfl,?_,H.base⟩)))
  rw [xh (fun h=>‹¬ BagAny b› h.1)]
 replace h3:=Qd h3
 refine qK 7 rfl rfl (sp (.slice ab b.length cb) (qK 7 rfl rfl (oN rfl (qK 7 rfl rfl (sp (pp bs os) (qK 7 rfl rfl (sp (pp bs os) (qK 7 rfl rfl (oF rfl (qK 7 rfl rfl (oL rfl (H.xX 0 rfl 0 rfl) (qK 7 rfl rfl (sps [.bool ((b.length:Int) == s.xn),.bool ((b.length:Int) == s.xn),.bool ((b.length:Int) == s.xn)] (zjr (ret1 (.bool ((b.length:Int) == s.xn)) rfl rfl ⟨_,rfl,(congrArg Value.bool (dec_eq ?_)),H.base⟩)))))))))))))))
 rw [beq_iff_eq]
 exact ⟨fun h=>⟨‹_›,h⟩,fun h=>h.2⟩

theorem l02Frame_ok (w:World) (s:qy) {qB:yOA} {xe:yLN} {qL:yOA} {xI:yLN} (hs:vV w bs os (yS s qB qA qL qJ)) (qV:qU.rep w xe [.slice qB s.qx.length qA] s.qx) (xF:qU.rep w xI [.slice qL s.qw.length qJ] s.qw):Calls Try.prog 67 #[pp bs os] w (Ret (fun v w' =>v=.bool (dec (jE s))) w):=by
 refine en func67 ntmps67 ?_
 have H:=(((St.start w).arg xF).arg qV).argAt hs
 have vG:=qP qV
 have jM:=qP xF
 clear hs qV xF
 refine zcr (sp (.bool false) (zjcc (sps [pp bs os,pp bs os] (oF rfl (oL rfl (H.xX 0 rfl 0 rfl) (sw (oq (l00In_ok w s.xn 1 8) H fun w1 H=>sps [.bool (!(inR s.xn 1 8)),.bool (!(inR s.xn 1 8))] ?_)))))))
 cases h3:(!(inR s.xn 1 8))
 ·skip
  replace h3:=xm h3
  replace h3:=QE.1 h3
  refine qK 10 rfl rfl (sp (pp bs os) (qK 10 rfl rfl (sp (pp bs os) (qK 10 rfl rfl (oF rfl (qK 10 rfl rfl (oL rfl (H.xX 0 rfl 1 rfl) (qK 10 rfl rfl (oN rfl (qK 10 rfl rfl (sw (oq (l00In_ok w1 s.qx.length 1 6) H fun w4 H=>qK 10 rfl rfl (sps [.bool (!(inR s.qx.length 1 6)),.bool (!(inR s.qx.length 1 6)),.bool (!(inR s.qx.length 1 6))] ?_)))))))))))))
  cases h6:(!(inR s.qx.length 1 6))
  ·skip
   replace h6:=xm h6
   replace h6:=QE.1 h6
   refine qK 19 rfl rfl (sp (pp bs os) (qK 19 rfl rfl (sp (pp bs os) (qK 19 rfl rfl (oF rfl (qK 19 rfl rfl (oL rfl (H.xX 0 rfl 1 rfl) (qK 19 rfl rfl ?_))))))))
   obtain ⟨b7,o8,rfl⟩:=H.addr 1 rfl qf
   refine oI rfl rfl (qK 19 rfl rfl (oL rfl (H.yE 1 rfl 0 qf qf) (qK 19 rfl rfl (sps [.bool ((s.qx[0]! :Int) != (-1)),.bool ((s.qx[0]! :Int) != (-1))] (zjn (xW ((s.qx[0]! :Int) != (-1)) rfl (fun h9=>?_) (fun h9=>?_)))))))
   ·skip
    replace h9:=bne_iff_ne.1 h9
    refine zcr (sp (.bool false) (zjr (t_r (ret1 (.bool false) rfl rfl ⟨_,rfl,?_,H.base⟩))))
    rw [xh (fun h=>by obtain ⟨h1,h2,h3,h4⟩:=h;first | omega | (have:=h4 k qf qf;omega))]
   replace h9:=zL h9
   refine xx (t_n (zcc (sp (yI 1) (zjn (xw ?_)))))
   refine vJ (fun m' ρ w10=>∃ (zB:Env) (k:Nat),ρ=upd (upd zB 0 (pp bs os)) 3 (yI k)∧(k≤s.qx.length)∧(1≤k)∧(FrameTo s k)∧m' =s.qx.length - k∧St w w10 [] [atF bs os [yI s.xn,.slice (aa b7 o8) s.qx.length qA,.slice qL s.qw.length qJ],sF false xe (aa b7 o8) qA s.qx,sF false xI qL qJ s.qw]) (s.qx.length - 1) ⟨_,1,uE2,qf,qf,(by exact FrameTo.one s),rfl,H⟩ ?_
   clear H
   rintro m' ρ w11 ⟨zB,k,rfl,i0,i2,i1,rfl,H⟩
   refine zcc (sps [yI k,pp bs os,pp bs os] (oF rfl (oL rfl (H.xX 0 rfl 1 rfl) (oN rfl (sp (.bool (decide ((k:Int) < s.qx.length))) (zjn (cD rfl (fun h12=>?_) (fun h12=>?_))))))))
   ·skip
    refine xx (t_n (zn (xw (zcr (sps [pp bs os,pp bs os] (oF rfl (oL rfl (H.xX 0 rfl 1 rfl) (sp (yI k) (oI rfl rfl (oL rfl (H.yE 1 rfl k qf qf) (sp (yI k) (sw (o_sub k 1 rfl rfl qf (sw (oq (l00In_ok w11 (s.qx[k]!) 0 (k - 1)) H fun w13 H=>sp (.bool (!(inR (s.qx[k]!) 0 (k - 1)))) (zjn (xW (!(inR (s.qx[k]!) 0 (k - 1))) rfl (fun h15=>?_) (fun h15=>?_))))))))))))))))))
    ·skip
     replace h15:=xB h15
     replace h15:=Q4 h15
     refine zcr (sp (.bool false) (zjr (zr5 (ret1 (.bool false) rfl rfl ⟨_,rfl,?_,H.base⟩))))
     rw [xh (fun h=>by obtain ⟨h1,h2,h3,h4⟩:=h;first | omega | (have:=h4 k qf qf;omega))]
    replace h15:=xm h15
    replace h15:=QE.1 h15
    refine xx (b_n (t_n (zk (sp (yI k) (sw (zX k 1 rfl rfl qf (sp (yI (k+1)) (zt (xu (m' :=s.qx.length - (k+1)) qf ⟨_,k+1,uE2,?_,?_,?_,rfl,H⟩)))))))))
    · omega
    · omega
    · exact i1.succ ‹_›
   refine zx4 (zcr (sp (.bool true) (zjr (ret1 (.bool true) rfl rfl ⟨_,rfl,?_,H.base⟩))))
   obtain rfl:k=s.qx.length:=by omega
   rw [yC ⟨by omega,by omega,by omega,i1⟩]
  replace h6:=xB h6
  replace h6:=Q4 h6
  refine xK [20,21,22,23,24,25,26] (sp (.bool true) (zjn (xW true rfl (fun _=>zcr (sp (.bool false) (zjr (t_r (ret1 (.bool false) rfl rfl ⟨_,rfl,?_,H.base⟩))))) (fun h=>absurd h qj))))
  rw [xh (fun h=>by obtain ⟨h1,h2,h3,h4⟩:=h;first | omega | (have:=h4 k qf qf;omega))]
 replace h3:=xB h3
 replace h3:=Q4 h3
 refine xK [11,12,13,14,15,16,17] (sps [.bool true,.bool true] (xK [20,21,22,23,24,25,26] (sp (.bool true) (zjn (xW true rfl (fun _=>zcr (sp (.bool false) (zjr (t_r (ret1 (.bool false) rfl rfl ⟨_,rfl,?_,H.base⟩))))) (fun h=>absurd h qj))))))
 rw [xh (fun h=>by obtain ⟨h1,h2,h3,h4⟩:=h;first | omega | (have:=h4 k qf qf;omega))]

theorem l02In_ok (w:World) (s:qy) (c:Int) (other:Int) {qB:yOA} {xe:yLN} {qL:yOA} {xI:yLN} (hs:vV w bs os (yS s qB qA qL qJ)) (qV:qU.rep w xe [.slice qB s.qx.length qA] s.qx) (xF:qU.rep w xI [.slice qL s.qw.length qJ] s.qw) (p0:jE s) (p1:CellIn s c):Calls Try.prog 105 #[pp bs os,yI c,yI other] w (Ret (fun v w' =>v=.bool (dec (Lies s.qx other c))) w):=by
 refine en func105 ntmps105 ?_
 have H:=(((St.start w).arg xF).arg qV).argAt hs
 have vG:=qP qV
 have jM:=qP xF
 clear hs qV xF
 refine zcr (sp (.bool false) (zjn (zn (xw ?_))))
 refine vJ (fun m' ρ w1=>∃ (zB:Env) (y:Int),ρ=upd (upd (upd zB 0 (pp bs os)) 1 (yI y)) 2 (yI other)∧(0≤y∧y≤(s.qx.length:Int) - 1)∧(Lies s.qx other c↔Lies s.qx other y)∧m' =y.toNat∧St w w1 [] [atF bs os (yS s qB qA qL qJ),sF false xe qB qA s.qx,sF false xI qL qJ s.qw]) (c.toNat) ⟨_,c,uE3,(by exact p1),(by exact Iff.rfl),rfl,H⟩ ?_
 clear H
 rintro m' ρ w2 ⟨zB,y,rfl,i0,i1,rfl,H⟩
 have up:=fun h=>p0.up (c:=y) h i0.2
 refine zcc (sps [yI y,.bool (decide ((y:Int) > 0))] (zjn (cD rfl (fun h3=>?_) (fun h3=>?_))))
 ·skip
  refine xx (t_n (xw (zcr (sps [pp bs os,pp bs os] (oF rfl (oL rfl (H.xX 0 rfl 1 rfl) (sp (yI y) ?_)))))))
  obtain ⟨b4,o5,rfl⟩:=H.addr 1 rfl qf
  refine oI rfl rfl (oL rfl (H.yE 1 rfl y qf qf) (sp (yI (s.qx[y.toNat]!)) (zjc (sps [yI (s.qx[y.toNat]!),yI other,.bool ((s.qx[y.toNat]! :Int) == other)] (zjn (cE rfl (fun h6=>?_) (fun h6=>?_)))))))
  ·skip
   refine zcr (sp (.bool true) (zjr (b_r (t_r (b_r (t_r (ret1 (.bool true) rfl rfl ⟨_,rfl,?_,H.base⟩)))))))
   rw [yC (i1.2 (.here qf ‹_›))]
  refine xx (b_n ?_)
  have up1:=up qf
  refine xu (m' :=(s.qx[y.toNat]!).toNat) qf ⟨_,(s.qx[y.toNat]!),uE3,?_,?_,rfl,H⟩
  · have:=up qf;omega
  · exact i1.trans (lies_iff.trans ⟨fun h=>h.2.resolve_left ‹_›,fun h=>⟨by omega,.inr h⟩⟩)
 refine zx4 (zcr (sp (.bool false) (zjr (ret1 (.bool false) rfl rfl ⟨_,rfl,?_,H.base⟩))))
 rw [xh (fun h=>by have:=(lies_iff.1 (i1.1 h)).1;omega)]

theorem l02Rule_ok (w:World) (s:qy) (r:jq) {qB:yOA} {xe:yLN} {qL:yOA} {xI:yLN} {br or:Nat} {yj:yOA} {Xu:yLN} {yu:yOA} {Xx:yLN} {yl:yOA} {Xv:yLN} {yt:yOA} {Xw:yLN} {QH:yOA} {FrOut:yLN} {jQ:yOA} {FrInto:yLN} (hs:vV w bs os (yS s qB qA qL qJ)) (qV:qU.rep w xe [.slice qB s.qx.length qA] s.qx) (xF:qU.rep w xI [.slice qL s.qw.length qJ] s.qw) (hr:vV w br or [yI r.qE,yI r.vC,.slice yj r.xy.length yc,.slice yu r.xZ.length yh,.slice yl r.xY.length yf,.slice yt r.x9.length yg,.slice QH r.ja.length QG,.slice jQ r.qM.length jP,.bool r.zW]) (hrNeed:qU.rep w Xu [.slice yj r.xy.length yc] r.xy) (hrHave:qU.rep w Xx [.slice yu r.xZ.length yh] r.xZ) (hrLack:qU.rep w Xv [.slice yl r.xY.length yf] r.xY) (hrHere:qU.rep w Xw [.slice yt r.x9.length yg] r.x9) (hrOut:qU.rep w FrOut [.slice QH r.ja.length QG] r.ja) (hrInto:qU.rep w FrInto [.slice jQ r.qM.length jP] r.qM) (p0:jE s):Calls Try.prog 68 #[pp bs os,pp br or] w (Ret (fun v w' =>v=.bool (dec (RuleOk s r))) w):=by
 refine en func68 ntmps68 ?_
 have H:=((((((((((St.start w).arg hrInto).arg hrOut).arg hrHere).arg hrLack).arg hrHave).arg hrNeed).argAt hr).arg xF).arg qV).argAt hs
 have vG:=qP qV
 have jM:=qP xF
 have nhrNeed:=qP hrNeed
 have nhrHave:=qP hrHave
 have nhrLack:=qP hrLack
 have nhrHere:=qP hrHere
 have nhrOut:=qP hrOut
 have nhrInto:=qP hrInto
 clear hs qV xF hr hrNeed hrHave hrLack hrHere hrOut hrInto
 refine zcr (sp (.bool false) (zjn (zn (zn ?_))))
 refine yF rfl H fun H=>rtp 0 (pp br or) H ?_
 refine rtp 1 (pp br or) H ?_
 refine tF 2 rfl rfl H ?_
 refine tL 3 rfl rfl (fun _ h=>h.xX 3 rfl 0 rfl) H ?_
 refine rtp 4 (pp bs os) H ?_
 refine rtp 5 (pp bs os) H ?_
 refine tF 6 rfl rfl H ?_
 refine tL 7 rfl rfl (fun _ h=>h.xX 0 rfl 1 rfl) H ?_
 refine tN 8 rfl rfl H ?_
 refine rt 9 (yI (s.qx.length - 1)) (y_sub s.qx.length 1 rfl rfl qf) H ?_
 refine ro 10 rfl (oq (l00In_ok w.drew r.qE 0 (s.qx.length - 1)) H fun w2 H=>⟨H,(rtp 11 (.bool (!(inR r.qE 0 (s.qx.length - 1)))) H ?_)⟩)
 refine rtp 12 (.bool (!(inR r.qE 0 (s.qx.length - 1)))) H ?_
 cases h4:(!(inR r.qE 0 (s.qx.length - 1)))
 ·skip
  replace h4:=xm h4
  replace h4:=QE.1 h4
  refine rgp 13 (pp br or) 19 H ?_
  refine rgp 14 (pp br or) 19 H ?_
  refine gF 15 rfl rfl H ?_
  refine gL 16 rfl rfl (fun _ h=>h.xX 3 rfl 1 rfl) H ?_
  refine zH [17] qh qm (r_opG rfl (e:=19) rfl rfl (oq (l00In_ok w2 r.vC 0 9) H fun w5 H=>⟨H,(rgp 18 (.bool (!(inR r.vC 0 9))) 19 H ?_)⟩) zI)
  refine rtp 19 (.bool (!(inR r.vC 0 9))) H ?_
  refine rtp 20 (.bool (!(inR r.vC 0 9))) H ?_
  cases h7:(!(inR r.vC 0 9))
  ·skip
   replace h7:=xm h7
   replace h7:=QE.1 h7
   refine rgp 21 (pp br or) 27 H ?_
   refine rgp 22 (pp br or) 27 H ?_
   refine gF 23 rfl rfl H ?_
   refine gL 24 rfl rfl (fun _ h=>h.xX 3 rfl 8 rfl) H ?_
   refine rgp 25 (.bool r.zW) 27 H ?_
   cases h8:(r.zW)
   ·skip
    rw [h8] at H
    refine zC [26,27,28,29,30] 5 (H) (rgp 31 (.bool false) 27 H ?_)
    refine rtp 32 (.bool false) H ?_
    refine rtp 33 (.bool false) H ?_
    refine rgp 34 (pp br or) 40 H ?_
    refine rgp 35 (pp br or) 40 H ?_
    refine gF 36 rfl rfl H ?_
    refine gL 37 rfl rfl (fun _ h=>h.xX 3 rfl 7 rfl) H ?_
    refine gN 38 rfl rfl H ?_
    refine rgp 39 (.bool (decide ((r.qM.length:Int) > 3))) 40 H ?_
    refine rtp 40 (.bool (decide ((r.qM.length:Int) > 3))) H ?_
    refine qZ qh (t_n (cD rfl (fun h9=>?_) (fun h9=>?_)))
    ·skip
     refine zcr (sp (.bool false) (zjr (t_r (ret1 (.bool false) rfl rfl ⟨_,rfl,?_,H.base⟩))))
     rw [xh (fun h=>by obtain ⟨h1,h2,h3,h4,h5,h6,h7,h8,h9,h10,h11⟩:=h;first | contradiction | omega | exact h3 ⟨‹_›,‹_›⟩ | (obtain ⟨q1,q2,q3,q4,q5⟩:=h11 k qf;first | contradiction | omega | (have:=q5 qf;omega)))]
    refine xx (t_n (zcc (sps [pp bs os,pp br or,pp br or] (oF rfl (oL rfl (H.xX 3 rfl 2 rfl) (sw (oq (QA _ s r.xy (qH (H.get 0 rfl) 0 3) (H.get 1 rfl).1 (H.get 2 rfl).1 (H.get 4 rfl).1) H fun w10 H=>sps [.bool (!(dec (zM s.xn r.xy))),.bool (!(dec (zM s.xn r.xy)))] ?_)))))))
    cases h12:(!(dec (zM s.xn r.xy)))
    ·skip
     replace h12:=xm h12
     replace h12:=Qd h12
     refine qK 55 rfl rfl (sp (pp bs os) (qK 55 rfl rfl (sp (pp br or) (qK 55 rfl rfl (sp (pp br or) (qK 55 rfl rfl (oF rfl (qK 55 rfl rfl (oL rfl (H.xX 3 rfl 3 rfl) (qK 55 rfl rfl (sw (oq (QA _ s r.xZ (qH (H.get 0 rfl) 0 3) (H.get 1 rfl).1 (H.get 2 rfl).1 (H.get 5 rfl).1) H fun w13 H=>qK 55 rfl rfl (sps [.bool (!(dec (zM s.xn r.xZ))),.bool (!(dec (zM s.xn r.xZ))),.bool (!(dec (zM s.xn r.xZ)))] ?_)))))))))))))
     cases h15:(!(dec (zM s.xn r.xZ)))
     ·skip
      replace h15:=xm h15
      replace h15:=Qd h15
      refine qK 64 rfl rfl (sp (pp bs os) (qK 64 rfl rfl (sp (pp br or) (qK 64 rfl rfl (sp (pp br or) (qK 64 rfl rfl (oF rfl (qK 64 rfl rfl (oL rfl (H.xX 3 rfl 4 rfl) (qK 64 rfl rfl (sw (oq (QA _ s r.xY (qH (H.get 0 rfl) 0 3) (H.get 1 rfl).1 (H.get 2 rfl).1 (H.get 6 rfl).1) H fun w16 H=>qK 64 rfl rfl (sps [.bool (!(dec (zM s.xn r.xY))),.bool (!(dec (zM s.xn r.xY))),.bool (!(dec (zM s.xn r.xY)))] ?_)))))))))))))
      cases h18:(!(dec (zM s.xn r.xY)))
      ·skip
       replace h18:=xm h18
       replace h18:=Qd h18
       refine qK 73 rfl rfl (sp (pp bs os) (qK 73 rfl rfl (sp (pp br or) (qK 73 rfl rfl (sp (pp br or) (qK 73 rfl rfl (oF rfl (qK 73 rfl rfl (oL rfl (H.xX 3 rfl 5 rfl) (qK 73 rfl rfl (sw (oq (QA _ s r.x9 (qH (H.get 0 rfl) 0 3) (H.get 1 rfl).1 (H.get 2 rfl).1 (H.get 7 rfl).1) H fun w19 H=>qK 73 rfl rfl (sps [.bool (!(dec (zM s.xn r.x9))),.bool (!(dec (zM s.xn r.x9))),.bool (!(dec (zM s.xn r.x9)))] ?_)))))))))))))
       cases h21:(!(dec (zM s.xn r.x9)))
       ·skip
        replace h21:=xm h21
        replace h21:=Qd h21
        refine qK 82 rfl rfl (sp (pp bs os) (qK 82 rfl rfl (sp (pp br or) (qK 82 rfl rfl (sp (pp br or) (qK 82 rfl rfl (oF rfl (qK 82 rfl rfl (oL rfl (H.xX 3 rfl 6 rfl) (qK 82 rfl rfl (sw (oq (QA _ s r.ja (qH (H.get 0 rfl) 0 3) (H.get 1 rfl).1 (H.get 2 rfl).1 (H.get 8 rfl).1) H fun w22 H=>qK 82 rfl rfl (sps [.bool (!(dec (zM s.xn r.ja))),.bool (!(dec (zM s.xn r.ja))),.bool (!(dec (zM s.xn r.ja)))] ?_)))))))))))))
        cases h24:(!(dec (zM s.xn r.ja)))
        ·skip
         replace h24:=xm h24
         replace h24:=Qd h24
         refine qK 91 rfl rfl (sp (pp br or) (qK 91 rfl rfl (sp (pp br or) (qK 91 rfl rfl (oF rfl (qK 91 rfl rfl (oL rfl (H.xX 3 rfl 2 rfl) (qK 91 rfl rfl (sw (oq (l01Size_ok _ r.xy (H.get 4 rfl).1 (by first | assumption | exact je ql | exact QB ql)) H fun w25 H=>qK 91 rfl rfl (sps [.bool ((sumL r.xy:Int) == 0),.bool ((sumL r.xy:Int) == 0)] (zjn (cE rfl (fun h27=>?_) (fun h27=>?_))))))))))))))
         ·skip
          refine zcr (sp (.bool false) (zjr (t_r (ret1 (.bool false) rfl rfl ⟨_,rfl,?_,H.base⟩))))
          rw [xh (fun h=>by obtain ⟨h1,h2,h3,h4,h5,h6,h7,h8,h9,h10,h11⟩:=h;first | contradiction | omega | exact h3 ⟨‹_›,‹_›⟩ | (obtain ⟨q1,q2,q3,q4,q5⟩:=h11 k qf;first | contradiction | omega | (have:=q5 qf;omega)))]
         refine xx (t_n (zcc (sp (yI 0) (zjn (xw ?_)))))
         refine vJ (fun m' ρ w28=>∃ (zB:Env) (k:Nat),ρ=upd (upd (upd zB 0 (pp bs os)) 1 (pp br or)) 5 (yI k)∧(k≤r.qM.length)∧(IntosTo s r k)∧m' =r.qM.length - k∧St w w28 [] [atF bs os (yS s qB qA qL qJ),sF false xe qB qA s.qx,sF false xI qL qJ s.qw,atF br or [yI r.qE,yI r.vC,.slice yj r.xy.length yc,.slice yu r.xZ.length yh,.slice yl r.xY.length yf,.slice yt r.x9.length yg,.slice QH r.ja.length QG,.slice jQ r.qM.length jP,.bool false],sF false Xu yj yc r.xy,sF false Xx yu yh r.xZ,sF false Xv yl yf r.xY,sF false Xw yt yg r.x9,sF false FrOut QH QG r.ja,sF false FrInto jQ jP r.qM]) (r.qM.length - 0) ⟨_,0,uE3,qf,(by exact fun j hj=>by omega),rfl,H⟩ ?_
         clear H
         rintro m' ρ w29 ⟨zB,k,rfl,i0,i1,rfl,H⟩
         refine zcc (sps [yI k,pp br or,pp br or] (oF rfl (oL rfl (H.xX 3 rfl 7 rfl) (oN rfl (sp (.bool (decide ((k:Int) < r.qM.length))) (zjn (cD rfl (fun h30=>?_) (fun h30=>?_))))))))
         ·skip
          refine xx (t_n (zn (xw (zcr (sps [pp br or,pp br or] (oF rfl (oL rfl (H.xX 3 rfl 7 rfl) (sp (yI k) ?_))))))))
          obtain ⟨b31,o32,rfl⟩:=H.addr 9 rfl qf
          obtain ⟨ae33Bag,ce33Bag,Fe33Bag,H⟩:=H.yX 9 rfl k k qf qf qf
          refine oI rfl rfl (sp (pp b31 (o32+(k:Int).toNat * 2)) (zjn (zn (zn ?_))))
          refine yF rfl H fun H=>rtp 0 (pp b31 (o32+(k:Int).toNat * 2)) H ?_
          refine rtp 1 (pp b31 (o32+(k:Int).toNat * 2)) H ?_
          refine tF 2 rfl rfl H ?_
          refine tL 3 rfl rfl (fun _ h=>h.xX 1 rfl 0 rfl) H ?_
          refine rtp 4 (pp bs os) H ?_
          refine rtp 5 (pp bs os) H ?_
          refine tF 6 rfl rfl H ?_
          refine tL 7 rfl rfl (fun _ h=>h.xX 2 rfl 1 rfl) H ?_
          refine tN 8 rfl rfl H ?_
          refine rt 9 (yI (s.qx.length - 1)) (y_sub s.qx.length 1 rfl rfl qf) H ?_
          refine ro 10 rfl (oq (l00In_ok w29.drew ((r.qM[k]!).qE) 0 (s.qx.length - 1)) H fun w35 H=>⟨H,(rtp 11 (.bool (!(inR ((r.qM[k]!).qE) 0 (s.qx.length - 1)))) H ?_)⟩)
          refine rtp 12 (.bool (!(inR ((r.qM[k]!).qE) 0 (s.qx.length - 1)))) H ?_
          cases h37:(!(inR ((r.qM[k]!).qE) 0 (s.qx.length - 1)))
          ·skip
           replace h37:=xm h37
           replace h37:=QE.1 h37
           refine rgp 13 (pp bs os) 126 H ?_
           refine rgp 14 (pp b31 (o32+(k:Int).toNat * 2)) 126 H ?_
           refine rgp 15 (pp b31 (o32+(k:Int).toNat * 2)) 126 H ?_
           refine gF 16 rfl rfl H ?_
           refine gL 17 rfl rfl (fun _ h=>h.xX 1 rfl 0 rfl) H ?_
           refine rgp 18 (pp br or) 126 H ?_
           refine rgp 19 (pp br or) 126 H ?_
           refine gF 20 rfl rfl H ?_
           refine gL 21 rfl rfl (fun _ h=>h.xX 5 rfl 0 rfl) H ?_
           refine zH [22] qh qm (r_opG rfl (e:=126) rfl rfl (oq (l02In_ok _ s ((r.qM[k]!).qE) r.qE (qH (H.get 2 rfl) 0 3) (H.get 3 rfl).1 (H.get 4 rfl).1 ql ql) H fun w38 H=>⟨H,(rgp 23 (.bool (!(dec (Lies s.qx r.qE ((r.qM[k]!).qE))))) 126 H ?_)⟩) zI)
           refine rtp 24 (.bool (!(dec (Lies s.qx r.qE ((r.qM[k]!).qE))))) H ?_
           refine rtp 25 (.bool (!(dec (Lies s.qx r.qE ((r.qM[k]!).qE))))) H ?_
           cases h40:(!(dec (Lies s.qx r.qE ((r.qM[k]!).qE))))
           ·skip
            replace h40:=xm h40
            replace h40:=Qd h40
            refine rgp 26 (pp bs os) 139 H ?_
            refine rgp 27 (pp b31 (o32+(k:Int).toNat * 2)) 139 H ?_
            refine rgp 28 (pp b31 (o32+(k:Int).toNat * 2)) 139 H ?_
            refine gF 29 rfl rfl H ?_
            refine gL 30 rfl rfl (fun _ h=>h.xX 1 rfl 1 rfl) H ?_
            refine zH [31] qh qm (r_opG rfl (e:=139) rfl rfl (oq (QA _ s ((r.qM[k]!).Qz) (qH (H.get 2 rfl) 0 3) (H.get 3 rfl).1 (H.get 4 rfl).1 (H.get 0 rfl).1) H fun w41 H=>⟨H,(rgp 32 (.bool (!(dec (zM s.xn ((r.qM[k]!).Qz))))) 139 H ?_)⟩) zI)
            refine rtp 33 (.bool (!(dec (zM s.xn ((r.qM[k]!).Qz))))) H ?_
            refine rtp 34 (.bool (!(dec (zM s.xn ((r.qM[k]!).Qz))))) H ?_
            cases h43:(!(dec (zM s.xn ((r.qM[k]!).Qz))))
            ·skip
             replace h43:=xm h43
             replace h43:=Qd h43
             refine rgp 35 (pp b31 (o32+(k:Int).toNat * 2)) 148 H ?_
             refine rgp 36 (pp b31 (o32+(k:Int).toNat * 2)) 148 H ?_
             refine gF 37 rfl rfl H ?_
             refine gL 38 rfl rfl (fun _ h=>h.xX 1 rfl 1 rfl) H ?_
             refine zH [39] qh qm (r_opG rfl (e:=148) rfl rfl (oq (l01Size_ok _ ((r.qM[k]!).Qz) (H.get 0 rfl).1 (by first | assumption | exact je ql | exact QB ql)) H fun w44 H=>⟨H,(rgp 40 (.bool ((sumL ((r.qM[k]!).Qz):Int) == 0)) 148 H ?_)⟩) zI)
             refine rtp 41 (.bool ((sumL ((r.qM[k]!).Qz):Int) == 0)) H ?_
             refine qZ qh (t_n (cE rfl (fun h46=>?_) (fun h46=>?_)))
             ·skip
              refine zcr (sp (.bool false) (zjr (t_r (zr5 (ret1 (.bool false) rfl rfl ⟨_,rfl,?_,H.base⟩)))))
              rw [xh (fun h=>by obtain ⟨h1,h2,h3,h4,h5,h6,h7,h8,h9,h10,h11⟩:=h;first | contradiction | omega | exact h3 ⟨‹_›,‹_›⟩ | (obtain ⟨q1,q2,q3,q4,q5⟩:=h11 k qf;first | contradiction | omega | (have:=q5 qf;omega)))]
             refine xx (t_n (zn ?_))
             refine yF rfl H fun H=>rtp 0 (yI k) H ?_
             refine rtp 1 (.bool (decide ((k:Int) > 0))) H ?_
             refine rtp 2 (.bool (decide ((k:Int) > 0))) H ?_
             cases h48:(decide ((k:Int) > 0))
             ·skip
              replace h48:=of_decide_eq_false h48
              refine zC [3,4,5,6,7,8,9,10,11,12,13,14,15,16] 14 (H) (rtp 17 (.bool false) H ?_)
              refine qZ qh (t_n (xW false rfl (fun h=>absurd h qj) (fun _=>xx (b_n (t_n (zk (sp (yI k) (sw (zX k 1 rfl rfl qf (sp (yI (k+1)) (zt (xu (m' :=r.qM.length - (k+1)) qf ⟨_,k+1,uE3,?_,?_,rfl,H.sel _ (.refl _) _ qm⟩))))))))))))
              · omega
              · exact i1.succ ⟨‹_›,‹_›,‹_›,‹_›,fun hk=>by omega⟩
             replace h48:=of_decide_eq_true h48
             refine rgp 3 (pp br or) 158 H ?_
             refine rgp 4 (pp br or) 158 H ?_
             refine gF 5 rfl rfl H ?_
             refine gL 6 rfl rfl (fun _ h=>h.xX 5 rfl 7 rfl) H ?_
             refine rgp 7 (yI k) 158 H ?_
             refine rg 8 (yI (k - 1)) 158 (y_sub k 1 rfl rfl qf) H ?_
             obtain ⟨ae49Bag,ce49Bag,Fe49Bag,H⟩:=H.yX 11 rfl (k - 1) (k - 1) qf qf qf
             refine gI 9 rfl rfl rfl (H.sel _ (.refl _) _ (fun _ h=>List.mem_cons_of_mem _ (List.mem_cons_of_mem _ (h)))) ?_
             refine gF 10 rfl rfl (H.sel _ (.refl _) _ (fun _ h=>List.mem_cons_of_mem _ (List.mem_cons_of_mem _ (h)))) ?_
             refine rgp 12 (pp b31 (o32+(k:Int).toNat * 2)) 158 (H.sel _ (.refl _) _ (fun _ h=>List.mem_cons_of_mem _ (List.mem_cons_of_mem _ (h)))) ?_
             refine rgp 13 (pp b31 (o32+(k:Int).toNat * 2)) 158 (H.sel _ (.refl _) _ (fun _ h=>List.mem_cons_of_mem _ (List.mem_cons_of_mem _ (h)))) ?_
             refine gF 14 rfl rfl (H.sel _ (.refl _) _ (fun _ h=>List.mem_cons_of_mem _ (List.mem_cons_of_mem _ (h)))) ?_
             refine gL 15 rfl rfl (fun _ h=>h.xX 1 rfl 0 rfl) (H.sel _ (.refl _) _ (fun _ h=>List.mem_cons_of_mem _ (List.mem_cons_of_mem _ (h)))) ?_
             refine zH [11] qh qm (r_opG rfl (e:=158) rfl rfl (zh (yI ((r.qM[k - 1]!).qE)) isAgg2 rfl (H.xX 1 rfl 0 rfl) (⟨H.dF 2,(rgp 16 (.bool (decide (((r.qM[k - 1]!).qE:Int)≥((r.qM[k]!).qE)))) 158 (H.sel _ (.refl _) _ (fun _ h=>List.mem_cons_of_mem _ (List.mem_cons_of_mem _ (h)))) ?_)⟩)) zI)
             refine rtp 17 (.bool (decide (((r.qM[k - 1]!).qE:Int)≥((r.qM[k]!).qE)))) (H.sel _ (.refl _) _ (fun _ h=>List.mem_cons_of_mem _ (List.mem_cons_of_mem _ (h)))) ?_
             refine qZ qh (t_n (cD rfl (fun h50=>?_) (fun h50=>?_)))
             ·skip
              refine zcr (sp (.bool false) (zjr (zr5 (ret1 (.bool false) rfl rfl ⟨_,rfl,?_,H.base⟩))))
              rw [xh (fun h=>by obtain ⟨h1,h2,h3,h4,h5,h6,h7,h8,h9,h10,h11⟩:=h;first | contradiction | omega | exact h3 ⟨‹_›,‹_›⟩ | (obtain ⟨q1,q2,q3,q4,q5⟩:=h11 k qf;first | contradiction | omega | (have:=q5 qf;omega)))]
             refine xx (b_n (t_n (zk (sp (yI k) (sw (zX k 1 rfl rfl qf (sp (yI (k+1)) (zt (xu (m' :=r.qM.length - (k+1)) qf ⟨_,k+1,uE3,?_,?_,rfl,H.sel _ (.refl _) _ qm⟩)))))))))
             · omega
             · exact i1.succ ⟨‹_›,‹_›,‹_›,‹_›,fun hk=>by omega⟩
            replace h43:=xB h43
            replace h43:=zJ h43
            refine zC [35,36,37,38,39,40] 6 (H) (rtp 41 (.bool true) H ?_)
            refine qZ qh (t_n (xW true rfl (fun _=>zcr (sp (.bool false) (zjr (t_r (zr5 (ret1 (.bool false) rfl rfl ⟨_,rfl,?_,H.base⟩)))))) (fun h=>absurd h qj)))
            rw [xh (fun h=>by obtain ⟨h1,h2,h3,h4,h5,h6,h7,h8,h9,h10,h11⟩:=h;first | contradiction | omega | exact h3 ⟨‹_›,‹_›⟩ | (obtain ⟨q1,q2,q3,q4,q5⟩:=h11 k qf;first | contradiction | omega | (have:=q5 qf;omega)))]
           replace h40:=xB h40
           replace h40:=zJ h40
           refine zC [26,27,28,29,30,31,32] 7 (H) (rtp 33 (.bool true) H ?_)
           refine rtp 34 (.bool true) H ?_
           refine zC [35,36,37,38,39,40] 6 (H) (rtp 41 (.bool true) H ?_)
           refine qZ qh (t_n (xW true rfl (fun _=>zcr (sp (.bool false) (zjr (t_r (zr5 (ret1 (.bool false) rfl rfl ⟨_,rfl,?_,H.base⟩)))))) (fun h=>absurd h qj)))
           rw [xh (fun h=>by obtain ⟨h1,h2,h3,h4,h5,h6,h7,h8,h9,h10,h11⟩:=h;first | contradiction | omega | exact h3 ⟨‹_›,‹_›⟩ | (obtain ⟨q1,q2,q3,q4,q5⟩:=h11 k qf;first | contradiction | omega | (have:=q5 qf;omega)))]
          replace h37:=xB h37
          replace h37:=Q4 h37
          refine zC [13,14,15,16,17,18,19,20,21,22,23] 11 (H) (rtp 24 (.bool true) H ?_)
          refine rtp 25 (.bool true) H ?_
          refine zC [26,27,28,29,30,31,32] 7 (H) (rtp 33 (.bool true) H ?_)
          refine rtp 34 (.bool true) H ?_
          refine zC [35,36,37,38,39,40] 6 (H) (rtp 41 (.bool true) H ?_)
          refine qZ qh (t_n (xW true rfl (fun _=>zcr (sp (.bool false) (zjr (t_r (zr5 (ret1 (.bool false) rfl rfl ⟨_,rfl,?_,H.base⟩)))))) (fun h=>absurd h qj)))
          rw [xh (fun h=>by obtain ⟨h1,h2,h3,h4,h5,h6,h7,h8,h9,h10,h11⟩:=h;first | contradiction | omega | exact h3 ⟨‹_›,‹_›⟩ | (obtain ⟨q1,q2,q3,q4,q5⟩:=h11 k qf;first | contradiction | omega | (have:=q5 qf;omega)))]
         refine zx4 (zcr (sp (.bool true) (zjr (ret1 (.bool true) rfl rfl ⟨_,rfl,?_,H.base⟩))))
         obtain rfl:k=r.qM.length:=by omega
         rw [yC ⟨by assumption,by omega,by simp_all,by omega,by assumption,by assumption,by assumption,by assumption,by assumption,by assumption,i1⟩]
        replace h24:=xB h24
        replace h24:=zJ h24
        refine xK [92,93,94,95,96,97] (sp (.bool true) (zjn (xW true rfl (fun _=>zcr (sp (.bool false) (zjr (t_r (ret1 (.bool false) rfl rfl ⟨_,rfl,?_,H.base⟩))))) (fun h=>absurd h qj))))
        rw [xh (fun h=>by obtain ⟨h1,h2,h3,h4,h5,h6,h7,h8,h9,h10,h11⟩:=h;first | contradiction | omega | exact h3 ⟨‹_›,‹_›⟩ | (obtain ⟨q1,q2,q3,q4,q5⟩:=h11 k qf;first | contradiction | omega | (have:=q5 qf;omega)))]
       replace h21:=xB h21
       replace h21:=zJ h21
       refine xK [83,84,85,86,87,88,89] (sps [.bool true,.bool true] (xK [92,93,94,95,96,97] (sp (.bool true) (zjn (xW true rfl (fun _=>zcr (sp (.bool false) (zjr (t_r (ret1 (.bool false) rfl rfl ⟨_,rfl,?_,H.base⟩))))) (fun h=>absurd h qj))))))
       rw [xh (fun h=>by obtain ⟨h1,h2,h3,h4,h5,h6,h7,h8,h9,h10,h11⟩:=h;first | contradiction | omega | exact h3 ⟨‹_›,‹_›⟩ | (obtain ⟨q1,q2,q3,q4,q5⟩:=h11 k qf;first | contradiction | omega | (have:=q5 qf;omega)))]
      replace h18:=xB h18
      replace h18:=zJ h18
      refine xK [74,75,76,77,78,79,80] (sps [.bool true,.bool true] (xK [83,84,85,86,87,88,89] (sps [.bool true,.bool true] (xK [92,93,94,95,96,97] (sp (.bool true) (zjn (xW true rfl (fun _=>zcr (sp (.bool false) (zjr (t_r (ret1 (.bool false) rfl rfl ⟨_,rfl,?_,H.base⟩))))) (fun h=>absurd h qj))))))))
      rw [xh (fun h=>by obtain ⟨h1,h2,h3,h4,h5,h6,h7,h8,h9,h10,h11⟩:=h;first | contradiction | omega | exact h3 ⟨‹_›,‹_›⟩ | (obtain ⟨q1,q2,q3,q4,q5⟩:=h11 k qf;first | contradiction | omega | (have:=q5 qf;omega)))]
     replace h15:=xB h15
     replace h15:=zJ h15
     refine xK [65,66,67,68,69,70,71] (sps [.bool true,.bool true] (xK [74,75,76,77,78,79,80] (sps [.bool true,.bool true] (xK [83,84,85,86,87,88,89] (sps [.bool true,.bool true] (xK [92,93,94,95,96,97] (sp (.bool true) (zjn (xW true rfl (fun _=>zcr (sp (.bool false) (zjr (t_r (ret1 (.bool false) rfl rfl ⟨_,rfl,?_,H.base⟩))))) (fun h=>absurd h qj))))))))))
     rw [xh (fun h=>by obtain ⟨h1,h2,h3,h4,h5,h6,h7,h8,h9,h10,h11⟩:=h;first | contradiction | omega | exact h3 ⟨‹_›,‹_›⟩ | (obtain ⟨q1,q2,q3,q4,q5⟩:=h11 k qf;first | contradiction | omega | (have:=q5 qf;omega)))]
    replace h12:=xB h12
    replace h12:=zJ h12
    refine xK [56,57,58,59,60,61,62] (sps [.bool true,.bool true] (xK [65,66,67,68,69,70,71] (sps [.bool true,.bool true] (xK [74,75,76,77,78,79,80] (sps [.bool true,.bool true] (xK [83,84,85,86,87,88,89] (sps [.bool true,.bool true] (xK [92,93,94,95,96,97] (sp (.bool true) (zjn (xW true rfl (fun _=>zcr (sp (.bool false) (zjr (t_r (ret1 (.bool false) rfl rfl ⟨_,rfl,?_,H.base⟩))))) (fun h=>absurd h qj))))))))))))
    rw [xh (fun h=>by obtain ⟨h1,h2,h3,h4,h5,h6,h7,h8,h9,h10,h11⟩:=h;first | contradiction | omega | exact h3 ⟨‹_›,‹_›⟩ | (obtain ⟨q1,q2,q3,q4,q5⟩:=h11 k qf;first | contradiction | omega | (have:=q5 qf;omega)))]
   rw [h8] at H
   refine rgp 26 (pp br or) 32 H ?_
   refine rgp 27 (pp br or) 32 H ?_
   refine gF 28 rfl rfl H ?_
   refine gL 29 rfl rfl (fun _ h=>h.xX 3 rfl 0 rfl) H ?_
   refine rgp 30 (.bool ((r.qE:Int) == 0)) 32 H ?_
   refine rgp 31 (.bool ((r.qE:Int) == 0)) 27 H ?_
   refine rtp 32 (.bool ((r.qE:Int) == 0)) H ?_
   refine rtp 33 (.bool ((r.qE:Int) == 0)) H ?_
   cases h51:((r.qE:Int) == 0)
   ·skip
    replace h51:=ne_of_beq_false h51
    refine rgp 34 (pp br or) 40 H ?_
    refine rgp 35 (pp br or) 40 H ?_
    refine gF 36 rfl rfl H ?_
    refine gL 37 rfl rfl (fun _ h=>h.xX 3 rfl 7 rfl) H ?_
    refine gN 38 rfl rfl H ?_
    refine rgp 39 (.bool (decide ((r.qM.length:Int) > 3))) 40 H ?_
    refine rtp 40 (.bool (decide ((r.qM.length:Int) > 3))) H ?_
    refine qZ qh (t_n (cD rfl (fun h52=>?_) (fun h52=>?_)))
    ·skip
     refine zcr (sp (.bool false) (zjr (t_r (ret1 (.bool false) rfl rfl ⟨_,rfl,?_,H.base⟩))))
     rw [xh (fun h=>by obtain ⟨h1,h2,h3,h4,h5,h6,h7,h8,h9,h10,h11⟩:=h;first | contradiction | omega | exact h3 ⟨‹_›,‹_›⟩ | (obtain ⟨q1,q2,q3,q4,q5⟩:=h11 k qf;first | contradiction | omega | (have:=q5 qf;omega)))]
    refine xx (t_n (zcc (sps [pp bs os,pp br or,pp br or] (oF rfl (oL rfl (H.xX 3 rfl 2 rfl) (sw (oq (QA _ s r.xy (qH (H.get 0 rfl) 0 3) (H.get 1 rfl).1 (H.get 2 rfl).1 (H.get 4 rfl).1) H fun w53 H=>sps [.bool (!(dec (zM s.xn r.xy))),.bool (!(dec (zM s.xn r.xy)))] ?_)))))))
    cases h55:(!(dec (zM s.xn r.xy)))
    ·skip
     replace h55:=xm h55
     replace h55:=Qd h55
     refine qK 55 rfl rfl (sp (pp bs os) (qK 55 rfl rfl (sp (pp br or) (qK 55 rfl rfl (sp (pp br or) (qK 55 rfl rfl (oF rfl (qK 55 rfl rfl (oL rfl (H.xX 3 rfl 3 rfl) (qK 55 rfl rfl (sw (oq (QA _ s r.xZ (qH (H.get 0 rfl) 0 3) (H.get 1 rfl).1 (H.get 2 rfl).1 (H.get 5 rfl).1) H fun w56 H=>qK 55 rfl rfl (sps [.bool (!(dec (zM s.xn r.xZ))),.bool (!(dec (zM s.xn r.xZ))),.bool (!(dec (zM s.xn r.xZ)))] ?_)))))))))))))
     cases h58:(!(dec (zM s.xn r.xZ)))
     ·skip
      replace h58:=xm h58
      replace h58:=Qd h58
      refine qK 64 rfl rfl (sp (pp bs os) (qK 64 rfl rfl (sp (pp br or) (qK 64 rfl rfl (sp (pp br or) (qK 64 rfl rfl (oF rfl (qK 64 rfl rfl (oL rfl (H.xX 3 rfl 4 rfl) (qK 64 rfl rfl (sw (oq (QA _ s r.xY (qH (H.get 0 rfl) 0 3) (H.get 1 rfl).1 (H.get 2 rfl).1 (H.get 6 rfl).1) H fun w59 H=>qK 64 rfl rfl (sps [.bool (!(dec (zM s.xn r.xY))),.bool (!(dec (zM s.xn r.xY))),.bool (!(dec (zM s.xn r.xY)))] ?_)))))))))))))
      cases h61:(!(dec (zM s.xn r.xY)))
      ·skip
       replace h61:=xm h61
       replace h61:=Qd h61
       refine qK 73 rfl rfl (sp (pp bs os) (qK 73 rfl rfl (sp (pp br or) (qK 73 rfl rfl (sp (pp br or) (qK 73 rfl rfl (oF rfl (qK 73 rfl rfl (oL rfl (H.xX 3 rfl 5 rfl) (qK 73 rfl rfl (sw (oq (QA _ s r.x9 (qH (H.get 0 rfl) 0 3) (H.get 1 rfl).1 (H.get 2 rfl).1 (H.get 7 rfl).1) H fun w62 H=>qK 73 rfl rfl (sps [.bool (!(dec (zM s.xn r.x9))),.bool (!(dec (zM s.xn r.x9))),.bool (!(dec (zM s.xn r.x9)))] ?_)))))))))))))
       cases h64:(!(dec (zM s.xn r.x9)))
       ·skip
        replace h64:=xm h64
        replace h64:=Qd h64
        refine qK 82 rfl rfl (sp (pp bs os) (qK 82 rfl rfl (sp (pp br or) (qK 82 rfl rfl (sp (pp br or) (qK 82 rfl rfl (oF rfl (qK 82 rfl rfl (oL rfl (H.xX 3 rfl 6 rfl) (qK 82 rfl rfl (sw (oq (QA _ s r.ja (qH (H.get 0 rfl) 0 3) (H.get 1 rfl).1 (H.get 2 rfl).1 (H.get 8 rfl).1) H fun w65 H=>qK 82 rfl rfl (sps [.bool (!(dec (zM s.xn r.ja))),.bool (!(dec (zM s.xn r.ja))),.bool (!(dec (zM s.xn r.ja)))] ?_)))))))))))))
        cases h67:(!(dec (zM s.xn r.ja)))
        ·skip
         replace h67:=xm h67
         replace h67:=Qd h67
         refine qK 91 rfl rfl (sp (pp br or) (qK 91 rfl rfl (sp (pp br or) (qK 91 rfl rfl (oF rfl (qK 91 rfl rfl (oL rfl (H.xX 3 rfl 2 rfl) (qK 91 rfl rfl (sw (oq (l01Size_ok _ r.xy (H.get 4 rfl).1 (by first | assumption | exact je ql | exact QB ql)) H fun w68 H=>qK 91 rfl rfl (sps [.bool ((sumL r.xy:Int) == 0),.bool ((sumL r.xy:Int) == 0)] (zjn (cE rfl (fun h70=>?_) (fun h70=>?_))))))))))))))
         ·skip
          refine zcr (sp (.bool false) (zjr (t_r (ret1 (.bool false) rfl rfl ⟨_,rfl,?_,H.base⟩))))
          rw [xh (fun h=>by obtain ⟨h1,h2,h3,h4,h5,h6,h7,h8,h9,h10,h11⟩:=h;first | contradiction | omega | exact h3 ⟨‹_›,‹_›⟩ | (obtain ⟨q1,q2,q3,q4,q5⟩:=h11 k qf;first | contradiction | omega | (have:=q5 qf;omega)))]
         refine xx (t_n (zcc (sp (yI 0) (zjn (xw ?_)))))
         refine vJ (fun m' ρ w71=>∃ (zB:Env) (k:Nat),ρ=upd (upd (upd zB 0 (pp bs os)) 1 (pp br or)) 5 (yI k)∧(k≤r.qM.length)∧(IntosTo s r k)∧m' =r.qM.length - k∧St w w71 [] [atF bs os (yS s qB qA qL qJ),sF false xe qB qA s.qx,sF false xI qL qJ s.qw,atF br or [yI r.qE,yI r.vC,.slice yj r.xy.length yc,.slice yu r.xZ.length yh,.slice yl r.xY.length yf,.slice yt r.x9.length yg,.slice QH r.ja.length QG,.slice jQ r.qM.length jP,.bool true],sF false Xu yj yc r.xy,sF false Xx yu yh r.xZ,sF false Xv yl yf r.xY,sF false Xw yt yg r.x9,sF false FrOut QH QG r.ja,sF false FrInto jQ jP r.qM]) (r.qM.length - 0) ⟨_,0,uE3,qf,(by exact fun j hj=>by omega),rfl,H⟩ ?_
         clear H
         rintro m' ρ w72 ⟨zB,k,rfl,i0,i1,rfl,H⟩
         refine zcc (sps [yI k,pp br or,pp br or] (oF rfl (oL rfl (H.xX 3 rfl 7 rfl) (oN rfl (sp (.bool (decide ((k:Int) < r.qM.length))) (zjn (cD rfl (fun h73=>?_) (fun h73=>?_))))))))
         ·skip
          refine xx (t_n (zn (xw (zcr (sps [pp br or,pp br or] (oF rfl (oL rfl (H.xX 3 rfl 7 rfl) (sp (yI k) ?_))))))))
          obtain ⟨b74,o75,rfl⟩:=H.addr 9 rfl qf
          obtain ⟨ae76Bag,ce76Bag,Fe76Bag,H⟩:=H.yX 9 rfl k k qf qf qf
          refine oI rfl rfl (sp (pp b74 (o75+(k:Int).toNat * 2)) (zjn (zn (zn ?_))))
          refine yF rfl H fun H=>rtp 0 (pp b74 (o75+(k:Int).toNat * 2)) H ?_
          refine rtp 1 (pp b74 (o75+(k:Int).toNat * 2)) H ?_
          refine tF 2 rfl rfl H ?_
          refine tL 3 rfl rfl (fun _ h=>h.xX 1 rfl 0 rfl) H ?_
          refine rtp 4 (pp bs os) H ?_
          refine rtp 5 (pp bs os) H ?_
          refine tF 6 rfl rfl H ?_
          refine tL 7 rfl rfl (fun _ h=>h.xX 2 rfl 1 rfl) H ?_
          refine tN 8 rfl rfl H ?_
          refine rt 9 (yI (s.qx.length - 1)) (y_sub s.qx.length 1 rfl rfl qf) H ?_
          refine ro 10 rfl (oq (l00In_ok w72.drew ((r.qM[k]!).qE) 0 (s.qx.length - 1)) H fun w78 H=>⟨H,(rtp 11 (.bool (!(inR ((r.qM[k]!).qE) 0 (s.qx.length - 1)))) H ?_)⟩)
          refine rtp 12 (.bool (!(inR ((r.qM[k]!).qE) 0 (s.qx.length - 1)))) H ?_
          cases h80:(!(inR ((r.qM[k]!).qE) 0 (s.qx.length - 1)))
          ·skip
           replace h80:=xm h80
           replace h80:=QE.1 h80
           refine rgp 13 (pp bs os) 126 H ?_
           refine rgp 14 (pp b74 (o75+(k:Int).toNat * 2)) 126 H ?_
           refine rgp 15 (pp b74 (o75+(k:Int).toNat * 2)) 126 H ?_
           refine gF 16 rfl rfl H ?_
           refine gL 17 rfl rfl (fun _ h=>h.xX 1 rfl 0 rfl) H ?_
           refine rgp 18 (pp br or) 126 H ?_
           refine rgp 19 (pp br or) 126 H ?_
           refine gF 20 rfl rfl H ?_
           refine gL 21 rfl rfl (fun _ h=>h.xX 5 rfl 0 rfl) H ?_
           refine zH [22] qh qm (r_opG rfl (e:=126) rfl rfl (oq (l02In_ok _ s ((r.qM[k]!).qE) r.qE (qH (H.get 2 rfl) 0 3) (H.get 3 rfl).1 (H.get 4 rfl).1 ql ql) H fun w81 H=>⟨H,(rgp 23 (.bool (!(dec (Lies s.qx r.qE ((r.qM[k]!).qE))))) 126 H ?_)⟩) zI)
           refine rtp 24 (.bool (!(dec (Lies s.qx r.qE ((r.qM[k]!).qE))))) H ?_
           refine rtp 25 (.bool (!(dec (Lies s.qx r.qE ((r.qM[k]!).qE))))) H ?_
           cases h83:(!(dec (Lies s.qx r.qE ((r.qM[k]!).qE))))
           ·skip
            replace h83:=xm h83
            replace h83:=Qd h83
            refine rgp 26 (pp bs os) 139 H ?_
            refine rgp 27 (pp b74 (o75+(k:Int).toNat * 2)) 139 H ?_
            refine rgp 28 (pp b74 (o75+(k:Int).toNat * 2)) 139 H ?_
            refine gF 29 rfl rfl H ?_
            refine gL 30 rfl rfl (fun _ h=>h.xX 1 rfl 1 rfl) H ?_
            refine zH [31] qh qm (r_opG rfl (e:=139) rfl rfl (oq (QA _ s ((r.qM[k]!).Qz) (qH (H.get 2 rfl) 0 3) (H.get 3 rfl).1 (H.get 4 rfl).1 (H.get 0 rfl).1) H fun w84 H=>⟨H,(rgp 32 (.bool (!(dec (zM s.xn ((r.qM[k]!).Qz))))) 139 H ?_)⟩) zI)
            refine rtp 33 (.bool (!(dec (zM s.xn ((r.qM[k]!).Qz))))) H ?_
            refine rtp 34 (.bool (!(dec (zM s.xn ((r.qM[k]!).Qz))))) H ?_
            cases h86:(!(dec (zM s.xn ((r.qM[k]!).Qz))))
            ·skip
             replace h86:=xm h86
             replace h86:=Qd h86
             refine rgp 35 (pp b74 (o75+(k:Int).toNat * 2)) 148 H ?_
             refine rgp 36 (pp b74 (o75+(k:Int).toNat * 2)) 148 H ?_
             refine gF 37 rfl rfl H ?_
             refine gL 38 rfl rfl (fun _ h=>h.xX 1 rfl 1 rfl) H ?_
             refine zH [39] qh qm (r_opG rfl (e:=148) rfl rfl (oq (l01Size_ok _ ((r.qM[k]!).Qz) (H.get 0 rfl).1 (by first | assumption | exact je ql | exact QB ql)) H fun w87 H=>⟨H,(rgp 40 (.bool ((sumL ((r.qM[k]!).Qz):Int) == 0)) 148 H ?_)⟩) zI)
             refine rtp 41 (.bool ((sumL ((r.qM[k]!).Qz):Int) == 0)) H ?_
             refine qZ qh (t_n (cE rfl (fun h89=>?_) (fun h89=>?_)))
             ·skip
              refine zcr (sp (.bool false) (zjr (t_r (zr5 (ret1 (.bool false) rfl rfl ⟨_,rfl,?_,H.base⟩)))))
              rw [xh (fun h=>by obtain ⟨h1,h2,h3,h4,h5,h6,h7,h8,h9,h10,h11⟩:=h;first | contradiction | omega | exact h3 ⟨‹_›,‹_›⟩ | (obtain ⟨q1,q2,q3,q4,q5⟩:=h11 k qf;first | contradiction | omega | (have:=q5 qf;omega)))]
             refine xx (t_n (zn ?_))
             refine yF rfl H fun H=>rtp 0 (yI k) H ?_
             refine rtp 1 (.bool (decide ((k:Int) > 0))) H ?_
             refine rtp 2 (.bool (decide ((k:Int) > 0))) H ?_
             cases h91:(decide ((k:Int) > 0))
             ·skip
              replace h91:=of_decide_eq_false h91
              refine zC [3,4,5,6,7,8,9,10,11,12,13,14,15,16] 14 (H) (rtp 17 (.bool false) H ?_)
              refine qZ qh (t_n (xW false rfl (fun h=>absurd h qj) (fun _=>xx (b_n (t_n (zk (sp (yI k) (sw (zX k 1 rfl rfl qf (sp (yI (k+1)) (zt (xu (m' :=r.qM.length - (k+1)) qf ⟨_,k+1,uE3,?_,?_,rfl,H.sel _ (.refl _) _ qm⟩))))))))))))
              · omega
              · exact i1.succ ⟨‹_›,‹_›,‹_›,‹_›,fun hk=>by omega⟩
             replace h91:=of_decide_eq_true h91
             refine rgp 3 (pp br or) 158 H ?_
             refine rgp 4 (pp br or) 158 H ?_
             refine gF 5 rfl rfl H ?_
             refine gL 6 rfl rfl (fun _ h=>h.xX 5 rfl 7 rfl) H ?_
             refine rgp 7 (yI k) 158 H ?_
             refine rg 8 (yI (k - 1)) 158 (y_sub k 1 rfl rfl qf) H ?_
             obtain ⟨ae92Bag,ce92Bag,Fe92Bag,H⟩:=H.yX 11 rfl (k - 1) (k - 1) qf qf qf
             refine gI 9 rfl rfl rfl (H.sel _ (.refl _) _ (fun _ h=>List.mem_cons_of_mem _ (List.mem_cons_of_mem _ (h)))) ?_
             refine gF 10 rfl rfl (H.sel _ (.refl _) _ (fun _ h=>List.mem_cons_of_mem _ (List.mem_cons_of_mem _ (h)))) ?_
             refine rgp 12 (pp b74 (o75+(k:Int).toNat * 2)) 158 (H.sel _ (.refl _) _ (fun _ h=>List.mem_cons_of_mem _ (List.mem_cons_of_mem _ (h)))) ?_
             refine rgp 13 (pp b74 (o75+(k:Int).toNat * 2)) 158 (H.sel _ (.refl _) _ (fun _ h=>List.mem_cons_of_mem _ (List.mem_cons_of_mem _ (h)))) ?_
             refine gF 14 rfl rfl (H.sel _ (.refl _) _ (fun _ h=>List.mem_cons_of_mem _ (List.mem_cons_of_mem _ (h)))) ?_
             refine gL 15 rfl rfl (fun _ h=>h.xX 1 rfl 0 rfl) (H.sel _ (.refl _) _ (fun _ h=>List.mem_cons_of_mem _ (List.mem_cons_of_mem _ (h)))) ?_
             refine zH [11] qh qm (r_opG rfl (e:=158) rfl rfl (zh (yI ((r.qM[k - 1]!).qE)) isAgg2 rfl (H.xX 1 rfl 0 rfl) (⟨H.dF 2,(rgp 16 (.bool (decide (((r.qM[k - 1]!).qE:Int)≥((r.qM[k]!).qE)))) 158 (H.sel _ (.refl _) _ (fun _ h=>List.mem_cons_of_mem _ (List.mem_cons_of_mem _ (h)))) ?_)⟩)) zI)
             refine rtp 17 (.bool (decide (((r.qM[k - 1]!).qE:Int)≥((r.qM[k]!).qE)))) (H.sel _ (.refl _) _ (fun _ h=>List.mem_cons_of_mem _ (List.mem_cons_of_mem _ (h)))) ?_
             refine qZ qh (t_n (cD rfl (fun h93=>?_) (fun h93=>?_)))
             ·skip
              refine zcr (sp (.bool false) (zjr (zr5 (ret1 (.bool false) rfl rfl ⟨_,rfl,?_,H.base⟩))))
              rw [xh (fun h=>by obtain ⟨h1,h2,h3,h4,h5,h6,h7,h8,h9,h10,h11⟩:=h;first | contradiction | omega | exact h3 ⟨‹_›,‹_›⟩ | (obtain ⟨q1,q2,q3,q4,q5⟩:=h11 k qf;first | contradiction | omega | (have:=q5 qf;omega)))]
             refine xx (b_n (t_n (zk (sp (yI k) (sw (zX k 1 rfl rfl qf (sp (yI (k+1)) (zt (xu (m' :=r.qM.length - (k+1)) qf ⟨_,k+1,uE3,?_,?_,rfl,H.sel _ (.refl _) _ qm⟩)))))))))
             · omega
             · exact i1.succ ⟨‹_›,‹_›,‹_›,‹_›,fun hk=>by omega⟩
            replace h86:=xB h86
            replace h86:=zJ h86
            refine zC [35,36,37,38,39,40] 6 (H) (rtp 41 (.bool true) H ?_)
            refine qZ qh (t_n (xW true rfl (fun _=>zcr (sp (.bool false) (zjr (t_r (zr5 (ret1 (.bool false) rfl rfl ⟨_,rfl,?_,H.base⟩)))))) (fun h=>absurd h qj)))
            rw [xh (fun h=>by obtain ⟨h1,h2,h3,h4,h5,h6,h7,h8,h9,h10,h11⟩:=h;first | contradiction | omega | exact h3 ⟨‹_›,‹_›⟩ | (obtain ⟨q1,q2,q3,q4,q5⟩:=h11 k qf;first | contradiction | omega | (have:=q5 qf;omega)))]
           replace h83:=xB h83
           replace h83:=zJ h83
           refine zC [26,27,28,29,30,31,32] 7 (H) (rtp 33 (.bool true) H ?_)
           refine rtp 34 (.bool true) H ?_
           refine zC [35,36,37,38,39,40] 6 (H) (rtp 41 (.bool true) H ?_)
           refine qZ qh (t_n (xW true rfl (fun _=>zcr (sp (.bool false) (zjr (t_r (zr5 (ret1 (.bool false) rfl rfl ⟨_,rfl,?_,H.base⟩)))))) (fun h=>absurd h qj)))
           rw [xh (fun h=>by obtain ⟨h1,h2,h3,h4,h5,h6,h7,h8,h9,h10,h11⟩:=h;first | contradiction | omega | exact h3 ⟨‹_›,‹_›⟩ | (obtain ⟨q1,q2,q3,q4,q5⟩:=h11 k qf;first | contradiction | omega | (have:=q5 qf;omega)))]
          replace h80:=xB h80
          replace h80:=Q4 h80
          refine zC [13,14,15,16,17,18,19,20,21,22,23] 11 (H) (rtp 24 (.bool true) H ?_)
          refine rtp 25 (.bool true) H ?_
          refine zC [26,27,28,29,30,31,32] 7 (H) (rtp 33 (.bool true) H ?_)
          refine rtp 34 (.bool true) H ?_
          refine zC [35,36,37,38,39,40] 6 (H) (rtp 41 (.bool true) H ?_)
          refine qZ qh (t_n (xW true rfl (fun _=>zcr (sp (.bool false) (zjr (t_r (zr5 (ret1 (.bool false) rfl rfl ⟨_,rfl,?_,H.base⟩)))))) (fun h=>absurd h qj)))
          rw [xh (fun h=>by obtain ⟨h1,h2,h3,h4,h5,h6,h7,h8,h9,h10,h11⟩:=h;first | contradiction | omega | exact h3 ⟨‹_›,‹_›⟩ | (obtain ⟨q1,q2,q3,q4,q5⟩:=h11 k qf;first | contradiction | omega | (have:=q5 qf;omega)))]
         refine zx4 (zcr (sp (.bool true) (zjr (ret1 (.bool true) rfl rfl ⟨_,rfl,?_,H.base⟩))))
         obtain rfl:k=r.qM.length:=by omega
         rw [yC ⟨by assumption,by omega,by simp_all,by omega,by assumption,by assumption,by assumption,by assumption,by assumption,by assumption,i1⟩]
        replace h67:=xB h67
        replace h67:=zJ h67
        refine xK [92,93,94,95,96,97] (sp (.bool true) (zjn (xW true rfl (fun _=>zcr (sp (.bool false) (zjr (t_r (ret1 (.bool false) rfl rfl ⟨_,rfl,?_,H.base⟩))))) (fun h=>absurd h qj))))
        rw [xh (fun h=>by obtain ⟨h1,h2,h3,h4,h5,h6,h7,h8,h9,h10,h11⟩:=h;first | contradiction | omega | exact h3 ⟨‹_›,‹_›⟩ | (obtain ⟨q1,q2,q3,q4,q5⟩:=h11 k qf;first | contradiction | omega | (have:=q5 qf;omega)))]
       replace h64:=xB h64
       replace h64:=zJ h64
       refine xK [83,84,85,86,87,88,89] (sps [.bool true,.bool true] (xK [92,93,94,95,96,97] (sp (.bool true) (zjn (xW true rfl (fun _=>zcr (sp (.bool false) (zjr (t_r (ret1 (.bool false) rfl rfl ⟨_,rfl,?_,H.base⟩))))) (fun h=>absurd h qj))))))
       rw [xh (fun h=>by obtain ⟨h1,h2,h3,h4,h5,h6,h7,h8,h9,h10,h11⟩:=h;first | contradiction | omega | exact h3 ⟨‹_›,‹_›⟩ | (obtain ⟨q1,q2,q3,q4,q5⟩:=h11 k qf;first | contradiction | omega | (have:=q5 qf;omega)))]
      replace h61:=xB h61
      replace h61:=zJ h61
      refine xK [74,75,76,77,78,79,80] (sps [.bool true,.bool true] (xK [83,84,85,86,87,88,89] (sps [.bool true,.bool true] (xK [92,93,94,95,96,97] (sp (.bool true) (zjn (xW true rfl (fun _=>zcr (sp (.bool false) (zjr (t_r (ret1 (.bool false) rfl rfl ⟨_,rfl,?_,H.base⟩))))) (fun h=>absurd h qj))))))))
      rw [xh (fun h=>by obtain ⟨h1,h2,h3,h4,h5,h6,h7,h8,h9,h10,h11⟩:=h;first | contradiction | omega | exact h3 ⟨‹_›,‹_›⟩ | (obtain ⟨q1,q2,q3,q4,q5⟩:=h11 k qf;first | contradiction | omega | (have:=q5 qf;omega)))]
     replace h58:=xB h58
     replace h58:=zJ h58
     refine xK [65,66,67,68,69,70,71] (sps [.bool true,.bool true] (xK [74,75,76,77,78,79,80] (sps [.bool true,.bool true] (xK [83,84,85,86,87,88,89] (sps [.bool true,.bool true] (xK [92,93,94,95,96,97] (sp (.bool true) (zjn (xW true rfl (fun _=>zcr (sp (.bool false) (zjr (t_r (ret1 (.bool false) rfl rfl ⟨_,rfl,?_,H.base⟩))))) (fun h=>absurd h qj))))))))))
     rw [xh (fun h=>by obtain ⟨h1,h2,h3,h4,h5,h6,h7,h8,h9,h10,h11⟩:=h;first | contradiction | omega | exact h3 ⟨‹_›,‹_›⟩ | (obtain ⟨q1,q2,q3,q4,q5⟩:=h11 k qf;first | contradiction | omega | (have:=q5 qf;omega)))]
    replace h55:=xB h55
    replace h55:=zJ h55
    refine xK [56,57,58,59,60,61,62] (sps [.bool true,.bool true] (xK [65,66,67,68,69,70,71] (sps [.bool true,.bool true] (xK [74,75,76,77,78,79,80] (sps [.bool true,.bool true] (xK [83,84,85,86,87,88,89] (sps [.bool true,.bool true] (xK [92,93,94,95,96,97] (sp (.bool true) (zjn (xW true rfl (fun _=>zcr (sp (.bool false) (zjr (t_r (ret1 (.bool false) rfl rfl ⟨_,rfl,?_,H.base⟩))))) (fun h=>absurd h qj))))))))))))
    rw [xh (fun h=>by obtain ⟨h1,h2,h3,h4,h5,h6,h7,h8,h9,h10,h11⟩:=h;first | contradiction | omega | exact h3 ⟨‹_›,‹_›⟩ | (obtain ⟨q1,q2,q3,q4,q5⟩:=h11 k qf;first | contradiction | omega | (have:=q5 qf;omega)))]
   replace h51:=eq_of_beq h51
   refine zC [34,35,36,37,38,39] 6 (H) (rtp 40 (.bool true) H ?_)
   refine qZ qh (t_n (xW true rfl (fun _=>zcr (sp (.bool false) (zjr (t_r (ret1 (.bool false) rfl rfl ⟨_,rfl,?_,H.base⟩))))) (fun h=>absurd h qj)))
   rw [xh (fun h=>by obtain ⟨h1,h2,h3,h4,h5,h6,h7,h8,h9,h10,h11⟩:=h;first | contradiction | omega | exact h3 ⟨‹_›,‹_›⟩ | (obtain ⟨q1,q2,q3,q4,q5⟩:=h11 k qf;first | contradiction | omega | (have:=q5 qf;omega)))]
  replace h7:=xB h7
  replace h7:=Q4 h7
  refine zC [21,22,23,24,25,26,27,28,29,30,31] 11 (H) (rtp 32 (.bool true) H ?_)
  refine rtp 33 (.bool true) H ?_
  refine zC [34,35,36,37,38,39] 6 (H) (rtp 40 (.bool true) H ?_)
  refine qZ qh (t_n (xW true rfl (fun _=>zcr (sp (.bool false) (zjr (t_r (ret1 (.bool false) rfl rfl ⟨_,rfl,?_,H.base⟩))))) (fun h=>absurd h qj)))
  rw [xh (fun h=>by obtain ⟨h1,h2,h3,h4,h5,h6,h7,h8,h9,h10,h11⟩:=h;first | contradiction | omega | exact h3 ⟨‹_›,‹_›⟩ | (obtain ⟨q1,q2,q3,q4,q5⟩:=h11 k qf;first | contradiction | omega | (have:=q5 qf;omega)))]
 replace h4:=xB h4
 replace h4:=Q4 h4
 refine zC [13,14,15,16,17,18] 6 (H) (rtp 19 (.bool true) H ?_)
 refine rtp 20 (.bool true) H ?_
 refine zC [21,22,23,24,25,26,27,28,29,30,31] 11 (H) (rtp 32 (.bool true) H ?_)
 refine rtp 33 (.bool true) H ?_
 refine zC [34,35,36,37,38,39] 6 (H) (rtp 40 (.bool true) H ?_)
 refine qZ qh (t_n (xW true rfl (fun _=>zcr (sp (.bool false) (zjr (t_r (ret1 (.bool false) rfl rfl ⟨_,rfl,?_,H.base⟩))))) (fun h=>absurd h qj)))
 rw [xh (fun h=>by obtain ⟨h1,h2,h3,h4,h5,h6,h7,h8,h9,h10,h11⟩:=h;first | contradiction | omega | exact h3 ⟨‹_›,‹_›⟩ | (obtain ⟨q1,q2,q3,q4,q5⟩:=h11 k qf;first | contradiction | omega | (have:=q5 qf;omega)))]

theorem l02State_ok (w:World) (s:qy) (t:qG) {qB:yOA} {xe:yLN} {qL:yOA} {xI:yLN} {qX:yOA} {zg:yLN} {xG:yOA} {zO:yLN} {qO:yOA} {xN:yLN} (hs:vV w bs os (yS s qB qA qL qJ)) (qV:qU.rep w xe [.slice qB s.qx.length qA] s.qx) (xF:qU.rep w xI [.slice qL s.qw.length qJ] s.qw) (ht:vV w bt ot (yT t qX qR xG xA qO qN)) (zf:qU.rep w zg [.slice qX t.qC.length qR] t.qC) (zK:qU.rep w zO [.slice xG t.qI.length xA] t.qI) (xO:qU.rep w xN [.slice qO t.qF.length qN] t.qF) (p0:jE s):Calls Try.prog 36 #[pp bs os,pp bt ot] w (Ret (fun v w' =>v=.bool (dec (zl s t))) w):=by
 refine en func36 ntmps36 ?_
 have H:=(((((((St.start w).arg xO).arg zK).arg zf).argAt ht).arg xF).arg qV).argAt hs
 have vG:=qP qV
 have jM:=qP xF
 have Qh:=qP zf
 have QR:=qP zK
 have yO:=qP xO
 clear hs qV xF ht zf zK xO
 have p1:=p0.2.1
 refine zcr (sp (.bool false) (zjn (zn (zn ?_))))
 refine yF rfl H fun H=>rtp 0 (pp bt ot) H ?_
 refine rtp 1 (pp bt ot) H ?_
 refine tF 2 rfl rfl H ?_
 refine tL 3 rfl rfl (fun _ h=>h.xX 3 rfl 0 rfl) H ?_
 refine tN 4 rfl rfl H ?_
 refine rtp 5 (pp bs os) H ?_
 refine rtp 6 (pp bs os) H ?_
 refine tF 7 rfl rfl H ?_
 refine tL 8 rfl rfl (fun _ h=>h.xX 0 rfl 1 rfl) H ?_
 refine tN 9 rfl rfl H ?_
 refine rtp 10 (.bool ((t.qC.length:Int) != s.qx.length)) H ?_
 refine rtp 11 (.bool ((t.qC.length:Int) != s.qx.length)) H ?_
 cases h2:((t.qC.length:Int) != s.qx.length)
 ·skip
  replace h2:=zL h2
  refine rgp 12 (pp bt ot) 17 H ?_
  refine rgp 13 (pp bt ot) 17 H ?_
  refine gF 14 rfl rfl H ?_
  refine gL 15 rfl rfl (fun _ h=>h.xX 3 rfl 1 rfl) H ?_
  refine gN 16 rfl rfl H ?_
  refine rgp 17 (pp bs os) 17 H ?_
  refine rgp 18 (pp bs os) 17 H ?_
  refine gF 19 rfl rfl H ?_
  refine gL 20 rfl rfl (fun _ h=>h.xX 0 rfl 1 rfl) H ?_
  refine gN 21 rfl rfl H ?_
  refine rgp 22 (.bool ((t.qI.length:Int) != s.qx.length)) 17 H ?_
  refine rtp 23 (.bool ((t.qI.length:Int) != s.qx.length)) H ?_
  refine rtp 24 (.bool ((t.qI.length:Int) != s.qx.length)) H ?_
  cases h3:((t.qI.length:Int) != s.qx.length)
  ·skip
   replace h3:=zL h3
   refine rgp 25 (pp bt ot) 30 H ?_
   refine rgp 26 (pp bt ot) 30 H ?_
   refine gF 27 rfl rfl H ?_
   refine gL 28 rfl rfl (fun _ h=>h.xX 3 rfl 0 rfl) H ?_
   obtain ⟨b4,o5,rfl⟩:=H.addr 4 rfl qf
   refine gI 29 rfl rfl rfl H ?_
   refine gL 30 rfl rfl (fun _ h=>h.Xg 4 rfl 0 qf qf) H ?_
   refine rgp 31 (.bool (!(t.qC[0]!))) 30 H ?_
   refine rtp 32 (.bool (!(t.qC[0]!))) H ?_
   refine rtp 33 (.bool (!(t.qC[0]!))) H ?_
   cases h6:(!(t.qC[0]!))
   ·skip
    replace h6:=xm h6
    refine rgp 34 (pp bs os) 39 H ?_
    refine rgp 35 (pp bt ot) 39 H ?_
    refine rgp 36 (pp bt ot) 39 H ?_
    refine gF 37 rfl rfl H ?_
    refine gL 38 rfl rfl (fun _ h=>h.xX 3 rfl 2 rfl) H ?_
    refine zH [39] qh qm (r_opG rfl (e:=39) rfl rfl (oq (QA _ s t.qF (qH (H.get 0 rfl) 0 3) (H.get 1 rfl).1 (H.get 2 rfl).1 (H.get 6 rfl).1) H fun w7 H=>⟨H,(rgp 40 (.bool (!(dec (zM s.xn t.qF)))) 39 H ?_)⟩) zI)
    refine rtp 41 (.bool (!(dec (zM s.xn t.qF)))) H ?_
    refine qZ qh (t_n (cQ rfl (fun h9=>?_) (fun h9=>?_)))
    ·skip
     refine zcr (sp (.bool false) (zjr (t_r (ret1 (.bool false) rfl rfl ⟨_,rfl,?_,H.base⟩))))
     rw [xh (fun h=>by obtain ⟨h1,h2,h3,h4,h5⟩:=h;first | contradiction | omega | (simp_all;done) | (obtain ⟨q1,q2⟩:=h5 k qf;first | contradiction | (have:=q2 ql;omega)))]
    refine xx (t_n (zcc (sp (yI 0) (zjn (xw ?_)))))
    refine vJ (fun m' ρ w10=>∃ (zB:Env) (k:Nat),ρ=upd (upd (upd zB 0 (pp bs os)) 1 (pp bt ot)) 5 (yI k)∧(k≤t.qI.length)∧(BagsTo s t k)∧m' =t.qI.length - k∧St w w10 [] [atF bs os (yS s qB qA qL qJ),sF false xe qB qA s.qx,sF false xI qL qJ s.qw,atF bt ot [.slice (aa b4 o5) t.qC.length qR,.slice xG t.qI.length xA,.slice qO t.qF.length qN],sF false zg (aa b4 o5) qR t.qC,sF false zO xG xA t.qI,sF false xN qO qN t.qF]) (t.qI.length - 0) ⟨_,0,uE3,qf,(by exact fun j hj=>by omega),rfl,H⟩ ?_
    clear H
    rintro m' ρ w11 ⟨zB,k,rfl,i0,i1,rfl,H⟩
    refine zcc (sps [yI k,pp bt ot,pp bt ot] (oF rfl (oL rfl (H.xX 3 rfl 1 rfl) (oN rfl (sp (.bool (decide ((k:Int) < t.qI.length))) (zjn (cD rfl (fun h12=>?_) (fun h12=>?_))))))))
    ·skip
     refine xx (t_n (zn (xw (zcr (sps [pp bs os,pp bt ot,pp bt ot] (oF rfl (oL rfl (H.xX 3 rfl 1 rfl) (sp (yI k) ?_))))))))
     obtain ⟨b13,o14,rfl⟩:=H.addr 5 rfl qf
     obtain ⟨ae15,ce15,Fe15,H⟩:=H.QL 5 rfl k k qf qf qf
     refine oI rfl rfl (oL rfl (H.xX 1 rfl 0 rfl) (sw (oq (QA _ s (t.qI[k]!) (qH (H.get 2 rfl) 0 3) (H.get 3 rfl).1 (H.get 4 rfl).1 (H.get 0 rfl).1) H fun w16 H=>sps [.bool (!(dec (zM s.xn (t.qI[k]!)))),.bool (!(dec (zM s.xn (t.qI[k]!))))] ?_)))
     cases h18:(!(dec (zM s.xn (t.qI[k]!))))
     ·skip
      replace h18:=xm h18
      replace h18:=Qd h18
      refine qK 67 rfl rfl (sp (pp bt ot) (qK 67 rfl rfl (sp (pp bt ot) (qK 67 rfl rfl (oF rfl (qK 67 rfl rfl (oL rfl (H.xX 5 rfl 0 rfl) (qK 67 rfl rfl (sp (yI k) (qK 67 rfl rfl (oI rfl rfl (qK 67 rfl rfl (oL rfl (H.Xg 6 rfl k qf qf) (qK 67 rfl rfl (sp (.bool (!(t.qC[k]!))) (qK 67 rfl rfl (sp (.bool (!(t.qC[k]!))) ?_)))))))))))))))))
      cases h19:(!(t.qC[k]!))
      ·skip
       replace h19:=xm h19
       refine xK [77,78,79,80,81,82,83,84,85] (qK 67 rfl rfl (sps [.bool false,.bool false] (zjn (xW false rfl (fun h=>absurd h qj) (fun _=>xx (b_n (t_n (zk (sp (yI k) (sw (zX k 1 rfl rfl qf (sp (yI (k+1)) (zt (xu (m' :=t.qI.length - (k+1)) qf ⟨_,k+1,uE3,?_,?_,rfl,H.sel _ (.refl _) _ qm⟩))))))))))))))
       · omega
       · exact i1.succ ‹_› (fun hk=>by first | omega | simp_all)
      replace h19:=xB h19
      refine qK 76 rfl rfl (sp (pp bt ot) (qK 76 rfl rfl (sp (pp bt ot) (qK 76 rfl rfl (oF rfl (qK 76 rfl rfl (oL rfl (H.xX 5 rfl 1 rfl) (qK 76 rfl rfl (sp (yI k) (qK 76 rfl rfl (oI rfl rfl (qK 76 rfl rfl (oL rfl (H.xX 1 rfl 0 rfl) (qK 76 rfl rfl (sw (oq (l01Size_ok _ (t.qI[k]!) (H.get 0 rfl).1 (by first | assumption | exact je ql | exact QB ql)) H fun w20 H=>qK 76 rfl rfl (sp (.bool (decide ((sumL (t.qI[k]!):Int) > 0))) (qK 67 rfl rfl ?_))))))))))))))))))
      refine sps [.bool (decide ((sumL (t.qI[k]!):Int) > 0)),.bool (decide ((sumL (t.qI[k]!):Int) > 0))] (zjn (cD rfl (fun h22=>?_) (fun h22=>?_)))
      ·skip
       refine zcr (sp (.bool false) (zjr (zr5 (ret1 (.bool false) rfl rfl ⟨_,rfl,?_,H.base⟩))))
       rw [xh (fun h=>by obtain ⟨h1,h2,h3,h4,h5⟩:=h;first | contradiction | omega | (simp_all;done) | (obtain ⟨q1,q2⟩:=h5 k qf;first | contradiction | (have:=q2 ql;omega)))]
      refine xx (b_n (t_n (zk (sp (yI k) (sw (zX k 1 rfl rfl qf (sp (yI (k+1)) (zt (xu (m' :=t.qI.length - (k+1)) qf ⟨_,k+1,uE3,?_,?_,rfl,H.sel _ (.refl _) _ qm⟩)))))))))
      · omega
      · exact i1.succ ‹_› (fun hk=>by first | omega | simp_all)
     replace h18:=xB h18
     replace h18:=zJ h18
     refine xK [68,69,70,71,72,73,74,75,76,77,78,79,80,81,82,83,84,85,86] (sp (.bool true) (zjn (xW true rfl (fun _=>zcr (sp (.bool false) (zjr (zr5 (ret1 (.bool false) rfl rfl ⟨_,rfl,?_,H.base⟩))))) (fun h=>absurd h qj))))
     rw [xh (fun h=>by obtain ⟨h1,h2,h3,h4,h5⟩:=h;first | contradiction | omega | (simp_all;done) | (obtain ⟨q1,q2⟩:=h5 k qf;first | contradiction | (have:=q2 ql;omega)))]
    refine zx4 (zcr (sp (.bool true) (zjr (ret1 (.bool true) rfl rfl ⟨_,rfl,?_,H.base⟩))))
    obtain rfl:k=t.qI.length:=by omega
    rw [yC ⟨by omega,by omega,by first | assumption | simp_all,by assumption,i1⟩]
   replace h6:=xB h6
   refine zC [34,35,36,37,38,39,40] 7 (H) (rtp 41 (.bool true) H ?_)
   refine qZ qh (t_n (xW true rfl (fun _=>zcr (sp (.bool false) (zjr (t_r (ret1 (.bool false) rfl rfl ⟨_,rfl,?_,H.base⟩))))) (fun h=>absurd h qj)))
   rw [xh (fun h=>by obtain ⟨h1,h2,h3,h4,h5⟩:=h;first | contradiction | omega | (simp_all;done) | (obtain ⟨q1,q2⟩:=h5 k qf;first | contradiction | (have:=q2 ql;omega)))]
  replace h3:=bne_iff_ne.1 h3
  refine zC [25,26,27,28,29,30,31] 7 (H) (rtp 32 (.bool true) H ?_)
  refine rtp 33 (.bool true) H ?_
  refine zC [34,35,36,37,38,39,40] 7 (H) (rtp 41 (.bool true) H ?_)
  refine qZ qh (t_n (xW true rfl (fun _=>zcr (sp (.bool false) (zjr (t_r (ret1 (.bool false) rfl rfl ⟨_,rfl,?_,H.base⟩))))) (fun h=>absurd h qj)))
  rw [xh (fun h=>by obtain ⟨h1,h2,h3,h4,h5⟩:=h;first | contradiction | omega | (simp_all;done) | (obtain ⟨q1,q2⟩:=h5 k qf;first | contradiction | (have:=q2 ql;omega)))]
 replace h2:=bne_iff_ne.1 h2
 refine zC [12,13,14,15,16,17,18,19,20,21,22] 11 (H) (rtp 23 (.bool true) H ?_)
 refine rtp 24 (.bool true) H ?_
 refine zC [25,26,27,28,29,30,31] 7 (H) (rtp 32 (.bool true) H ?_)
 refine rtp 33 (.bool true) H ?_
 refine zC [34,35,36,37,38,39,40] 7 (H) (rtp 41 (.bool true) H ?_)
 refine qZ qh (t_n (xW true rfl (fun _=>zcr (sp (.bool false) (zjr (t_r (ret1 (.bool false) rfl rfl ⟨_,rfl,?_,H.base⟩))))) (fun h=>absurd h qj)))
 rw [xh (fun h=>by obtain ⟨h1,h2,h3,h4,h5⟩:=h;first | contradiction | omega | (simp_all;done) | (obtain ⟨q1,q2⟩:=h5 k qf;first | contradiction | (have:=q2 ql;omega)))]

theorem l02Parent_ok (w:World) (s:qy) (t:qG) (c:Int) {qB:yOA} {xe:yLN} {qL:yOA} {xI:yLN} {qX:yOA} {zg:yLN} {xG:yOA} {zO:yLN} {qO:yOA} {xN:yLN} (hs:vV w bs os (yS s qB qA qL qJ)) (qV:qU.rep w xe [.slice qB s.qx.length qA] s.qx) (xF:qU.rep w xI [.slice qL s.qw.length qJ] s.qw) (ht:vV w bt ot (yT t qX qR xG xA qO qN)) (zf:qU.rep w zg [.slice qX t.qC.length qR] t.qC) (zK:qU.rep w zO [.slice xG t.qI.length xA] t.qI) (xO:qU.rep w xN [.slice qO t.qF.length qN] t.qF) (p0:jE s) (p1:CellIn s c) (p2:t.qC.length=s.qx.length):Calls Try.prog 97 #[pp bs os,pp bt ot,yI c] w (Ret (fun v w' =>v=yI (xg s t c)) w):=by
 refine en func97 ntmps97 ?_
 have H:=(((((((St.start w).arg xO).arg zK).arg zf).argAt ht).arg xF).arg qV).argAt hs
 have vG:=qP qV
 have jM:=qP xF
 have Qh:=qP zf
 have QR:=qP zK
 have yO:=qP xO
 clear hs qV xF ht zf zK xO
 have p3:=p0.step p1.1 p1.2
 refine zcr (sp (yI 0) (zjc (sps [pp bs os,pp bs os] (oF rfl (oL rfl (H.xX 0 rfl 1 rfl) (sp (yI c) ?_))))))
 obtain ⟨b1,o2,rfl⟩:=H.addr 1 rfl qf
 refine oI rfl rfl (oL rfl (H.yE 1 rfl c qf qf) (sp (yI (s.qx[c.toNat]!)) (zjn (zn (xw ?_)))))
 refine vJ (fun m' ρ w3=>∃ (zB:Env) (y:Int) (n:Nat),ρ=upd (upd (upd (upd zB 0 (pp bs os)) 1 (pp bt ot)) 6 (yI 0)) 7 (yI y)∧(-1≤y∧y≤(s.qx.length:Int) - 1)∧(y < n)∧(xg s t c=climb s.qx t.qC n y)∧m' =(y+1).toNat∧St w w3 [] [atF bs os [yI s.xn,.slice (aa b1 o2) s.qx.length qA,.slice qL s.qw.length qJ],sF false xe (aa b1 o2) qA s.qx,sF false xI qL qJ s.qw,atF bt ot (yT t qX qR xG xA qO qN),sF false zg qX qR t.qC,sF false zO xG xA t.qI,sF false xN qO qN t.qF]) (((s.qx[c.toNat]!)+1).toNat) ⟨_,s.qx[c.toNat]!,s.qx.length,uE4,qf,qf,(by rfl),rfl,H⟩ ?_
 clear H
 rintro m' ρ w4 ⟨zB,y,n,rfl,i0,i1,i2,rfl,H⟩
 have up:=fun h=>p0.step (c:=y) h i0.2
 refine zcc (sps [yI y,.bool (decide ((y:Int)≥0)),.bool (decide ((y:Int)≥0))] ?_)
 cases h5:(decide ((y:Int)≥0))
 ·skip
  replace h5:=of_decide_eq_false h5
  refine xK [18,19,20,21,22,23,24,25] (sp (.bool false) (zjn (xW false rfl (fun h=>absurd h qj) (fun _=>zx4 (zcr (sps [yI y,yI y] (zjr (ret1 (yI y) rfl rfl ⟨_,rfl,?_,H.base⟩))))))))
  rw [i2,climb_end (by first | omega | simp_all)]
 replace h5:=of_decide_eq_true h5
 refine qK 17 rfl rfl (sp (pp bt ot) (qK 17 rfl rfl (sp (pp bt ot) (qK 17 rfl rfl (oF rfl (qK 17 rfl rfl (oL rfl (H.xX 3 rfl 0 rfl) (qK 17 rfl rfl (sp (yI y) (qK 17 rfl rfl ?_))))))))))
 obtain ⟨b6,o7,rfl⟩:=H.addr 4 rfl qf
 refine oI rfl rfl (qK 17 rfl rfl (oL rfl (H.Xg 4 rfl y qf qf) (qK 17 rfl rfl (sps [.bool (!(t.qC[y.toNat]!)),.bool (!(t.qC[y.toNat]!))] (zjn (xW (!(t.qC[y.toNat]!)) rfl (fun h8=>?_) (fun h8=>?_)))))))
 ·skip
  replace h8:=xB h8
  refine xx (t_n (xw (zk (sps [pp bs os,pp bs os] (oF rfl (oL rfl (H.xX 0 rfl 1 rfl) (sp (yI y) (oI rfl rfl (oL rfl (H.yE 1 rfl y qf qf) (sp (yI (s.qx[y.toNat]!)) (zt (b_n ?_))))))))))))
  have up1:=up qf
  refine xu (m' :=((s.qx[y.toNat]!)+1).toNat) qf ⟨_,(s.qx[y.toNat]!),n - 1,uE4,?_,?_,?_,rfl,H⟩
  · omega
  · omega
  · exact i2.trans (climb_go qf qf ‹_›)
 replace h8:=xm h8
 refine zx4 (zcr (sps [yI y,yI y] (zjr (ret1 (yI y) rfl rfl ⟨_,rfl,?_,H.base⟩))))
 rw [i2,climb_end (by first | omega | simp_all)]

theorem l02Ok_ok (w:World) (s:qy) {qB:yOA} {xe:yLN} {qL:yOA} {xI:yLN} (hs:vV w bs os (yS s qB qA qL qJ)) (qV:qU.rep w xe [.slice qB s.qx.length qA] s.qx) (xF:qU.rep w xI [.slice qL s.qw.length qJ] s.qw):Calls Try.prog 35 #[pp bs os] w (Ret (fun v w' =>v=.bool (dec (yH s))) w):=by
 refine en func35 ntmps35 ?_
 have H:=(((St.start w).arg xF).arg qV).argAt hs
 have vG:=qP qV
 have jM:=qP xF
 clear hs qV xF
 have p1:=fun h:jE s=>h.2.1
 refine zcr (sp (.bool false) (zjcc (sp (pp bs os) (sw (oq (l02Frame_ok _ s (qH (H.get 0 rfl) 0 3) (H.get 1 rfl).1 (H.get 2 rfl).1) H fun w1 H=>sps [.bool (!(dec (jE s))),.bool (!(dec (jE s)))] ?_)))))
 cases h3:(!(dec (jE s)))
 ·skip
  replace h3:=xm h3
  replace h3:=Qd h3
  refine qK 8 rfl rfl (sp (pp bs os) (qK 8 rfl rfl (sp (pp bs os) (qK 8 rfl rfl (oF rfl (qK 8 rfl rfl (oL rfl (H.xX 0 rfl 2 rfl) (qK 8 rfl rfl (oN rfl (qK 8 rfl rfl (sps [.bool (decide ((s.qw.length:Int) > 16)),.bool (decide ((s.qw.length:Int) > 16))] (zjn (cD rfl (fun h4=>?_) (fun h4=>?_))))))))))))))
  ·skip
   refine zcr (sp (.bool false) (zjr (t_r (ret1 (.bool false) rfl rfl ⟨_,rfl,?_,H.base⟩))))
   rw [xh (fun h=>by obtain ⟨h1,h2,h3⟩:=h;first | contradiction | omega | (obtain ⟨q1,q2⟩:=h3 k qf;first | contradiction | (have:=XJ (k:=k+1) q;omega)))]
  have p2:=p1 ql
  refine xx (t_n (zcr (sps [pp bs os,pp bs os] (oF rfl (oL rfl (H.xX 0 rfl 1 rfl) (oN rfl (sw (o_make1 H underlying24 ti2 rfl s.qx.length rfl rfl qf qf fun b5 w6 H=>?_))))))))
  replace H:St _ _ [.box b5 (List.replicate s.qx.length (yI 0)) 2] _:=H
  refine sp (.slice (aa b5 0) s.qx.length s.qx.length) (zjcc (sp (yI 0) (zjn (xw ?_))))
  rw [ints_zero,counts_zero] at H
  refine vJ (fun m' ρ w7=>∃ (zB:Env) (k:Nat),ρ=upd (upd (upd zB 0 (pp bs os)) 3 (.slice (aa b5 0) s.qx.length s.qx.length)) 4 (yI k)∧(k≤s.qw.length)∧(RulesTo s k)∧m' =s.qw.length - k∧St w w7 [.box b5 ((counts s k).map (Value.int .i64)) 2] [atF bs os (yS s qB qA qL qJ),sF false xe qB qA s.qx,sF false xI qL qJ s.qw]) (s.qw.length - 0) ⟨_,0,uE3,qf,(by exact fun j hj=>by omega),rfl,H⟩ ?_
  clear H
  rintro m' ρ w8 ⟨zB,k,rfl,i0,i1,rfl,H⟩
  refine zcc (sps [yI k,pp bs os,pp bs os] (oF rfl (oL rfl (H.xX 0 rfl 2 rfl) (oN rfl (sp (.bool (decide ((k:Int) < s.qw.length))) (zjn (cD rfl (fun h9=>?_) (fun h9=>?_))))))))
  ·skip
   refine xx (t_n (zn (xw (zcc (sps [pp bs os,pp bs os,pp bs os] (oF rfl (oL rfl (H.xX 0 rfl 2 rfl) (sp (yI k) ?_))))))))
   obtain ⟨b10,o11,rfl⟩:=H.addr 2 rfl qf
   obtain ⟨ae12Need,ce12Need,Fe12Need,ae12Have,ce12Have,Fe12Have,ae12Lack,ce12Lack,Fe12Lack,ae12Here,ce12Here,Fe12Here,ae12Out,ce12Out,Fe12Out,ae12Into,ce12Into,Fe12Into,H⟩:=H.Qo 2 rfl k k qf qf qf
   refine oI rfl rfl (sw (oq (l02Rule_ok _ s (s.qw[k]!) (qH (H.get 7 rfl) 0 3) (H.get 8 rfl).1 (H.get 9 rfl).1 (qH (H.get 6 rfl) 0 9) (H.get 0 rfl).1 (H.get 1 rfl).1 (H.get 2 rfl).1 (H.get 3 rfl).1 (H.get 4 rfl).1 (H.get 5 rfl).1 ql) H fun w13 H=>sp (.bool (!(dec (RuleOk s (s.qw[k]!))))) (zjn (cQ rfl (fun h15=>?_) (fun h15=>?_)))))
   ·skip
    refine zcr (sp (.bool false) (zjr (t_r (zr5 (ret1 (.bool false) rfl rfl ⟨_,rfl,?_,H.base⟩)))))
    rw [xh (fun h=>by obtain ⟨h1,h2,h3⟩:=h;first | contradiction | omega | (obtain ⟨q1,q2⟩:=h3 k qf;first | contradiction | (have:=XJ (k:=k+1) q;omega)))]
   have q:=(h15).1
   refine xx (t_n (zcr (sps [.slice (aa b5 0) s.qx.length s.qx.length,pp bs os,pp bs os] (oF rfl (oL rfl (H.xX 7 rfl 2 rfl) (sp (yI k) (oI rfl rfl (oF rfl (oL rfl (H.xX 6 rfl 0 rfl) (oI rfl rfl (oL rfl (H.cell 0 rfl (ints_get (by rw [counts_len];omega))) (sw (zX ((counts s k)[((s.qw[k]!).qE:Int).toNat]!) 1 rfl rfl (by (first | omega | (rw [XJ q];have:=ofCell_bd s.qw (s.qw[k]!).qE k;omega))) (oI rfl rfl ?_))))))))))))))
   refine sw (o_store1 H 0 rfl (yI (((counts s k)[((s.qw[k]!).qE:Int).toNat]!)+1)) sizeOf2 rfl rfl rfl (ints_lt (by rw [counts_len];omega)) fun w16 H=>?_)
   rw [ints_set] at H
   rw [counts_succ q] at H
   replace H:St _ _ [.box b5 ((counts s (k+1)).map (Value.int .i64)) 2] _:=H
   refine zjc (sps [.slice (aa b5 0) s.qx.length s.qx.length,pp bs os,pp bs os] (oF rfl (oL rfl (H.xX 7 rfl 2 rfl) (sp (yI k) (oI rfl rfl (oF rfl (oL rfl (H.xX 6 rfl 0 rfl) (oI rfl rfl (oL rfl (H.cell 0 rfl (ints_get (by rw [counts_len];omega))) (sp (.bool (decide (((counts s (k+1))[((s.qw[k]!).qE:Int).toNat]! :Int) > 8))) (zjn (cD rfl (fun h17=>?_) (fun h17=>?_)))))))))))))
   ·skip
    refine zcr (sp (.bool false) (zjr (zr5 (ret1 (.bool false) rfl rfl ⟨_,rfl,?_,H.base⟩))))
    rw [xh (fun h=>by obtain ⟨h1,h2,h3⟩:=h;first | contradiction | omega | (obtain ⟨q1,q2⟩:=h3 k qf;first | contradiction | (have:=XJ (k:=k+1) q;omega)))]
   refine xx (b_n (t_n (zk (sp (yI k) (sw (zX k 1 rfl rfl (by (first | omega | (rw [XJ q];have:=ofCell_bd s.qw (s.qw[k]!).qE k;omega))) (sp (yI (k+1)) (zt (xu (m' :=s.qw.length - (k+1)) qf ⟨_,k+1,uE3,?_,?_,rfl,H.sel _ (.refl _) _ qm⟩)))))))))
   · omega
   · exact i1.succ ‹_› (by have:=XJ (k:=k+1) q;omega)
  refine zx4 (zcr (sp (.bool true) (zjr (ret1 (.bool true) rfl rfl ⟨_,rfl,?_,H.base⟩))))
  obtain rfl:k=s.qw.length:=by omega
  rw [yC ⟨by assumption,by omega,i1⟩]
 replace h3:=xB h3
 replace h3:=zJ h3
 refine xK [9,10,11,12,13,14] (sp (.bool true) (zjn (xW true rfl (fun _=>zcr (sp (.bool false) (zjr (t_r (ret1 (.bool false) rfl rfl ⟨_,rfl,?_,H.base⟩))))) (fun h=>absurd h qj))))
 rw [xh (fun h=>by obtain ⟨h1,h2,h3⟩:=h;first | contradiction | omega | (obtain ⟨q1,q2⟩:=h3 k qf;first | contradiction | (have:=XJ (k:=k+1) q;omega)))]
theorem cloneB_ok (w:World) (l:List Bool) {al:yOA} {Fl:yLN} (hl:qU.rep w Fl [.slice al l.length cl] l) (p0:l.length≤1000000):Calls Try.prog 66 #[.slice al l.length cl] w (Ret (fun v w' =>∃ (ra:yOA) (rn:Nat) (rc:Nat),v=.slice ra rn rc∧Fresh w.heap.size []∧St w w' [rr ra rn rc 4 1 (l.map (Value.bool))] []) w):=by
 refine en func66 ntmps66 ?_
 have H:=(St.start w).arg hl
 have nhl:=qP hl
 clear hl
 have N:=Fresh.nil w.heap.size
 refine zcr (sp yN (zjcc (sp (.slice al l.length cl) (sw (o_eqnil underlying28 al l.length cl rfl (zjn (xW (al.isNone) rfl (fun h1=>?_) (fun h1=>?_))))))))
 ·skip
  refine zcr (sp yN (zjr (t_r ?_)))
  replace H:=H.nilRowB 4
  refine ret1 yN rfl rfl ⟨_,rfl,?_,H.base⟩
  obtain rfl:=H.nilOf 0 rfl ‹_›
  exact ⟨none,0,0,rfl,N,H.pick [0] []⟩
 refine xx (t_n (zcr (sw (QQ H underlying28 ti4 fun b2 w3 H=>sp (.slice al l.length cl) ?_))))
 replace H:=H.boxRowB 0 [] 0
 refine sw (o_appendFR H 0 rfl 0 rfl underlying28 ti4 rfl qj rfl rfl qp qf fun a4 c5 w6 us7 G8 H hG9=>?_)
 obtain ⟨_,rfl⟩:=reps_bools (H.get 0 rfl).1
 replace H:=H.sub _ fun f hf=>List.mem_cons_of_mem _ hf
 rw [catB] at H
 refine sp (.slice a4 (0+l.length) c5) (zjr (ret1 (.slice a4 (0+l.length) c5) rfl rfl ⟨_,rfl,(⟨a4,0+l.length,c5,rfl,N,H.pick [0] []⟩),H.base⟩))

theorem l02Own_ok (w:World) (t:qG) {qX:yOA} {zg:yLN} {xG:yOA} {zO:yLN} {qO:yOA} {xN:yLN} (ht:vV w bt ot (yT t qX qR xG xA qO qN)) (zf:qU.rep w zg [.slice qX t.qC.length qR] t.qC) (zK:qU.rep w zO [.slice xG t.qI.length xA] t.qI) (xO:qU.rep w xN [.slice qO t.qF.length qN] t.qF) (p0:t.qC.length≤1000000) (p1:t.qF.length≤1000000) (p2:t.qI.length≤1000000) (p3:∀ k,k < t.qI.length→(t.qI[k]!).length≤1000000):Calls Try.prog 55 #[pp bt ot] w (Ret (fun v w' =>∃ (raAlive:yOA) (rnAlive:Nat) (rcAlive:Nat) (raBags:yOA) (rnBags:Nat) (rcBags:Nat) (rxBags:List Value) (rFBags:yLN) (raAround:yOA) (rnAround:Nat) (rcAround:Nat),v=.agg #[.slice raAlive rnAlive rcAlive,.slice raBags rnBags rcBags,.slice raAround rnAround rcAround]∧Fresh w.heap.size [rFBags]∧St w w' [rr raAlive rnAlive rcAlive 4 1 (t.qC.map (Value.bool)),rr raBags rnBags rcBags 24 1 rxBags,rr raAround rnAround rcAround 2 1 (t.qF.map (Value.int .i64))] [xf true rFBags rxBags t.qI]) w):=by
 refine en func55 ntmps55 ?_
 have H:=((((St.start w).arg xO).arg zK).arg zf).argAt ht
 have Qh:=qP zf
 have QR:=qP zK
 have yO:=qP xO
 clear ht zf zK xO
 have N:=Fresh.nil w.heap.size
 refine zcr (sw (xq H ti31 [yN,yN,yN] fun b1 w2 H=>zjn (zn ?_)))
 refine c_cut (fun ρ w8=>∃ (zB:Env) (b3:Nat) (a4:yOA) (c5:Nat) (a6:yOA) (c7:Nat),ρ=upd (upd (upd zB 0 (pp bt ot)) 2 (pp b1 0)) 3 (pp b3 0)∧Fresh w.heap.size []∧St w w8 [.box b3 [.slice a4 (0+t.qC.length) c5,yN,.slice a6 t.qF.length c7] 31,rr a6 t.qF.length c7 2 1 (t.qF.map (Value.int .i64)),rr a4 (0+t.qC.length) c5 4 1 ((([]:List Bool)++t.qC).map (Value.bool)),.box b1 [yN,yN,yN] 31] [atF bt ot (yT t qX qR xG xA qO qN),sF false zg qX qR t.qC,sF false zO xG xA t.qI,sF false xN qO qN t.qF]) ?_ ?_
 ·skip
  refine yF rfl H fun H=>rtp 1 (pp bt ot) H ?_
  refine rtp 2 (pp bt ot) H ?_
  refine tF 3 rfl rfl H ?_
  refine tL 4 rfl rfl (fun _ h=>h.xX 0 rfl 0 rfl) H ?_
  refine rtp 6 (pp bt ot) H ?_
  refine rtp 7 (pp bt ot) H ?_
  refine tF 8 rfl rfl H ?_
  refine tL 9 rfl rfl (fun _ h=>h.xX 0 rfl 2 rfl) H ?_
  refine zH [0,12] qh qm (vz rfl ?_ (vz rfl ?_ zI))
  ·skip
   refine QQ H underlying28 ti4 fun b10 w11 H=>⟨H.pick [1] [0,1,2,3],(zH [5,12] qh qm (vz rfl ?_ (vz rfl ?_ zI)))⟩
   ·skip
    replace H:=H.boxRowB 0 [] 0
    refine o_appendFR H 0 rfl 1 rfl underlying28 ti4 rfl qj rfl rfl qp qf fun a12 c13 w14 us15 G16 H hG17=>?_
    obtain ⟨_,rfl⟩:=reps_bools (H.get 0 rfl).1
    replace H:=H.sub _ fun f hf=>List.mem_cons_of_mem _ hf
    rw [catB] at H
    refine ⟨H.pick [1] [0,1,2,3],(zH [10,12] qh qm (vz rfl ?_ (vz rfl ?_ zI)))⟩
    ·skip
     have sz18:=H.base.size
     refine oc (l00Own_ok _ t.qF (H.get 3 rfl).1 qg) ?_
     rintro v23 w21 r23 x22
     replace H:=H.zq x22 r23
     obtain ⟨a24,c25,rfl,hc26,hm27⟩:=H.jO 0 rfl
     refine ⟨H.pick [2] [0,1,2,3],(zH [11,12] qh qm (vz rfl ?_ (vz rfl ?_ zI)))⟩
     ·skip
      refine xJ [.slice a12 (0+t.qC.length) c13,yN,.slice a24 t.qF.length c25] [(0,.slice a12 (0+t.qC.length) c13),(2,.slice a24 t.qF.length c25)] (⟨H.pick [2] [0,1,2,3],(ro 12 rfl (xq H ti31 [yN,yN,yN] fun b28 w29 H=>⟨H.pick [3] [0,1,2,3],(ro 13 rfl (qQ H 0 [.slice a12 (0+t.qC.length) c13,yN,.slice a24 t.qF.length c25] sizeOf31 fun w30 H=>⟨H.pick [3] [0,1,2,3],(qZ qh ((meet ⟨_,b28,a12,c13,a24,c25,uE3,N,H⟩)))⟩))⟩))⟩)
     refine xq H ti31 [yN,yN,yN] fun b31 w32 H=>⟨H.pick [3] [0,1,2,3],(ro 11 rfl (xJ [.slice a12 (0+t.qC.length) c13,yN,.slice a24 t.qF.length c25] [(0,.slice a12 (0+t.qC.length) c13),(2,.slice a24 t.qF.length c25)] (⟨H.pick [3] [0,1,2,3],(ro 13 rfl (qQ H 0 [.slice a12 (0+t.qC.length) c13,yN,.slice a24 t.qF.length c25] sizeOf31 fun w33 H=>⟨H.pick [3] [0,1,2,3],(qZ qh ((meet ⟨_,b31,a12,c13,a24,c25,uE3,N,H⟩)))⟩))⟩)))⟩
    refine xq H ti31 [yN,yN,yN] fun b34 w35 H=>⟨H.pick [2] [0,1,2,3],(ro 10 rfl ?_)⟩
    have sz36:=H.base.size
    refine oc (l00Own_ok _ t.qF (H.get 3 rfl).1 qg) ?_
    rintro v41 w39 r41 x40
    replace H:=H.zq x40 r41
    obtain ⟨a42,c43,rfl,hc44,hm45⟩:=H.jO 0 rfl
    refine ⟨H.pick [3] [0,1,2,3],(ro 11 rfl (xJ [.slice a12 (0+t.qC.length) c13,yN,.slice a42 t.qF.length c43] [(0,.slice a12 (0+t.qC.length) c13),(2,.slice a42 t.qF.length c43)] (⟨H.pick [3] [0,1,2,3],(ro 13 rfl (qQ H 1 [.slice a12 (0+t.qC.length) c13,yN,.slice a42 t.qF.length c43] sizeOf31 fun w46 H=>⟨H.pick [3] [0,1,2,3],(qZ qh ((meet ⟨_,b34,a12,c13,a42,c43,uE3,N,H.pick [1,0,2,3] [0,1,2,3]⟩)))⟩))⟩)))⟩
   refine xq H ti31 [yN,yN,yN] fun b47 w48 H=>⟨H.pick [2] [0,1,2,3],(ro 5 rfl ?_)⟩
   replace H:=H.boxRowB 1 [] 0
   refine o_appendFR H 1 rfl 1 rfl underlying28 ti4 rfl qj rfl rfl qp qf fun a49 c50 w51 us52 G53 H hG54=>?_
   obtain ⟨_,rfl⟩:=reps_bools (H.get 0 rfl).1
   replace H:=H.sub _ fun f hf=>List.mem_cons_of_mem _ hf
   rw [catB] at H
   refine ⟨H.pick [2] [0,1,2,3],(ro 10 rfl ?_)⟩
   have sz55:=H.base.size
   refine oc (l00Own_ok _ t.qF (H.get 3 rfl).1 qg) ?_
   rintro v60 w58 r60 x59
   replace H:=H.zq x59 r60
   obtain ⟨a61,c62,rfl,hc63,hm64⟩:=H.jO 0 rfl
   refine ⟨H.pick [3] [0,1,2,3],(ro 11 rfl (xJ [.slice a49 (0+t.qC.length) c50,yN,.slice a61 t.qF.length c62] [(0,.slice a49 (0+t.qC.length) c50),(2,.slice a61 t.qF.length c62)] (⟨H.pick [3] [0,1,2,3],(ro 13 rfl (qQ H 1 [.slice a49 (0+t.qC.length) c50,yN,.slice a61 t.qF.length c62] sizeOf31 fun w65 H=>⟨H.pick [3] [0,1,2,3],(qZ qh ((meet ⟨_,b47,a49,c50,a61,c62,uE3,N,H.pick [1,0,2,3] [0,1,2,3]⟩)))⟩))⟩)))⟩
  refine xq H ti31 [yN,yN,yN] fun b66 w67 H=>⟨H.pick [1] [0,1,2,3],(ro 0 rfl (QQ H underlying28 ti4 fun b68 w69 H=>⟨H.pick [2] [0,1,2,3],(ro 5 rfl ?_)⟩))⟩
  replace H:=H.boxRowB 0 [] 0
  refine o_appendFR H 0 rfl 1 rfl underlying28 ti4 rfl qj rfl rfl qp qf fun a70 c71 w72 us73 G74 H hG75=>?_
  obtain ⟨_,rfl⟩:=reps_bools (H.get 0 rfl).1
  replace H:=H.sub _ fun f hf=>List.mem_cons_of_mem _ hf
  rw [catB] at H
  refine ⟨H.pick [2] [0,1,2,3],(ro 10 rfl ?_)⟩
  have sz76:=H.base.size
  refine oc (l00Own_ok _ t.qF (H.get 3 rfl).1 qg) ?_
  rintro v81 w79 r81 x80
  replace H:=H.zq x80 r81
  obtain ⟨a82,c83,rfl,hc84,hm85⟩:=H.jO 0 rfl
  refine ⟨H.pick [3] [0,1,2,3],(ro 11 rfl (xJ [.slice a70 (0+t.qC.length) c71,yN,.slice a82 t.qF.length c83] [(0,.slice a70 (0+t.qC.length) c71),(2,.slice a82 t.qF.length c83)] (⟨H.pick [3] [0,1,2,3],(ro 13 rfl (qQ H 2 [.slice a70 (0+t.qC.length) c71,yN,.slice a82 t.qF.length c83] sizeOf31 fun w86 H=>⟨H.pick [3] [0,1,2,3],(qZ qh ((meet ⟨_,b66,a70,c71,a82,c83,uE3,N,H.pick [2,0,1,3] [0,1,2,3]⟩)))⟩))⟩)))⟩
 clear H N
 rintro ρ w87 ⟨zB,b3,a4,c5,a6,c7,rfl,N,H⟩
 refine t_n (zcc (sp (yI 0) (zjn (xw ?_))))
 replace H:=H.nilRow 24 1
 replace H:=H.Qv (α:=yLI)
 refine vJ (fun m' ρ w88=>∃ (zB:Env) (c:Nat) (jL:yOA) (zN:Nat) (jK:Nat) (out_Bags:yLL) (zo:List Value) (xM:yLN),ρ=upd (upd (upd (upd zB 0 (pp bt ot)) 2 (pp b1 0)) 3 (pp b3 0)) 4 (yI c)∧out_Bags=t.qI.take c∧((c:Int)≤t.qI.length)∧m' =(t.qI.length - (c:Int)).toNat∧Fresh w.heap.size [xM]∧St w w88 [rr jL zN jK 24 1 zo,.box b3 [.slice a4 (0+t.qC.length) c5,.slice jL zN jK,.slice a6 t.qF.length c7] 31,rr a6 t.qF.length c7 2 1 (t.qF.map (Value.int .i64)),rr a4 (0+t.qC.length) c5 4 1 ((([]:List Bool)++t.qC).map (Value.bool)),.box b1 [yN,yN,yN] 31] [xf true xM zo out_Bags,atF bt ot (yT t qX qR xG xA qO qN),sF false zg qX qR t.qC,sF false zO xG xA t.qI,sF false xN qO qN t.qF]) ((t.qI.length - (0:Int)).toNat) ⟨_,0,none,0,0,([]:yLL),[],[],uE4,(by rfl),qf,rfl,N.emp,H⟩ ?_
 clear H N
 rintro m' ρ w89 ⟨zB,c,jL,zN,jK,out_Bags,zo,xM,rfl,rfl,i0,rfl,N,H⟩
 have XD:=H.zi (α:=yLI) 0 rfl 0 rfl qj
 have p4:=p3 c
 rw [List.length_take_of_le qf] at XD
 refine zcc (sps [yI c,pp bt ot,pp bt ot] (oF rfl (oL rfl (H.xX 1 rfl 1 rfl) (oN rfl (sp (.bool (decide ((c:Int) < t.qI.length))) (zjn (cD rfl (fun h90=>?_) (fun h90=>?_))))))))
 ·skip
  refine xx (t_n (zn (xw ?_)))
  obtain ⟨b91,o92,rfl⟩:=H.addr 3 rfl qf
  refine c_cut (fun ρ w102=>∃ (zB:Env) (a94:yOA) (c95:Nat) (a96:yOA) (c97:Nat) (G98:yLN) (F99:yLN) (a100:yOA) (c101:Nat),ρ=upd (upd (upd (upd zB 0 (pp bt ot)) 2 (pp b1 0)) 3 (pp b3 0)) 4 (yI c)∧Fresh w.heap.size [(xM++G98)]∧St w w102 [rr a94 (zN+1) c95 24 1 (zo++[.slice a96 ((t.qI[c]!).length) c97]),.box b3 [.slice a4 (0+t.qC.length) c5,.slice a94 (zN+1) c95,.slice a6 t.qF.length c7] 31,rr a6 t.qF.length c7 2 1 (t.qF.map (Value.int .i64)),rr a4 (0+t.qC.length) c5 4 1 ((([]:List Bool)++t.qC).map (Value.bool)),.box b1 [yN,yN,yN] 31] [xf true (xM++G98) (zo++[.slice a96 ((t.qI[c]!).length) c97]) ((t.qI.take c)++[(t.qI[c]!)]),sF true G98 a96 c97 (t.qI[c]!),sF false F99 a100 c101 (t.qI[c]!),atF b91 (o92+(c:Int).toNat * 1) [.slice a100 ((t.qI[c]!).length) c101],atF bt ot [.slice qX t.qC.length qR,.slice (aa b91 o92) t.qI.length xA,.slice qO t.qF.length qN],sF false zg qX qR t.qC,sF false zO (aa b91 o92) xA t.qI,sF false xN qO qN t.qF]) ?_ ?_
  ·skip
   refine yR rfl H [2,3,4] fun H=>?_
   have S:=H.jR [2,3,4] [0,1,2,3,4]
   refine tF 0 rfl rfl S ?_
   refine rtp 2 (pp bt ot) S ?_
   refine rtp 3 (pp bt ot) S ?_
   refine tF 4 rfl rfl S ?_
   refine tL 5 rfl rfl (fun _ h=>h.xX 1 rfl 1 rfl) S ?_
   refine rtp 6 (yI c) S ?_
   obtain ⟨ae104,ce104,Fe104,H⟩:=H.QL 3 rfl c c qf qf qf
   refine tI 7 rfl rfl rfl (H.pick [2,3,4] [2,3,4,5,6]) ?_
   refine zH [1,8] qh qm (vz rfl ?_ (vz rfl ?_ zI))
   ·skip
    refine zh (.slice jL zN jK) isAgg29 rfl (H.cell 1 rfl rfl) (⟨H.pick [2,3,4] [2,3,4,5,6],(ro 8 rfl (zh (.slice ae104 ((t.qI[c]!).length) ce104) isAgg24 rfl (H.xX 1 rfl 0 rfl) (⟨H.pick [2,3,4] [2,3,4,5,6],(ro 9 rfl ?_)⟩)))⟩)
    have sz105:=H.base.size
    have lt106:=H.ltN (L:=[xM]) [2]
    refine oc (l00Own_ok _ (t.qI[c]!) (H.get 0 rfl).1 qg) ?_
    rintro v110 w108 r110 x109
    replace H:=H.zq x109 r110
    obtain ⟨a111,c112,rfl,hc113,hm114⟩:=H.jO 0 rfl
    refine ⟨H.pick [3,4,5] [2,3,4,5,6],(ro 10 rfl (vF H underlying29 ti24 [.slice a111 ((t.qI[c]!).length) c112] fun b115 w116 H=>⟨H.pick [4,5,6] [2,3,4,5,6],(ro 11 rfl ?_)⟩))⟩
    obtain ⟨G120,N,hn121,H⟩:=H.zT 1 rfl N (H.yG [2])
    refine vP H 2 rfl 0 rfl underlying29 ti24 rfl qj rfl rfl rfl (by simp [Value.oneCell',Value.cells]) qp qf fun a117 c118 w119 H=>?_
    replace H:=H.Q5 3 rfl 0 rfl
    replace N:Fresh w.heap.size [(xM++G120)]:=(N.pick [1,0]).join
    refine ⟨H.pick [4,5,6] [4,5,6,7,8],(tF 12 rfl rfl (H.pick [4,5,6] [4,5,6,7,8]) ?_)⟩
    refine ro 13 rfl (zQ H 3 [.slice a4 (0+t.qC.length) c5,.slice a117 (zN+1) c118,.slice a6 t.qF.length c7] sizeOf29 fun w122 H=>⟨H.pick [4,5,6] [4,5,6,7,8],(qZ qh ((meet ⟨_,a117,c118,a111,c112,G120,Fe104,ae104,ce104,uE4,N,H.pick [2,3,4,5,6] [0,1,2,3,5,6,7,8]⟩)))⟩)
   refine zh (.slice ae104 ((t.qI[c]!).length) ce104) isAgg24 rfl (H.xX 1 rfl 0 rfl) (⟨H.pick [2,3,4] [2,3,4,5,6],(zH [1,9] qh qm (vz rfl ?_ (vz rfl ?_ zI)))⟩)
   ·skip
    refine zh (.slice jL zN jK) isAgg29 rfl (H.cell 1 rfl rfl) (⟨H.pick [2,3,4] [2,3,4,5,6],(ro 9 rfl ?_)⟩)
    have sz123:=H.base.size
    have lt124:=H.ltN (L:=[xM]) [2]
    refine oc (l00Own_ok _ (t.qI[c]!) (H.get 0 rfl).1 qg) ?_
    rintro v128 w126 r128 x127
    replace H:=H.zq x127 r128
    obtain ⟨a129,c130,rfl,hc131,hm132⟩:=H.jO 0 rfl
    refine ⟨H.pick [3,4,5] [2,3,4,5,6],(ro 10 rfl (vF H underlying29 ti24 [.slice a129 ((t.qI[c]!).length) c130] fun b133 w134 H=>⟨H.pick [4,5,6] [2,3,4,5,6],(ro 11 rfl ?_)⟩))⟩
    obtain ⟨G138,N,hn139,H⟩:=H.zT 1 rfl N (H.yG [2])
    refine vP H 2 rfl 0 rfl underlying29 ti24 rfl qj rfl rfl rfl (by simp [Value.oneCell',Value.cells]) qp qf fun a135 c136 w137 H=>?_
    replace H:=H.Q5 3 rfl 0 rfl
    replace N:Fresh w.heap.size [(xM++G138)]:=(N.pick [1,0]).join
    refine ⟨H.pick [4,5,6] [4,5,6,7,8],(tF 12 rfl rfl (H.pick [4,5,6] [4,5,6,7,8]) ?_)⟩
    refine ro 13 rfl (zQ H 3 [.slice a4 (0+t.qC.length) c5,.slice a135 (zN+1) c136,.slice a6 t.qF.length c7] sizeOf29 fun w140 H=>⟨H.pick [4,5,6] [4,5,6,7,8],(qZ qh ((meet ⟨_,a135,c136,a129,c130,G138,Fe104,ae104,ce104,uE4,N,H.pick [2,3,4,5,6] [0,1,2,3,5,6,7,8]⟩)))⟩)
   have sz141:=H.base.size
   have lt142:=H.ltN (L:=[xM]) [2]
   refine oc (l00Own_ok _ (t.qI[c]!) (H.get 0 rfl).1 qg) ?_
   rintro v146 w144 r146 x145
   replace H:=H.zq x145 r146
   obtain ⟨a147,c148,rfl,hc149,hm150⟩:=H.jO 0 rfl
   refine ⟨H.pick [3,4,5] [2,3,4,5,6],(zH [1,10] qh qm (vz rfl ?_ (vz rfl ?_ zI)))⟩
   ·skip
    refine zh (.slice jL zN jK) isAgg29 rfl (H.cell 2 rfl rfl) (⟨H.pick [3,4,5] [2,3,4,5,6],(ro 10 rfl (vF H underlying29 ti24 [.slice a147 ((t.qI[c]!).length) c148] fun b151 w152 H=>⟨H.pick [4,5,6] [2,3,4,5,6],(ro 11 rfl ?_)⟩))⟩)
    obtain ⟨G156,N,hn157,H⟩:=H.zT 1 rfl N (H.yG [2])
    refine vP H 2 rfl 0 rfl underlying29 ti24 rfl qj rfl rfl rfl (by simp [Value.oneCell',Value.cells]) qp qf fun a153 c154 w155 H=>?_
    replace H:=H.Q5 3 rfl 0 rfl
    replace N:Fresh w.heap.size [(xM++G156)]:=(N.pick [1,0]).join
    refine ⟨H.pick [4,5,6] [4,5,6,7,8],(tF 12 rfl rfl (H.pick [4,5,6] [4,5,6,7,8]) ?_)⟩
    refine ro 13 rfl (zQ H 3 [.slice a4 (0+t.qC.length) c5,.slice a153 (zN+1) c154,.slice a6 t.qF.length c7] sizeOf29 fun w158 H=>⟨H.pick [4,5,6] [4,5,6,7,8],(qZ qh ((meet ⟨_,a153,c154,a147,c148,G156,Fe104,ae104,ce104,uE4,N,H.pick [2,3,4,5,6] [0,1,2,3,5,6,7,8]⟩)))⟩)
   refine vF H underlying29 ti24 [.slice a147 ((t.qI[c]!).length) c148] fun b159 w160 H=>⟨H.pick [4,5,6] [2,3,4,5,6],(ro 1 rfl (zh (.slice jL zN jK) isAgg29 rfl (H.cell 3 rfl rfl) (⟨H.pick [4,5,6] [2,3,4,5,6],(ro 11 rfl ?_)⟩)))⟩
   obtain ⟨G164,N,hn165,H⟩:=H.zT 1 rfl N (H.yG [2])
   refine vP H 2 rfl 0 rfl underlying29 ti24 rfl qj rfl rfl rfl (by simp [Value.oneCell',Value.cells]) qp qf fun a161 c162 w163 H=>?_
   replace H:=H.Q5 3 rfl 0 rfl
   replace N:Fresh w.heap.size [(xM++G164)]:=(N.pick [1,0]).join
   refine ⟨H.pick [4,5,6] [4,5,6,7,8],(tF 12 rfl rfl (H.pick [4,5,6] [4,5,6,7,8]) ?_)⟩
   refine ro 13 rfl (zQ H 3 [.slice a4 (0+t.qC.length) c5,.slice a161 (zN+1) c162,.slice a6 t.qF.length c7] sizeOf29 fun w166 H=>⟨H.pick [4,5,6] [4,5,6,7,8],(qZ qh ((meet ⟨_,a161,c162,a147,c148,G164,Fe104,ae104,ce104,uE4,N,H.pick [2,3,4,5,6] [0,1,2,3,5,6,7,8]⟩)))⟩)
  clear H N
  rintro ρ w167 ⟨zB,a94,c95,a96,c97,G98,F99,a100,c101,rfl,N,H⟩
  refine b_n (t_n (zk (sp (yI c) (sw (zX c 1 rfl rfl qf (sp (yI (c+1)) (zt (xu (m' :=(t.qI.length - ((c+1):Int)).toNat) qf ⟨_,c+1,a94,zN+1,c95,((t.qI.take c)++[(t.qI[c]!)]),zo++[.slice a96 ((t.qI[c]!).length) c97],(xM++G98),uE4,?_,?_,rfl,N,H.pick [0,1,2,3,4] [0,4,5,6,7]⟩))))))))
  · exact take_snoc qf
  · omega
 refine zx4 (zcr (sw (zu [.slice a4 (0+t.qC.length) c5,.slice jL zN jK,.slice a6 t.qF.length c7] isAgg31 sizeOf31 rfl (qH (H.cells 1 rfl) 0 3) (sw (qQ H 4 [.slice a4 (0+t.qC.length) c5,.slice jL zN jK,.slice a6 t.qF.length c7] sizeOf31 fun w168 H=>zjr (retC H 4 rfl rfl isAgg31 sizeOf31 rfl ⟨_,rfl,?_,H.base⟩))))))
 obtain rfl:c=t.qI.length:=by omega
 rw [List.take_length] at H
 exact ⟨a4,0+t.qC.length,c5,jL,zN,jK,zo,xM,a6,t.qF.length,c7,rfl,N,H.pick [3,0,2] [0]⟩
theorem isShell_ok (w:World) (s:qy) {qB:yOA} {xe:yLN} {qL:yOA} {xI:yLN} (qV:qU.rep w xe [.slice qB s.qx.length qA] s.qx) (xF:qU.rep w xI [.slice qL s.qw.length qJ] s.qw):Calls Try.prog 107 #[.agg #[yI s.xn,.slice qB s.qx.length qA,.slice qL s.qw.length qJ]] w (Ret (fun v w' =>v=.bool (dec (jE s))) w):=by
 refine en func107 ntmps107 ?_
 have H:=((St.start w).arg xF).arg qV
 have vG:=qP qV
 have jM:=qP xF
 clear qV xF
 have N:=Fresh.nil w.heap.size
 refine zcr (sw (yK H (yS s qB qA qL qJ) fun b1 w2 H=>sp (.bool false) (zjcc (oF rfl (oL rfl (H.cell 0 rfl rfl) (sw (oq (XI w2 s.xn 1 8) H fun w3 H=>sps [.bool (!(inR s.xn 1 8)),.bool (!(inR s.xn 1 8))] ?_)))))))
 cases h5:(!(inR s.xn 1 8))
 ·skip
  replace h5:=xm h5
  replace h5:=QE.1 h5
  refine qK 9 rfl rfl (oF rfl (qK 9 rfl rfl (oL rfl (H.cell 0 rfl rfl) (qK 9 rfl rfl (sw (oq (sizeI_ok _ s.qx (H.get 0 rfl).1) H fun w6 H=>qK 9 rfl rfl (sw (oq (XI w6 (s.qx.length:Int) 1 6) H fun w8 H=>qK 9 rfl rfl (sps [.bool (!(inR (s.qx.length:Int) 1 6)),.bool (!(inR (s.qx.length:Int) 1 6)),.bool (!(inR (s.qx.length:Int) 1 6))] ?_)))))))))
  cases h10:(!(inR (s.qx.length:Int) 1 6))
  ·skip
   replace h10:=xm h10
   replace h10:=QE.1 h10
   refine qK 16 rfl rfl (oF rfl (qK 16 rfl rfl (oL rfl (H.cell 0 rfl rfl) (qK 16 rfl rfl ?_))))
   obtain ⟨b11,o12,rfl⟩:=H.addr 0 rfl qf
   refine oI rfl rfl (qK 16 rfl rfl (oL rfl (H.yE 0 rfl 0 qf qf) (qK 16 rfl rfl (sps [.bool ((s.qx[0]! :Int) != (-1)),.bool ((s.qx[0]! :Int) != (-1))] (zjn (xW ((s.qx[0]! :Int) != (-1)) rfl (fun h14=>?_) (fun h14=>?_)))))))
   ·skip
    replace h14:=bne_iff_ne.1 h14
    refine zcr (sp (.bool false) (zjr (t_r (ret1 (.bool false) rfl rfl ⟨_,rfl,?_,H.base⟩))))
    rw [xh (fun h=>by obtain ⟨h1,h2,h3,h4⟩:=h;first | omega | (have:=h4 (c+1) qf qf;rw [← dg qf] at this;omega))]
   replace h14:=zL h14
   refine xx (t_n (zcc (oF rfl (oL rfl (H.cell 0 rfl rfl) (sw (o_tail H 0 rfl 1 underlying24 ti2 rfl qf fun a15 G16 hG17 H=>?_))))))
   have hl18:(s.qx.drop 1).length=s.qx.length - 1:=List.length_drop
   refine oN rfl (sp (yI 0) (zjn (xw ?_)))
   refine vJ (fun m' ρ w19=>∃ (zB:Env) (c:Nat),ρ=upd (upd (upd zB 25 (.slice a15 ((s.qx.drop 1).length) (qA - 1))) 26 (yI ((s.qx.drop 1).length))) 27 (yI c)∧((c:Int)≤((s.qx.drop 1).length))∧(FrameTo s (c+1))∧m' =(((s.qx.drop 1).length) - (c:Int)).toNat∧Fresh w.heap.size []∧St w w19 [.box b1 [yI s.xn,.slice (aa b11 o12) s.qx.length qA,.slice qL s.qw.length qJ] 27] [sF false G16 a15 (qA - 1) (s.qx.drop 1),sF false xe (aa b11 o12) qA s.qx,sF false xI qL qJ s.qw]) ((((s.qx.drop 1).length) - (0:Int)).toNat) ⟨_,0,uE3,qf,(by exact FrameTo.one s),rfl,N,H⟩ ?_
   clear H N
   rintro m' ρ w20 ⟨zB,c,rfl,i0,i1,rfl,N,H⟩
   have dg:=drop_get (l:=s.qx) (k:=c)
   refine zcr (sp (.bool (decide ((c:Int) < ((s.qx.drop 1).length)))) (zjn (zn (cD rfl (fun h21=>?_) (fun h21=>?_)))))
   ·skip
    refine xx (t_n (zn (xw (zcr (sp (yI c) ?_)))))
    obtain ⟨b22,o23,rfl⟩:=H.addr 0 rfl qf
    refine oI rfl rfl (oL rfl (H.yE 0 rfl c qf qf) (sps [yI c,yI ((s.qx.drop 1)[c]!)] (zjc (sps [yI ((s.qx.drop 1)[c]!),yI c] (sw (oq (XI w20 ((s.qx.drop 1)[c]!) 0 c) H fun w25 H=>sp (.bool (!(inR ((s.qx.drop 1)[c]!) 0 c))) (zjn (xW (!(inR ((s.qx.drop 1)[c]!) 0 c)) rfl (fun h27=>?_) (fun h27=>?_)))))))))
    ·skip
     replace h27:=xB h27
     replace h27:=Q4 h27
     refine zcr (sp (.bool false) (zjr (zr5 (ret1 (.bool false) rfl rfl ⟨_,rfl,?_,H.base⟩))))
     rw [xh (fun h=>by obtain ⟨h1,h2,h3,h4⟩:=h;first | omega | (have:=h4 (c+1) qf qf;rw [← dg qf] at this;omega))]
    replace h27:=xm h27
    replace h27:=QE.1 h27
    refine xx (b_n (t_n (zk (sw (zX c 1 rfl rfl qf (sp (yI (c+1)) (zt (xu (m' :=(((s.qx.drop 1).length) - ((c+1):Int)).toNat) qf ⟨_,c+1,uE3,?_,?_,rfl,N,H⟩))))))))
    · omega
    · exact i1.succ (by rw [← dg qf];omega)
   refine zx4 (zcr (sp (.bool true) (zjr (ret1 (.bool true) rfl rfl ⟨_,rfl,?_,H.base⟩))))
   rw [yC ⟨by omega,by omega,by omega,(show s.qx.length=c+1 by omega)▸i1⟩]
  replace h10:=xB h10
  replace h10:=Q4 h10
  refine xK [17,18,19,20,21] (sp (.bool true) (zjn (xW true rfl (fun _=>zcr (sp (.bool false) (zjr (t_r (ret1 (.bool false) rfl rfl ⟨_,rfl,?_,H.base⟩))))) (fun h=>absurd h qj))))
  rw [xh (fun h=>by obtain ⟨h1,h2,h3,h4⟩:=h;first | omega | (have:=h4 (c+1) qf qf;rw [← dg qf] at this;omega))]
 replace h5:=xB h5
 replace h5:=Q4 h5
 refine xK [10,11,12,13,14] (sps [.bool true,.bool true] (xK [17,18,19,20,21] (sp (.bool true) (zjn (xW true rfl (fun _=>zcr (sp (.bool false) (zjr (t_r (ret1 (.bool false) rfl rfl ⟨_,rfl,?_,H.base⟩))))) (fun h=>absurd h qj))))))
 rw [xh (fun h=>by obtain ⟨h1,h2,h3,h4⟩:=h;first | omega | (have:=h4 (c+1) qf qf;rw [← dg qf] at this;omega))]

theorem isCell_ok (w:World) (s:qy) (c:Int) {qB:yOA} {xe:yLN} {qL:yOA} {xI:yLN} (qV:qU.rep w xe [.slice qB s.qx.length qA] s.qx) (xF:qU.rep w xI [.slice qL s.qw.length qJ] s.qw):Calls Try.prog 49 #[.agg #[yI s.xn,.slice qB s.qx.length qA,.slice qL s.qw.length qJ],yI c] w (Ret (fun v w' =>v=.bool (inR c 0 ((s.qx.length:Int) - 1))) w):=by
 refine en func49 ntmps49 ?_
 have H:=((St.start w).arg xF).arg qV
 have vG:=qP qV
 have jM:=qP xF
 clear qV xF
 have N:=Fresh.nil w.heap.size
 refine zcr (sw (yK H (yS s qB qA qL qJ) fun b1 w2 H=>sp (.bool false) (zjc (sp (yI c) (oF rfl (oL rfl (H.cell 0 rfl rfl) (sw (oq (sizeI_ok _ s.qx (H.get 0 rfl).1) H fun w3 H=>sw (o_sub (s.qx.length:Int) 1 rfl rfl qf (sw (oq (XI w3 c 0 ((s.qx.length:Int) - 1)) H fun w5 H=>sp (.bool (inR c 0 ((s.qx.length:Int) - 1))) (zjr (ret1 (.bool (inR c 0 ((s.qx.length:Int) - 1))) rfl rfl ⟨_,rfl,?_,H.base⟩)))))))))))))
 rfl

theorem lies_ok (w:World) (s:qy) (c:Int) (within:Int) {qB:yOA} {xe:yLN} {qL:yOA} {xI:yLN} (qV:qU.rep w xe [.slice qB s.qx.length qA] s.qx) (xF:qU.rep w xI [.slice qL s.qw.length qJ] s.qw) (p0:jE s) (p1:CellIn s c):Calls Try.prog 121 #[.agg #[yI s.xn,.slice qB s.qx.length qA,.slice qL s.qw.length qJ],yI c,yI within] w (Ret (fun v w' =>v=.bool (dec (Lies s.qx within c))) w):=by
 refine en func121 ntmps121 ?_
 have H:=((St.start w).arg xF).arg qV
 have vG:=qP qV
 have jM:=qP xF
 clear qV xF
 have N:=Fresh.nil w.heap.size
 have p2:=p0.step p1.1 p1.2
 refine zcr (sw (yK H (yS s qB qA qL qJ) fun b1 w2 H=>sp (.bool false) (zjcc (oF rfl (oL rfl (H.cell 0 rfl rfl) (sp (yI c) ?_))))))
 obtain ⟨b3,o4,rfl⟩:=H.addr 0 rfl qf
 refine oI rfl rfl (oL rfl (H.yE 0 rfl c qf qf) (sp (yI (s.qx[c.toNat]!)) (zjn (xw ?_))))
 refine vJ (fun m' ρ w6=>∃ (zB:Env) (c_1:Int),ρ=upd (upd (upd zB 1 (yI c_1)) 2 (yI within)) 3 (pp b1 0)∧(-1≤c_1∧c_1≤(s.qx.length:Int) - 1)∧(Lies s.qx within c↔0≤c_1∧(c_1=within∨Lies s.qx within c_1))∧m' =(c_1+1).toNat∧Fresh w.heap.size []∧St w w6 [.box b1 [yI s.xn,.slice (aa b3 o4) s.qx.length qA,.slice qL s.qw.length qJ] 27] [sF false xe (aa b3 o4) qA s.qx,sF false xI qL qJ s.qw]) (((s.qx[c.toNat]!)+1).toNat) ⟨_,s.qx[c.toNat]!,uE3,qf,(by exact lies_up p0 p1),rfl,N,H⟩ ?_
 clear H N
 rintro m' ρ w7 ⟨zB,c_1,rfl,i0,i1,rfl,N,H⟩
 have up:=fun h=>p0.step (c:=c_1) h i0.2
 refine zcc (sps [yI c_1,.bool (decide ((c_1:Int)≥0))] (zjn (cD rfl (fun h8=>?_) (fun h8=>?_))))
 ·skip
  refine xx (t_n (zn (xw (zcr (sps [yI c_1,yI within,.bool ((c_1:Int) == within)] (zjn (cE rfl (fun h9=>?_) (fun h9=>?_))))))))
  ·skip
   refine zcr (sp (.bool true) (zjr (zr5 (ret1 (.bool true) rfl rfl ⟨_,rfl,?_,H.base⟩))))
   rw [yC (i1.2 ⟨by omega,.inl ‹_›⟩)]
  refine xx (b_n (t_n (zk (oF rfl (oL rfl (H.cell 0 rfl rfl) (sp (yI c_1) (oI rfl rfl (oL rfl (H.yE 0 rfl c_1 qf qf) (sp (yI (s.qx[c_1.toNat]!)) (zt ?_))))))))))
  have up1:=up qf
  refine xu (m' :=((s.qx[c_1.toNat]!)+1).toNat) qf ⟨_,s.qx[c_1.toNat]!,uE3,?_,?_,rfl,N,H⟩
  · omega
  · exact i1.trans ⟨fun h=>(lies_up p0 ⟨by omega,by omega⟩).1 (h.2.resolve_left ‹_›),fun h=>⟨by omega,.inr ((lies_up p0 ⟨by omega,by omega⟩).2 h)⟩⟩
 refine zx4 (zcr (sp (.bool false) (zjr (ret1 (.bool false) rfl rfl ⟨_,rfl,?_,H.base⟩))))
 rw [xh (fun h=>by have:=(i1.1 h).1;omega)]

theorem isRule_ok (w:World) (s:qy) (r:jq) {qB:yOA} {xe:yLN} {qL:yOA} {xI:yLN} {yj:yOA} {Xu:yLN} {yu:yOA} {Xx:yLN} {yl:yOA} {Xv:yLN} {yt:yOA} {Xw:yLN} {QH:yOA} {FrOut:yLN} {jQ:yOA} {FrInto:yLN} (qV:qU.rep w xe [.slice qB s.qx.length qA] s.qx) (xF:qU.rep w xI [.slice qL s.qw.length qJ] s.qw) (hrNeed:qU.rep w Xu [.slice yj r.xy.length yc] r.xy) (hrHave:qU.rep w Xx [.slice yu r.xZ.length yh] r.xZ) (hrLack:qU.rep w Xv [.slice yl r.xY.length yf] r.xY) (hrHere:qU.rep w Xw [.slice yt r.x9.length yg] r.x9) (hrOut:qU.rep w FrOut [.slice QH r.ja.length QG] r.ja) (hrInto:qU.rep w FrInto [.slice jQ r.qM.length jP] r.qM) (p0:jE s):Calls Try.prog 108 #[.agg #[yI s.xn,.slice qB s.qx.length qA,.slice qL s.qw.length qJ],.agg #[yI r.qE,yI r.vC,.slice yj r.xy.length yc,.slice yu r.xZ.length yh,.slice yl r.xY.length yf,.slice yt r.x9.length yg,.slice QH r.ja.length QG,.slice jQ r.qM.length jP,.bool r.zW]] w (Ret (fun v w' =>v=.bool (dec (RuleOk s r))) w):=by
 refine en func108 ntmps108 ?_
 have H:=((((((((St.start w).arg hrInto).arg hrOut).arg hrHere).arg hrLack).arg hrHave).arg hrNeed).arg xF).arg qV
 have vG:=qP qV
 have jM:=qP xF
 have nhrNeed:=qP hrNeed
 have nhrHave:=qP hrHave
 have nhrLack:=qP hrLack
 have nhrHere:=qP hrHere
 have nhrOut:=qP hrOut
 have nhrInto:=qP hrInto
 clear qV xF hrNeed hrHave hrLack hrHere hrOut hrInto
 have N:=Fresh.nil w.heap.size
 refine zcr (sw (yK H (yS s qB qA qL qJ) fun b1 w2 H=>sw (yK H [yI r.qE,yI r.vC,.slice yj r.xy.length yc,.slice yu r.xZ.length yh,.slice yl r.xY.length yf,.slice yt r.x9.length yg,.slice QH r.ja.length QG,.slice jQ r.qM.length jP,.bool r.zW] fun b3 w4 H=>sp (.bool false) (zjcc ?_))))
 refine sw (zu (yS s qB qA qL qJ) isAgg27 sizeOf27 rfl (qH (H.cells 1 rfl) 0 3) (oF rfl (oL rfl (H.cell 0 rfl rfl) (sw (oq (isCell_ok _ s r.qE (H.get 0 rfl).1 (H.get 1 rfl).1) H fun w6 H=>sps [.bool (!(inR r.qE 0 ((s.qx.length:Int) - 1))),.bool (!(inR r.qE 0 ((s.qx.length:Int) - 1)))] ?_)))))
 cases h8:(!(inR r.qE 0 ((s.qx.length:Int) - 1)))
 ·skip
  replace h8:=xm h8
  replace h8:=QE.1 h8
  refine qK 14 rfl rfl (oF rfl (qK 14 rfl rfl (oL rfl (H.cell 0 rfl rfl) (qK 14 rfl rfl (sw (oq (XI w6 r.vC 0 9) H fun w9 H=>qK 14 rfl rfl (sps [.bool (!(inR r.vC 0 9)),.bool (!(inR r.vC 0 9)),.bool (!(inR r.vC 0 9))] ?_)))))))
  cases h11:(!(inR r.vC 0 9))
  ·skip
   replace h11:=xm h11
   replace h11:=QE.1 h11
   refine qK 20 rfl rfl (oF rfl (qK 20 rfl rfl (oL rfl (H.cell 0 rfl rfl) (qK 20 rfl rfl (sp (.bool r.zW) ?_)))))
   cases h12:(r.zW)
   ·skip
    rw [h12] at H
    refine xK [24,25,26] (qK 20 rfl rfl (sps [.bool false,.bool false,.bool false] (qK 29 rfl rfl (oF rfl (qK 29 rfl rfl (oL rfl (H.cell 0 rfl rfl) (qK 29 rfl rfl (oN rfl (qK 29 rfl rfl (sps [.bool (decide ((r.qM.length:Int) > 3)),.bool (decide ((r.qM.length:Int) > 3))] (zjn (cD rfl (fun h13=>?_) (fun h13=>?_)))))))))))))
    ·skip
     refine zcr (sp (.bool false) (zjr (t_r (ret1 (.bool false) rfl rfl ⟨_,rfl,?_,H.base⟩))))
     rw [xh (fun h=>by obtain ⟨h1,h2,h3,h4,h5,h6,h7,h8,h9,h10,h11⟩:=h;first | contradiction | omega | exact h3 ⟨‹_›,‹_›⟩ | (obtain ⟨q1,q2,q3,q4,q5⟩:=h11 i qf;first | contradiction | omega | (have:=q5 qf;omega)) | (refine absurd ?_ ‹¬ zM _ _›;rcases (show k=0∨k=1∨k=2∨k=3∨k=4 by omega) with e | e | e | e | e <;> subst e <;> assumption))]
    refine xx (t_n (zcc (oF rfl (oL rfl (H.cell 0 rfl rfl) (oF rfl (oL rfl (H.cell 0 rfl rfl) (oF rfl (oL rfl (H.cell 0 rfl rfl) (oF rfl (oL rfl (H.cell 0 rfl rfl) (oF rfl (oL rfl (H.cell 0 rfl rfl) (sw (o_buildF H underlying29 ti24 [.slice yj r.xy.length yc,.slice yu r.xZ.length yh,.slice yl r.xY.length yf,.slice yt r.x9.length yg,.slice QH r.ja.length QG] rfl (by simp [Value.cells]) rfl qj qj fun b14 w15 H=>oN rfl (sp (yI 0) (zjn (xw ?_)))))))))))))))))
    replace H:=H.boxRow 0 rfl 1 5 rfl qj
    replace H:=H.Qv (α:=yLI)
    replace H:=H.repsCons false 7 rfl 0 rfl qm
    replace H:=H.repsCons false 7 rfl 0 rfl qm
    replace H:=H.repsCons false 7 rfl 0 rfl qm
    replace H:=H.repsCons false 7 rfl 0 rfl qm
    replace H:=H.repsCons false 7 rfl 0 rfl qm
    refine vJ (fun m' ρ w16=>∃ (zB:Env) (k:Nat),ρ=upd (upd (upd (upd (upd zB 2 (pp b1 0)) 3 (pp b3 0)) 45 (.slice (aa b14 0) 5 5)) 46 (yI 5)) 47 (yI k)∧((k:Int)≤5)∧(∀ j,j < k→zM s.xn ([r.xy,r.xZ,r.xY,r.x9,r.ja][j]!))∧m' =(5 - (k:Int)).toNat∧Fresh w.heap.size []∧St w w16 [rr (aa b14 0) 5 5 24 1 [.slice yj r.xy.length yc,.slice yu r.xZ.length yh,.slice yl r.xY.length yf,.slice yt r.x9.length yg,.slice QH r.ja.length QG],.box b3 [yI r.qE,yI r.vC,.slice yj r.xy.length yc,.slice yu r.xZ.length yh,.slice yl r.xY.length yf,.slice yt r.x9.length yg,.slice QH r.ja.length QG,.slice jQ r.qM.length jP,.bool false] 51,.box b1 (yS s qB qA qL qJ) 27] [xf false (Xu++(Xx++(Xv++(Xw++(FrOut++[]))))) [.slice yj r.xy.length yc,.slice yu r.xZ.length yh,.slice yl r.xY.length yf,.slice yt r.x9.length yg,.slice QH r.ja.length QG] [r.xy,r.xZ,r.xY,r.x9,r.ja],sF false xe qB qA s.qx,sF false xI qL qJ s.qw,sF false Xu yj yc r.xy,sF false Xx yu yh r.xZ,sF false Xv yl yf r.xY,sF false Xw yt yg r.x9,sF false FrOut QH QG r.ja,sF false FrInto jQ jP r.qM]) ((5 - (0:Int)).toNat) ⟨_,0,uE5,qf,(by intro j hj;omega),rfl,N,H.pick [0,1,2] [0,6,7,8,9,10,11,12,13]⟩ ?_
    clear H N
    rintro m' ρ w17 ⟨zB,k,rfl,i0,i1,rfl,N,H⟩
    refine zcr (sp (.bool (decide ((k:Int) < 5))) (zjn (zn (cD rfl (fun h18=>?_) (fun h18=>?_)))))
    ·skip
     refine xx (t_n (zn (xw (zcr (oI rfl rfl ?_)))))
     obtain ⟨a19,c20,G21,s22,h23,H⟩:=H.jD 0 rfl 0 rfl (iv:=k) k qf qf
     refine oL rfl (h23) (sp (.slice a19 (([r.xy,r.xZ,r.xY,r.x9,r.ja][k]!).length) c20) (zjc (oF rfl (oL rfl (H.cell 2 rfl rfl) (sp (.slice a19 (([r.xy,r.xZ,r.xY,r.x9,r.ja][k]!).length) c20) (sw (oq (validBag_ok _ s.xn ([r.xy,r.xZ,r.xY,r.x9,r.ja][k]!) (H.get 0 rfl).1) H fun w24 H=>sp (.bool (!(dec (zM s.xn ([r.xy,r.xZ,r.xY,r.x9,r.ja][k]!))))) (zjn (cQ rfl (fun h26=>?_) (fun h26=>?_))))))))))
     ·skip
      refine zcr (sp (.bool false) (zjr (zr5 (ret1 (.bool false) rfl rfl ⟨_,rfl,?_,H.base⟩))))
      rw [xh (fun h=>by obtain ⟨h1,h2,h3,h4,h5,h6,h7,h8,h9,h10,h11⟩:=h;first | contradiction | omega | exact h3 ⟨‹_›,‹_›⟩ | (obtain ⟨q1,q2,q3,q4,q5⟩:=h11 i qf;first | contradiction | omega | (have:=q5 qf;omega)) | (refine absurd ?_ ‹¬ zM _ _›;rcases (show k=0∨k=1∨k=2∨k=3∨k=4 by omega) with e | e | e | e | e <;> subst e <;> assumption))]
     refine xx (b_n (t_n (zk (sw (zX k 1 rfl rfl qf (sp (yI (k+1)) (zt (xu (m' :=(5 - ((k+1):Int)).toNat) qf ⟨_,k+1,uE5,?_,?_,rfl,N,H.pick [0,1,2] [1,2,3,4,5,6,7,8,9]⟩))))))))
     · omega
     · intro j hj;by_cases e:j=k;(subst e;assumption);exact i1 j qf
    refine zx4 (zcc (oF rfl (oL rfl (H.cell 1 rfl rfl) (oN rfl (sp (yI 0) (zjn (xw ?_)))))))
    have n1:zM s.xn r.xy:=i1 0 qf
    have n2:zM s.xn r.xZ:=i1 1 qf
    have n3:zM s.xn r.xY:=i1 2 qf
    have n4:zM s.xn r.x9:=i1 3 qf
    have n5:zM s.xn r.ja:=i1 4 qf
    refine vJ (fun m' ρ w27=>∃ (zB:Env) (i:Nat),ρ=upd (upd (upd (upd (upd zB 2 (pp b1 0)) 3 (pp b3 0)) 58 (.slice jQ r.qM.length jP)) 59 (yI r.qM.length)) 60 (yI i)∧((i:Int)≤r.qM.length)∧(IntosTo s r i)∧m' =(r.qM.length - (i:Int)).toNat∧Fresh w.heap.size []∧St w w27 [rr (aa b14 0) 5 5 24 1 [.slice yj r.xy.length yc,.slice yu r.xZ.length yh,.slice yl r.xY.length yf,.slice yt r.x9.length yg,.slice QH r.ja.length QG],.box b3 [yI r.qE,yI r.vC,.slice yj r.xy.length yc,.slice yu r.xZ.length yh,.slice yl r.xY.length yf,.slice yt r.x9.length yg,.slice QH r.ja.length QG,.slice jQ r.qM.length jP,.bool false] 51,.box b1 (yS s qB qA qL qJ) 27] [xf false (Xu++(Xx++(Xv++(Xw++(FrOut++[]))))) [.slice yj r.xy.length yc,.slice yu r.xZ.length yh,.slice yl r.xY.length yf,.slice yt r.x9.length yg,.slice QH r.ja.length QG] [r.xy,r.xZ,r.xY,r.x9,r.ja],sF false xe qB qA s.qx,sF false xI qL qJ s.qw,sF false Xu yj yc r.xy,sF false Xx yu yh r.xZ,sF false Xv yl yf r.xY,sF false Xw yt yg r.x9,sF false FrOut QH QG r.ja,sF false FrInto jQ jP r.qM]) ((r.qM.length - (0:Int)).toNat) ⟨_,0,uE5,qf,(by exact fun j hj=>by omega),rfl,N,H⟩ ?_
    clear H N
    rintro m' ρ w28 ⟨zB,i,rfl,i0,i2,rfl,N,H⟩
    refine zcr (sp (.bool (decide ((i:Int) < r.qM.length))) (zjn (zn (cD rfl (fun h29=>?_) (fun h29=>?_)))))
    ·skip
     refine xx (t_n (zn (xw (zcr (sp (yI i) ?_)))))
     obtain ⟨b30,o31,rfl⟩:=H.addr 8 rfl qf
     obtain ⟨ae33Bag,ce33Bag,Fe33Bag,H⟩:=H.yX 8 rfl i i qf qf qf
     refine oI rfl rfl (sw (zu [yI ((r.qM[i]!).qE),.slice ae33Bag (((r.qM[i]!).Qz).length) ce33Bag] isAgg121 sizeOf121 rfl (qH (H.get 1 rfl) 0 2) (sw (xq H ti121 [yI 0,yN] fun b34 w35 H=>sp (yI i) (sw (qQ H 0 [yI ((r.qM[i]!).qE),.slice ae33Bag (((r.qM[i]!).Qz).length) ce33Bag] sizeOf121 fun w36 H=>zjn (zn ?_)))))))
     refine yF rfl H fun H=>rt 0 (.agg #[yI s.xn,.slice qB s.qx.length qA,.slice qL s.qw.length qJ]) (QC (cs:=(yS s qB qA qL qJ)) isAgg27 sizeOf27 rfl (fun _ h=>qH (h.cells 3 rfl) 0 3)) H ?_
     refine tF 1 rfl rfl H ?_
     refine tL 2 rfl rfl (fun _ h=>h.cell 0 rfl rfl) H ?_
     refine ro 3 rfl (oq (isCell_ok _ s ((r.qM[i]!).qE) (H.get 3 rfl).1 (H.get 4 rfl).1) H fun w39 H=>⟨H,(rtp 4 (.bool (!(inR ((r.qM[i]!).qE) 0 ((s.qx.length:Int) - 1)))) H ?_)⟩)
     refine rtp 5 (.bool (!(inR ((r.qM[i]!).qE) 0 ((s.qx.length:Int) - 1)))) H ?_
     cases h41:(!(inR ((r.qM[i]!).qE) 0 ((s.qx.length:Int) - 1)))
     ·skip
      replace h41:=xm h41
      replace h41:=QE.1 h41
      refine rg 6 (.agg #[yI s.xn,.slice qB s.qx.length qA,.slice qL s.qw.length qJ]) 70 (QC (cs:=(yS s qB qA qL qJ)) isAgg27 sizeOf27 rfl (fun _ h=>qH (h.cells 3 rfl) 0 3)) H ?_
      refine gF 7 rfl rfl H ?_
      refine gL 8 rfl rfl (fun _ h=>h.cell 0 rfl rfl) H ?_
      refine gF 9 rfl rfl H ?_
      refine gL 10 rfl rfl (fun _ h=>h.cell 2 rfl rfl) H ?_
      refine zH [11] qh qm (r_opG rfl (e:=70) rfl rfl (oq (lies_ok _ s ((r.qM[i]!).qE) r.qE (H.get 3 rfl).1 (H.get 4 rfl).1 qg qg) H fun w43 H=>⟨H,(rgp 12 (.bool (!(dec (Lies s.qx r.qE ((r.qM[i]!).qE))))) 70 H ?_)⟩) zI)
      refine rtp 13 (.bool (!(dec (Lies s.qx r.qE ((r.qM[i]!).qE))))) H ?_
      refine rtp 14 (.bool (!(dec (Lies s.qx r.qE ((r.qM[i]!).qE))))) H ?_
      cases h45:(!(dec (Lies s.qx r.qE ((r.qM[i]!).qE))))
      ·skip
       replace h45:=xm h45
       replace h45:=Qd h45
       refine gF 15 rfl rfl H ?_
       refine gL 16 rfl rfl (fun _ h=>h.cell 3 rfl rfl) H ?_
       refine gF 17 rfl rfl H ?_
       refine gL 18 rfl rfl (fun _ h=>h.cell 0 rfl rfl) H ?_
       refine zH [19] qh qm (r_opG rfl (e:=79) rfl rfl (oq (validBag_ok _ s.xn ((r.qM[i]!).Qz) (H.get 0 rfl).1) H fun w46 H=>⟨H,(rgp 20 (.bool (!(dec (zM s.xn ((r.qM[i]!).Qz))))) 79 H ?_)⟩) zI)
       refine rtp 21 (.bool (!(dec (zM s.xn ((r.qM[i]!).Qz))))) H ?_
       refine rtp 22 (.bool (!(dec (zM s.xn ((r.qM[i]!).Qz))))) H ?_
       cases h48:(!(dec (zM s.xn ((r.qM[i]!).Qz))))
       ·skip
        replace h48:=xm h48
        replace h48:=Qd h48
        refine gF 23 rfl rfl H ?_
        refine gL 24 rfl rfl (fun _ h=>h.cell 0 rfl rfl) H ?_
        refine zH [25] qh qm (r_opG rfl (e:=87) rfl rfl ?_ zI)
        have sm:Small ((r.qM[i]!).Qz):=je (by first | assumption | exact i1 0 qf)
        refine oq (bagSize_ok _ ((r.qM[i]!).Qz) (H.get 0 rfl).1 (by first | assumption | exact je ql | exact QB ql)) H fun w49 H=>⟨H,(rgp 26 (.bool ((sumL ((r.qM[i]!).Qz):Int) == 0)) 87 H ?_)⟩
        refine rtp 27 (.bool ((sumL ((r.qM[i]!).Qz):Int) == 0)) H ?_
        refine rtp 28 (.bool ((sumL ((r.qM[i]!).Qz):Int) == 0)) H ?_
        cases h51:((sumL ((r.qM[i]!).Qz):Int) == 0)
        ·skip
         replace h51:=ne_of_beq_false h51
         refine rgp 29 (yI i) 93 H ?_
         refine rgp 30 (.bool (decide ((i:Int) > 0))) 93 H ?_
         refine rgp 31 (.bool (decide ((i:Int) > 0))) 93 H ?_
         cases h52:(decide ((i:Int) > 0))
         ·skip
          replace h52:=of_decide_eq_false h52
          refine zC [32,33,34,35,36,37,38,39,40,41] 10 (H) (rgp 42 (.bool false) 93 H ?_)
          refine rtp 43 (.bool false) H ?_
          refine qZ qh (t_n (xW false rfl (fun h=>absurd h qj) (fun _=>xx (b_n (t_n (zk (sw (zX i 1 rfl rfl qf (sp (yI (i+1)) (zt (xu (m' :=(r.qM.length - ((i+1):Int)).toNat) qf ⟨_,i+1,uE5,?_,?_,rfl,N,H.pick [1,2,3] [2,3,4,5,6,7,8,9,10]⟩)))))))))))
          · omega
          · exact i2.succ ⟨‹_›,‹_›,‹_›,‹_›,fun hk=>by omega⟩
         replace h52:=of_decide_eq_true h52
         refine gF 32 rfl rfl H ?_
         refine gL 33 rfl rfl (fun _ h=>h.cell 0 rfl rfl) H ?_
         refine gF 34 rfl rfl H ?_
         refine gL 35 rfl rfl (fun _ h=>h.cell 2 rfl rfl) H ?_
         refine rgp 36 (yI i) 96 H ?_
         refine rg 37 (yI (i - 1)) 96 (y_sub i 1 rfl rfl qf) H ?_
         obtain ⟨ae53Bag,ce53Bag,Fe53Bag,H⟩:=H.yX 10 rfl (i - 1) (i - 1) qf qf qf
         have S:=H.jR [0,1,2,3] [2,3,4,5,6,7,8,9,10,11,12]
         refine gI 38 rfl rfl rfl S ?_
         refine gF 39 rfl rfl S ?_
         refine zH [40] qh qm (r_opG rfl (e:=96) rfl rfl (zh (yI ((r.qM[i - 1]!).qE)) isAgg2 rfl (H.xX 1 rfl 0 rfl) (⟨H.pick [0,1,2,3] [2,3,4,5,6,7,8,9,10,11,12],?_⟩)) zI)
         have S:=H.jR [0,1,2,3] [2,3,4,5,6,7,8,9,10,11,12]
         refine rgp 41 (.bool (decide (((r.qM[i]!).qE:Int)≤((r.qM[i - 1]!).qE)))) 96 S ?_
         refine rgp 42 (.bool (decide (((r.qM[i]!).qE:Int)≤((r.qM[i - 1]!).qE)))) 93 S ?_
         refine rtp 43 (.bool (decide (((r.qM[i]!).qE:Int)≤((r.qM[i - 1]!).qE)))) S ?_
         refine qZ qh (t_n (cD rfl (fun h54=>?_) (fun h54=>?_)))
         ·skip
          refine zcr (sp (.bool false) (zjr (zr5 (ret1 (.bool false) rfl rfl ⟨_,rfl,?_,H.base⟩))))
          rw [xh (fun h=>by obtain ⟨h1,h2,h3,h4,h5,h6,h7,h8,h9,h10,h11⟩:=h;first | contradiction | omega | exact h3 ⟨‹_›,‹_›⟩ | (obtain ⟨q1,q2,q3,q4,q5⟩:=h11 i qf;first | contradiction | omega | (have:=q5 qf;omega)) | (refine absurd ?_ ‹¬ zM _ _›;rcases (show k=0∨k=1∨k=2∨k=3∨k=4 by omega) with e | e | e | e | e <;> subst e <;> assumption))]
         refine xx (b_n (t_n (zk (sw (zX i 1 rfl rfl qf (sp (yI (i+1)) (zt (xu (m' :=(r.qM.length - ((i+1):Int)).toNat) qf ⟨_,i+1,uE5,?_,?_,rfl,N,H.pick [1,2,3] [4,5,6,7,8,9,10,11,12]⟩))))))))
         · omega
         · exact i2.succ ⟨‹_›,‹_›,‹_›,‹_›,fun hk=>by omega⟩
        replace h51:=eq_of_beq h51
        refine zC [29,30,31,32,33,34,35,36,37,38,39,40,41,42] 14 (H) (rtp 43 (.bool true) H ?_)
        refine qZ qh (t_n (xW true rfl (fun _=>zcr (sp (.bool false) (zjr (zr5 (ret1 (.bool false) rfl rfl ⟨_,rfl,?_,H.base⟩))))) (fun h=>absurd h qj)))
        rw [xh (fun h=>by obtain ⟨h1,h2,h3,h4,h5,h6,h7,h8,h9,h10,h11⟩:=h;first | contradiction | omega | exact h3 ⟨‹_›,‹_›⟩ | (obtain ⟨q1,q2,q3,q4,q5⟩:=h11 i qf;first | contradiction | omega | (have:=q5 qf;omega)) | (refine absurd ?_ ‹¬ zM _ _›;rcases (show k=0∨k=1∨k=2∨k=3∨k=4 by omega) with e | e | e | e | e <;> subst e <;> assumption))]
       replace h48:=xB h48
       replace h48:=zJ h48
       refine zC [23,24,25,26] 4 (H) (rtp 27 (.bool true) H ?_)
       refine rtp 28 (.bool true) H ?_
       refine zC [29,30,31,32,33,34,35,36,37,38,39,40,41,42] 14 (H) (rtp 43 (.bool true) H ?_)
       refine qZ qh (t_n (xW true rfl (fun _=>zcr (sp (.bool false) (zjr (zr5 (ret1 (.bool false) rfl rfl ⟨_,rfl,?_,H.base⟩))))) (fun h=>absurd h qj)))
       rw [xh (fun h=>by obtain ⟨h1,h2,h3,h4,h5,h6,h7,h8,h9,h10,h11⟩:=h;first | contradiction | omega | exact h3 ⟨‹_›,‹_›⟩ | (obtain ⟨q1,q2,q3,q4,q5⟩:=h11 i qf;first | contradiction | omega | (have:=q5 qf;omega)) | (refine absurd ?_ ‹¬ zM _ _›;rcases (show k=0∨k=1∨k=2∨k=3∨k=4 by omega) with e | e | e | e | e <;> subst e <;> assumption))]
      replace h45:=xB h45
      replace h45:=zJ h45
      refine zC [15,16,17,18,19,20] 6 (H) (rtp 21 (.bool true) H ?_)
      refine rtp 22 (.bool true) H ?_
      refine zC [23,24,25,26] 4 (H) (rtp 27 (.bool true) H ?_)
      refine rtp 28 (.bool true) H ?_
      refine zC [29,30,31,32,33,34,35,36,37,38,39,40,41,42] 14 (H) (rtp 43 (.bool true) H ?_)
      refine qZ qh (t_n (xW true rfl (fun _=>zcr (sp (.bool false) (zjr (zr5 (ret1 (.bool false) rfl rfl ⟨_,rfl,?_,H.base⟩))))) (fun h=>absurd h qj)))
      rw [xh (fun h=>by obtain ⟨h1,h2,h3,h4,h5,h6,h7,h8,h9,h10,h11⟩:=h;first | contradiction | omega | exact h3 ⟨‹_›,‹_›⟩ | (obtain ⟨q1,q2,q3,q4,q5⟩:=h11 i qf;first | contradiction | omega | (have:=q5 qf;omega)) | (refine absurd ?_ ‹¬ zM _ _›;rcases (show k=0∨k=1∨k=2∨k=3∨k=4 by omega) with e | e | e | e | e <;> subst e <;> assumption))]
     replace h41:=xB h41
     replace h41:=Q4 h41
     refine zC [6,7,8,9,10,11,12] 7 (H) (rtp 13 (.bool true) H ?_)
     refine rtp 14 (.bool true) H ?_
     refine zC [15,16,17,18,19,20] 6 (H) (rtp 21 (.bool true) H ?_)
     refine rtp 22 (.bool true) H ?_
     refine zC [23,24,25,26] 4 (H) (rtp 27 (.bool true) H ?_)
     refine rtp 28 (.bool true) H ?_
     refine zC [29,30,31,32,33,34,35,36,37,38,39,40,41,42] 14 (H) (rtp 43 (.bool true) H ?_)
     refine qZ qh (t_n (xW true rfl (fun _=>zcr (sp (.bool false) (zjr (zr5 (ret1 (.bool false) rfl rfl ⟨_,rfl,?_,H.base⟩))))) (fun h=>absurd h qj)))
     rw [xh (fun h=>by obtain ⟨h1,h2,h3,h4,h5,h6,h7,h8,h9,h10,h11⟩:=h;first | contradiction | omega | exact h3 ⟨‹_›,‹_›⟩ | (obtain ⟨q1,q2,q3,q4,q5⟩:=h11 i qf;first | contradiction | omega | (have:=q5 qf;omega)) | (refine absurd ?_ ‹¬ zM _ _›;rcases (show k=0∨k=1∨k=2∨k=3∨k=4 by omega) with e | e | e | e | e <;> subst e <;> assumption))]
    refine zx4 (zcr (oF rfl (oL rfl (H.cell 1 rfl rfl) ?_)))
    have sm:Small r.xy:=je (by first | assumption | exact i1 0 qf)
    refine sw (oq (bagSize_ok _ r.xy (H.get 3 rfl).1 (by first | assumption | exact je ql | exact QB ql)) H fun w55 H=>sps [.bool (decide ((sumL r.xy:Int) > 0)),.bool (decide ((sumL r.xy:Int) > 0))] (zjr (ret1 (.bool (decide ((sumL r.xy:Int) > 0))) rfl rfl ⟨_,rfl,(congrArg Value.bool (dec_eq ?_)),H.base⟩)))
    rw [decide_eq_true_iff]
    exact ⟨fun h=>⟨by omega,by omega,by simp_all,by omega,n1,n2,n3,n4,n5,by omega,(show i=r.qM.length by omega)▸i2⟩,fun h=>by have:=h.2.2.2.2.2.2.2.2.2.1;have:=sum_nonneg n1.1;omega⟩
   rw [h12] at H
   refine qK 23 rfl rfl (oF rfl (qK 23 rfl rfl (oL rfl (H.cell 0 rfl rfl) (qK 23 rfl rfl (sp (.bool ((r.qE:Int) == 0)) (qK 20 rfl rfl (sps [.bool ((r.qE:Int) == 0),.bool ((r.qE:Int) == 0),.bool ((r.qE:Int) == 0)] ?_)))))))
   cases h57:((r.qE:Int) == 0)
   ·skip
    replace h57:=ne_of_beq_false h57
    refine qK 29 rfl rfl (oF rfl (qK 29 rfl rfl (oL rfl (H.cell 0 rfl rfl) (qK 29 rfl rfl (oN rfl (qK 29 rfl rfl (sps [.bool (decide ((r.qM.length:Int) > 3)),.bool (decide ((r.qM.length:Int) > 3))] (zjn (cD rfl (fun h58=>?_) (fun h58=>?_))))))))))
    ·skip
     refine zcr (sp (.bool false) (zjr (t_r (ret1 (.bool false) rfl rfl ⟨_,rfl,?_,H.base⟩))))
     rw [xh (fun h=>by obtain ⟨h1,h2,h3,h4,h5,h6,h7,h8,h9,h10,h11⟩:=h;first | contradiction | omega | exact h3 ⟨‹_›,‹_›⟩ | (obtain ⟨q1,q2,q3,q4,q5⟩:=h11 i qf;first | contradiction | omega | (have:=q5 qf;omega)) | (refine absurd ?_ ‹¬ zM _ _›;rcases (show k=0∨k=1∨k=2∨k=3∨k=4 by omega) with e | e | e | e | e <;> subst e <;> assumption))]
    refine xx (t_n (zcc (oF rfl (oL rfl (H.cell 0 rfl rfl) (oF rfl (oL rfl (H.cell 0 rfl rfl) (oF rfl (oL rfl (H.cell 0 rfl rfl) (oF rfl (oL rfl (H.cell 0 rfl rfl) (oF rfl (oL rfl (H.cell 0 rfl rfl) (sw (o_buildF H underlying29 ti24 [.slice yj r.xy.length yc,.slice yu r.xZ.length yh,.slice yl r.xY.length yf,.slice yt r.x9.length yg,.slice QH r.ja.length QG] rfl (by simp [Value.cells]) rfl qj qj fun b59 w60 H=>oN rfl (sp (yI 0) (zjn (xw ?_)))))))))))))))))
    replace H:=H.boxRow 0 rfl 1 5 rfl qj
    replace H:=H.Qv (α:=yLI)
    replace H:=H.repsCons false 7 rfl 0 rfl qm
    replace H:=H.repsCons false 7 rfl 0 rfl qm
    replace H:=H.repsCons false 7 rfl 0 rfl qm
    replace H:=H.repsCons false 7 rfl 0 rfl qm
    replace H:=H.repsCons false 7 rfl 0 rfl qm
    refine vJ (fun m' ρ w61=>∃ (zB:Env) (k:Nat),ρ=upd (upd (upd (upd (upd zB 2 (pp b1 0)) 3 (pp b3 0)) 45 (.slice (aa b59 0) 5 5)) 46 (yI 5)) 47 (yI k)∧((k:Int)≤5)∧(∀ j,j < k→zM s.xn ([r.xy,r.xZ,r.xY,r.x9,r.ja][j]!))∧m' =(5 - (k:Int)).toNat∧Fresh w.heap.size []∧St w w61 [rr (aa b59 0) 5 5 24 1 [.slice yj r.xy.length yc,.slice yu r.xZ.length yh,.slice yl r.xY.length yf,.slice yt r.x9.length yg,.slice QH r.ja.length QG],.box b3 [yI r.qE,yI r.vC,.slice yj r.xy.length yc,.slice yu r.xZ.length yh,.slice yl r.xY.length yf,.slice yt r.x9.length yg,.slice QH r.ja.length QG,.slice jQ r.qM.length jP,.bool true] 51,.box b1 (yS s qB qA qL qJ) 27] [xf false (Xu++(Xx++(Xv++(Xw++(FrOut++[]))))) [.slice yj r.xy.length yc,.slice yu r.xZ.length yh,.slice yl r.xY.length yf,.slice yt r.x9.length yg,.slice QH r.ja.length QG] [r.xy,r.xZ,r.xY,r.x9,r.ja],sF false xe qB qA s.qx,sF false xI qL qJ s.qw,sF false Xu yj yc r.xy,sF false Xx yu yh r.xZ,sF false Xv yl yf r.xY,sF false Xw yt yg r.x9,sF false FrOut QH QG r.ja,sF false FrInto jQ jP r.qM]) ((5 - (0:Int)).toNat) ⟨_,0,uE5,qf,(by intro j hj;omega),rfl,N,H.pick [0,1,2] [0,6,7,8,9,10,11,12,13]⟩ ?_
    clear H N
    rintro m' ρ w62 ⟨zB,k,rfl,i0,i1,rfl,N,H⟩
    refine zcr (sp (.bool (decide ((k:Int) < 5))) (zjn (zn (cD rfl (fun h63=>?_) (fun h63=>?_)))))
    ·skip
     refine xx (t_n (zn (xw (zcr (oI rfl rfl ?_)))))
     obtain ⟨a64,c65,G66,s67,h68,H⟩:=H.jD 0 rfl 0 rfl (iv:=k) k qf qf
     refine oL rfl (h68) (sp (.slice a64 (([r.xy,r.xZ,r.xY,r.x9,r.ja][k]!).length) c65) (zjc (oF rfl (oL rfl (H.cell 2 rfl rfl) (sp (.slice a64 (([r.xy,r.xZ,r.xY,r.x9,r.ja][k]!).length) c65) (sw (oq (validBag_ok _ s.xn ([r.xy,r.xZ,r.xY,r.x9,r.ja][k]!) (H.get 0 rfl).1) H fun w69 H=>sp (.bool (!(dec (zM s.xn ([r.xy,r.xZ,r.xY,r.x9,r.ja][k]!))))) (zjn (cQ rfl (fun h71=>?_) (fun h71=>?_))))))))))
     ·skip
      refine zcr (sp (.bool false) (zjr (zr5 (ret1 (.bool false) rfl rfl ⟨_,rfl,?_,H.base⟩))))
      rw [xh (fun h=>by obtain ⟨h1,h2,h3,h4,h5,h6,h7,h8,h9,h10,h11⟩:=h;first | contradiction | omega | exact h3 ⟨‹_›,‹_›⟩ | (obtain ⟨q1,q2,q3,q4,q5⟩:=h11 i qf;first | contradiction | omega | (have:=q5 qf;omega)) | (refine absurd ?_ ‹¬ zM _ _›;rcases (show k=0∨k=1∨k=2∨k=3∨k=4 by omega) with e | e | e | e | e <;> subst e <;> assumption))]
     refine xx (b_n (t_n (zk (sw (zX k 1 rfl rfl qf (sp (yI (k+1)) (zt (xu (m' :=(5 - ((k+1):Int)).toNat) qf ⟨_,k+1,uE5,?_,?_,rfl,N,H.pick [0,1,2] [1,2,3,4,5,6,7,8,9]⟩))))))))
     · omega
     · intro j hj;by_cases e:j=k;(subst e;assumption);exact i1 j qf
    refine zx4 (zcc (oF rfl (oL rfl (H.cell 1 rfl rfl) (oN rfl (sp (yI 0) (zjn (xw ?_)))))))
    have n1:zM s.xn r.xy:=i1 0 qf
    have n2:zM s.xn r.xZ:=i1 1 qf
    have n3:zM s.xn r.xY:=i1 2 qf
    have n4:zM s.xn r.x9:=i1 3 qf
    have n5:zM s.xn r.ja:=i1 4 qf
    refine vJ (fun m' ρ w72=>∃ (zB:Env) (i:Nat),ρ=upd (upd (upd (upd (upd zB 2 (pp b1 0)) 3 (pp b3 0)) 58 (.slice jQ r.qM.length jP)) 59 (yI r.qM.length)) 60 (yI i)∧((i:Int)≤r.qM.length)∧(IntosTo s r i)∧m' =(r.qM.length - (i:Int)).toNat∧Fresh w.heap.size []∧St w w72 [rr (aa b59 0) 5 5 24 1 [.slice yj r.xy.length yc,.slice yu r.xZ.length yh,.slice yl r.xY.length yf,.slice yt r.x9.length yg,.slice QH r.ja.length QG],.box b3 [yI r.qE,yI r.vC,.slice yj r.xy.length yc,.slice yu r.xZ.length yh,.slice yl r.xY.length yf,.slice yt r.x9.length yg,.slice QH r.ja.length QG,.slice jQ r.qM.length jP,.bool true] 51,.box b1 (yS s qB qA qL qJ) 27] [xf false (Xu++(Xx++(Xv++(Xw++(FrOut++[]))))) [.slice yj r.xy.length yc,.slice yu r.xZ.length yh,.slice yl r.xY.length yf,.slice yt r.x9.length yg,.slice QH r.ja.length QG] [r.xy,r.xZ,r.xY,r.x9,r.ja],sF false xe qB qA s.qx,sF false xI qL qJ s.qw,sF false Xu yj yc r.xy,sF false Xx yu yh r.xZ,sF false Xv yl yf r.xY,sF false Xw yt yg r.x9,sF false FrOut QH QG r.ja,sF false FrInto jQ jP r.qM]) ((r.qM.length - (0:Int)).toNat) ⟨_,0,uE5,qf,(by exact fun j hj=>by omega),rfl,N,H⟩ ?_
    clear H N
    rintro m' ρ w73 ⟨zB,i,rfl,i0,i2,rfl,N,H⟩
    refine zcr (sp (.bool (decide ((i:Int) < r.qM.length))) (zjn (zn (cD rfl (fun h74=>?_) (fun h74=>?_)))))
    ·skip
     refine xx (t_n (zn (xw (zcr (sp (yI i) ?_)))))
     obtain ⟨b75,o76,rfl⟩:=H.addr 8 rfl qf
     obtain ⟨ae78Bag,ce78Bag,Fe78Bag,H⟩:=H.yX 8 rfl i i qf qf qf
     refine oI rfl rfl (sw (zu [yI ((r.qM[i]!).qE),.slice ae78Bag (((r.qM[i]!).Qz).length) ce78Bag] isAgg121 sizeOf121 rfl (qH (H.get 1 rfl) 0 2) (sw (xq H ti121 [yI 0,yN] fun b79 w80 H=>sp (yI i) (sw (qQ H 0 [yI ((r.qM[i]!).qE),.slice ae78Bag (((r.qM[i]!).Qz).length) ce78Bag] sizeOf121 fun w81 H=>zjn (zn ?_)))))))
     refine yF rfl H fun H=>rt 0 (.agg #[yI s.xn,.slice qB s.qx.length qA,.slice qL s.qw.length qJ]) (QC (cs:=(yS s qB qA qL qJ)) isAgg27 sizeOf27 rfl (fun _ h=>qH (h.cells 3 rfl) 0 3)) H ?_
     refine tF 1 rfl rfl H ?_
     refine tL 2 rfl rfl (fun _ h=>h.cell 0 rfl rfl) H ?_
     refine ro 3 rfl (oq (isCell_ok _ s ((r.qM[i]!).qE) (H.get 3 rfl).1 (H.get 4 rfl).1) H fun w84 H=>⟨H,(rtp 4 (.bool (!(inR ((r.qM[i]!).qE) 0 ((s.qx.length:Int) - 1)))) H ?_)⟩)
     refine rtp 5 (.bool (!(inR ((r.qM[i]!).qE) 0 ((s.qx.length:Int) - 1)))) H ?_
     cases h86:(!(inR ((r.qM[i]!).qE) 0 ((s.qx.length:Int) - 1)))
     ·skip
      replace h86:=xm h86
      replace h86:=QE.1 h86
      refine rg 6 (.agg #[yI s.xn,.slice qB s.qx.length qA,.slice qL s.qw.length qJ]) 70 (QC (cs:=(yS s qB qA qL qJ)) isAgg27 sizeOf27 rfl (fun _ h=>qH (h.cells 3 rfl) 0 3)) H ?_
      refine gF 7 rfl rfl H ?_
      refine gL 8 rfl rfl (fun _ h=>h.cell 0 rfl rfl) H ?_
      refine gF 9 rfl rfl H ?_
      refine gL 10 rfl rfl (fun _ h=>h.cell 2 rfl rfl) H ?_
      refine zH [11] qh qm (r_opG rfl (e:=70) rfl rfl (oq (lies_ok _ s ((r.qM[i]!).qE) r.qE (H.get 3 rfl).1 (H.get 4 rfl).1 qg qg) H fun w88 H=>⟨H,(rgp 12 (.bool (!(dec (Lies s.qx r.qE ((r.qM[i]!).qE))))) 70 H ?_)⟩) zI)
      refine rtp 13 (.bool (!(dec (Lies s.qx r.qE ((r.qM[i]!).qE))))) H ?_
      refine rtp 14 (.bool (!(dec (Lies s.qx r.qE ((r.qM[i]!).qE))))) H ?_
      cases h90:(!(dec (Lies s.qx r.qE ((r.qM[i]!).qE))))
      ·skip
       replace h90:=xm h90
       replace h90:=Qd h90
       refine gF 15 rfl rfl H ?_
       refine gL 16 rfl rfl (fun _ h=>h.cell 3 rfl rfl) H ?_
       refine gF 17 rfl rfl H ?_
       refine gL 18 rfl rfl (fun _ h=>h.cell 0 rfl rfl) H ?_
       refine zH [19] qh qm (r_opG rfl (e:=79) rfl rfl (oq (validBag_ok _ s.xn ((r.qM[i]!).Qz) (H.get 0 rfl).1) H fun w91 H=>⟨H,(rgp 20 (.bool (!(dec (zM s.xn ((r.qM[i]!).Qz))))) 79 H ?_)⟩) zI)
       refine rtp 21 (.bool (!(dec (zM s.xn ((r.qM[i]!).Qz))))) H ?_
       refine rtp 22 (.bool (!(dec (zM s.xn ((r.qM[i]!).Qz))))) H ?_
       cases h93:(!(dec (zM s.xn ((r.qM[i]!).Qz))))
       ·skip
        replace h93:=xm h93
        replace h93:=Qd h93
        refine gF 23 rfl rfl H ?_
        refine gL 24 rfl rfl (fun _ h=>h.cell 0 rfl rfl) H ?_
        refine zH [25] qh qm (r_opG rfl (e:=87) rfl rfl ?_ zI)
        have sm:Small ((r.qM[i]!).Qz):=je (by first | assumption | exact i1 0 qf)
        refine oq (bagSize_ok _ ((r.qM[i]!).Qz) (H.get 0 rfl).1 (by first | assumption | exact je ql | exact QB ql)) H fun w94 H=>⟨H,(rgp 26 (.bool ((sumL ((r.qM[i]!).Qz):Int) == 0)) 87 H ?_)⟩
        refine rtp 27 (.bool ((sumL ((r.qM[i]!).Qz):Int) == 0)) H ?_
        refine rtp 28 (.bool ((sumL ((r.qM[i]!).Qz):Int) == 0)) H ?_
        cases h96:((sumL ((r.qM[i]!).Qz):Int) == 0)
        ·skip
         replace h96:=ne_of_beq_false h96
         refine rgp 29 (yI i) 93 H ?_
         refine rgp 30 (.bool (decide ((i:Int) > 0))) 93 H ?_
         refine rgp 31 (.bool (decide ((i:Int) > 0))) 93 H ?_
         cases h97:(decide ((i:Int) > 0))
         ·skip
          replace h97:=of_decide_eq_false h97
          refine zC [32,33,34,35,36,37,38,39,40,41] 10 (H) (rgp 42 (.bool false) 93 H ?_)
          refine rtp 43 (.bool false) H ?_
          refine qZ qh (t_n (xW false rfl (fun h=>absurd h qj) (fun _=>xx (b_n (t_n (zk (sw (zX i 1 rfl rfl qf (sp (yI (i+1)) (zt (xu (m' :=(r.qM.length - ((i+1):Int)).toNat) qf ⟨_,i+1,uE5,?_,?_,rfl,N,H.pick [1,2,3] [2,3,4,5,6,7,8,9,10]⟩)))))))))))
          · omega
          · exact i2.succ ⟨‹_›,‹_›,‹_›,‹_›,fun hk=>by omega⟩
         replace h97:=of_decide_eq_true h97
         refine gF 32 rfl rfl H ?_
         refine gL 33 rfl rfl (fun _ h=>h.cell 0 rfl rfl) H ?_
         refine gF 34 rfl rfl H ?_
         refine gL 35 rfl rfl (fun _ h=>h.cell 2 rfl rfl) H ?_
         refine rgp 36 (yI i) 96 H ?_
         refine rg 37 (yI (i - 1)) 96 (y_sub i 1 rfl rfl qf) H ?_
         obtain ⟨ae98Bag,ce98Bag,Fe98Bag,H⟩:=H.yX 10 rfl (i - 1) (i - 1) qf qf qf
         have S:=H.jR [0,1,2,3] [2,3,4,5,6,7,8,9,10,11,12]
         refine gI 38 rfl rfl rfl S ?_
         refine gF 39 rfl rfl S ?_
         refine zH [40] qh qm (r_opG rfl (e:=96) rfl rfl (zh (yI ((r.qM[i - 1]!).qE)) isAgg2 rfl (H.xX 1 rfl 0 rfl) (⟨H.pick [0,1,2,3] [2,3,4,5,6,7,8,9,10,11,12],?_⟩)) zI)
         have S:=H.jR [0,1,2,3] [2,3,4,5,6,7,8,9,10,11,12]
         refine rgp 41 (.bool (decide (((r.qM[i]!).qE:Int)≤((r.qM[i - 1]!).qE)))) 96 S ?_
         refine rgp 42 (.bool (decide (((r.qM[i]!).qE:Int)≤((r.qM[i - 1]!).qE)))) 93 S ?_
         refine rtp 43 (.bool (decide (((r.qM[i]!).qE:Int)≤((r.qM[i - 1]!).qE)))) S ?_
         refine qZ qh (t_n (cD rfl (fun h99=>?_) (fun h99=>?_)))
         ·skip
          refine zcr (sp (.bool false) (zjr (zr5 (ret1 (.bool false) rfl rfl ⟨_,rfl,?_,H.base⟩))))
          rw [xh (fun h=>by obtain ⟨h1,h2,h3,h4,h5,h6,h7,h8,h9,h10,h11⟩:=h;first | contradiction | omega | exact h3 ⟨‹_›,‹_›⟩ | (obtain ⟨q1,q2,q3,q4,q5⟩:=h11 i qf;first | contradiction | omega | (have:=q5 qf;omega)) | (refine absurd ?_ ‹¬ zM _ _›;rcases (show k=0∨k=1∨k=2∨k=3∨k=4 by omega) with e | e | e | e | e <;> subst e <;> assumption))]
         refine xx (b_n (t_n (zk (sw (zX i 1 rfl rfl qf (sp (yI (i+1)) (zt (xu (m' :=(r.qM.length - ((i+1):Int)).toNat) qf ⟨_,i+1,uE5,?_,?_,rfl,N,H.pick [1,2,3] [4,5,6,7,8,9,10,11,12]⟩))))))))
         · omega
         · exact i2.succ ⟨‹_›,‹_›,‹_›,‹_›,fun hk=>by omega⟩
        replace h96:=eq_of_beq h96
        refine zC [29,30,31,32,33,34,35,36,37,38,39,40,41,42] 14 (H) (rtp 43 (.bool true) H ?_)
        refine qZ qh (t_n (xW true rfl (fun _=>zcr (sp (.bool false) (zjr (zr5 (ret1 (.bool false) rfl rfl ⟨_,rfl,?_,H.base⟩))))) (fun h=>absurd h qj)))
        rw [xh (fun h=>by obtain ⟨h1,h2,h3,h4,h5,h6,h7,h8,h9,h10,h11⟩:=h;first | contradiction | omega | exact h3 ⟨‹_›,‹_›⟩ | (obtain ⟨q1,q2,q3,q4,q5⟩:=h11 i qf;first | contradiction | omega | (have:=q5 qf;omega)) | (refine absurd ?_ ‹¬ zM _ _›;rcases (show k=0∨k=1∨k=2∨k=3∨k=4 by omega) with e | e | e | e | e <;> subst e <;> assumption))]
       replace h93:=xB h93
       replace h93:=zJ h93
       refine zC [23,24,25,26] 4 (H) (rtp 27 (.bool true) H ?_)
       refine rtp 28 (.bool true) H ?_
       refine zC [29,30,31,32,33,34,35,36,37,38,39,40,41,42] 14 (H) (rtp 43 (.bool true) H ?_)
       refine qZ qh (t_n (xW true rfl (fun _=>zcr (sp (.bool false) (zjr (zr5 (ret1 (.bool false) rfl rfl ⟨_,rfl,?_,H.base⟩))))) (fun h=>absurd h qj)))
       rw [xh (fun h=>by obtain ⟨h1,h2,h3,h4,h5,h6,h7,h8,h9,h10,h11⟩:=h;first | contradiction | omega | exact h3 ⟨‹_›,‹_›⟩ | (obtain ⟨q1,q2,q3,q4,q5⟩:=h11 i qf;first | contradiction | omega | (have:=q5 qf;omega)) | (refine absurd ?_ ‹¬ zM _ _›;rcases (show k=0∨k=1∨k=2∨k=3∨k=4 by omega) with e | e | e | e | e <;> subst e <;> assumption))]
      replace h90:=xB h90
      replace h90:=zJ h90
      refine zC [15,16,17,18,19,20] 6 (H) (rtp 21 (.bool true) H ?_)
      refine rtp 22 (.bool true) H ?_
      refine zC [23,24,25,26] 4 (H) (rtp 27 (.bool true) H ?_)
      refine rtp 28 (.bool true) H ?_
      refine zC [29,30,31,32,33,34,35,36,37,38,39,40,41,42] 14 (H) (rtp 43 (.bool true) H ?_)
      refine qZ qh (t_n (xW true rfl (fun _=>zcr (sp (.bool false) (zjr (zr5 (ret1 (.bool false) rfl rfl ⟨_,rfl,?_,H.base⟩))))) (fun h=>absurd h qj)))
      rw [xh (fun h=>by obtain ⟨h1,h2,h3,h4,h5,h6,h7,h8,h9,h10,h11⟩:=h;first | contradiction | omega | exact h3 ⟨‹_›,‹_›⟩ | (obtain ⟨q1,q2,q3,q4,q5⟩:=h11 i qf;first | contradiction | omega | (have:=q5 qf;omega)) | (refine absurd ?_ ‹¬ zM _ _›;rcases (show k=0∨k=1∨k=2∨k=3∨k=4 by omega) with e | e | e | e | e <;> subst e <;> assumption))]
     replace h86:=xB h86
     replace h86:=Q4 h86
     refine zC [6,7,8,9,10,11,12] 7 (H) (rtp 13 (.bool true) H ?_)
     refine rtp 14 (.bool true) H ?_
     refine zC [15,16,17,18,19,20] 6 (H) (rtp 21 (.bool true) H ?_)
     refine rtp 22 (.bool true) H ?_
     refine zC [23,24,25,26] 4 (H) (rtp 27 (.bool true) H ?_)
     refine rtp 28 (.bool true) H ?_
     refine zC [29,30,31,32,33,34,35,36,37,38,39,40,41,42] 14 (H) (rtp 43 (.bool true) H ?_)
     refine qZ qh (t_n (xW true rfl (fun _=>zcr (sp (.bool false) (zjr (zr5 (ret1 (.bool false) rfl rfl ⟨_,rfl,?_,H.base⟩))))) (fun h=>absurd h qj)))
     rw [xh (fun h=>by obtain ⟨h1,h2,h3,h4,h5,h6,h7,h8,h9,h10,h11⟩:=h;first | contradiction | omega | exact h3 ⟨‹_›,‹_›⟩ | (obtain ⟨q1,q2,q3,q4,q5⟩:=h11 i qf;first | contradiction | omega | (have:=q5 qf;omega)) | (refine absurd ?_ ‹¬ zM _ _›;rcases (show k=0∨k=1∨k=2∨k=3∨k=4 by omega) with e | e | e | e | e <;> subst e <;> assumption))]
    refine zx4 (zcr (oF rfl (oL rfl (H.cell 1 rfl rfl) ?_)))
    have sm:Small r.xy:=je (by first | assumption | exact i1 0 qf)
    refine sw (oq (bagSize_ok _ r.xy (H.get 3 rfl).1 (by first | assumption | exact je ql | exact QB ql)) H fun w100 H=>sps [.bool (decide ((sumL r.xy:Int) > 0)),.bool (decide ((sumL r.xy:Int) > 0))] (zjr (ret1 (.bool (decide ((sumL r.xy:Int) > 0))) rfl rfl ⟨_,rfl,(congrArg Value.bool (dec_eq ?_)),H.base⟩)))
    rw [decide_eq_true_iff]
    exact ⟨fun h=>⟨by omega,by omega,by simp_all,by omega,n1,n2,n3,n4,n5,by omega,(show i=r.qM.length by omega)▸i2⟩,fun h=>by have:=h.2.2.2.2.2.2.2.2.2.1;have:=sum_nonneg n1.1;omega⟩
   replace h57:=eq_of_beq h57
   refine xK [30,31,32,33] (sp (.bool true) (zjn (xW true rfl (fun _=>zcr (sp (.bool false) (zjr (t_r (ret1 (.bool false) rfl rfl ⟨_,rfl,?_,H.base⟩))))) (fun h=>absurd h qj))))
   rw [xh (fun h=>by obtain ⟨h1,h2,h3,h4,h5,h6,h7,h8,h9,h10,h11⟩:=h;first | contradiction | omega | exact h3 ⟨‹_›,‹_›⟩ | (obtain ⟨q1,q2,q3,q4,q5⟩:=h11 i qf;first | contradiction | omega | (have:=q5 qf;omega)) | (refine absurd ?_ ‹¬ zM _ _›;rcases (show k=0∨k=1∨k=2∨k=3∨k=4 by omega) with e | e | e | e | e <;> subst e <;> assumption))]
  replace h11:=xB h11
  replace h11:=Q4 h11
  refine xK [21,22,23,24,25,26,27] (sps [.bool true,.bool true] (xK [30,31,32,33] (sp (.bool true) (zjn (xW true rfl (fun _=>zcr (sp (.bool false) (zjr (t_r (ret1 (.bool false) rfl rfl ⟨_,rfl,?_,H.base⟩))))) (fun h=>absurd h qj))))))
  rw [xh (fun h=>by obtain ⟨h1,h2,h3,h4,h5,h6,h7,h8,h9,h10,h11⟩:=h;first | contradiction | omega | exact h3 ⟨‹_›,‹_›⟩ | (obtain ⟨q1,q2,q3,q4,q5⟩:=h11 i qf;first | contradiction | omega | (have:=q5 qf;omega)) | (refine absurd ?_ ‹¬ zM _ _›;rcases (show k=0∨k=1∨k=2∨k=3∨k=4 by omega) with e | e | e | e | e <;> subst e <;> assumption))]
 replace h8:=xB h8
 replace h8:=Q4 h8
 refine xK [15,16,17,18] (sps [.bool true,.bool true] (xK [21,22,23,24,25,26,27] (sps [.bool true,.bool true] (xK [30,31,32,33] (sp (.bool true) (zjn (xW true rfl (fun _=>zcr (sp (.bool false) (zjr (t_r (ret1 (.bool false) rfl rfl ⟨_,rfl,?_,H.base⟩))))) (fun h=>absurd h qj))))))))
 rw [xh (fun h=>by obtain ⟨h1,h2,h3,h4,h5,h6,h7,h8,h9,h10,h11⟩:=h;first | contradiction | omega | exact h3 ⟨‹_›,‹_›⟩ | (obtain ⟨q1,q2,q3,q4,q5⟩:=h11 i qf;first | contradiction | omega | (have:=q5 qf;omega)) | (refine absurd ?_ ‹¬ zM _ _›;rcases (show k=0∨k=1∨k=2∨k=3∨k=4 by omega) with e | e | e | e | e <;> subst e <;> assumption))]
theorem validSystem_ok (w:World) (s:qy) {qB:yOA} {xe:yLN} {qL:yOA} {xI:yLN} (qV:qU.rep w xe [.slice qB s.qx.length qA] s.qx) (xF:qU.rep w xI [.slice qL s.qw.length qJ] s.qw):Calls Try.prog 71 #[.agg #[yI s.xn,.slice qB s.qx.length qA,.slice qL s.qw.length qJ]] w (Ret (fun v w' =>v=.bool (dec (yH s))) w):=by
 refine en func71 ntmps71 ?_
 have H:=((St.start w).arg xF).arg qV
 have vG:=qP qV
 have jM:=qP xF
 clear qV xF
 have N:=Fresh.nil w.heap.size
 have p1:=fun h:jE s=>h.2.1
 refine zcr (sw (yK H (yS s qB qA qL qJ) fun b1 w2 H=>sp (.bool false) (zjcc (sw (zu (yS s qB qA qL qJ) isAgg27 sizeOf27 rfl (qH (H.cells 0 rfl) 0 3) (sw (oq (isShell_ok _ s (H.get 0 rfl).1 (H.get 1 rfl).1) H fun w4 H=>sps [.bool (!(dec (jE s))),.bool (!(dec (jE s)))] ?_)))))))
 cases h6:(!(dec (jE s)))
 ·skip
  replace h6:=xm h6
  replace h6:=Qd h6
  refine qK 9 rfl rfl (oF rfl (qK 9 rfl rfl (oL rfl (H.cell 0 rfl rfl) (qK 9 rfl rfl (oN rfl (qK 9 rfl rfl (sps [.bool (decide ((s.qw.length:Int) > 16)),.bool (decide ((s.qw.length:Int) > 16))] (zjn (cD rfl (fun h7=>?_) (fun h7=>?_))))))))))
  ·skip
   refine zcr (sp (.bool false) (zjr (t_r (ret1 (.bool false) rfl rfl ⟨_,rfl,?_,H.base⟩))))
   rw [xh (fun h=>by obtain ⟨h1,h2,h3⟩:=h;first | contradiction | omega | (obtain ⟨r1,r2⟩:=h3 k qf;first | contradiction | (have:=XE (s:=s) (k:=k+1) q1 q2;omega)))]
  refine xx (t_n (zcr (sw (xJ [yI 0,yI 0,yI 0,yI 0,yI 0,yI 0] [] (sw (xq H ti129 [yI 0,yI 0,yI 0,yI 0,yI 0,yI 0] fun b8 w9 H=>sw (qQ H 0 [yI 0,yI 0,yI 0,yI 0,yI 0,yI 0] sizeOf129 fun w10 H=>zjcc (oF rfl (oL rfl (H.cell 1 rfl rfl) (oN rfl (sp (yI 0) (zjn (xw ?_)))))))))))))
  have p2:=p1 ‹_›
  refine vJ (fun m' ρ w11=>∃ (zB:Env) (k:Nat) (many:yLI),ρ=upd (upd (upd (upd (upd zB 1 (pp b1 0)) 3 (pp b8 0)) 17 (.slice qL s.qw.length qJ)) 18 (yI s.qw.length)) 19 (yI k)∧many=counts6 s k∧((k:Int)≤s.qw.length)∧(RulesTo s k)∧m' =(s.qw.length - (k:Int)).toNat∧Fresh w.heap.size []∧St w w11 [.box b8 (many.map (Value.int .i64)) 129,.box b1 (yS s qB qA qL qJ) 27] [sF false xe qB qA s.qx,sF false xI qL qJ s.qw]) ((s.qw.length - (0:Int)).toNat) ⟨_,0,[0,0,0,0,0,0],uE5,(by exact counts6_zero s),qf,(by exact fun j hj=>by omega),rfl,N,H⟩ ?_
  clear H N
  rintro m' ρ w12 ⟨zB,k,many,rfl,rfl,i0,i1,rfl,N,H⟩
  refine zcr (sp (.bool (decide ((k:Int) < s.qw.length))) (zjn (zn (cD rfl (fun h13=>?_) (fun h13=>?_)))))
  ·skip
   refine xx (t_n (zn (xw (zcr ?_))))
   obtain ⟨b14,o15,rfl⟩:=H.addr 1 rfl qf
   obtain ⟨ae17Need,ce17Need,Fe17Need,ae17Have,ce17Have,Fe17Have,ae17Lack,ce17Lack,Fe17Lack,ae17Here,ce17Here,Fe17Here,ae17Out,ce17Out,Fe17Out,ae17Into,ce17Into,Fe17Into,H⟩:=H.Qo 1 rfl k k qf qf qf
   refine oI rfl rfl (sw (zu [yI ((s.qw[k]!).qE),yI ((s.qw[k]!).vC),.slice ae17Need (((s.qw[k]!).xy).length) ce17Need,.slice ae17Have (((s.qw[k]!).xZ).length) ce17Have,.slice ae17Lack (((s.qw[k]!).xY).length) ce17Lack,.slice ae17Here (((s.qw[k]!).x9).length) ce17Here,.slice ae17Out (((s.qw[k]!).ja).length) ce17Out,.slice ae17Into (((s.qw[k]!).qM).length) ce17Into,.bool ((s.qw[k]!).zW)] isAgg51 sizeOf51 rfl (qH (H.get 6 rfl) 0 9) ?_))
   refine sw (xq H ti51 [yI 0,yI 0,yN,yN,yN,yN,yN,yN,.bool false] fun b18 w19 H=>sw (qQ H 0 [yI ((s.qw[k]!).qE),yI ((s.qw[k]!).vC),.slice ae17Need (((s.qw[k]!).xy).length) ce17Need,.slice ae17Have (((s.qw[k]!).xZ).length) ce17Have,.slice ae17Lack (((s.qw[k]!).xY).length) ce17Lack,.slice ae17Here (((s.qw[k]!).x9).length) ce17Here,.slice ae17Out (((s.qw[k]!).ja).length) ce17Out,.slice ae17Into (((s.qw[k]!).qM).length) ce17Into,.bool ((s.qw[k]!).zW)] sizeOf51 fun w20 H=>?_))
   refine zjcc (sw (zu [yI s.xn,.slice qB s.qx.length qA,.slice (aa b14 o15) s.qw.length qJ] isAgg27 sizeOf27 rfl (qH (H.cells 2 rfl) 0 3) ?_))
   refine sw (zu [yI ((s.qw[k]!).qE),yI ((s.qw[k]!).vC),.slice ae17Need (((s.qw[k]!).xy).length) ce17Need,.slice ae17Have (((s.qw[k]!).xZ).length) ce17Have,.slice ae17Lack (((s.qw[k]!).xY).length) ce17Lack,.slice ae17Here (((s.qw[k]!).x9).length) ce17Here,.slice ae17Out (((s.qw[k]!).ja).length) ce17Out,.slice ae17Into (((s.qw[k]!).qM).length) ce17Into,.bool ((s.qw[k]!).zW)] isAgg51 sizeOf51 rfl (qH (H.cells 0 rfl) 0 9) ?_)
   refine sw (oq (isRule_ok _ s (s.qw[k]!) (H.get 7 rfl).1 (H.get 8 rfl).1 (H.get 0 rfl).1 (H.get 1 rfl).1 (H.get 2 rfl).1 (H.get 3 rfl).1 (H.get 4 rfl).1 (H.get 5 rfl).1 qg) H fun w22 H=>?_)
   have q:=fun h:RuleOk s (s.qw[k]!)=>(show 0≤(s.qw[k]!).qE∧(s.qw[k]!).qE≤5 from ⟨h.1.1,by have:=h.1.2;omega⟩)
   refine sp (.bool (!(dec (RuleOk s (s.qw[k]!))))) (zjn (cQ rfl (fun h24=>?_) (fun h24=>?_)))
   ·skip
    refine zcr (sp (.bool false) (zjr (t_r (zr5 (ret1 (.bool false) rfl rfl ⟨_,rfl,?_,H.base⟩)))))
    rw [xh (fun h=>by obtain ⟨h1,h2,h3⟩:=h;first | contradiction | omega | (obtain ⟨r1,r2⟩:=h3 k qf;first | contradiction | (have:=XE (s:=s) (k:=k+1) q1 q2;omega)))]
   obtain ⟨q1,q2⟩:=q ‹_›
   have q3:=XE (s:=s) (k:=k) q1 q2
   have q4:=ofCell_bd s.qw (s.qw[k]!).qE k
   refine xx (t_n (zcr (oF rfl (oL rfl (H.cell 0 rfl rfl) (sw (o_idxArr ((s.qw[k]!).qE) underlying129 ti3 rfl rfl qf qf (oL rfl (H.cell 1 rfl (ints_at (iv:=(s.qw[k]!).qE) (i:=(((s.qw[k]!).qE).toNat)) qf (by simp only [List.length_set,List.length_cons,List.length_nil,counts6_len];omega))) (sw (zX ((counts6 s k)[((s.qw[k]!).qE).toNat]!) 1 rfl rfl qf (sw (o_idxArr ((s.qw[k]!).qE) underlying129 ti3 rfl rfl qf qf ?_)))))))))))
   refine sw (o_storeArr H 1 rfl (((counts6 s k)[((s.qw[k]!).qE).toNat]!)+1) sizeOf3 rfl rfl (i:=(((s.qw[k]!).qE).toNat)) qf (by simp only [List.length_set,List.length_cons,List.length_nil,counts6_len];omega) fun w25 H=>?_)
   rw [counts6_succ q1 q2] at H
   refine zjc (oF rfl (oL rfl (H.cell 0 rfl rfl) (sw (o_idxArr ((s.qw[k]!).qE) underlying129 ti3 rfl rfl qf qf (oL rfl (H.cell 1 rfl (ints_at (iv:=(s.qw[k]!).qE) (i:=(((s.qw[k]!).qE).toNat)) qf (by simp only [List.length_set,List.length_cons,List.length_nil,counts6_len];omega))) (sp (.bool (decide (((counts6 s (k+1))[((s.qw[k]!).qE).toNat]! :Int) > 8))) (zjn (cD rfl (fun h26=>?_) (fun h26=>?_)))))))))
   ·skip
    refine zcr (sp (.bool false) (zjr (zr5 (ret1 (.bool false) rfl rfl ⟨_,rfl,?_,H.base⟩))))
    rw [xh (fun h=>by obtain ⟨h1,h2,h3⟩:=h;first | contradiction | omega | (obtain ⟨r1,r2⟩:=h3 k qf;first | contradiction | (have:=XE (s:=s) (k:=k+1) q1 q2;omega)))]
   refine xx (b_n (t_n (zk (sw (zX k 1 rfl rfl qf (sp (yI (k+1)) (zt (xu (m' :=(s.qw.length - ((k+1):Int)).toNat) qf ⟨_,k+1,counts6 s (k+1),uE5,?_,?_,?_,rfl,N,H.pick [1,2] [7,8]⟩))))))))
   · rfl
   · omega
   · exact i1.succ ‹_› (by have:=XE (s:=s) (k:=k+1) q1 q2;omega)
  refine zx4 (zcr (sp (.bool true) (zjr (ret1 (.bool true) rfl rfl ⟨_,rfl,?_,H.base⟩))))
  rw [yC ⟨by assumption,by omega,(show s.qw.length=k by omega)▸i1⟩]
 replace h6:=xB h6
 replace h6:=zJ h6
 refine xK [10,11,12,13] (sp (.bool true) (zjn (xW true rfl (fun _=>zcr (sp (.bool false) (zjr (t_r (ret1 (.bool false) rfl rfl ⟨_,rfl,?_,H.base⟩))))) (fun h=>absurd h qj))))
 rw [xh (fun h=>by obtain ⟨h1,h2,h3⟩:=h;first | contradiction | omega | (obtain ⟨r1,r2⟩:=h3 k qf;first | contradiction | (have:=XE (s:=s) (k:=k+1) q1 q2;omega)))]

theorem validState_ok (w:World) (s:qy) (t:qG) {qB:yOA} {xe:yLN} {qL:yOA} {xI:yLN} {qX:yOA} {zg:yLN} {xG:yOA} {zO:yLN} {qO:yOA} {xN:yLN} (qV:qU.rep w xe [.slice qB s.qx.length qA] s.qx) (xF:qU.rep w xI [.slice qL s.qw.length qJ] s.qw) (zf:qU.rep w zg [.slice qX t.qC.length qR] t.qC) (zK:qU.rep w zO [.slice xG t.qI.length xA] t.qI) (xO:qU.rep w xN [.slice qO t.qF.length qN] t.qF):Calls Try.prog 37 #[.agg #[yI s.xn,.slice qB s.qx.length qA,.slice qL s.qw.length qJ],.agg #[.slice qX t.qC.length qR,.slice xG t.qI.length xA,.slice qO t.qF.length qN]] w (Ret (fun v w' =>v=.bool (dec (yH s∧zl s t))) w):=by
 refine en func37 ntmps37 ?_
 have H:=(((((St.start w).arg xO).arg zK).arg zf).arg xF).arg qV
 have vG:=qP qV
 have jM:=qP xF
 have Qh:=qP zf
 have QR:=qP zK
 have yO:=qP xO
 clear qV xF zf zK xO
 have N:=Fresh.nil w.heap.size
 refine zcr (sw (yK H (yS s qB qA qL qJ) fun b1 w2 H=>sw (yK H (yT t qX qR xG xA qO qN) fun b3 w4 H=>sp (.bool false) (zjcc (sw (zu (yS s qB qA qL qJ) isAgg27 sizeOf27 rfl (qH (H.cells 1 rfl) 0 3) (sw (oq (validSystem_ok _ s (H.get 0 rfl).1 (H.get 1 rfl).1) H fun w6 H=>sps [.bool (!(dec (yH s))),.bool (!(dec (yH s)))] ?_))))))))
 cases h8:(!(dec (yH s)))
 ·skip
  replace h8:=xm h8
  replace h8:=Qd h8
  have z1:=(‹yH s›:yH s).1.2.1
  refine qK 10 rfl rfl (oF rfl (qK 10 rfl rfl (oL rfl (H.cell 0 rfl rfl) (qK 10 rfl rfl (oN rfl (qK 10 rfl rfl (oF rfl (qK 10 rfl rfl (oL rfl (H.cell 1 rfl rfl) (qK 10 rfl rfl (oN rfl (qK 10 rfl rfl (sps [.bool ((t.qC.length:Int) != s.qx.length),.bool ((t.qC.length:Int) != s.qx.length),.bool ((t.qC.length:Int) != s.qx.length)] ?_)))))))))))))
  cases h9:((t.qC.length:Int) != s.qx.length)
  ·skip
   replace h9:=zL h9
   refine qK 19 rfl rfl (oF rfl (qK 19 rfl rfl (oL rfl (H.cell 0 rfl rfl) (qK 19 rfl rfl (oN rfl (qK 19 rfl rfl (oF rfl (qK 19 rfl rfl (oL rfl (H.cell 1 rfl rfl) (qK 19 rfl rfl (oN rfl (qK 19 rfl rfl (sps [.bool ((t.qI.length:Int) != s.qx.length),.bool ((t.qI.length:Int) != s.qx.length),.bool ((t.qI.length:Int) != s.qx.length)] ?_)))))))))))))
   cases h10:((t.qI.length:Int) != s.qx.length)
   ·skip
    replace h10:=zL h10
    refine qK 28 rfl rfl (oF rfl (qK 28 rfl rfl (oL rfl (H.cell 0 rfl rfl) (qK 28 rfl rfl ?_))))
    obtain ⟨b11,o12,rfl⟩:=H.addr 2 rfl qf
    refine oI rfl rfl (qK 28 rfl rfl (oL rfl (H.Xg 2 rfl 0 qf qf) (qK 28 rfl rfl (sps [.bool (!(t.qC[0]!)),.bool (!(t.qC[0]!)),.bool (!(t.qC[0]!))] ?_))))
    cases h14:(!(t.qC[0]!))
    ·skip
     replace h14:=xm h14
     refine qK 35 rfl rfl (oF rfl (qK 35 rfl rfl (oL rfl (H.cell 1 rfl rfl) (qK 35 rfl rfl (oF rfl (qK 35 rfl rfl (oL rfl (H.cell 0 rfl rfl) (qK 35 rfl rfl (sw (oq (validBag_ok _ s.xn t.qF (H.get 4 rfl).1) H fun w15 H=>qK 35 rfl rfl (sps [.bool (!(dec (zM s.xn t.qF))),.bool (!(dec (zM s.xn t.qF)))] (zjn (cQ rfl (fun h17=>?_) (fun h17=>?_))))))))))))))
     ·skip
      refine zcr (sp (.bool false) (zjr (t_r (ret1 (.bool false) rfl rfl ⟨_,rfl,?_,H.base⟩))))
      rw [xh (fun h=>by obtain ⟨h0,h1,h2,h3,h4,h5⟩:=h;first | contradiction | omega | (simp_all;done) | (obtain ⟨q1,q2⟩:=h5 c qf;first | contradiction | (have:=q2 ql;omega)))]
     refine xx (t_n (zcc (oF rfl (oL rfl (H.cell 0 rfl rfl) (oN rfl (sp (yI 0) (zjn (xw ?_))))))))
     refine vJ (fun m' ρ w18=>∃ (zB:Env) (c:Nat),ρ=upd (upd (upd (upd (upd zB 2 (pp b1 0)) 3 (pp b3 0)) 44 (.slice xG t.qI.length xA)) 45 (yI t.qI.length)) 46 (yI c)∧((c:Int)≤t.qI.length)∧(BagsTo s t c)∧m' =(t.qI.length - (c:Int)).toNat∧Fresh w.heap.size []∧St w w18 [.box b3 [.slice (aa b11 o12) t.qC.length qR,.slice xG t.qI.length xA,.slice qO t.qF.length qN] 31,.box b1 (yS s qB qA qL qJ) 27] [sF false xe qB qA s.qx,sF false xI qL qJ s.qw,sF false zg (aa b11 o12) qR t.qC,sF false zO xG xA t.qI,sF false xN qO qN t.qF]) ((t.qI.length - (0:Int)).toNat) ⟨_,0,uE5,qf,(by exact fun j hj=>by omega),rfl,N,H⟩ ?_
     clear H N
     rintro m' ρ w19 ⟨zB,c,rfl,i0,i1,rfl,N,H⟩
     refine zcr (sp (.bool (decide ((c:Int) < t.qI.length))) (zjn (zn (cD rfl (fun h20=>?_) (fun h20=>?_)))))
     ·skip
      refine xx (t_n (zn (xw (zcr (sp (yI c) ?_)))))
      obtain ⟨b21,o22,rfl⟩:=H.addr 3 rfl qf
      obtain ⟨ae24,ce24,Fe24,H⟩:=H.QL 3 rfl c c qf qf qf
      refine oI rfl rfl (oL rfl (H.xX 1 rfl 0 rfl) (sps [yI c,.slice ae24 ((t.qI[c]!).length) ce24] (zjc (oF rfl (oL rfl (H.cell 1 rfl rfl) (sp (.slice ae24 ((t.qI[c]!).length) ce24) (sw (oq (validBag_ok _ s.xn (t.qI[c]!) (H.get 0 rfl).1) H fun w25 H=>sps [.bool (!(dec (zM s.xn (t.qI[c]!)))),.bool (!(dec (zM s.xn (t.qI[c]!))))] ?_))))))))
      cases h27:(!(dec (zM s.xn (t.qI[c]!))))
      ·skip
       replace h27:=xm h27
       replace h27:=Qd h27
       refine qK 56 rfl rfl (oF rfl (qK 56 rfl rfl (oL rfl (H.cell 0 rfl rfl) (qK 56 rfl rfl (sp (yI c) (qK 56 rfl rfl (oI rfl rfl (qK 56 rfl rfl (oL rfl (H.Xg 4 rfl c qf qf) (qK 56 rfl rfl (sp (.bool (!(t.qC[c]!))) (qK 56 rfl rfl (sp (.bool (!(t.qC[c]!))) ?_)))))))))))))
       cases h28:(!(t.qC[c]!))
       ·skip
        replace h28:=xm h28
        refine xK [64,65,66] (qK 56 rfl rfl (sps [.bool false,.bool false] (zjn (xW false rfl (fun h=>absurd h qj) (fun _=>xx (b_n (t_n (zk (sw (zX c 1 rfl rfl qf (sp (yI (c+1)) (zt (xu (m' :=(t.qI.length - ((c+1):Int)).toNat) qf ⟨_,c+1,uE5,?_,?_,rfl,N,H.pick [0,1] [2,3,4,5,6]⟩)))))))))))))
        · omega
        · exact i1.succ ‹_› (fun hk=>by first | omega | simp_all)
       replace h28:=xB h28
       refine qK 63 rfl rfl (sp (.slice ae24 ((t.qI[c]!).length) ce24) (qK 63 rfl rfl (sw (oq (bagSize_ok _ (t.qI[c]!) (H.get 0 rfl).1 (by first | assumption | exact je ql | exact QB ql)) H fun w29 H=>qK 63 rfl rfl (sp (.bool (decide ((sumL (t.qI[c]!):Int) > 0))) (qK 56 rfl rfl (sps [.bool (decide ((sumL (t.qI[c]!):Int) > 0)),.bool (decide ((sumL (t.qI[c]!):Int) > 0))] (zjn (cD rfl (fun h31=>?_) (fun h31=>?_))))))))))
       ·skip
        refine zcr (sp (.bool false) (zjr (zr5 (ret1 (.bool false) rfl rfl ⟨_,rfl,?_,H.base⟩))))
        rw [xh (fun h=>by obtain ⟨h0,h1,h2,h3,h4,h5⟩:=h;first | contradiction | omega | (simp_all;done) | (obtain ⟨q1,q2⟩:=h5 c qf;first | contradiction | (have:=q2 ql;omega)))]
       refine xx (b_n (t_n (zk (sw (zX c 1 rfl rfl qf (sp (yI (c+1)) (zt (xu (m' :=(t.qI.length - ((c+1):Int)).toNat) qf ⟨_,c+1,uE5,?_,?_,rfl,N,H.pick [0,1] [2,3,4,5,6]⟩))))))))
       · omega
       · exact i1.succ ‹_› (fun hk=>by first | omega | simp_all)
      replace h27:=xB h27
      replace h27:=zJ h27
      refine xK [57,58,59,60,61,62,63,64,65,66,67] (sp (.bool true) (zjn (xW true rfl (fun _=>zcr (sp (.bool false) (zjr (zr5 (ret1 (.bool false) rfl rfl ⟨_,rfl,?_,H.base⟩))))) (fun h=>absurd h qj))))
      rw [xh (fun h=>by obtain ⟨h0,h1,h2,h3,h4,h5⟩:=h;first | contradiction | omega | (simp_all;done) | (obtain ⟨q1,q2⟩:=h5 c qf;first | contradiction | (have:=q2 ql;omega)))]
     refine zx4 (zcr (sp (.bool true) (zjr (ret1 (.bool true) rfl rfl ⟨_,rfl,?_,H.base⟩))))
     rw [yC ⟨by assumption,by omega,by omega,by first | assumption | simp_all,by assumption,(show t.qI.length=c by omega)▸i1⟩]
    replace h14:=xB h14
    refine xK [36,37,38,39,40,41] (sp (.bool true) (zjn (xW true rfl (fun _=>zcr (sp (.bool false) (zjr (t_r (ret1 (.bool false) rfl rfl ⟨_,rfl,?_,H.base⟩))))) (fun h=>absurd h qj))))
    rw [xh (fun h=>by obtain ⟨h0,h1,h2,h3,h4,h5⟩:=h;first | contradiction | omega | (simp_all;done) | (obtain ⟨q1,q2⟩:=h5 c qf;first | contradiction | (have:=q2 ql;omega)))]
   replace h10:=bne_iff_ne.1 h10
   refine xK [29,30,31,32,33] (sps [.bool true,.bool true] (xK [36,37,38,39,40,41] (sp (.bool true) (zjn (xW true rfl (fun _=>zcr (sp (.bool false) (zjr (t_r (ret1 (.bool false) rfl rfl ⟨_,rfl,?_,H.base⟩))))) (fun h=>absurd h qj))))))
   rw [xh (fun h=>by obtain ⟨h0,h1,h2,h3,h4,h5⟩:=h;first | contradiction | omega | (simp_all;done) | (obtain ⟨q1,q2⟩:=h5 c qf;first | contradiction | (have:=q2 ql;omega)))]
  replace h9:=bne_iff_ne.1 h9
  refine xK [20,21,22,23,24,25,26] (sps [.bool true,.bool true] (xK [29,30,31,32,33] (sps [.bool true,.bool true] (xK [36,37,38,39,40,41] (sp (.bool true) (zjn (xW true rfl (fun _=>zcr (sp (.bool false) (zjr (t_r (ret1 (.bool false) rfl rfl ⟨_,rfl,?_,H.base⟩))))) (fun h=>absurd h qj))))))))
  rw [xh (fun h=>by obtain ⟨h0,h1,h2,h3,h4,h5⟩:=h;first | contradiction | omega | (simp_all;done) | (obtain ⟨q1,q2⟩:=h5 c qf;first | contradiction | (have:=q2 ql;omega)))]
 replace h8:=xB h8
 replace h8:=zJ h8
 refine xK [11,12,13,14,15,16,17] (sps [.bool true,.bool true] (xK [20,21,22,23,24,25,26] (sps [.bool true,.bool true] (xK [29,30,31,32,33] (sps [.bool true,.bool true] (xK [36,37,38,39,40,41] (sp (.bool true) (zjn (xW true rfl (fun _=>zcr (sp (.bool false) (zjr (t_r (ret1 (.bool false) rfl rfl ⟨_,rfl,?_,H.base⟩))))) (fun h=>absurd h qj))))))))))
 rw [xh (fun h=>by obtain ⟨h0,h1,h2,h3,h4,h5⟩:=h;first | contradiction | omega | (simp_all;done) | (obtain ⟨q1,q2⟩:=h5 c qf;first | contradiction | (have:=q2 ql;omega)))]

theorem parentNow_ok (w:World) (s:qy) (t:qG) (c:Int) {qB:yOA} {xe:yLN} {qL:yOA} {xI:yLN} {qX:yOA} {zg:yLN} {xG:yOA} {zO:yLN} {qO:yOA} {xN:yLN} (qV:qU.rep w xe [.slice qB s.qx.length qA] s.qx) (xF:qU.rep w xI [.slice qL s.qw.length qJ] s.qw) (zf:qU.rep w zg [.slice qX t.qC.length qR] t.qC) (zK:qU.rep w zO [.slice xG t.qI.length xA] t.qI) (xO:qU.rep w xN [.slice qO t.qF.length qN] t.qF) (p0:jE s) (p1:CellIn s c) (p2:t.qC.length=s.qx.length):Calls Try.prog 30 #[.agg #[yI s.xn,.slice qB s.qx.length qA,.slice qL s.qw.length qJ],.agg #[.slice qX t.qC.length qR,.slice xG t.qI.length xA,.slice qO t.qF.length qN],yI c] w (Ret (fun v w' =>v=yI (xg s t c)) w):=by
 refine en func30 ntmps30 ?_
 have H:=(((((St.start w).arg xO).arg zK).arg zf).arg xF).arg qV
 have vG:=qP qV
 have jM:=qP xF
 have Qh:=qP zf
 have QR:=qP zK
 have yO:=qP xO
 clear qV xF zf zK xO
 have N:=Fresh.nil w.heap.size
 have p3:=p0.step p1.1 p1.2
 refine zcr (sw (yK H (yS s qB qA qL qJ) fun b1 w2 H=>sw (yK H (yT t qX qR xG xA qO qN) fun b3 w4 H=>sp (yI 0) (zjc (oF rfl (oL rfl (H.cell 1 rfl rfl) (sp (yI c) ?_)))))))
 obtain ⟨b5,o6,rfl⟩:=H.addr 0 rfl qf
 refine oI rfl rfl (oL rfl (H.yE 0 rfl c qf qf) (sp (yI (s.qx[c.toNat]!)) (zjn (zn (xw ?_)))))
 refine vJ (fun m' ρ w8=>∃ (zB:Env) (p:Int) (n:Nat),ρ=upd (upd (upd zB 3 (pp b1 0)) 4 (pp b3 0)) 7 (yI p)∧(-1≤p∧p≤(s.qx.length:Int) - 1)∧(p < n)∧(xg s t c=climb s.qx t.qC n p)∧m' =(p+1).toNat∧Fresh w.heap.size []∧St w w8 [.box b3 (yT t qX qR xG xA qO qN) 31,.box b1 [yI s.xn,.slice (aa b5 o6) s.qx.length qA,.slice qL s.qw.length qJ] 27] [sF false xe (aa b5 o6) qA s.qx,sF false xI qL qJ s.qw,sF false zg qX qR t.qC,sF false zO xG xA t.qI,sF false xN qO qN t.qF]) (((s.qx[c.toNat]!)+1).toNat) ⟨_,s.qx[c.toNat]!,s.qx.length,uE3,qf,qf,(by rfl),rfl,N,H⟩ ?_
 clear H N
 rintro m' ρ w9 ⟨zB,p,n,rfl,i0,i1,i2,rfl,N,H⟩
 have up:=fun h=>p0.step (c:=p) h i0.2
 refine zcc (sps [yI p,.bool (decide ((p:Int)≥0)),.bool (decide ((p:Int)≥0))] ?_)
 cases h10:(decide ((p:Int)≥0))
 ·skip
  replace h10:=of_decide_eq_false h10
  refine xK [16,17,18,19,20,21] (sp (.bool false) (zjn (xW false rfl (fun h=>absurd h qj) (fun _=>zx4 (zcr (sps [yI p,yI p] (zjr (ret1 (yI p) rfl rfl ⟨_,rfl,?_,H.base⟩))))))))
  rw [i2,climb_end (by first | omega | simp_all)]
 replace h10:=of_decide_eq_true h10
 refine qK 15 rfl rfl (oF rfl (qK 15 rfl rfl (oL rfl (H.cell 0 rfl rfl) (qK 15 rfl rfl (sp (yI p) (qK 15 rfl rfl ?_))))))
 obtain ⟨b11,o12,rfl⟩:=H.addr 2 rfl qf
 refine oI rfl rfl (qK 15 rfl rfl (oL rfl (H.Xg 2 rfl p qf qf) (qK 15 rfl rfl (sps [.bool (!(t.qC[p.toNat]!)),.bool (!(t.qC[p.toNat]!))] (zjn (xW (!(t.qC[p.toNat]!)) rfl (fun h14=>?_) (fun h14=>?_)))))))
 ·skip
  replace h14:=xB h14
  refine xx (t_n (xw (zk (oF rfl (oL rfl (H.cell 1 rfl rfl) (sp (yI p) (oI rfl rfl (oL rfl (H.yE 0 rfl p qf qf) (sp (yI (s.qx[p.toNat]!)) (zt (b_n ?_)))))))))))
  have up1:=up qf
  refine xu (m' :=((s.qx[p.toNat]!)+1).toNat) qf ⟨_,s.qx[p.toNat]!,n - 1,uE3,?_,?_,?_,rfl,N,H⟩
  · omega
  · omega
  · exact i2.trans (climb_go qf qf ‹_›)
 replace h14:=xm h14
 refine zx4 (zcr (sps [yI p,yI p] (zjr (ret1 (yI p) rfl rfl ⟨_,rfl,?_,H.base⟩))))
 rw [i2,climb_end (by first | omega | simp_all)]

theorem Xr (w:World) (t:qG) {qX:yOA} {zg:yLN} {xG:yOA} {zO:yLN} {qO:yOA} {xN:yLN} (zf:qU.rep w zg [.slice qX t.qC.length qR] t.qC) (zK:qU.rep w zO [.slice xG t.qI.length xA] t.qI) (xO:qU.rep w xN [.slice qO t.qF.length qN] t.qF) (p0:t.qC.length≤1000000) (p1:t.qF.length≤1000000) (p2:t.qI.length≤1000000) (p3:∀ j,j < t.qI.length→(t.qI[j]!).length≤1000000):Calls Try.prog 32 #[.agg #[.slice qX t.qC.length qR,.slice xG t.qI.length xA,.slice qO t.qF.length qN]] w (Ret (fun v w' =>∃ (raAlive:yOA) (rnAlive:Nat) (rcAlive:Nat) (raBags:yOA) (rnBags:Nat) (rcBags:Nat) (rxBags:List Value) (rFBags:yLN) (raAround:yOA) (rnAround:Nat) (rcAround:Nat),v=.agg #[.slice raAlive rnAlive rcAlive,.slice raBags rnBags rcBags,.slice raAround rnAround rcAround]∧Fresh w.heap.size [rFBags]∧St w w' [rr raAlive rnAlive rcAlive 4 1 (t.qC.map (Value.bool)),rr raBags rnBags rcBags 24 1 rxBags,rr raAround rnAround rcAround 2 1 (t.qF.map (Value.int .i64))] [xf true rFBags rxBags t.qI]) w):=by
 refine en func32 ntmps32 ?_
 have H:=(((St.start w).arg xO).arg zK).arg zf
 have Qh:=qP zf
 have QR:=qP zK
 have yO:=qP xO
 clear zf zK xO
 have N:=Fresh.nil w.heap.size
 refine zcr (sw (yK H (yT t qX qR xG xA qO qN) fun b1 w2 H=>sw (xq H ti31 [yN,yN,yN] fun b3 w4 H=>zjn (zn ?_))))
 refine c_cut (fun ρ w10=>∃ (zB:Env) (b5:Nat) (ra6:yOA) (rc7:Nat) (a8:yOA) (c9:Nat),ρ=upd (upd (upd zB 1 (pp b1 0)) 2 (pp b3 0)) 3 (pp b5 0)∧Fresh w.heap.size []∧St w w10 [.box b5 [.slice ra6 t.qC.length rc7,yN,.slice a8 t.qF.length c9] 31,rr a8 t.qF.length c9 2 1 (t.qF.map (Value.int .i64)),rr ra6 t.qC.length rc7 4 1 (t.qC.map (Value.bool)),.box b3 [yN,yN,yN] 31,.box b1 (yT t qX qR xG xA qO qN) 31] [sF false zg qX qR t.qC,sF false zO xG xA t.qI,sF false xN qO qN t.qF]) ?_ ?_
 ·skip
  refine yF rfl H fun H=>tF 0 rfl rfl H ?_
  refine tL 1 rfl rfl (fun _ h=>h.cell 1 rfl rfl) H ?_
  refine tF 3 rfl rfl H ?_
  refine tL 4 rfl rfl (fun _ h=>h.cell 1 rfl rfl) H ?_
  refine zH [2,7] qh qm (vz rfl ?_ (vz rfl ?_ zI))
  ·skip
   have sz15:=H.base.size
   refine oc (cloneB_ok _ t.qC (H.get 0 rfl).1 qg) ?_
   rintro _ w13 ⟨ra12,rn12,rc12,rfl,M,K⟩ _
   replace H:=H.merge K M
   obtain rfl:=H.Q7 0 rfl
   refine ⟨H.pick [1,2] [0,1,2],(zH [5,7] qh qm (vz rfl ?_ (vz rfl ?_ zI)))⟩
   ·skip
    have sz18:=H.base.size
    refine oc (cloneI_ok _ t.qF (H.get 2 rfl).1 qg) ?_
    rintro v23 w21 r23 x22
    replace H:=H.zq x22 r23
    obtain ⟨a24,c25,rfl,hc26,hm27⟩:=H.jO 0 rfl
    refine ⟨H.pick [2,3] [0,1,2],(zH [6,7] qh qm (vz rfl ?_ (vz rfl ?_ zI)))⟩
    ·skip
     refine xJ [.slice ra12 t.qC.length rc12,yN,.slice a24 t.qF.length c25] [(0,.slice ra12 t.qC.length rc12),(2,.slice a24 t.qF.length c25)] (⟨H.pick [2,3] [0,1,2],(ro 7 rfl (xq H ti31 [yN,yN,yN] fun b28 w29 H=>⟨H.pick [3,4] [0,1,2],(ro 8 rfl (qQ H 0 [.slice ra12 t.qC.length rc12,yN,.slice a24 t.qF.length c25] sizeOf31 fun w30 H=>⟨H.pick [3,4] [0,1,2],(qZ qh ((meet ⟨_,b28,ra12,rc12,a24,c25,uE3,N,H⟩)))⟩))⟩))⟩)
    refine xq H ti31 [yN,yN,yN] fun b31 w32 H=>⟨H.pick [3,4] [0,1,2],(ro 6 rfl (xJ [.slice ra12 t.qC.length rc12,yN,.slice a24 t.qF.length c25] [(0,.slice ra12 t.qC.length rc12),(2,.slice a24 t.qF.length c25)] (⟨H.pick [3,4] [0,1,2],(ro 8 rfl (qQ H 0 [.slice ra12 t.qC.length rc12,yN,.slice a24 t.qF.length c25] sizeOf31 fun w33 H=>⟨H.pick [3,4] [0,1,2],(qZ qh ((meet ⟨_,b31,ra12,rc12,a24,c25,uE3,N,H⟩)))⟩))⟩)))⟩
   refine xq H ti31 [yN,yN,yN] fun b34 w35 H=>⟨H.pick [2,3] [0,1,2],(ro 5 rfl ?_)⟩
   have sz36:=H.base.size
   refine oc (cloneI_ok _ t.qF (H.get 2 rfl).1 qg) ?_
   rintro v41 w39 r41 x40
   replace H:=H.zq x40 r41
   obtain ⟨a42,c43,rfl,hc44,hm45⟩:=H.jO 0 rfl
   refine ⟨H.pick [3,4] [0,1,2],(ro 6 rfl (xJ [.slice ra12 t.qC.length rc12,yN,.slice a42 t.qF.length c43] [(0,.slice ra12 t.qC.length rc12),(2,.slice a42 t.qF.length c43)] (⟨H.pick [3,4] [0,1,2],(ro 8 rfl (qQ H 1 [.slice ra12 t.qC.length rc12,yN,.slice a42 t.qF.length c43] sizeOf31 fun w46 H=>⟨H.pick [3,4] [0,1,2],(qZ qh ((meet ⟨_,b34,ra12,rc12,a42,c43,uE3,N,H.pick [1,0,2,3,4] [0,1,2]⟩)))⟩))⟩)))⟩
  refine xq H ti31 [yN,yN,yN] fun b47 w48 H=>⟨H.pick [1,2] [0,1,2],(ro 2 rfl ?_)⟩
  have sz52:=H.base.size
  refine oc (cloneB_ok _ t.qC (H.get 0 rfl).1 qg) ?_
  rintro _ w50 ⟨ra49,rn49,rc49,rfl,M,K⟩ _
  replace H:=H.merge K M
  obtain rfl:=H.Q7 0 rfl
  refine ⟨H.pick [2,3] [0,1,2],(ro 5 rfl ?_)⟩
  have sz55:=H.base.size
  refine oc (cloneI_ok _ t.qF (H.get 2 rfl).1 qg) ?_
  rintro v60 w58 r60 x59
  replace H:=H.zq x59 r60
  obtain ⟨a61,c62,rfl,hc63,hm64⟩:=H.jO 0 rfl
  refine ⟨H.pick [3,4] [0,1,2],(ro 6 rfl (xJ [.slice ra49 t.qC.length rc49,yN,.slice a61 t.qF.length c62] [(0,.slice ra49 t.qC.length rc49),(2,.slice a61 t.qF.length c62)] (⟨H.pick [3,4] [0,1,2],(ro 8 rfl (qQ H 2 [.slice ra49 t.qC.length rc49,yN,.slice a61 t.qF.length c62] sizeOf31 fun w65 H=>⟨H.pick [3,4] [0,1,2],(qZ qh ((meet ⟨_,b47,ra49,rc49,a61,c62,uE3,N,H.pick [2,0,1,3,4] [0,1,2]⟩)))⟩))⟩)))⟩
 clear H N
 rintro ρ w66 ⟨zB,b5,ra6,rc7,a8,c9,rfl,N,H⟩
 refine t_n (zcc (oF rfl (oL rfl (H.cell 4 rfl rfl) (oN rfl (sp (yI 0) (zjn (xw ?_)))))))
 replace H:=H.nilRow 24 1
 replace H:=H.Qv (α:=yLI)
 refine vJ (fun m' ρ w67=>∃ (zB:Env) (k:Nat) (jL:yOA) (zN:Nat) (jK:Nat) (out_Bags:yLL) (zo:List Value) (xM:yLN),ρ=upd (upd (upd (upd (upd zB 2 (pp b3 0)) 3 (pp b5 0)) 14 (.slice xG t.qI.length xA)) 15 (yI t.qI.length)) 16 (yI k)∧out_Bags=t.qI.take k∧((k:Int)≤t.qI.length)∧m' =(t.qI.length - (k:Int)).toNat∧Fresh w.heap.size [xM]∧St w w67 [rr jL zN jK 24 1 zo,.box b5 [.slice ra6 t.qC.length rc7,.slice jL zN jK,.slice a8 t.qF.length c9] 31,rr a8 t.qF.length c9 2 1 (t.qF.map (Value.int .i64)),rr ra6 t.qC.length rc7 4 1 (t.qC.map (Value.bool)),.box b3 [yN,yN,yN] 31,.box b1 (yT t qX qR xG xA qO qN) 31] [xf true xM zo out_Bags,sF false zg qX qR t.qC,sF false zO xG xA t.qI,sF false xN qO qN t.qF]) ((t.qI.length - (0:Int)).toNat) ⟨_,0,none,0,0,([]:yLL),[],[],uE5,(by rfl),qf,rfl,N.emp,H⟩ ?_
 clear H N
 rintro m' ρ w68 ⟨zB,k,jL,zN,jK,out_Bags,zo,xM,rfl,rfl,i0,rfl,N,H⟩
 have XD:=H.zi (α:=yLI) 0 rfl 0 rfl qj
 have p4:=p3 k
 rw [List.length_take_of_le qf] at XD
 refine zcr (sp (.bool (decide ((k:Int) < t.qI.length))) (zjn (zn (cD rfl (fun h69=>?_) (fun h69=>?_)))))
 ·skip
  refine xx (t_n (zn (xw (zcr ?_))))
  obtain ⟨b70,o71,rfl⟩:=H.addr 2 rfl qf
  obtain ⟨ae73,ce73,Fe73,H⟩:=H.QL 2 rfl k k qf qf qf
  refine oI rfl rfl (oL rfl (H.xX 1 rfl 0 rfl) (sp (.slice ae73 ((t.qI[k]!).length) ce73) (zjn ?_)))
  refine c_cut (fun ρ w79=>∃ (zB:Env) (a74:yOA) (c75:Nat) (a76:yOA) (c77:Nat) (G78:yLN),ρ=upd (upd (upd (upd (upd zB 2 (pp b3 0)) 3 (pp b5 0)) 14 (.slice (aa b70 o71) t.qI.length xA)) 15 (yI t.qI.length)) 16 (yI k)∧Fresh w.heap.size [(xM++G78)]∧St w w79 [rr a74 (zN+1) c75 24 1 (zo++[.slice a76 ((t.qI[k]!).length) c77]),.box b5 [.slice ra6 t.qC.length rc7,.slice a74 (zN+1) c75,.slice a8 t.qF.length c9] 31,rr a8 t.qF.length c9 2 1 (t.qF.map (Value.int .i64)),rr ra6 t.qC.length rc7 4 1 (t.qC.map (Value.bool)),.box b3 [yN,yN,yN] 31,.box b1 [.slice qX t.qC.length qR,.slice (aa b70 o71) t.qI.length xA,.slice qO t.qF.length qN] 31] [xf true (xM++G78) (zo++[.slice a76 ((t.qI[k]!).length) c77]) ((t.qI.take k)++[(t.qI[k]!)]),sF true G78 a76 c77 (t.qI[k]!),sF false Fe73 ae73 ce73 (t.qI[k]!),atF b70 (o71+(k:Int).toNat * 1) [.slice ae73 ((t.qI[k]!).length) ce73],sF false zg qX qR t.qC,sF false zO (aa b70 o71) xA t.qI,sF false xN qO qN t.qF]) ?_ ?_
  ·skip
   refine yR rfl H [2,3,4,5] fun H=>?_
   have S:=H.jR [2,3,4,5] [0,1,2,3,4,5]
   refine tF 0 rfl rfl S ?_
   refine rtp 2 (.slice ae73 ((t.qI[k]!).length) ce73) S ?_
   refine zH [1,3] qh qm (vz rfl ?_ (vz rfl ?_ zI))
   ·skip
    refine zh (.slice jL zN jK) isAgg29 rfl (H.cell 1 rfl rfl) (⟨H.pick [2,3,4,5] [0,1,2,3,4,5],(ro 3 rfl ?_)⟩)
    have sz81:=H.base.size
    have lt82:=H.ltN (L:=[xM]) [2]
    refine oc (cloneI_ok _ (t.qI[k]!) (H.get 0 rfl).1 qg) ?_
    rintro v86 w84 r86 x85
    replace H:=H.zq x85 r86
    obtain ⟨a87,c88,rfl,hc89,hm90⟩:=H.jO 0 rfl
    refine ⟨H.pick [3,4,5,6] [0,1,2,3,4,5],(ro 4 rfl (vF H underlying29 ti24 [.slice a87 ((t.qI[k]!).length) c88] fun b91 w92 H=>⟨H.pick [4,5,6,7] [0,1,2,3,4,5],(ro 5 rfl ?_)⟩))⟩
    obtain ⟨G96,N,hn97,H⟩:=H.zT 1 rfl N (H.yG [2])
    refine vP H 2 rfl 0 rfl underlying29 ti24 rfl qj rfl rfl rfl (by simp [Value.oneCell',Value.cells]) qp qf fun a93 c94 w95 H=>?_
    replace H:=H.Q5 3 rfl 0 rfl
    replace N:Fresh w.heap.size [(xM++G96)]:=(N.pick [1,0]).join
    refine ⟨H.pick [4,5,6,7] [2,3,4,5,6,7],(tF 6 rfl rfl (H.pick [4,5,6,7] [2,3,4,5,6,7]) ?_)⟩
    refine ro 7 rfl (zQ H 3 [.slice ra6 t.qC.length rc7,.slice a93 (zN+1) c94,.slice a8 t.qF.length c9] sizeOf29 fun w98 H=>⟨H.pick [4,5,6,7] [2,3,4,5,6,7],(qZ qh ((meet ⟨_,a93,c94,a87,c88,G96,uE5,N,H.pick [2,3,4,5,6,7] [0,1,2,3,5,6,7]⟩)))⟩)
   have sz99:=H.base.size
   have lt100:=H.ltN (L:=[xM]) [2]
   refine oc (cloneI_ok _ (t.qI[k]!) (H.get 0 rfl).1 qg) ?_
   rintro v104 w102 r104 x103
   replace H:=H.zq x103 r104
   obtain ⟨a105,c106,rfl,hc107,hm108⟩:=H.jO 0 rfl
   refine ⟨H.pick [3,4,5,6] [0,1,2,3,4,5],(zH [1,4] qh qm (vz rfl ?_ (vz rfl ?_ zI)))⟩
   ·skip
    refine zh (.slice jL zN jK) isAgg29 rfl (H.cell 2 rfl rfl) (⟨H.pick [3,4,5,6] [0,1,2,3,4,5],(ro 4 rfl (vF H underlying29 ti24 [.slice a105 ((t.qI[k]!).length) c106] fun b109 w110 H=>⟨H.pick [4,5,6,7] [0,1,2,3,4,5],(ro 5 rfl ?_)⟩))⟩)
    obtain ⟨G114,N,hn115,H⟩:=H.zT 1 rfl N (H.yG [2])
    refine vP H 2 rfl 0 rfl underlying29 ti24 rfl qj rfl rfl rfl (by simp [Value.oneCell',Value.cells]) qp qf fun a111 c112 w113 H=>?_
    replace H:=H.Q5 3 rfl 0 rfl
    replace N:Fresh w.heap.size [(xM++G114)]:=(N.pick [1,0]).join
    refine ⟨H.pick [4,5,6,7] [2,3,4,5,6,7],(tF 6 rfl rfl (H.pick [4,5,6,7] [2,3,4,5,6,7]) ?_)⟩
    refine ro 7 rfl (zQ H 3 [.slice ra6 t.qC.length rc7,.slice a111 (zN+1) c112,.slice a8 t.qF.length c9] sizeOf29 fun w116 H=>⟨H.pick [4,5,6,7] [2,3,4,5,6,7],(qZ qh ((meet ⟨_,a111,c112,a105,c106,G114,uE5,N,H.pick [2,3,4,5,6,7] [0,1,2,3,5,6,7]⟩)))⟩)
   refine vF H underlying29 ti24 [.slice a105 ((t.qI[k]!).length) c106] fun b117 w118 H=>⟨H.pick [4,5,6,7] [0,1,2,3,4,5],(ro 1 rfl (zh (.slice jL zN jK) isAgg29 rfl (H.cell 3 rfl rfl) (⟨H.pick [4,5,6,7] [0,1,2,3,4,5],(ro 5 rfl ?_)⟩)))⟩
   obtain ⟨G122,N,hn123,H⟩:=H.zT 1 rfl N (H.yG [2])
   refine vP H 2 rfl 0 rfl underlying29 ti24 rfl qj rfl rfl rfl (by simp [Value.oneCell',Value.cells]) qp qf fun a119 c120 w121 H=>?_
   replace H:=H.Q5 3 rfl 0 rfl
   replace N:Fresh w.heap.size [(xM++G122)]:=(N.pick [1,0]).join
   refine ⟨H.pick [4,5,6,7] [2,3,4,5,6,7],(tF 6 rfl rfl (H.pick [4,5,6,7] [2,3,4,5,6,7]) ?_)⟩
   refine ro 7 rfl (zQ H 3 [.slice ra6 t.qC.length rc7,.slice a119 (zN+1) c120,.slice a8 t.qF.length c9] sizeOf29 fun w124 H=>⟨H.pick [4,5,6,7] [2,3,4,5,6,7],(qZ qh ((meet ⟨_,a119,c120,a105,c106,G122,uE5,N,H.pick [2,3,4,5,6,7] [0,1,2,3,5,6,7]⟩)))⟩)
  clear H N
  rintro ρ w125 ⟨zB,a74,c75,a76,c77,G78,rfl,N,H⟩
  refine b_n (t_n (zk (sw (zX k 1 rfl rfl qf (sp (yI (k+1)) (zt (xu (m' :=(t.qI.length - ((k+1):Int)).toNat) qf ⟨_,k+1,a74,zN+1,c75,((t.qI.take k)++[(t.qI[k]!)]),zo++[.slice a76 ((t.qI[k]!).length) c77],(xM++G78),uE5,?_,?_,rfl,N,H.pick [0,1,2,3,4,5] [0,4,5,6]⟩)))))))
  · exact take_snoc qf
  · omega
 refine zx4 (zcr (sw (zu [.slice ra6 t.qC.length rc7,.slice jL zN jK,.slice a8 t.qF.length c9] isAgg31 sizeOf31 rfl (qH (H.cells 1 rfl) 0 3) (sw (qQ H 4 [.slice ra6 t.qC.length rc7,.slice jL zN jK,.slice a8 t.qF.length c9] sizeOf31 fun w126 H=>zjr (retC H 4 rfl rfl isAgg31 sizeOf31 rfl ⟨_,rfl,?_,H.base⟩))))))
 obtain rfl:k=t.qI.length:=by omega
 rw [List.take_length] at H
 exact ⟨ra6,t.qC.length,rc7,jL,zN,jK,zo,xM,a8,t.qF.length,c9,rfl,N,H.pick [3,0,2] [0]⟩
end
end Go.Proofs.Ytcpnclokildllaa
