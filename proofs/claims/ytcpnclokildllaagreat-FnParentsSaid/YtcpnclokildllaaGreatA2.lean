/- Walks and laws, printed by program and by hand: what each function comes to, for all arguments, part 2. -/
import Derived.Test.YtcpnclokildllaaGreatA1
import Derived.Shelf.SortG.Plain
import Derived.Shelf.SortG.SortNone
import Derived.Ground.SlgnProg
namespace Go.Proofs.YtcpnclokildllaaGreat
set_option linter.unusedVariables false
set_option linter.unusedSimpArgs false
open Go.Proofs.YtcpnclokildllaaGreat.Tot (tot)
open Go.Proofs.YtcpnclokildllaaGreat.Mark (cnt mrk mkd mkd_mark cnt_mark)
section

theorem jB.rule {s:qy} (h:jB s) {i:Nat} (hi:i < s.qw.length):RuleOk s (s.qw[i]!):=(h.2.2 i hi).1
theorem RuleOk.cell {s:qy} {r:jg} (h:RuleOk s r):r.qE.toNat < vK s:=by have:=h.1.1;have:=h.1.2;unfold vK;omega
theorem zQ.len {s:qy} {l:yLI} (h:zQ s.xk l):l.length=yX s:=by have:=h.2;unfold yX;omega
theorem zQ.get {n:Int} {l:yLI} (h:zQ n l) {k:Nat} (hk:k < l.length):0≤l[k]! ∧l[k]! ≤1000:=h.1.1 k hk
theorem zQ.mul {s:qy} {m:yLI} (h:zQ s.xk m) {t:Int} (ht: -1000≤t∧t≤1000):∀ k,k < yX s→ -1000000≤t * m[k]! ∧t * m[k]! ≤1000000:=fun k hk=>by
  have h1:=h.1.1 k (by rw [h.len];exact hk)
  rcases Int.le_total 0 t with h0 | h0
  · have h2:=Int.mul_nonneg h0 h1.1
    have h3:=Int.mul_le_mul_of_nonneg_left h1.2 h0
    omega
  · have h2:=Int.mul_nonneg (show 0≤ -t by omega) h1.1
    have h3:=Int.mul_le_mul_of_nonneg_left h1.2 (show 0≤ -t by omega)
    have h4: -t * m[k]! = -(t * m[k]!):=Int.neg_mul ..
    omega
theorem zQ.yf {s:qy} {m:yLI} (h:zQ s.xk m) {t:Int} (ht: -1000≤t∧t≤1000):SmallT m t:=bagOk_smallT h qf
theorem kinds_le {s:qy} (h:jB s):yX s≤8:=by have:=h.1.1.2;unfold yX;omega
theorem xW.shape {s:qy} {t:qF} (h:xW s t):Shape (vK s) (yX s) 1000 t.qK:=by
  refine ⟨h.2.1,fun p hp=>?_⟩
  have hb:=h.bagLen (k:=p) (by rw [h.2.1];exact hp)
  refine ⟨hb.len,fun k hk=>?_⟩
  have:=hb.get (k:=k) (by rw [hb.len];exact hk)
  omega
def CntOk (s:qy) (counts:yLI):Prop:=counts.length=s.qw.length∧∀ i,i < counts.length→0≤counts[i]! ∧counts[i]! ≤1000
theorem CntOk.bd {s:qy} {counts:yLI} (h:CntOk s counts) {i:Nat} (hi:i < s.qw.length):0≤counts[i]! ∧counts[i]! ≤1000:=h.2 i (by rw [h.1];exact hi)

def jW (s:qy) (t:qF) (counts:yLI):Nat→yLL
  | 0=>t.qK
  | k+1=>(jW s t counts k).set (s.qw[k]!).qE.toNat (jR ((jW s t counts k)[(s.qw[k]!).qE.toNat]!) (s.qw[k]!).xC (-(counts[k]!)))
def needF (s:qy) (counts:yLI) (i p k:Nat):Int:=at' p (s.qw[i]!).qE.toNat (-(counts[i]!) * ((s.qw[i]!).xC)[k]!)
def needS (s:qy) (counts:yLI):Nat→Nat→Nat→Int
  | 0,_,_=>0
  | i+1,p,k=>needS s counts i p k+needF s counts i p k
theorem restR_ent {s:qy} {t:qF} {counts:yLI} (hs:jB s) (ht:xW s t) (hc:CntOk s counts):∀ k,k≤s.qw.length→
    Ent (vK s) (yX s) (fun p q=>(t.qK[p]!)[q]! +needS s counts k p q) (1000+1000000 * k) (jW s t counts k)
  | 0,_=>⟨by simpa [jW] using ht.shape,fun p k hp hk=>by simp [jW,needS]⟩
  | k+1,h=>by
    have hr:=hs.rule (i:=k) qf
    have hcb:=hc.bd (i:=k) qf
    refine ((restR_ent hs ht hc k qf).add (D:=1000000) rfl hr.cell (hr.2.2.2.2.1.mul qf) qf).to (fun p q=>?_) qf
    show _=_+(needS s counts k p q+needF s counts k p q)
    unfold needF;omega
theorem restR_row {s:qy} {t:qF} {counts:yLI} (hs:jB s) (ht:xW s t) (hc:CntOk s counts) {k c:Nat} (hk:k≤s.qw.length) (h:c < vK s):
    ((jW s t counts k)[c]!).length=yX s∧Mid ((jW s t counts k)[c]!):=(restR_ent hs ht hc k hk).sh.row (by have:=hs.2.1;omega) (kinds_le hs) h
theorem restR_len {s:qy} {t:qF} {counts:yLI}:∀ k,(jW s t counts k).length=t.qK.length
  | 0=>rfl
  | k+1=>by rw [jW,List.length_set];exact restR_len k
theorem restR_skip {s:qy} {t:qF} {counts:yLI} (hs:jB s) (ht:xW s t) {k:Nat} (hk:k < s.qw.length) (h:counts[k]! =0):jW s t counts (k+1)=jW s t counts k:=by
  rw [jW,plus_zero qf]
  exact set_self (by rw [restR_len,ht.2.1];exact (hs.rule hk).cell) rfl
open Classical in
noncomputable def Qq (P:Nat→Prop):Nat→Nat
  | 0=>0
  | n+1=>if Qq P n < n then Qq P n else if P n then n else n+1
theorem stop_none {P:Nat→Prop}:∀ {n:Nat},(∀ j,j < n→¬ P j)→Qq P n=n
  | 0,_=>rfl
  | n+1,h=>by rw [Qq,stop_none (n:=n) (fun j hj=>h j qf),if_neg qf,if_neg (h n qf)]
theorem stop_first {P:Nat→Prop}:∀ {n k:Nat},(∀ j,j < k→¬ P j)→k < n→P k→Qq P n=k
  | n+1,k,h,hk,hp=>by
    rw [Qq]
    by_cases e:k=n
    · subst e;rw [stop_none h,if_neg qf,if_pos hp]
    · rw [stop_first (n:=n) h qf hp,if_pos qf]
def BadAt (s:qy) (t:qF) (counts:yLI) (i:Nat):Prop:=0 < counts[i]! ∧¬ Appl s t i
def GoodTo (s:qy) (t:qF) (counts:yLI) (k:Nat):Prop:=∀ i,i < k→¬ BadAt s t counts i
theorem GoodTo.succ {s:qy} {t:qF} {counts:yLI} {k:Nat} (h:GoodTo s t counts k) (h1:¬ BadAt s t counts k):GoodTo s t counts (k+1):=fun j hj=>by
  by_cases e:j=k
  · subst e;exact h1
  · exact h j qf
def NonNeg (b:yLL) (n:Nat):Prop:=∀ p,p < n→∀ k,k < (b[p]!).length→0≤(b[p]!)[k]!
theorem NonNeg.succ {b:yLL} {n:Nat} (h:NonNeg b n) (h1:∀ k,k < (b[n]!).length→0≤(b[n]!)[k]!):NonNeg b (n+1):=fun j hj=>by
  by_cases e:j=n
  · subst e;exact h1
  · exact h j qf
def IsCh (s:qy) (t:qF) (counts:yLI):Prop:=GoodTo s t counts counts.length∧NonNeg (jW s t counts counts.length) t.qK.length
def IsMost (s:qy) (t:qF) (counts:yLI):Prop:=IsCh s t counts∧∀ i,i < s.qw.length→Appl s t i→within (s.qw[i]!).xC ((jW s t counts counts.length)[(s.qw[i]!).qE.toNat]!)=false

def y7 (l m:yLI):Nat→Int
  | 0=>1000
  | k+1=>if 0 < l[k]! then min (y7 l m k) (m[k]! / l[k]!) else y7 l m k
def Qd (l m:yLI):Int:=y7 l m l.length
theorem timesTo_pos {l m:yLI} {k:Nat} (h:0 < l[k]!):y7 l m (k+1)=min (y7 l m k) (m[k]! / l[k]!):=by rw [y7,if_pos h]
theorem timesTo_skip {l m:yLI} {k:Nat} (h:¬ 0 < l[k]!):y7 l m (k+1)=y7 l m k:=by rw [y7,if_neg h]
theorem XG {l m:yLI} (hm:∀ k,k < l.length→0≤m[k]!):∀ k,k≤l.length→0≤y7 l m k∧y7 l m k≤1000
  | 0,_=>by simp [y7]
  | k+1,h=>by
    have:=XG hm k qf
    rw [y7]
    split
    · next h1=>have:=Int.ediv_nonneg (hm k qf) (show 0≤l[k]! by omega);omega
    · exact this
theorem timesTo_le {l m:yLI}:∀ {k j:Nat},j < k→0 < l[j]! →y7 l m k≤m[j]! / l[j]!
  | k+1,j,h,h1=>by
    rw [y7]
    by_cases e:j=k
    · subst e;rw [if_pos h1];omega
    · have:=timesTo_le (m:=m) (show j < k by omega) h1
      split <;> omega
theorem timesL_left {l m:yLI} (hl:∀ k,k < l.length→0≤l[k]!) (hm:∀ k,k < l.length→0≤m[k]!) {k:Nat} (hk:k < l.length):0≤m[k]! + -(Qd l m) * l[k]! :=by
  have h0:=XG hm l.length (Nat.le_refl _)
  rcases Int.lt_or_eq_of_le (hl k hk) with h | h
  · have h1:=timesTo_le (m:=m) hk h
    have h2:m[k]! / l[k]! * l[k]! ≤m[k]! :=Int.ediv_mul_le _ qf
    have h3:=Int.mul_le_mul_of_nonneg_right h1 (show 0≤l[k]! by omega)
    have h4: -(Qd l m) * l[k]! = -(Qd l m * l[k]!):=Int.neg_mul ..
    unfold Qd at *
    omega
  · rw [← h];have:=hm k hk;omega
def QP (l m:yLI) (i:Nat) (best:Int):Prop:=(best=y7 l m i∧∃ j,j < i∧0 < l[j]!)∨(best= -1∧y7 l m i=1000∧∀ j,j < i→l[j]! ≤0)
theorem QP.zero (l m:yLI):QP l m 0 (-1):=.inr ⟨rfl,rfl,fun j hj=>by omega⟩
theorem QP.take {l m:yLI} {i:Nat} {best:Int} (h:QP l m i best) (hm:0≤m[i]! ∧m[i]! ≤1000) (hl:0 < l[i]!) (hb:best < 0∨m[i]! / l[i]! < best) (hn:0≤y7 l m i):QP l m (i+1) (m[i]! / l[i]!):=by
  refine .inl ⟨?_,i,by omega,hl⟩
  rw [timesTo_pos hl]
  have h1:m[i]! / l[i]! ≤m[i]! :=Int.ediv_le_self _ hm.1
  rcases h with ⟨h,_⟩ | ⟨h,h2,_⟩ <;> omega
theorem QP.keep {l m:yLI} {i:Nat} {best:Int} (h:QP l m i best) (hl:¬ 0 < l[i]!):QP l m (i+1) best:=by
  unfold QP
  rw [timesTo_skip hl]
  rcases h with ⟨h,j,h1,h2⟩ | ⟨h,h2,h3⟩
  · exact .inl ⟨h,j,by omega,h2⟩
  · refine .inr ⟨h,h2,fun j hj=>?_⟩
    by_cases e:j=i
    · subst e;omega
    · exact h3 j qf
theorem QP.keep2 {l m:yLI} {i:Nat} {best:Int} (h:QP l m i best) (hl:0 < l[i]!) (hb:¬ best < 0) (hn:¬ m[i]! / l[i]! < best):QP l m (i+1) best:=by
  refine .inl ⟨?_,i,by omega,hl⟩
  rw [timesTo_pos hl]
  rcases h with ⟨h,_⟩ | ⟨h,_⟩ <;> omega
theorem QP.done {l m:yLI} {i:Nat} {best:Int} (h:QP l m i best) (hp:∃ j,j < i∧0 < l[j]!):best=y7 l m i:=by
  rcases h with ⟨h,_⟩ | ⟨_,_,h3⟩
  · exact h
  · obtain ⟨j,h1,h2⟩:=hp
    have:=h3 j h1;omega
theorem sum_pos {l:yLI} (h:BagAny l) (h1:sumL l≠0):∃ j,j < l.length∧0 < l[j]! :=by
  apply Classical.byContradiction
  intro hn
  have h0:∀ k,k≤l.length→sumTo l k=0:=by
    intro k
    induction k with
    | zero=>intro _;rfl
    | succ k ih=>
      intro hk
      have h2:=h.1 k qf
      have h3:¬ 0 < l[k]! :=fun h4=>hn ⟨k,by omega,h4⟩
      rw [sumTo,ih qf];omega
  exact h1 (h0 _ (Nat.le_refl _))
open Classical in
noncomputable def zW (s:qy) (t:qF):Nat→yLL
  | 0=>t.qK
  | k+1=>if Appl s t k then (zW s t k).set (s.qw[k]!).qE.toNat (jR ((zW s t k)[(s.qw[k]!).qE.toNat]!) (s.qw[k]!).xC (-(Qd (s.qw[k]!).xC ((zW s t k)[(s.qw[k]!).qE.toNat]!)))) else zW s t k
open Classical in
noncomputable def firstC (s:qy) (t:qF) (k:Nat):Int:=if Appl s t k then Qd (s.qw[k]!).xC ((zW s t k)[(s.qw[k]!).qE.toNat]!) else 0
noncomputable def firstTo (s:qy) (t:qF) (m n:Nat):yLI:=(List.range n).map fun j=>if j < m then firstC s t j else 0
noncomputable def xX (s:qy) (t:qF):yLI:=firstTo s t s.qw.length s.qw.length
theorem firstR_yes {s:qy} {t:qF} {k:Nat} (h:Appl s t k):zW s t (k+1)=(zW s t k).set (s.qw[k]!).qE.toNat (jR ((zW s t k)[(s.qw[k]!).qE.toNat]!) (s.qw[k]!).xC (-(Qd (s.qw[k]!).xC ((zW s t k)[(s.qw[k]!).qE.toNat]!)))):=by rw [zW,if_pos h]
theorem firstR_no {s:qy} {t:qF} {k:Nat} (h:¬ Appl s t k):zW s t (k+1)=zW s t k:=by rw [zW,if_neg h]
theorem firstR_skip {s:qy} {t:qF} {m:Nat}:∀ {d:Nat},(∀ j,m≤j→j < m+d→¬ Appl s t j)→zW s t (m+d)=zW s t m
  | 0,_=>rfl
  | d+1,h=>by rw [← Nat.add_assoc,firstR_no (h (m+d) qf qf),firstR_skip fun j h1 h2=>h j h1 qf]
theorem firstR_same {s:qy} {t:qF} {m i:Nat} (hm:m≤i) (h:∀ j,m≤j→j < i→¬ Appl s t j):zW s t i=zW s t m:=by
  obtain ⟨d,rfl⟩:∃ d,i=m+d:=⟨i - m,by omega⟩
  exact firstR_skip h
theorem Q7 {s:qy} {t:qF} {k:Nat} (h:Appl s t k):firstC s t k=Qd (s.qw[k]!).xC ((zW s t k)[(s.qw[k]!).qE.toNat]!):=by rw [firstC,if_pos h]
theorem firstC_no {s:qy} {t:qF} {k:Nat} (h:¬ Appl s t k):firstC s t k=0:=by rw [firstC,if_neg h]
theorem jy (s:qy) (t:qF) (m n:Nat):(firstTo s t m n).length=n:=by simp [firstTo]
theorem QJ {s:qy} {t:qF} {m n j:Nat} (h:j < n):(firstTo s t m n)[j]! =if j < m then firstC s t j else 0:=by
  rw [getElem!_pos (firstTo s t m n) j (by rw [jy];exact h)];simp [firstTo]
theorem firstTo_snoc (s:qy) (t:qF) (m:Nat):firstTo s t m m++[firstC s t m]=firstTo s t (m+1) (m+1):=by
  refine ext_get (by simp [jy]) fun k hk=>?_
  rw [List.length_append,jy] at hk
  simp only [List.length_cons,List.length_nil] at hk
  rw [QJ qf,if_pos qf]
  rw [getElem!_pos (firstTo s t m m++[firstC s t m]) k (by simp [jy];omega)]
  by_cases e:k=m
  · subst e;rw [List.getElem_append_right (by simp [jy])];simp [jy]
  · rw [List.getElem_append_left (by rw [jy];omega)]
    have:=QJ (s:=s) (t:=t) (m:=m) (n:=m) (j:=k) qf
    rw [getElem!_pos (firstTo s t m m) k (by rw [jy];omega),if_pos qf] at this
    exact this
theorem firstTo_snoc' {s:qy} {t:qF} {m:Nat} {x:Int} (h:x=firstC s t m):firstTo s t m m++[x]=firstTo s t (m+1) (m+1):=h▸firstTo_snoc s t m
theorem firstTo_zero (s:qy) (t:qF) (n:Nat):List.replicate n (0:Int)=firstTo s t 0 n:=by
  refine ext_get (by simp [jy]) fun k hk=>?_
  rw [List.length_replicate] at hk
  rw [QJ hk,if_neg qf,getElem!_pos (List.replicate n (0:Int)) k (by simpa using hk)];simp
theorem firstTo_set {s:qy} {t:qF} {m i n:Nat} (hm:m≤i) (hi:i < n) (h:∀ j,m≤j→j < i→¬ Appl s t j) {x:Int} (hx:x=firstC s t i):(firstTo s t m n).set i x=firstTo s t (i+1) n:=by
  refine ext_get (by simp [jy]) fun k hk=>?_
  rw [List.length_set,jy] at hk
  rw [getset (by rw [jy];exact hi),QJ hk,QJ hk]
  by_cases e:k=i
  · subst e;rw [if_pos rfl,if_pos qf,hx]
  · rw [if_neg e]
    by_cases h1:k < m
    · rw [if_pos h1,if_pos qf]
    · rw [if_neg h1]
      by_cases h2:k < i
      · rw [if_pos qf,firstC_no (h k qf h2)]
      · rw [if_neg qf]
theorem firstTo_end {s:qy} {t:qF} {m n:Nat} (hm:m≤n) (h:∀ j,m≤j→j < n→¬ Appl s t j):firstTo s t m n=firstTo s t n n:=by
  refine ext_get (by simp [jy]) fun k hk=>?_
  rw [jy] at hk
  rw [QJ hk,QJ hk,if_pos hk]
  by_cases h1:k < m
  · rw [if_pos h1]
  · rw [if_neg h1,firstC_no (h k qf hk)]
def Box (n K:Nat) (b:yLL):Prop:=b.length=n∧∀ p,p < n→(b[p]!).length=K∧∀ k,k < K→0≤(b[p]!)[k]! ∧(b[p]!)[k]! ≤1000
theorem xW.box {s:qy} {t:qF} (h:xW s t):Box (vK s) (yX s) t.qK:=by
  refine ⟨h.2.1,fun p hp=>?_⟩
  have hb:=h.bagLen (k:=p) (by rw [h.2.1];exact hp)
  exact ⟨hb.len,fun k hk=>hb.get (by rw [hb.len];exact hk)⟩
theorem firstR_box {s:qy} {t:qF} (hs:jB s) (ht:xW s t):∀ k,k≤s.qw.length→Box (vK s) (yX s) (zW s t k)
  | 0,_=>ht.box
  | k+1,h=>by
    have ih:=firstR_box hs ht k qf
    by_cases ha:Appl s t k
    · rw [firstR_yes ha]
      have hr:=hs.rule (i:=k) qf
      have hb:=hr.2.2.2.2.1
      have hc:=ih.2 _ hr.cell
      refine ⟨by rw [List.length_set];exact ih.1,fun p hp=>?_⟩
      rw [getset (by rw [ih.1];exact hr.cell)]
      by_cases e:p=(s.qw[k]!).qE.toNat
      · rw [if_pos e,QR]
        refine ⟨hc.1,fun q hq=>?_⟩
        rw [plus_get (by rw [hc.1];exact hq)]
        have h1:=timesL_left (l:=(s.qw[k]!).xC) (m:=(zW s t k)[(s.qw[k]!).qE.toNat]!) (fun j hj=>(hb.get hj).1) (fun j hj=>(hc.2 j (by rw [← hb.len];exact hj)).1) (k:=q) (by rw [hb.len];exact hq)
        refine ⟨h1,?_⟩
        have h2:=XG (l:=(s.qw[k]!).xC) (m:=(zW s t k)[(s.qw[k]!).qE.toNat]!) (fun j hj=>(hc.2 j (by rw [← hb.len];exact hj)).1) _ (Nat.le_refl _)
        have h3:=Int.mul_nonneg h2.1 (hb.get (k:=q) (by rw [hb.len];exact hq)).1
        have h4:=(hc.2 q hq).2
        have h5: -(Qd (s.qw[k]!).xC ((zW s t k)[(s.qw[k]!).qE.toNat]!)) * ((s.qw[k]!).xC)[q]! = -(Qd (s.qw[k]!).xC ((zW s t k)[(s.qw[k]!).qE.toNat]!) * ((s.qw[k]!).xC)[q]!):=Int.neg_mul ..
        unfold Qd at *
        omega
      · rw [if_neg e];exact ih.2 p hp
    · rw [firstR_no ha];exact ih
theorem firstR_row {s:qy} {t:qF} (hs:jB s) (ht:xW s t) {k c:Nat} (hk:k≤s.qw.length) (h:c < vK s):
    ((zW s t k)[c]!).length=yX s∧Mid ((zW s t k)[c]!)∧∀ q,q < yX s→0≤((zW s t k)[c]!)[q]! ∧((zW s t k)[c]!)[q]! ≤1000:=by
  have h1:=(firstR_box hs ht k hk).2 c h
  have:=kinds_le hs
  exact ⟨h1.1,⟨by have:=h1.1;omega,fun q hq=>by have:=h1.2 q (by have:=h1.1;omega);omega⟩,h1.2⟩
theorem firstC_bd {s:qy} {t:qF} (hs:jB s) (ht:xW s t) {k:Nat} (hk:k < s.qw.length):0≤firstC s t k∧firstC s t k≤1000:=by
  by_cases ha:Appl s t k
  · rw [Q7 ha]
    have hr:=hs.rule hk
    have hc:=firstR_row hs ht (Nat.le_of_lt hk) hr.cell
    exact XG (fun j hj=>(hc.2.2 j (by rw [← hr.2.2.2.2.1.len];exact hj)).1) _ (Nat.le_refl _)
  · rw [firstC_no ha];omega
theorem first_cnt {s:qy} {t:qF} (hs:jB s) (ht:xW s t):CntOk s (xX s t):=by
  refine ⟨jy _ _ _ _,fun i hi=>?_⟩
  rw [xX,jy] at hi
  rw [xX,QJ hi,if_pos hi]
  exact firstC_bd hs ht hi
theorem first_rest {s:qy} {t:qF} (hs:jB s) (ht:xW s t):∀ k,k≤s.qw.length→jW s t (xX s t) k=zW s t k
  | 0,_=>rfl
  | k+1,h=>by
    have ih:=first_rest hs ht k qf
    have hg:(xX s t)[k]! =firstC s t k:=by rw [xX,QJ qf,if_pos qf]
    by_cases ha:Appl s t k
    · rw [firstR_yes ha,jW,ih,hg,Q7 ha]
    · rw [firstR_no ha,restR_skip hs ht qf (by rw [hg,firstC_no ha]),ih]
theorem first_isCh {s:qy} {t:qF} (hs:jB s) (ht:xW s t):IsCh s t (xX s t):=by
  have hl:(xX s t).length=s.qw.length:=jy _ _ _ _
  constructor
  · intro i hi
    rw [hl] at hi
    rintro ⟨h1,h2⟩
    rw [xX,QJ hi,if_pos hi,firstC_no h2] at h1
    omega
  · rw [hl,first_rest hs ht _ (Nat.le_refl _)]
    have hb:=firstR_box hs ht _ (Nat.le_refl _)
    intro p hp k hk
    rw [ht.2.1] at hp
    have:=hb.2 p hp
    exact (this.2 k (by rw [← this.1];exact hk)).1
theorem parentNow_root {s:qy} {t:qF} (hs:ji s):qR s t 0= -1:=by
  unfold qR
  rw [show s.qx[(0:Int).toNat]! = -1 from hs.2.2.1]
  exact climb_end fun h=>by omega
def outPl (s:qy) (t:qF) (r:jg):Nat:=if r.qE=0 then vK s else (qR s t r.qE).toNat
theorem outPl_root {s:qy} {t:qF} {r:jg} (h:r.qE=0):outPl s t r=vK s:=by rw [outPl,if_pos h]
theorem outPl_up {s:qy} {t:qF} {r:jg} (h:r.qE≠0):outPl s t r=(qR s t r.qE).toNat:=by rw [outPl,if_neg h]
def intoF (r:jg) (c:Int):Nat→Nat→Nat→Int
  | 0,_,_=>0
  | j+1,p,k=>intoF r c j p k+at' p (r.qM[j]!).qE.toNat (c * ((r.qM[j]!).QC)[k]!)
def putF (s:qy) (t:qF) (r:jg) (c:Int) (p k:Nat):Int:=at' p r.qE.toNat (c * r.zf[k]!)+at' p (outPl s t r) (c * r.jb[k]!)+intoF r c r.qM.length p k
def putS (s:qy) (t:qF) (counts:yLI):Nat→Nat→Nat→Int
  | 0,_,_=>0
  | i+1,p,k=>putS s t counts i p k+putF s t (s.qw[i]!) (counts[i]!) p k
def allS (s:qy) (t:qF) (counts:yLI):Nat→Nat→Nat→Int
  | 0,_,_=>0
  | i+1,p,k=>allS s t counts i p k+needF s counts i p k+putF s t (s.qw[i]!) (counts[i]!) p k
theorem allS_eq (s:qy) (t:qF) (counts:yLI) (p k:Nat):∀ i,allS s t counts i p k=needS s counts i p k+putS s t counts i p k
  | 0=>rfl
  | i+1=>by
    have:=allS_eq s t counts p k i
    simp only [allS,needS,putS]
    omega
theorem at_zero (p c:Nat) (x:Int):at' p c (0 * x)=0:=by unfold at';split <;> simp
theorem intoF_zero (r:jg) (p k:Nat):∀ j,intoF r 0 j p k=0
  | 0=>rfl
  | j+1=>by rw [intoF,intoF_zero r p k j,at_zero];rfl
theorem putF_zero (s:qy) (t:qF) (r:jg) {c:Int} (h:c=0) (p k:Nat):putF s t r c p k=0:=by
  subst h;rw [putF,at_zero,at_zero,intoF_zero];rfl
theorem putS_skip {s:qy} {t:qF} {counts:yLI} {i:Nat} (h:counts[i]! =0) (p k:Nat):putS s t counts (i+1) p k=putS s t counts i p k:=by
  rw [putS,putF_zero s t _ h];omega
def base0 (s:qy) (t:qF) (p k:Nat):Int:=if p < vK s then (t.qK[p]!)[k]! else t.qG[k]!
def stepF (s:qy) (t:qF) (counts:yLI) (p k:Nat):Int:=base0 s t p k+allS s t counts s.qw.length p k
noncomputable def xf (s:qy) (t:qF) (counts:yLI):qF:=
  ⟨t.qC,(tab2 (vK s+1) (yX s) (stepF s t counts)).take (vK s),(tab2 (vK s+1) (yX s) (stepF s t counts))[vK s]!⟩
theorem xW.around {s:qy} {t:qF} (h:xW s t):t.qG.length=yX s∧∀ k,k < yX s→0≤t.qG[k]! ∧t.qG[k]! ≤1000:=by
  have hb:=h.2.2.2.1
  exact ⟨hb.len,fun k hk=>hb.get (by rw [hb.len];exact hk)⟩
theorem start_ent {s:qy} {t:qF} {counts:yLI} (ht:xW s t):Ent (vK s+1) (yX s) (fun p k=>base0 s t p k+allS s t counts 0 p k) 1000 (t.qK++[t.qG]):=by
  have h1:Ent (vK s) (yX s) (fun p k=>base0 s t p k+allS s t counts 0 p k) 1000 t.qK:=⟨ht.shape,fun p k hp hk=>by simp [base0,hp,allS]⟩
  refine h1.snoc ht.around.1 (fun k hk=>by have:=ht.around.2 k hk;omega) fun k hk=>?_
  simp [base0,allS]
theorem rest_ent {s:qy} {t:qF} {counts:yLI} (hs:jB s) (ht:xW s t) (hc:CntOk s counts):
    Ent (vK s+1) (yX s) (fun p k=>base0 s t p k+needS s counts s.qw.length p k+putS s t counts 0 p k) (1000+1000000 * s.qw.length) (jW s t counts s.qw.length++[t.qG]):=by
  have h1:Ent (vK s) (yX s) (fun p k=>base0 s t p k+needS s counts s.qw.length p k+putS s t counts 0 p k) (1000+1000000 * s.qw.length) (jW s t counts s.qw.length):=by
    have h0:=restR_ent hs ht hc _ (Nat.le_refl _)
    exact ⟨h0.sh,fun p k hp hk=>by rw [h0.eq p k hp hk];simp [base0,hp,putS]⟩
  refine h1.snoc ht.around.1 (fun k hk=>by have:=ht.around.2 k hk;omega) fun k hk=>?_
  have h2:∀ i,i≤s.qw.length→needS s counts i (vK s) k=0:=by
    intro i
    induction i with
    | zero=>intro _;rfl
    | succ i ih=>
      intro hi
      have:=(hs.rule (i:=i) qf).cell
      rw [needS,ih qf,needF,at',if_neg qf];rfl
  rw [h2 _ (Nat.le_refl _)]
  simp [base0,putS]
theorem step_tab {s:qy} {t:qF} {counts:yLI} {B:Int} {b:yLL} (h:Ent (vK s+1) (yX s) (fun p k=>base0 s t p k+allS s t counts s.qw.length p k) B b):
    b.take (vK s)=(xf s t counts).qK∧b[vK s]! =(xf s t counts).qG:=by
  have e:=h.tab
  constructor
  · show _=(tab2 _ _ _).take _
    rw [e];rfl
  · show _=(tab2 _ _ _)[_]!
    rw [e];rfl
theorem step_tab2 {s:qy} {t:qF} {counts:yLI} {B:Int} {b:yLL} {a:yLI} (hb:b.length=vK s) (h:Ent (vK s+1) (yX s) (fun p k=>base0 s t p k+needS s counts s.qw.length p k+putS s t counts s.qw.length p k) B (b++[a])):
    b=(xf s t counts).qK∧a=(xf s t counts).qG:=by
  have h1:=step_tab (h.to (g:=fun p k=>base0 s t p k+allS s t counts s.qw.length p k) (fun p k=>by rw [allS_eq];omega) (Int.le_refl _))
  rw [← hb,List.take_left] at h1
  refine ⟨h1.1,?_⟩
  rw [← h1.2,getElem!_pos (b++[a]) b.length qm,List.getElem_append_right (Nat.le_refl _)];simp
theorem cat_set {b:yLL} {a v:yLI} {c:Nat} (hc:c < b.length):(b++[a]).set c v=b.set c v++[a]:=List.set_append_left c v hc
theorem cat_setN {b:yLL} {a v:yLI} {n:Nat} (h:b.length=n):(b++[a]).set n v=b++[v]:=by
  rw [List.set_append_right _ _ qf,h];simp
theorem cat_get {b:yLL} {a:yLI} {c:Nat} (hc:c < b.length):(b++[a])[c]! =b[c]! :=by
  rw [getElem!_pos (b++[a]) c (by simp;omega),getElem!_pos b c hc,List.getElem_append_left hc]
theorem cat_getN {b:yLL} {a:yLI} {n:Nat} (h:b.length=n):(b++[a])[n]! =a:=by
  rw [getElem!_pos (b++[a]) n (by simp;omega),List.getElem_append_right qf];simp [h]
theorem Ent.addL {n K:Nat} {f:Nat→Nat→Int} {B D:Int} {b:yLL} {a:yLI} (h:Ent (n+1) K f B (b++[a])) {c:Nat} {m:yLI} {t:Int} {b' :yLL} (e:b' =b.set c (jR (b[c]!) m t)) (hb:b.length=n) (hc:c < n) (ht:∀ k,k < K→ -D≤t * m[k]! ∧t * m[k]! ≤D) (hD:0≤D):
    Ent (n+1) K (fun p k=>f p k+at' p c (t * m[k]!)) (B+D) (b' ++[a]):=
  h.add (by rw [e,← cat_set qf,cat_get qf]) qf ht hD
theorem Ent.addN {n K:Nat} {f:Nat→Nat→Int} {B D:Int} {b:yLL} {a:yLI} (h:Ent (n+1) K f B (b++[a])) {m:yLI} {t:Int} {a' :yLI} (e:a' =jR a m t) (hb:b.length=n) (ht:∀ k,k < K→ -D≤t * m[k]! ∧t * m[k]! ≤D) (hD:0≤D):
    Ent (n+1) K (fun p k=>f p k+at' p n (t * m[k]!)) (B+D) (b++[a']):=
  h.add (by rw [e,cat_setN hb,cat_getN hb]) qf ht hD
theorem Ent.rowL {n K:Nat} {f:Nat→Nat→Int} {B:Int} {b:yLL} {a:yLI} (h:Ent (n+1) K f B (b++[a])) (hb:b.length=n) (hB:B≤1000000000000000) (hK:K≤8) {c:Nat} (hc:c < n):(b[c]!).length=K∧Mid (b[c]!):=by
  have:=h.sh.row hB hK (c:=c) qf
  rwa [cat_get qf] at this
theorem Ent.rowN {n K:Nat} {f:Nat→Nat→Int} {B:Int} {b:yLL} {a:yLI} (h:Ent (n+1) K f B (b++[a])) (hb:b.length=n) (hB:B≤1000000000000000) (hK:K≤8):a.length=K∧Mid a:=by
  have:=h.sh.row hB hK (c:=n) qf
  rwa [cat_getN hb] at this

def QB (s:qy) (counts:yLI) (c:Int) (k:Nat):Prop:=∃ i,i < k∧0 < counts[i]! ∧(s.qw[i]!).zD=true∧(s.qw[i]!).qE=c
theorem melts_zero (s:qy) (counts:yLI) (c:Int):¬ QB s counts c 0:=fun ⟨i,h,_⟩=>by omega
theorem melts_succ {s:qy} {counts:yLI} {c:Int} {k:Nat}:QB s counts c (k+1)↔QB s counts c k∨(0 < counts[k]! ∧(s.qw[k]!).zD=true∧(s.qw[k]!).qE=c):=by
  constructor
  · rintro ⟨i,h,h1⟩
    by_cases e:i=k
    · subst e;exact .inr h1
    · exact .inl ⟨i,by omega,h1⟩
  · rintro (⟨i,h,h1⟩ | h)
    · exact ⟨i,by omega,h1⟩
    · exact ⟨k,by omega,h⟩
theorem melts_1 {s:qy} {counts:yLI} {c:Int} {k:Nat} (h:dec (QB s counts c k)=true):true=dec (QB s counts c (k+1)):=(yP (melts_succ.2 (.inl (y5 h)))).symm
theorem melts_2 {s:qy} {counts:yLI} {c:Int} {k:Nat} (h:dec (QB s counts c k)=false) (h1:¬ counts[k]! > 0):false=dec (QB s counts c (k+1)):=
  (xg fun x=>(melts_succ.1 x).elim (zF h) fun y=>h1 y.1).symm
theorem melts_3 {s:qy} {counts:yLI} {c:Int} {k:Nat} (h:dec (QB s counts c k)=false) (h1:(s.qw[k]!).zD=false):false=dec (QB s counts c (k+1)):=
  (xg fun x=>(melts_succ.1 x).elim (zF h) fun y=>ft y.2.1 h1).symm
theorem melts_4 {s:qy} {counts:yLI} {c:Int} {k:Nat} (h:dec (QB s counts c k)=false) (h1:counts[k]! > 0) (h2:(s.qw[k]!).zD=true):((s.qw[k]!).qE == c)=dec (QB s counts c (k+1)):=by
  refine dec_eq ?_
  rw [beq_iff_eq,melts_succ]
  exact ⟨fun e=>.inr ⟨h1,h2,e⟩,fun x=>x.elim (fun y=>absurd y (zF h)) fun y=>y.2.2⟩
abbrev Melts (s:qy) (counts:yLI) (c:Int):Prop:=QB s counts c s.qw.length
noncomputable def yj (s:qy) (counts:yLI) (n k:Nat):List Bool:=(List.range n).map fun c:Nat=>dec (QB s counts (c:Int) k)
theorem meltsL_len (s:qy) (counts:yLI) (n k:Nat):(yj s counts n k).length=n:=by simp [yj]
theorem meltsL_get {s:qy} {counts:yLI} {n k c:Nat} (h:c < n):(yj s counts n k)[c]! =dec (QB s counts (c:Int) k):=by
  rw [getElem!_pos (yj s counts n k) c (by rw [meltsL_len];exact h)];simp [yj]
theorem meltsL_zero (s:qy) (counts:yLI) (n:Nat):List.replicate n false=yj s counts n 0:=by
  refine ext_get (by simp [meltsL_len]) fun k hk=>?_
  rw [List.length_replicate] at hk
  rw [meltsL_get hk,xg (melts_zero _ _ _),getElem!_pos (List.replicate n false) k (by simpa using hk)];simp
theorem meltsL_set {s:qy} {counts:yLI} {n k:Nat} (h0:0≤(s.qw[k]!).qE) (h:(s.qw[k]!).qE.toNat < n) {x:Bool} (hx:x=true↔((yj s counts n k)[(s.qw[k]!).qE.toNat]! =true∨(0 < counts[k]! ∧(s.qw[k]!).zD=true))):
    (yj s counts n k).set (s.qw[k]!).qE.toNat x=yj s counts n (k+1):=by
  refine ext_get (by simp [meltsL_len]) fun p hp=>?_
  rw [List.length_set,meltsL_len] at hp
  rw [getset (by rw [meltsL_len];exact h),meltsL_get hp,meltsL_get hp]
  rw [meltsL_get h] at hx
  by_cases e:p=(s.qw[k]!).qE.toNat
  · rw [if_pos e]
    refine dec_eq (hx.trans ?_)
    rw [melts_succ,e,show (((s.qw[k]!).qE.toNat:Nat):Int)=(s.qw[k]!).qE by omega]
    constructor
    · rintro (h1 | h1)
      · exact .inl (y5 h1)
      · exact .inr ⟨h1.1,h1.2,rfl⟩
    · rintro (h1 | h1)
      · exact .inl (yP h1)
      · exact .inr ⟨h1.1,h1.2.1⟩
  · rw [if_neg e]
    refine dec_congr ?_
    rw [melts_succ]
    constructor
    · exact .inl
    · rintro (h1 | ⟨_,_,h1⟩)
      · exact h1
      · exfalso;omega
open Classical in
noncomputable def qZ (s:qy) (counts:yLI) (u:qF):Nat→qF
  | 0=>u
  | j+1=>if Melts s counts ((vK s:Int) - 1 - j) then melted s (qZ s counts u j) ((vK s:Int) - 1 - j) else qZ s counts u j
theorem meltDown_yes {s:qy} {counts:yLI} {u:qF} {j:Nat} {c:Int} (h:Melts s counts c) (hc:c=(vK s:Int) - 1 - j):qZ s counts u (j+1)=melted s (qZ s counts u j) c:=by subst hc;rw [qZ,if_pos h]
theorem meltDown_no {s:qy} {counts:yLI} {u:qF} {j:Nat} {c:Int} (h:¬ Melts s counts c) (hc:c=(vK s:Int) - 1 - j):qZ s counts u (j+1)=qZ s counts u j:=by subst hc;rw [qZ,if_neg h]
theorem Qo {s:qy} {counts:yLI} {u:qF} {j i:Nat} {c:Int} (h:dec (QB s counts c i)=true) (hi:i=s.qw.length) (hc:c=(vK s:Int) - 1 - j):qZ s counts u (j+1)=melted s (qZ s counts u j) c:=by subst hi;exact meltDown_yes (y5 h) hc
theorem meltDown_no' {s:qy} {counts:yLI} {u:qF} {j i:Nat} {c:Int} (h:dec (QB s counts c i)=false) (hi:i=s.qw.length) (hc:c=(vK s:Int) - 1 - j):qZ s counts u (j+1)=qZ s counts u j:=by subst hi;exact meltDown_no (zF h) hc
theorem Ql (s:qy) (counts:yLI) (u:qF):∀ j,(qZ s counts u j).qG=u.qG
  | 0=>rfl
  | j+1=>by
    rw [qZ]
    split
    · exact Ql s counts u j
    · exact Ql s counts u j
structure Live (s:qy) (B:Int) (u:qF):Prop where
  alive:u.qC.length=vK s
  root:u.qC[0]! =true
  bags:Shape (vK s) (yX s) B u.qK
  around:u.qG.length=yX s
theorem Live.melt {s:qy} {B:Int} {u:qF} (hs:jB s) (h:Live s B u) (hB:0≤B) {c:Int} (h0:0 < c) (h1:c≤(vK s:Int) - 1):Live s (2 * B) (melted s u c):=by
  have hp:=Xf (t:=u) hs.1 h.root h0 h1
  have hpc:(qR s u c).toNat < vK s:=by omega
  have hcc:c.toNat < vK s:=by omega
  refine ⟨by simp [melted,h.alive],?_,?_,h.around⟩
  · show (u.qC.set c.toNat false)[0]! =true
    rw [getset (by rw [h.alive];exact hcc),if_neg qf];exact h.root
  · have hr:=(h.bags.2 _ hcc).2
    have hk:=(h.bags.2 _ hcc).1
    have h2:=h.bags.plus (m:=u.qK[c.toNat]!) (t:=1) (D:=B) hpc (fun k hk=>by have:=hr k hk;omega) hB
    refine (h2.set (D:=B+B) hcc (by simp [yX]) (fun k hk=>?_) qf).mono qf
    rw [getElem!_pos (List.replicate s.xk.toNat (0:Int)) k (by simpa [yX] using hk)]
    simp;omega
def bnd:Nat→Int
  | 0=>200000000
  | j+1=>2 * bnd j
theorem bnd_pos:∀ j,0≤bnd j
  | 0=>by simp [bnd]
  | j+1=>by have:=bnd_pos j;simp only [bnd];omega
theorem bnd_mono:∀ {i j:Nat},i≤j→bnd i≤bnd j
  | i, 0, h => by obtain rfl : i = 0 := by omega
                  exact Int.le_refl _
  | i,j+1,h=>by
    by_cases e:i=j+1
    · subst e;exact Int.le_refl _
    · have:=bnd_mono (show i≤j by omega)
      have:=bnd_pos j
      simp only [bnd];omega
theorem bnd_le {j:Nat} (h:j≤6):bnd j≤12800000000:=Int.le_trans (bnd_mono h) (by simp [bnd])
theorem Live.mono {s:qy} {B D:Int} {u:qF} (h:Live s B u) (hD:B≤D):Live s D u:=⟨h.alive,h.root,h.bags.mono hD,h.around⟩
theorem stepped_live {s:qy} {t:qF} {counts:yLI} {B:Int} {b:yLL} (ht:xW s t) (h:Ent (vK s+1) (yX s) (fun p k=>base0 s t p k+allS s t counts s.qw.length p k) B b) (hB:B≤200000000):Live s (bnd 0) (xf s t counts):=by
  have h1:=step_tab h
  have hr:=h.sh.2 (vK s) qf
  refine ⟨ht.1,ht.2.2.1,?_,by rw [← h1.2];exact hr.1⟩
  rw [← h1.1]
  refine ⟨by rw [List.length_take,h.sh.1];omega,fun p hp=>?_⟩
  have e:(b.take (vK s))[p]! =b[p]! :=by
    rw [getElem!_pos (b.take (vK s)) p (by rw [List.length_take,h.sh.1];omega),getElem!_pos b p (by rw [h.sh.1];omega)];simp
  rw [e]
  have:=h.sh.2 p qf
  exact ⟨this.1,fun k hk=>by have:=this.2 k hk;simp only [bnd];omega⟩
theorem meltDown_live {s:qy} {counts:yLI} {u:qF} (hs:jB s) (h:Live s (bnd 0) u):∀ j,j+1≤vK s→Live s (bnd j) (qZ s counts u j)
  | 0,_=>h
  | j+1,hj=>by
    have ih:=meltDown_live (counts:=counts) hs h j qf
    by_cases hm:Melts s counts ((vK s:Int) - 1 - j)
    · rw [meltDown_yes hm rfl];exact ih.melt hs (bnd_pos j) qf qf
    · rw [meltDown_no hm rfl];exact ih.mono (bnd_mono qf)
theorem Live.rows {s:qy} {B:Int} {u:qF} (hs:jB s) (h:Live s B u) (hB:B≤12800000000) {p c:Nat} (hp:p < vK s) (hc:c < vK s):
    (u.qK[p]!).length≤(u.qK[c]!).length∧Mid (u.qK[p]!)∧SmallT (u.qK[c]!) 1:=by
  have h1:=h.bags.row qf (kinds_le hs) hp
  have h2:=h.bags.row qf (kinds_le hs) hc
  refine ⟨by omega,h1.2,fun k hk=>?_⟩
  have:=h2.2.2 k hk
  omega
noncomputable def stepRes (s:qy) (t:qF) (counts:yLI):qF×Int:=told s (qZ s counts (xf s t counts) (vK s - 1))
open Classical in
noncomputable def xU (s:qy) (t:qF) (counts:yLI):qF×Int:=if IsCh s t counts then stepRes s t counts else (default,4)
theorem stepBy_yes {s:qy} {t:qF} {counts:yLI} (h:IsCh s t counts):xU s t counts=stepRes s t counts:=by rw [xU,if_pos h]
theorem stepBy_no {s:qy} {t:qF} {counts:yLI} (h:¬ IsCh s t counts):xU s t counts=(default,4):=by rw [xU,if_neg h]
def minus (k:Nat):yLI:=(List.range 6).map fun j=>if j < k then -1 else 0
theorem minus_len (k:Nat):(minus k).length=6:=by simp [minus]
theorem minus_get {k j:Nat} (h:j < 6):(minus k)[j]! =if j < k then -1 else 0:=by
  rw [getElem!_pos (minus k) j (by rw [minus_len];exact h)];simp [minus]
theorem minus_set {k:Nat} (h:k < 6):(minus k).set k (-1)=minus (k+1):=by
  refine ext_get (by simp [minus_len]) fun p hp=>?_
  rw [List.length_set,minus_len] at hp
  rw [getset (by rw [minus_len];exact h),minus_get hp,minus_get hp]
  by_cases e:p=k
  · rw [if_pos e,if_pos qf]
  · rw [if_neg e]
    by_cases h1:p < k
    · rw [if_pos h1,if_pos qf]
    · rw [if_neg h1,if_neg qf]
theorem minus_six {k:Nat} (h:k=6) (s:qy) (t:qF):minus k=bests s t (-1) 6 0:=by
  subst h
  rw [← bests_zero];rfl
theorem appl_yes {s:qy} {t:qF} {i k n:Nat} {z:Int} (hk:k=s.qw.length) (hi:i < s.qw.length) (hz:z≤(s.qw[i]!).vw) (hc:(s.qw[i]!).qE.toNat < n) (h1:(s.qw[i]!).vw=(bests s t z n k)[(s.qw[i]!).qE.toNat]!) (h2:EnOk s t (s.qw[i]!)):Appl s t i:=by
  rw [bests_get hc,hk] at h1
  exact (appl_iff hi hz).2 ⟨h2,h1⟩
theorem appl_no {s:qy} {t:qF} {i k n:Nat} {z:Int} (hk:k=s.qw.length) (hi:i < s.qw.length) (hz:z≤(s.qw[i]!).vw) (hc:(s.qw[i]!).qE.toNat < n) (h1:(s.qw[i]!).vw≠(bests s t z n k)[(s.qw[i]!).qE.toNat]!):¬ Appl s t i:=fun h=>by
  rw [bests_get hc,hk] at h1
  exact h1 ((appl_iff hi hz).1 h).2
theorem appls_halt {s:qy} {t:qF}:(appls s t).length=0↔Halted s t:=by
  constructor
  · intro h j hj ha
    have:(j:Int)∈appls s t:=mem_applL.2 ⟨Int.natCast_nonneg j,by simpa using hj,by simpa using ha⟩
    rw [List.length_eq_zero_iff.1 h] at this;cases this
  · intro h
    rw [List.length_eq_zero_iff]
    apply List.eq_nil_iff_forall_not_mem.2
    intro x hx
    obtain ⟨h0,h1,h2⟩:=mem_applL.1 hx
    exact h _ h1 h2
theorem outPl_in {s:qy} {t:qF} {r:jg} (hs:ji s) (h:0≤qR s t r.qE):outPl s t r=(qR s t r.qE).toNat:=by
  refine outPl_up fun e=>?_
  rw [e,parentNow_root hs] at h;omega
theorem outPl_out {s:qy} {t:qF} {r:jg} (hs:ji s) (h0:t.qC[0]! =true) (hc:Q4 s r.qE) (h:¬ 0≤qR s t r.qE):outPl s t r=s.qx.length:=by
  refine outPl_root ?_
  rcases Int.lt_or_eq_of_le hc.1 with h1 | h1
  · exact absurd (Xf hs h0 h1 hc.2).1 h
  · exact h1.symm
theorem parentNow_lt {s:qy} {t:qF} (hs:ji s) (h0:t.qC[0]! =true) {c:Int} (hc:Q4 s c):qR s t c≤(s.qx.length:Int) - 1:=by
  rcases Int.lt_or_eq_of_le hc.1 with h1 | h1
  · have:=Xf hs h0 h1 hc.2;have:=hc.2;omega
  · rw [← h1,parentNow_root hs];have:=hs.2.1;omega
theorem stepBy_ok {s:qy} {t:qF} {counts:yLI} (h:(xU s t counts).2=0):xW s (xU s t counts).1:=by
  by_cases hc:IsCh s t counts
  · rw [stepBy_yes hc] at h ⊢
    unfold stepRes at h ⊢
    by_cases ho:xW s (qZ s counts (xf s t counts) (vK s - 1))
    · rw [told_yes ho];exact ho
    · rw [told_no ho] at h;cases h
  · rw [stepBy_no hc] at h;cases h
theorem appls_at' {s:qy} {t:qF} {q m:Nat} (hm:(applL s t m).length=q) (hn:m≤s.qw.length) (hq:q < (appls s t).length):
    0≤(appls s t)[q]! ∧m≤((appls s t)[q]!).toNat∧((appls s t)[q]!).toNat < s.qw.length∧Appl s t ((appls s t)[q]!).toNat∧(∀ j,m≤j→j < ((appls s t)[q]!).toNat→¬ Appl s t j)∧(applL s t (((appls s t)[q]!).toNat+1)).length=q+1:=by
  obtain ⟨i,h1,h2,h3,h4,h5,h6⟩:=appls_at hm hn hq
  rw [h1]
  exact ⟨Int.natCast_nonneg i,h2,h3,h4,h5,h6⟩
theorem firstR_step {s:qy} {t:qF} {m j:Nat} (h1:m≤j) (hj:j < s.qw.length) (ha:Appl s t j) (h4:∀ i,m≤i→i < j→¬ Appl s t i) {x:Int} (hx:x=Qd (s.qw[j]!).xC ((zW s t m)[(s.qw[j]!).qE.toNat]!)):
    (zW s t m).set (s.qw[j]!).qE.toNat (jR ((zW s t m)[(s.qw[j]!).qE.toNat]!) (s.qw[j]!).xC (-x))=zW s t (j+1):=by
  rw [hx,← firstR_same h1 h4,firstR_yes ha]
theorem firstC_step {s:qy} {t:qF} {m j:Nat} (h1:m≤j) (ha:Appl s t j) (h4:∀ i,m≤i→i < j→¬ Appl s t i):Qd (s.qw[j]!).xC ((zW s t m)[(s.qw[j]!).qE.toNat]!)=firstC s t j:=by
  rw [Q7 ha,firstR_same h1 h4]
theorem meltsL_1 {s:qy} {counts:yLI} {n k:Nat} (h0:0≤(s.qw[k]!).qE) (h:(s.qw[k]!).qE.toNat < n) (h1:(yj s counts n k)[(s.qw[k]!).qE.toNat]! =true):(yj s counts n k).set (s.qw[k]!).qE.toNat true=yj s counts n (k+1):=
  meltsL_set h0 h ⟨fun _=>.inl h1,fun _=>rfl⟩
theorem meltsL_2 {s:qy} {counts:yLI} {n k:Nat} (h0:0≤(s.qw[k]!).qE) (h:(s.qw[k]!).qE.toNat < n) (h1:(yj s counts n k)[(s.qw[k]!).qE.toNat]! =false) (h2:¬ counts[k]! > 0):(yj s counts n k).set (s.qw[k]!).qE.toNat false=yj s counts n (k+1):=
  meltsL_set h0 h ⟨fun h=>(by cases h),fun h=>h.elim (fun h=>(ft h h1).elim) fun h=>(h2 h.1).elim⟩
theorem meltsL_3 {s:qy} {counts:yLI} {n k:Nat} (h0:0≤(s.qw[k]!).qE) (h:(s.qw[k]!).qE.toNat < n) (h1:(yj s counts n k)[(s.qw[k]!).qE.toNat]! =false) (h2:counts[k]! > 0):(yj s counts n k).set (s.qw[k]!).qE.toNat (s.qw[k]!).zD=yj s counts n (k+1):=
  meltsL_set h0 h ⟨fun h=>.inr ⟨h2,h⟩,fun h=>h.elim (fun h=>(ft h h1).elim) fun h=>h.2⟩
theorem meltDown_yesL {s:qy} {counts:yLI} {u:qF} {j i n:Nat} {c:Int} (h:(yj s counts n i)[c.toNat]! =true) (hn:c.toNat < n) (h0:0≤c) (hi:i=s.qw.length) (hc:c=(vK s:Int) - 1 - j):qZ s counts u (j+1)=melted s (qZ s counts u j) c:=by
  rw [meltsL_get hn,show ((c.toNat:Nat):Int)=c by omega] at h
  exact Qo h hi hc
theorem meltDown_noL {s:qy} {counts:yLI} {u:qF} {j i n:Nat} {c:Int} (h:(yj s counts n i)[c.toNat]! =false) (hn:c.toNat < n) (h0:0≤c) (hi:i=s.qw.length) (hc:c=(vK s:Int) - 1 - j):qZ s counts u (j+1)=qZ s counts u j:=by
  rw [meltsL_get hn,show ((c.toNat:Nat):Int)=c by omega] at h
  exact meltDown_no' h hi hc
theorem copy_pre {n K:Nat} {f:Nat→Nat→Int} {B:Int} {b:yLL} {al:List Bool} (h:Ent (n+1) K f B b) (hK:K≤8) (hn:n≤6) (ha:al.length=n):
    (⟨al,b.take n,b[n]!⟩:qF).qC.length≤1000000∧(⟨al,b.take n,b[n]!⟩:qF).qG.length≤1000000∧(⟨al,b.take n,b[n]!⟩:qF).qK.length≤1000000∧
      ∀ j,j < (⟨al,b.take n,b[n]!⟩:qF).qK.length→((⟨al,b.take n,b[n]!⟩:qF).qK[j]!).length≤1000000:=by
  have hl:(b.take n).length=n:=by rw [List.length_take,h.sh.1];omega
  have hr:=h.sh.2 n qf
  refine ⟨?_,?_,?_,fun j hj=>?_⟩
  · show al.length≤1000000;omega
  · show (b[n]!).length≤1000000;omega
  · show (b.take n).length≤1000000;omega
  · have hj:j < (b.take n).length:=hj
    show ((b.take n)[j]!).length≤1000000
    rw [getElem!_pos (b.take n) j hj,List.getElem_take,← getElem!_pos b j (by rw [h.sh.1];omega)]
    have:=(h.sh.2 j qf).1;omega

open Classical in
noncomputable def runGo (s:qy):Nat→Int→qF→qF×Int×Int
  | 0,made,u=>(u,made,0)
  | f+1,made,u=>if Halted s u then (u,made,0) else if (xU s u (xX s u)).2≠0 then (default,0,(xU s u (xX s u)).2) else runGo s f (made+1) (xU s u (xX s u)).1
theorem runGo_halt {s:qy} {f:Nat} {made:Int} {u:qF} (h:Halted s u):runGo s f made u=(u,made,0):=by
  cases f with
  | zero=>rfl
  | succ f=>rw [runGo,if_pos h]
theorem runGo_end {s:qy} {f:Nat} {made:Int} {u:qF} (h:f=0):runGo s f made u=(u,made,0):=by subst h;rfl
theorem runGo_bad {s:qy} {f:Nat} {made:Int} {u:qF} (hf:0 < f) (h:¬ Halted s u) (h1:(xU s u (xX s u)).2≠0):runGo s f made u=(default,0,(xU s u (xX s u)).2):=by
  obtain ⟨g,rfl⟩:∃ g,f=g+1:=⟨f - 1,by omega⟩
  rw [runGo,if_neg h,if_pos h1]
theorem runGo_go {s:qy} {f g:Nat} {made:Int} {u:qF} (hf:f=g+1) (h:¬ Halted s u) (h1:(xU s u (xX s u)).2=0):runGo s f made u=runGo s g (made+1) (xU s u (xX s u)).1:=by
  subst hf
  rw [runGo,if_neg h,if_neg (by simp [h1])]
open Classical in
noncomputable def xA (s:qy) (t:qF) (steps:Int):qF×Int×Int:=
  if ¬ (jB s∧xW s t) then (default,0,1) else if ¬ (0≤steps∧steps≤200) then (default,0,2) else runGo s steps.toNat 0 t
theorem run_1 {s:qy} {t:qF} {steps:Int} (h:¬ (jB s∧xW s t)):xA s t steps=(default,0,1):=by rw [xA,if_pos h]
theorem run_2 {s:qy} {t:qF} {steps:Int} (h:jB s∧xW s t) (h1:¬ (0≤steps∧steps≤200)):xA s t steps=(default,0,2):=by rw [xA,if_neg (by simpa using h),if_pos h1]
theorem run_0 {s:qy} {t:qF} {steps:Int} (h:jB s∧xW s t) (h1:0≤steps∧steps≤200):xA s t steps=runGo s steps.toNat 0 t:=by rw [xA,if_neg (by simpa using h),if_neg (by simpa using h1)]
theorem mem_appls {s:qy} {t:qF} {i:Nat} (hi:i < s.qw.length):(i:Int)∈appls s t↔Appl s t i:=by
  unfold appls
  rw [mem_applL]
  constructor
  · rintro ⟨_,_,h⟩;simpa using h
  · intro h;exact ⟨Int.natCast_nonneg i,by simpa using hi,by simpa using h⟩
def single (s:qy) (i:Nat):yLI:=(List.replicate s.qw.length (0:Int)).set i 1
theorem most_of {s:qy} {t:qF} {P:Nat→Prop} (h:∀ q,q < (appls s t).length→P ((appls s t)[q]!).toNat):∀ i,i < s.qw.length→Appl s t i→P i:=by
  intro i hi ha
  obtain ⟨q,hq,e⟩:=List.mem_iff_getElem.1 ((mem_appls hi).2 ha)
  have:=h q hq
  rwa [getElem!_pos _ q hq,e] at this
def MostTo (s:qy) (t:qF) (counts:yLI) (k:Nat):Prop:=∀ i,i < k→Appl s t i→within (s.qw[i]!).xC ((jW s t counts counts.length)[(s.qw[i]!).qE.toNat]!)=false
theorem MostTo.succ {s:qy} {t:qF} {counts:yLI} {k:Nat} (h:MostTo s t counts k) (h1:Appl s t k→within (s.qw[k]!).xC ((jW s t counts counts.length)[(s.qw[k]!).qE.toNat]!)=false):MostTo s t counts (k+1):=fun j hj=>by
  by_cases e:j=k
  · subst e;exact h1
  · exact h j qf
def MostL (s:qy) (t:qF) (counts:yLI) (k:Nat):Prop:=∀ q,q < k→within (s.qw[((appls s t)[q]!).toNat]!).xC ((jW s t counts counts.length)[(s.qw[((appls s t)[q]!).toNat]!).qE.toNat]!)=false
theorem MostL.succ {s:qy} {t:qF} {counts:yLI} {k:Nat} (h:MostL s t counts k) (h1:within (s.qw[((appls s t)[k]!).toNat]!).xC ((jW s t counts counts.length)[(s.qw[((appls s t)[k]!).toNat]!).qE.toNat]!)=false):MostL s t counts (k+1):=fun j hj=>by
  by_cases e:j=k
  · subst e;exact h1
  · exact h j qf
theorem MostL.most {s:qy} {t:qF} {counts:yLI} (h:MostL s t counts (appls s t).length) (hc:IsCh s t counts):IsMost s t counts:=
  ⟨hc,most_of (P:=fun i=>within (s.qw[i]!).xC ((jW s t counts counts.length)[(s.qw[i]!).qE.toNat]!)=false) h⟩
def AllCnt (s:qy) (ch:yLL) (k:Nat):Prop:=∀ j,j < k→CntOk s (ch[j]!)
theorem AllCnt.succ {s:qy} {ch:yLL} {k:Nat} (h:AllCnt s ch k) (h1:CntOk s (ch[k]!)):AllCnt s ch (k+1):=fun j hj=>by
  by_cases e:j=k
  · subst e;exact h1
  · exact h j qf
def CodeBad (s:qy) (t:qF) (cs:yLL) (k:Nat):Prop:=(xU s t (cs[k]!)).2≠0
def NoBad (s:qy) (t:qF) (cs:yLL) (k:Nat):Prop:=∀ j,j < k→¬ CodeBad s t cs j
theorem NoBad.succ {s:qy} {t:qF} {cs:yLL} {k:Nat} (h:NoBad s t cs k) (h1:(xU s t (cs[k]!)).2=0):NoBad s t cs (k+1):=fun j hj=>by
  by_cases e:j=k
  · subst e;exact fun x=>x h1
  · exact h j qf
def NotIn (l:List qF) (u:qF) (k:Nat):Prop:=∀ j,j < k→l[j]! ≠u
theorem NotIn.succ {l:List qF} {u:qF} {k:Nat} (h:NotIn l u k) (h1:l[k]! ≠u):NotIn l u (k+1):=fun j hj=>by
  by_cases e:j=k
  · subst e;exact h1
  · exact h j qf
theorem NotIn.out {l:List qF} {u:qF} (h:NotIn l u l.length):¬ u∈l:=fun hm=>by
  obtain ⟨k,hk,e⟩:=List.mem_iff_getElem.1 hm
  exact h k hk (by rw [getElem!_pos l k hk];exact e)
def StillTo (s:qy) (k:Nat):Prop:=∀ i,i < k→(s.qw[i]!).zD=false
theorem StillTo.succ {s:qy} {k:Nat} (h:StillTo s k) (h1:(s.qw[k]!).zD=false):StillTo s (k+1):=fun j hj=>by
  by_cases e:j=k
  · subst e;exact h1
  · exact h j qf
def WholeTo (t:qF) (k:Nat):Prop:=∀ c,c < k→t.qC[c]! =true
theorem WholeTo.succ {t:qF} {k:Nat} (h:WholeTo t k) (h1:t.qC[k]! =true):WholeTo t (k+1):=fun j hj=>by
  by_cases e:j=k
  · subst e;exact h1
  · exact h j qf
abbrev Whole (t:qF):Prop:=WholeTo t t.qC.length
def TookOk (s:qy) (l:yLI) (i:Nat):Prop:=l.length=yX s∧∀ q,q < yX s→ -(1000000 * (i:Int))≤l[q]! ∧l[q]! ≤1000000 * (i:Int)
theorem TookOk.zero (s:qy):TookOk s (List.replicate s.xk.toNat 0) 0:=by
  refine ⟨by simp [yX],fun k hk=>?_⟩
  rw [getElem!_pos (List.replicate s.xk.toNat (0:Int)) k (by simpa [yX] using hk)];simp
theorem TookOk.keep {s:qy} {l:yLI} {i:Nat} (h:TookOk s l i):TookOk s l (i+1):=⟨h.1,fun q hq=>by have:=h.2 q hq;omega⟩
theorem TookOk.plus {s:qy} {l m:yLI} {i:Nat} {n:Int} (h:TookOk s l i) (hm:zQ s.xk m) (hn: -1000≤n∧n≤1000):TookOk s (jR l m n) (i+1):=by
  refine ⟨by rw [QR];exact h.1,fun q hq=>?_⟩
  rw [plus_get (by rw [h.1];exact hq)]
  have:=h.2 q hq
  have:=hm.mul hn q hq
  omega
theorem TookOk.mid {s:qy} {l:yLI} {i:Nat} (h:TookOk s l i) (hi:i≤16) (hk:yX s≤8):l.length=yX s∧Mid l:=by
  refine ⟨h.1,by have:=h.1;omega,fun q hq=>?_⟩
  have:=h.2 q (by have:=h.1;omega)
  omega
def AllBags (b:yLL) (k:Nat):Prop:=∀ j,j < k→BagAny (b[j]!)
theorem AllBags.succ {b:yLL} {k:Nat} (h:AllBags b k) (h1:BagAny (b[k]!)):AllBags b (k+1):=fun j hj=>by
  by_cases e:j=k
  · subst e;exact h1
  · exact h j qf
end
section
open Go.RowKit
set_option linter.unusedVariables false
set_option linter.unusedSimpArgs false
instance:qW UInt8 where
  size:=1
  rep:=fun _ F cs x=>F=[]∧cs=[.int .u8 (x.toNat:Int)]
  len:=by rintro w F cs x ⟨_,rfl⟩;rfl
  one:=by rintro w F cs x ⟨_,rfl⟩ u hu;simp only [List.mem_singleton] at hu;subst hu;rfl
  stay:=by rintro w w' F cs x h _;exact h
  lt:=by rintro w F cs x ⟨rfl,_⟩ b hb;simp at hb

section
variable {P : Program} {ops : Array Oper} {Q : Exit → Act → World → Prop} {n : Nat} {ρ : Env} {W0 w : World} {rest : List Oper} {ps : List Prv} {Γ : List Fact}
  {d:Nat} {ty:TypeId} {pos:String} {af:Array Edge} {K:Env→World→Prop}
theorem St.elemByte (H:St W0 w ps Γ) (i:Nat) {fr:Bool} {F:yLN} {b o m c:Nat} {l:List UInt8} (hf:Γ[i]? =some (isF fr F (.slice (some ⟨b,o,none⟩) m c) l)) (iv:Int) (k:Nat) (hk:iv.toNat=k) (h0:0≤iv) (h1:iv < l.length):
    w.cell? ⟨b,o+iv.toNat * 1,none⟩=some (.int .u8 (((l[k]!).toNat:Nat):Int)):=by
  obtain ⟨cs,Fk,hc,hr,_⟩:=H.elem i hf iv h0 h1
  rw [hk] at hr
  obtain ⟨_,rfl⟩:=hr
  have:=hc 0 _ rfl
  simpa [qW.size] using this
theorem byte_lt (x:UInt8):((x.toNat:Nat):Int)≤255:=by have:=x.toNat_lt;omega
theorem o_mulU {x y:Operand} {t u:TypeId} (a b:Int) (hx:ev n ρ x=.int .u64 a) (hy:ev n ρ y=.int .u64 b) (k:∀ r,K (upd ρ d (.int .u64 r)) w):OW P Q ⟨some d,.binOp .mul t x y u,ty,pos,af,none⟩ n ρ w K:=
  Xu (.int .u64 (IntKind.u64.wrap (a * b))) (by simp [execOp,hx,hy,eqGuard,binOp,Op.intArith]) (k _)
theorem o_addU {x y:Operand} {t u:TypeId} (a b:Int) (hx:ev n ρ x=.int .u64 a) (hy:ev n ρ y=.int .u64 b) (k:∀ r,K (upd ρ d (.int .u64 r)) w):OW P Q ⟨some d,.binOp .add t x y u,ty,pos,af,none⟩ n ρ w K:=
  Xu (.int .u64 (IntKind.u64.wrap (a+b))) (by simp [execOp,hx,hy,eqGuard,binOp,Op.intArith]) (k _)
theorem o_shrU {x y:Operand} {t u:TypeId} (a b:Int) (h:0≤b) (hx:ev n ρ x=.int .u64 a) (hy:ev n ρ y=.int .u64 b) (k:∀ r,K (upd ρ d (.int .u64 r)) w):OW P Q ⟨some d,.binOp .shr t x y u,ty,pos,af,none⟩ n ρ w K:=
  Xu (.int .u64 (a.fdiv (2 ^ (min b.toNat IntKind.u64.bits)))) (by simp [execOp,hx,hy,eqGuard,binOp,Op.shift,show ¬ b < 0 by omega]) (k _)
theorem and_bd (a:Int):0≤IntKind.u64.wrap ((BitVec.ofInt IntKind.u64.bits a &&& BitVec.ofInt IntKind.u64.bits 255).toNat:Int)∧IntKind.u64.wrap ((BitVec.ofInt IntKind.u64.bits a &&& BitVec.ofInt IntKind.u64.bits 255).toNat:Int)≤255:=by
  have b6:IntKind.u64.bits=64:=rfl
  have s6:IntKind.u64.signed=false:=rfl
  have h:(BitVec.ofInt IntKind.u64.bits a &&& BitVec.ofInt IntKind.u64.bits 255).toNat≤255:=by
    rw [BitVec.toNat_and]
    exact Nat.le_trans Nat.and_le_right qj
  generalize (BitVec.ofInt IntKind.u64.bits a &&& BitVec.ofInt IntKind.u64.bits 255).toNat=m at h ⊢
  simp only [IntKind.wrap,b6,s6,Bool.false_and,Bool.false_eq_true,if_false]
  omega
theorem o_andU {x y:Operand} {t u:TypeId} (a:Int) (hx:ev n ρ x=.int .u64 a) (hy:ev n ρ y=.int .u64 255) (k:∀ r,0≤r∧r≤255→K (upd ρ d (.int .u64 r)) w):OW P Q ⟨some d,.binOp .and t x y u,ty,pos,af,none⟩ n ρ w K:=
  Xu (.int .u64 (IntKind.u64.wrap ((BitVec.ofInt IntKind.u64.bits a &&& BitVec.ofInt IntKind.u64.bits 255).toNat:Int))) (by simp [execOp,hx,hy,eqGuard,binOp,Op.intBits]) (k _ (and_bd a))
theorem o_conv {x:Operand} {s t:TypeId} {ds:TypeDesc} {k k' :IntKind} (a:Int) (hs:P.underlying s=some ds) (ht:P.underlying t=some (.int k')) (hx:ev n ρ x=.int k a) (h:K (upd ρ d (.int k' (k'.wrap a))) w):
    OW P Q ⟨some d,.convert s t x,ty,pos,af,none⟩ n ρ w K:=
  Xu _ (by simp [execOp,hx,convert,run_underlying hs,run_underlying ht,Conv.intToInt]) h
theorem o_convI {x:Operand} {s t:TypeId} {ds:TypeDesc} {k:IntKind} (a:Int) (hs:P.underlying s=some ds) (ht:P.underlying t=some (.int .i64)) (hx:ev n ρ x=.int k a) (h0:0≤a∧a≤255) (h:K (upd ρ d (.int .i64 a)) w):
    OW P Q ⟨some d,.convert s t x,ty,pos,af,none⟩ n ρ w K:=by
  refine o_conv a hs ht hx ?_
  rw [wrap_in qf]
  exact h
theorem o_convU {x:Operand} {s t:TypeId} {ds:TypeDesc} {k:IntKind} (a:Int) (hs:P.underlying s=some ds) (ht:P.underlying t=some (.int .u64)) (hx:ev n ρ x=.int k a) (h:∀ r,K (upd ρ d (.int .u64 r)) w):
    OW P Q ⟨some d,.convert s t x,ty,pos,af,none⟩ n ρ w K:=o_conv a hs ht hx (h _)
end
section
variable {P : Program} {n : Nat} {ρ : Env} {W0 w : World} {ps : List Prv} {Γ : List Fact}
theorem retCC {fn:Func} {R:Ending→World→Prop} {t u T U b c:Nat} {cs ds:List Value} {tb tc:TypeId} (H:St W0 w ps Γ) (i:Nat) (hp:ps[i]? =some (.box b cs tb)) (j:Nat) (hq:ps[j]? =some (.box c ds tc)) (hr:fn.results=#[.cell t T,.cell u U])
    (ha:∀ w,(isAgg T).run P w=.ok true w) (hs:∀ w,(Go.sizeOf T).run P w=.ok cs.length w) (ha' :∀ w,(isAgg U).run P w=.ok true w) (hs' :∀ w,(Go.sizeOf U).run P w=.ok ds.length w)
    (hv:ev n ρ (.tmp t)=.pointer (some ⟨b,0,none⟩)) (hx:ev n ρ (.tmp u)=.pointer (some ⟨c,0,none⟩)) (h:R (.returned (.tuple #[.agg cs.toArray,.agg ds.toArray])) w):bodyPost P fn R .ret (mk n ρ) w:=by
  have hl:=run_loadCells_list (P:=P) w ⟨b,0,none⟩ cs (fun j v hv=>by rw [Addr.add_mid];exact H.cells i hp j v hv)
  have hl' :=run_loadCells_list (P:=P) w ⟨c,0,none⟩ ds (fun k v hv=>by rw [Addr.add_mid];exact H.cells j hq k v hv)
  have e:=congrFun (Q8 n ρ) (.tmp t)
  have e' :=congrFun (Q8 n ρ) (.tmp u)
  simp only [Act.eval,Array.getD_eq_getD_getElem?] at e e'
  rw [hv] at e
  rw [hx] at e'
  exact bodyPost_ret (v:=.tuple #[.agg cs.toArray,.agg ds.toArray]) (by simp [results,hr,e,e',asAddr,loadVar,ha,hs,hl,ha',hs',hl']) rfl h
end
end
section

def zX (kk M:Int) (l:yLI):Prop:=l.length=kk.toNat∧∀ j,j < l.length→0≤l[j]! ∧l[j]! ≤M
theorem zX.len {kk M:Int} {l:yLI} (h:zX kk M l) (h0:0≤kk):(l.length:Int)=kk:=by have:=h.1;omega
theorem zX.zero {kk M:Int} (h0:0≤kk) (hM:0≤M):zX kk M (List.replicate kk.toNat 0):=⟨by simp,fun j hj=>by
  have hj' :j < kk.toNat:=by simpa using hj
  rw [getElem!_pos (List.replicate kk.toNat (0:Int)) j hj,List.getElem_replicate]
  omega⟩
theorem zX.mono {kk M M' :Int} {l:yLI} (h:zX kk M l) (hM:M≤M'):zX kk M' l:=⟨h.1,fun j hj=>by have:=h.2 j hj;omega⟩
theorem zX.put {kk M:Int} {l:yLI} {v:Int} {i:Nat} (h:zX kk M l) (h0:0≤v∧v≤M):zX kk M (l.set i v):=⟨by rw [List.length_set];exact h.1,fun j hj=>by
  rw [List.length_set] at hj
  rw [getElem!_pos (l.set i v) j (by rw [List.length_set];exact hj),List.getElem_set]
  split
  · exact h0
  · have:=h.2 j hj
    rwa [getElem!_pos l j hj] at this⟩
theorem zX.up {kk M M' :Int} {l:yLI} {i:Nat} (h:zX kk M l) (hi:i < l.length) (hM:M+1≤M'):zX kk M' (l.set i (l[i]! +1)):=
  (h.mono (by omega:M≤M')).put (by have:=h.2 i hi;omega)
theorem zX.ok {kk M:Int} {l:yLI} (h:zX kk M l) (hk:1≤kk∧kk≤8) (hM:M≤1000):zQ kk l:=
  ⟨⟨fun j hj=>by have:=h.2 j hj;omega,by have:=h.len qf;omega,by have:=h.len qf;omega⟩,h.len qf⟩
theorem zX.small {kk M:Int} {l:yLI} (h:zX kk M l) (hk:1≤kk∧kk≤8) (hM:M≤1000):Small l:=jf (h.ok hk hM)
theorem sumTo_up {l:yLI} (h:∀ j,j < l.length→0≤l[j]!):∀ k,k≤l.length→0≤sumTo l k∧∀ i,i < k→l[i]! ≤sumTo l k
  | 0,_=>⟨Int.le_refl _,fun i hi=>by omega⟩
  | k+1,hk=>by
    obtain ⟨h1,h2⟩:=sumTo_up h k qf
    have h3:=h k qf
    refine ⟨by simp only [sumTo];omega,fun i hi=>?_⟩
    simp only [sumTo]
    rcases Nat.lt_or_eq_of_le (Nat.le_of_lt_succ hi) with h4 | h4
    · have:=h2 i h4;omega
    · subst h4;omega
theorem zX.one {kk M:Int} {l:yLI} {i:Nat} (h:zX kk M l) (hk:1≤kk∧kk≤8) (hM:1≤M) (hs:sumL l=0) (hi:i < l.length):sumL (l.set i 1)≠0:=by
  have h1:=h.put (i:=i) (v:=1) qf
  have h2:=(sumTo_up (l:=l.set i 1) (fun j hj=>(h1.2 j hj).1) _ (Nat.le_refl _)).2 i (by rw [List.length_set];exact hi)
  rw [getElem!_pos (l.set i 1) i (by rw [List.length_set];exact hi),List.getElem_set_self] at h2
  show sumTo _ _≠0
  omega

def IntoDr (kk:Int) (par:yLI) (cell:Int) (l:List Xb) (c:Int):Prop:=
  ∀ j,j < l.length→(0≤(l[j]!).qE∧(l[j]!).qE < c)∧Lies par cell (l[j]!).qE∧zX kk 1 (l[j]!).QC∧sumL (l[j]!).QC≠0∧(0 < j→(l[j - 1]!).qE < (l[j]!).qE)
theorem IntoDr.nil (kk:Int) (par:yLI) (cell c:Int):IntoDr kk par cell [] c:=fun j hj=>by simp at hj
theorem IntoDr.mono {kk:Int} {par:yLI} {cell c c' :Int} {l:List Xb} (h:IntoDr kk par cell l c) (hc:c≤c'):IntoDr kk par cell l c' :=fun j hj=>by
  obtain ⟨h1,h2⟩:=h j hj
  exact ⟨by omega,h2⟩
theorem get_snoc {α:Type} [Inhabited α] {l:List α} {x:α} {j:Nat}:(l++[x])[j]! =if j < l.length then l[j]! else if j=l.length then x else default:=by
  by_cases h:j < l.length
  · rw [if_pos h,getElem!_pos (l++[x]) j (by simp;omega),getElem!_pos l j h,List.getElem_append_left h]
  · rw [if_neg h]
    by_cases h2:j=l.length
    · subst h2
      rw [if_pos rfl,getElem!_pos (l++[x]) l.length qm]
      simp
    · rw [if_neg h2,getElem!_neg (l++[x]) j (by simp;omega)]
theorem IntoDr.snoc {kk:Int} {par:yLI} {cell c:Int} {l:List Xb} {b:yLI} (h:IntoDr kk par cell l c) (hc:0≤c) (hl:Lies par cell c) (hb:zX kk 1 b) (hs:sumL b≠0):IntoDr kk par cell (l++[⟨c,b⟩]) (c+1):=fun j hj=>by
  have hj' :j < l.length∨j=l.length:=by simp at hj;omega
  rcases hj' with hj' | hj'
  · obtain ⟨h1,h2,h3,h4,h5⟩:=h j hj'
    rw [get_snoc,if_pos hj',get_snoc,if_pos qf]
    exact ⟨by omega,h2,h3,h4,h5⟩
  · subst hj'
    rw [get_snoc,if_neg qf,if_pos rfl]
    refine ⟨⟨hc,by show c < c+1;omega⟩,hl,hb,hs,fun h0=>?_⟩
    rw [get_snoc,if_pos qf]
    exact (h (l.length - 1) qf).1.2
structure RuleDr (kk:Int) (par:yLI) (r:jg):Prop where
  cell:0≤r.qE∧r.qE < par.length
  rank:0≤r.vw∧r.vw≤2
  melts:¬ (r.zD=true∧r.qE=0)
  need:zX kk 2 r.xC∧sumL r.xC≠0
  hav:zX kk 1 r.x8
  lack:zX kk 1 r.xZ
  here:zX kk 2 r.zf
  out:zX kk 2 r.jb
  many:r.qM.length≤3
  into:IntoDr kk par r.qE r.qM par.length
theorem RuleDr.ok {s:qy} {r:jg} (h:RuleDr s.xk s.qx r) (hk:1≤s.xk∧s.xk≤8):RuleOk s r:=
  ⟨⟨h.cell.1,by have:=h.cell.2;omega⟩,by have:=h.rank;omega,h.melts,h.many,h.need.1.ok hk qf,h.hav.ok hk qf,h.lack.ok hk qf,h.here.ok hk qf,h.out.ok hk qf,h.need.2,
    fun j hj=>by
      obtain ⟨h1,h2,h3,h4,h5⟩:=h.into j hj
      exact ⟨⟨h1.1,by omega⟩,h2,h3.ok hk qf,h4,h5⟩⟩
theorem ruleDr_of {kk:Int} {par:yLI} {cell rank:Int} {need hav lack here out:yLI} {into:List Xb} {melts:Bool} (h1:0≤cell∧cell < (par.length:Int)) (h2:0≤rank∧rank≤2) (h3:melts=true→cell≠0)
    (h4:zX kk 2 need∧sumL need≠0) (h5:zX kk 1 hav) (h6:zX kk 1 lack) (h7:zX kk 2 here) (h8:zX kk 1 out) (h9:into.length≤3∧IntoDr kk par cell into par.length):RuleDr kk par ⟨cell,rank,need,hav,lack,here,out,into,melts⟩:=
  ⟨h1,h2,fun h=>h3 h.1 h.2,h4,h5,h6,h7,h8.mono qf,h9.1,h9.2⟩
def jH (kk:Int) (par:yLI) (l:List jg):Prop:=∀ j,j < l.length→RuleDr kk par (l[j]!)
theorem jH.nil (kk:Int) (par:yLI):jH kk par []:=fun j hj=>by simp at hj
theorem jH.snoc {kk:Int} {par:yLI} {l:List jg} {r:jg} (h:jH kk par l) (hr:RuleDr kk par r):jH kk par (l++[r]):=fun j hj=>by
  rw [get_snoc]
  by_cases h1:j < l.length
  · rw [if_pos h1];exact h j h1
  · rw [if_neg h1,if_pos (by simp at hj;omega)];exact hr
theorem jH.set {kk:Int} {par:yLI} {l:List jg} {r:jg} {i:Nat} (h:jH kk par l) (hr:RuleDr kk par r):jH kk par (l.set i r):=fun j hj=>by
  rw [List.length_set] at hj
  rw [getElem!_pos (l.set i r) j (by rw [List.length_set];exact hj),List.getElem_set]
  split
  · exact hr
  · have:=h j hj;rwa [getElem!_pos l j hj] at this
def ParDr (par:yLI):Prop:=1≤par.length∧par[0]! = -1∧∀ c,1≤c→c < par.length→0≤par[c]! ∧par[c]! ≤(c:Int) - 1
theorem ParDr.one:ParDr [-1]:=⟨by simp,rfl,fun c h1 h2=>by simp at h2;omega⟩
theorem ParDr.snoc {par:yLI} {v:Int} (h:ParDr par) (hv:0≤v∧v < par.length):ParDr (par++[v]):=by
  obtain ⟨h1,h2,h3⟩:=h
  refine ⟨by simp,by rw [get_snoc,if_pos qf];exact h2,fun c hc hl=>?_⟩
  rw [get_snoc]
  by_cases h4:c < par.length
  · rw [if_pos h4];exact h3 c hc h4
  · have h5:c=par.length:=by simp at hl;omega
    rw [if_neg h4,if_pos h5];omega
theorem frame_of {kk:Int} {par:yLI} {rules:List jg} (h:ParDr par) (hk:1≤kk∧kk≤3) (hl:par.length≤3):ji ⟨kk,par,rules⟩:=
  ⟨⟨hk.1,by show kk≤8;omega⟩,⟨h.1,by show par.length≤6;omega⟩,h.2.1,h.2.2⟩
structure SysDr (kk:Int) (par:yLI) (rules:List jg):Prop where
  kinds:1≤kk∧kk≤3
  cells:1≤par.length∧par.length≤3
  skin:par[0]! = -1
  up:∀ c,1≤c→c < par.length→0≤par[c]! ∧par[c]! ≤(c:Int) - 1
  few:rules.length≤5
  rules:jH kk par rules
theorem sysDr_of {kk:Int} {par:yLI} {rules:List jg} (h:ParDr par) (hk:1≤kk∧kk≤3) (hl:par.length≤3) (hr:rules.length≤5) (hd:jH kk par rules):SysDr kk par rules:=⟨hk,⟨h.1,hl⟩,h.2.1,h.2.2,hr,hd⟩
theorem SysDr.frame {kk:Int} {par:yLI} {rules:List jg} (h:SysDr kk par rules):ji ⟨kk,par,rules⟩:=by
  have h1:=h.kinds
  have h2:=h.cells
  exact ⟨⟨h1.1,by show kk≤8;omega⟩,⟨h2.1,by show par.length≤6;omega⟩,h.skin,h.up⟩
theorem SysDr.ok {kk:Int} {par:yLI} {rules:List jg} (h:SysDr kk par rules):jB ⟨kk,par,rules⟩:=by
  have h1:=h.kinds
  have h3:=h.few
  refine ⟨h.frame,by show rules.length≤16;omega,fun j hj=>⟨(h.rules j hj).ok (s:=⟨kk,par,rules⟩) ⟨h1.1,by show kk≤8;omega⟩,?_⟩⟩
  have h4:=(ofCell_bd rules (rules[j]!).qE (j+1)).2
  have h5:j < rules.length:=hj
  show ofCell rules (rules[j]!).qE (j+1)≤8
  omega
structure StDr (kk:Int) (n:Nat) (M:Int) (alive:List Bool) (bags:yLL) (around:yLI):Prop where
  la:alive.length=n
  lb:bags.length=n
  skin:alive[0]! =true
  around:zX kk 2 around
  bags:∀ c,c < bags.length→zX kk M (bags[c]!)∧(alive[c]! =false→sumL (bags[c]!)≤0)
theorem StDr.ok {kk M:Int} {par:yLI} {rules:List jg} {alive:List Bool} {bags:yLL} {around:yLI} (h:StDr kk par.length M alive bags around) (hs:SysDr kk par rules) (hM:M≤1000):xW ⟨kk,par,rules⟩ ⟨alive,bags,around⟩:=by
  have h1:=hs.kinds
  exact ⟨h.la,h.lb,h.skin,h.around.ok ⟨h1.1,by omega⟩ qf,fun c hc=>⟨(h.bags c hc).1.ok ⟨h1.1,by show kk≤8;omega⟩ hM,(h.bags c hc).2⟩⟩
theorem sum_zeros (n:Nat):sumL (List.replicate n (0:Int))≤0:=by
  have:∀ k,k≤n→sumTo (List.replicate n (0:Int)) k=0:=fun k=>by
    induction k with
    | zero=>intro _;rfl
    | succ k ih=>
      intro hk
      rw [sumTo,ih qf,getElem!_pos (List.replicate n (0:Int)) k (by simp;omega),List.getElem_replicate]
      rfl
  have h:=this (List.replicate n (0:Int)).length qm
  show sumTo _ _≤0
  omega
structure StTo (kk M:Int) (c:Nat) (alive:List Bool) (bags:yLL):Prop where
  la:alive.length=c
  lb:bags.length=c
  skin:0 < c→alive[0]! =true
  bags:∀ j,j < bags.length→zX kk M (bags[j]!)∧(alive[j]! =false→sumL (bags[j]!)≤0)
theorem StTo.nil (kk M:Int):StTo kk M 0 [] []:=⟨rfl,rfl,fun h=>by omega,fun j hj=>by simp at hj⟩
theorem StTo.snoc {kk M:Int} {c:Nat} {alive:List Bool} {bags:yLL} {a:Bool} {b:yLI} (h:StTo kk M c alive bags) (ha:c=0→a=true) (hb:zX kk M b) (hz:a=false→sumL b≤0):StTo kk M (c+1) (alive++[a]) (bags++[b]):=by
  have la:=h.la
  have lb:=h.lb
  refine ⟨by simp [la],by simp [lb],fun _=>?_,fun j hj=>?_⟩
  · rw [get_snoc]
    by_cases h0:0 < c
    · rw [if_pos qf];exact h.skin h0
    · rw [if_neg qf,if_pos qf];exact ha qf
  · rw [get_snoc,get_snoc]
    by_cases h1:j < c
    · rw [if_pos qf,if_pos qf];exact h.bags j qf
    · rw [if_neg qf,if_pos (by simp at hj;omega),if_neg qf,if_pos (by simp at hj;omega)];exact ⟨hb,hz⟩
end
section
open Go.RowKit
set_option linter.unusedVariables false
set_option linter.unusedSimpArgs false
theorem St.rowel_RuleD {W0 w:World} {ps:List Prv} {Γ:List Fact} (H:St W0 w ps Γ) (k:Nat) {b c:Nat} {e:TypeId} {nn:Nat} {xs:List Value} (hp:ps[k]? =some (.row (.slice (some ⟨b,0,none⟩) nn c) e 9 nn xs)) (j:Nat) {fr:Bool} {F:yLN} {l:List jg}
    (hf:Γ[j]? =some (xe fr F xs l)) {iv:Int} (i:Nat) (h:iv.toNat=i) (h1:i < nn):
    ∃ (aN:yOA) (cN:Nat) (FN:yLN) (aH:yOA) (cH:Nat) (FH:yLN) (aL:yOA) (cL:Nat) (FL:yLN) (aE:yOA) (cE:Nat) (FE:yLN) (aO:yOA) (cO:Nat) (FO:yLN) (aI:yOA) (cI:Nat) (FI:yLN),
      (∀ (q:Nat) (v:Value),([.int .i64 (l[i]!).qE,.int .i64 (l[i]!).vw,.slice aN ((l[i]!).xC.length) cN,.slice aH ((l[i]!).x8.length) cH,.slice aL ((l[i]!).xZ.length) cL,.slice aE ((l[i]!).zf.length) cE,.slice aO ((l[i]!).jb.length) cO,.slice aI ((l[i]!).qM.length) cI,.bool (l[i]!).zD]:List Value)[q]? =some v→xs[0+iv.toNat * 9+q]? =some v)∧
      St W0 w ps (isF fr FN (.slice aN ((l[i]!).xC.length) cN) ((l[i]!).xC) :: isF fr FH (.slice aH ((l[i]!).x8.length) cH) ((l[i]!).x8) :: isF fr FL (.slice aL ((l[i]!).xZ.length) cL) ((l[i]!).xZ) ::
        isF fr FE (.slice aE ((l[i]!).zf.length) cE) ((l[i]!).zf) :: isF fr FO (.slice aO ((l[i]!).jb.length) cO) ((l[i]!).jb) :: isF fr FI (.slice aI ((l[i]!).qM.length) cI) ((l[i]!).qM) :: Γ):=by
  obtain ⟨cs,G,hc,hr,hsub,hfr,v1,v2,hv,hv1⟩:=St.rowElem (α:=jg) H k hp j hf qj h h1
  obtain ⟨vN,vH,vL,vE,vO,vI,FN,FH,FL,FE,FO,FI,rfl,hFF,hN,hH,hL,hE,hO,hI⟩:=id hr
  obtain ⟨aN,cN,rfl⟩:=slice_form hN
  obtain ⟨aH,cH,rfl⟩:=slice_form hH
  obtain ⟨aL,cL,rfl⟩:=slice_form hL
  obtain ⟨aE,cE,rfl⟩:=slice_form hE
  obtain ⟨aO,cO,rfl⟩:=slice_form hO
  obtain ⟨aI,cI,rfl⟩:=slice_form hI
  refine ⟨aN,cN,FN,aH,cH,FH,aL,cL,FL,aE,cE,FE,aO,cO,FO,aI,cI,FI,fun q v hq=>?_,?_⟩
  · have hv1:v1.length=i * 9:=hv1
    have hlt:q < 9:=by
      rcases Nat.lt_or_ge q 9 with h | h
      · exact h
      · rw [List.getElem?_eq_none (by simpa using h)] at hq;cases hq
    rw [hv,List.append_assoc,Nat.zero_add,h,← hv1,List.getElem?_append_right qf,Nat.add_sub_cancel_left,List.getElem?_append_left (by simpa using hlt)]
    exact hq
  · have hs:∀ {x:Nat} {X:yLN},x∈X→(∀ y∈X,y∈G)→x∈G:=fun h h' =>h' _ h
    have s6:=H.QA j hf (isF fr FI (.slice aI ((l[i]!).qM.length) cI) ((l[i]!).qM)) ⟨hI,fun e=>(hfr e).sub (by rw [hFF];intro x hx;simp [hx])⟩ (fun x hx=>hsub x (by rw [hFF];have hx:x∈FI:=hx;simp [hx]))
    have s5:=s6.QA (j+1) hf (isF fr FO (.slice aO ((l[i]!).jb.length) cO) ((l[i]!).jb)) ⟨hO,fun e=>(hfr e).sub (by rw [hFF];intro x hx;simp [hx])⟩ (fun x hx=>hsub x (by rw [hFF];have hx:x∈FO:=hx;simp [hx]))
    have s4:=s5.QA (j+2) hf (isF fr FE (.slice aE ((l[i]!).zf.length) cE) ((l[i]!).zf)) ⟨hE,fun e=>(hfr e).sub (by rw [hFF];intro x hx;simp [hx])⟩ (fun x hx=>hsub x (by rw [hFF];have hx:x∈FE:=hx;simp [hx]))
    have s3:=s4.QA (j+3) hf (isF fr FL (.slice aL ((l[i]!).xZ.length) cL) ((l[i]!).xZ)) ⟨hL,fun e=>(hfr e).sub (by rw [hFF];intro x hx;simp [hx])⟩ (fun x hx=>hsub x (by rw [hFF];have hx:x∈FL:=hx;simp [hx]))
    have s2:=s3.QA (j+4) hf (isF fr FH (.slice aH ((l[i]!).x8.length) cH) ((l[i]!).x8)) ⟨hH,fun e=>(hfr e).sub (by rw [hFF];intro x hx;simp [hx])⟩ (fun x hx=>hsub x (by rw [hFF];have hx:x∈FH:=hx;simp [hx]))
    exact s2.QA (j+5) hf (isF fr FN (.slice aN ((l[i]!).xC.length) cN) ((l[i]!).xC)) ⟨hN,fun e=>(hfr e).sub (by rw [hFF];intro x hx;simp [hx])⟩ (fun x hx=>hsub x (by rw [hFF];have hx:x∈FN:=hx;simp [hx]))

theorem part_lt {xs:List Value} {q:Nat} {v:Value} (h:xs[q]? =some v):q < xs.length:=(List.getElem?_eq_some_iff.1 h).1
theorem part_get {cells xs:List Value} {B:Nat} (hx:∀ (q:Nat) (v:Value),cells[q]? =some v→xs[B+q]? =some v) (j:Nat) (u:Value) (hj:j < cells.length):
    ∀ (q:Nat) (v:Value),(cells.set j u)[q]? =some v→(xs.set (B+j) u)[B+q]? =some v:=fun q v h=>by
  have hl:=part_lt (hx j _ (List.getElem?_eq_getElem hj))
  by_cases e:q=j
  · subst e
    rw [List.getElem?_set_self hj] at h
    rw [List.getElem?_set_self hl]
    exact h
  · rw [List.getElem?_set_ne (fun h=>e h.symm)] at h
    rw [List.getElem?_set_ne qf]
    exact hx q v h

section
variable {P : Program} {ops : Array Oper} {Q : Exit → Act → World → Prop} {n : Nat} {ρ : Env} {W0 w : World} {rest : List Oper} {ps : List Prv} {Γ : List Fact}
  {d:Nat} {ty:TypeId} {pos:String} {af:Array Edge} {K:Env→World→Prop}
theorem o_storePart {t:TypeId} {x y:Operand} {b c off:Nat} {e:TypeId} {sz nn:Nat} {xs:List Value} (H:St W0 w ps Γ) (k:Nat) (hp:ps[k]? =some (.row (.slice (some ⟨b,0,none⟩) nn c) e sz nn xs)) (v:Value)
    (hs:∀ w,(Go.sizeOf t).run P w=.ok 1 w) (hx:ev n ρ x=.pointer (some ⟨b,off,none⟩)) (hy:ev n ρ y=v) (h1:v.oneCell' =true) (h2:off < xs.length)
    (kk:∀ w',St W0 w' (ps.set k (.row (.slice (some ⟨b,0,none⟩) nn c) e sz nn (xs.set off v))) Γ→K ρ w'):
    OW P Q ⟨none,.store t x y,ty,pos,af,none⟩ n ρ w K:=by
  have hc:v.cells=#[v]:=by cases v <;> first | rfl | (simp [Value.oneCell'] at h1)
  refine o_storeRow H k hp v (by simpa [hc] using hs) hx hy (by simp [hc,h1]) (by simp [hc];omega) ?_
  simp only [hc,List.size_toArray,List.length_cons,List.length_nil,Nat.zero_add]
  rw [show xs.take off++[v]++xs.drop (off+1)=xs.set off v by rw [List.set_eq_take_append_cons_drop,if_pos qf];simp]
  exact kk
end

theorem reps_part {α:Type} [qW α] [Inhabited α] {w:World} {F G:yLN} {X:List Value} {l:List α} {v:Value} {f:α} (i q:Nat) (hi:i < l.length) (hq:q < qW.size α)
    (hr:∀ Fk ck,qW.rep w Fk ck (l[i]!)→∃ F',qW.rep w F' (ck.set q v) f∧∀ b∈F',b∈Fk∨b∈G) (h:reps w F X l):
    ∃ F',reps w F' (X.set (i * qW.size α+q) v) (l.set i f)∧∀ b∈F',b∈F∨b∈G:=by
  obtain ⟨F1,Fk,F2,v1,cs,v2,hF,hv,hl1,hlc,h1,h2,h3⟩:=reps_get h i hi
  obtain ⟨F',hr',hs⟩:=hr Fk cs (by rw [getElem!_pos l i hi];exact h1)
  refine ⟨F1++F' ++F2,?_,fun b hb=>?_⟩
  · rw [hv,← hl1,List.append_assoc v1,List.set_append_right _ _ qf,Nat.add_sub_cancel_left,List.set_append_left _ _ qf,List.set_eq_take_append_cons_drop (l:=l),if_pos hi,← List.append_assoc]
    have:=QH (QH h2 (reps_one hr')) h3
    simpa using this
  · simp only [List.mem_append] at hb
    rw [hF]
    rcases hb with (hb | hb) | hb
    · exact .inl (by simp [hb])
    · rcases hs b hb with h | h
      · exact .inl (by simp [h])
      · exact .inr h
    · exact .inl (by simp [hb])
section
variable {W0 w : World} {ps : List Prv} {Γ : List Fact}
theorem St.part {β:Type} [qW β] (H:St W0 w ps Γ) (j:Nat) {fr:Bool} {F:yLN} {X:List Value} {l:List jg} (hf:Γ[j]? =some (xe fr F X l)) (m:Nat) {fr' :Bool} {G:yLN} {v:Value} {z:β} (hg:Γ[m]? =some (isF fr' G v z))
    {iv:Int} (i:Nat) (hi:iv.toNat=i) (h1:i < l.length) (q:Nat) (hq:q < 9) (f:jg) (hr:∀ Fk ck,qW.rep w Fk ck (l[i]!)→∃ F',qW.rep w F' (ck.set q v) f∧∀ b∈F',b∈Fk∨b∈G):
    ∃ F',St W0 w ps (xe false F' (X.set (0+iv.toNat * 9+q) v) (l.set i f) :: Γ):=by
  subst hi
  obtain ⟨F',h2,h3⟩:=reps_part (α:=jg) iv.toNat q h1 hq hr (H.get j hf).1
  refine ⟨F',H.add _ ⟨by rw [Nat.zero_add];exact h2,by simp⟩ fun b hb=>?_⟩
  rcases h3 b hb with h | h
  · exact (H.facts _ (List.mem_of_getElem? hf)).2 b h
  · exact (H.facts _ (List.mem_of_getElem? hg)).2 b h
theorem St.part_5 (H:St W0 w ps Γ) (j:Nat) {fr:Bool} {F:yLN} {X:List Value} {l:List jg} (hf:Γ[j]? =some (xe fr F X l)) (m:Nat) {fr' :Bool} {G:yLN} {v:Value} {z:yLI} (hg:Γ[m]? =some (isF fr' G v z)) {iv:Int} (i:Nat) (hi:iv.toNat=i) (h1:i < l.length):
    ∃ F',St W0 w ps (xe false F' (X.set (0+iv.toNat * 9+5) v) (l.set i { l[i]! with zf:=z }) :: Γ):=by
  refine H.part j hf m hg i hi h1 5 qj _ fun Fk ck hk=>?_
  obtain ⟨v1,v2,v3,v4,v5,v6,F1,F2,F3,F4,F5,F6,rfl,rfl,k1,k2,k3,k4,k5,k6⟩:=hk
  refine ⟨_,⟨v1,v2,v3,v,v5,v6,F1,F2,F3,G,F5,F6,rfl,rfl,k1,k2,k3,(H.get m hg).1,k5,k6⟩,fun b hb=>?_⟩
  simp only [List.mem_append] at hb
  rcases hb with ((((hb | hb) | hb) | hb) | hb) | hb <;> simp [hb]
theorem St.part_6 (H:St W0 w ps Γ) (j:Nat) {fr:Bool} {F:yLN} {X:List Value} {l:List jg} (hf:Γ[j]? =some (xe fr F X l)) (m:Nat) {fr' :Bool} {G:yLN} {v:Value} {z:yLI} (hg:Γ[m]? =some (isF fr' G v z)) {iv:Int} (i:Nat) (hi:iv.toNat=i) (h1:i < l.length):
    ∃ F',St W0 w ps (xe false F' (X.set (0+iv.toNat * 9+6) v) (l.set i { l[i]! with jb:=z }) :: Γ):=by
  refine H.part j hf m hg i hi h1 6 qj _ fun Fk ck hk=>?_
  obtain ⟨v1,v2,v3,v4,v5,v6,F1,F2,F3,F4,F5,F6,rfl,rfl,k1,k2,k3,k4,k5,k6⟩:=hk
  refine ⟨_,⟨v1,v2,v3,v4,v,v6,F1,F2,F3,F4,G,F6,rfl,rfl,k1,k2,k3,k4,(H.get m hg).1,k6⟩,fun b hb=>?_⟩
  simp only [List.mem_append] at hb
  rcases hb with ((((hb | hb) | hb) | hb) | hb) | hb <;> simp [hb]
theorem St.part_7 (H:St W0 w ps Γ) (j:Nat) {fr:Bool} {F:yLN} {X:List Value} {l:List jg} (hf:Γ[j]? =some (xe fr F X l)) (m:Nat) {fr' :Bool} {G:yLN} {v:Value} {z:List Xb} (hg:Γ[m]? =some (isF fr' G v z)) {iv:Int} (i:Nat) (hi:iv.toNat=i) (h1:i < l.length):
    ∃ F',St W0 w ps (xe false F' (X.set (0+iv.toNat * 9+7) v) (l.set i { l[i]! with qM:=z }) :: Γ):=by
  refine H.part j hf m hg i hi h1 7 qj _ fun Fk ck hk=>?_
  obtain ⟨v1,v2,v3,v4,v5,v6,F1,F2,F3,F4,F5,F6,rfl,rfl,k1,k2,k3,k4,k5,k6⟩:=hk
  refine ⟨_,⟨v1,v2,v3,v4,v5,v,F1,F2,F3,F4,F5,G,rfl,rfl,k1,k2,k3,k4,k5,(H.get m hg).1⟩,fun b hb=>?_⟩
  simp only [List.mem_append] at hb
  rcases hb with ((((hb | hb) | hb) | hb) | hb) | hb <;> simp [hb]
end

theorem jH.here {kk:Int} {par:yLI} {l:List jg} {i:Nat} {b:yLI} (h:jH kk par l) (hi:i < l.length) (hb:zX kk 2 b):jH kk par (l.set i { l[i]! with zf:=b }):=
  h.set (let r:=h i hi;⟨r.cell,r.rank,r.melts,r.need,r.hav,r.lack,hb,r.out,r.many,r.into⟩)
theorem jH.out {kk:Int} {par:yLI} {l:List jg} {i:Nat} {b:yLI} (h:jH kk par l) (hi:i < l.length) (hb:zX kk 2 b):jH kk par (l.set i { l[i]! with jb:=b }):=
  h.set (let r:=h i hi;⟨r.cell,r.rank,r.melts,r.need,r.hav,r.lack,r.here,hb,r.many,r.into⟩)
theorem jH.into {kk:Int} {par:yLI} {l:List jg} {i:Nat} (h:jH kk par l) (hi:i < l.length):jH kk par (l.set i { l[i]! with qM:=[]}):=
  h.set (let r:=h i hi;⟨r.cell,r.rank,r.melts,r.need,r.hav,r.lack,r.here,r.out,by simp,IntoDr.nil _ _ _ _⟩)
theorem SysDr.with {kk:Int} {par:yLI} {rules rules' :List jg} (h:SysDr kk par rules) (h1:rules'.length≤5) (h2:jH kk par rules'):SysDr kk par rules' :=⟨h.kinds,h.cells,h.skin,h.up,h1,h2⟩
def HereTo (kk:Int) (k:Nat) (l:yLI):Prop:=zX kk 2 l∧∀ j,j < l.length→k≤j+1→l[j]! =0
theorem HereTo.zero {kk:Int} (h0:0≤kk):HereTo kk 1 (List.replicate kk.toNat 0):=⟨zX.zero h0 qf,fun j hj _=>by rw [getElem!_pos (List.replicate kk.toNat (0:Int)) j hj,List.getElem_replicate]⟩
theorem HereTo.go {kk:Int} {k:Nat} {l:yLI} (h:HereTo kk k l):HereTo kk (k+1) l:=⟨h.1,fun j hj hk=>h.2 j hj qf⟩
theorem HereTo.put {kk:Int} {k i:Nat} {l:yLI} {v:Int} (h:HereTo kk k l) (hi:i < l.length) (hk:i+1=k) (hv:0≤v∧v≤2):HereTo kk (k+1) (l.set i (l[i]! +v)):=by
  have h0:=h.2 i hi qf
  refine ⟨h.1.put qf,fun j hj hk' =>?_⟩
  rw [List.length_set] at hj
  rw [getElem!_pos (l.set i _) j (by rw [List.length_set];exact hj),List.getElem_set,if_neg qf]
  have:=h.2 j hj qf
  rwa [getElem!_pos l j hj] at this
end
section

theorem runGo_ok {s:qy}:∀ (f:Nat) (made:Int) (u:qF),xW s u→(runGo s f made u).2.2=0→xW s (runGo s f made u).1
  | 0,made,u,h,_=>h
  | f+1,made,u,h,hz=>by
    by_cases hh:Halted s u
    · rw [runGo_halt hh];exact h
    · by_cases hc:(xU s u (xX s u)).2=0
      · rw [runGo_go rfl hh hc] at hz ⊢;exact runGo_ok f _ _ (stepBy_ok hc) hz
      · rw [runGo_bad qf hh hc] at hz;exact absurd hz hc
def atV (code:List UInt8) (i n:Int):Int:=if i≥code.length∨n < 1 then 0 else (((code[i.toNat]!).toNat:Nat):Int) % n
theorem atV_no {code:List UInt8} {i n:Int} (h:i≥code.length∨n < 1):atV code i n=0:=by rw [atV,if_pos h]
theorem atV_yes {code:List UInt8} {i n:Int} (h:¬ i≥code.length) (h1:¬ n < 1):atV code i n=(((code[i.toNat]!).toNat:Nat):Int) % n:=by rw [atV,if_neg qf]
theorem atV_bd (code:List UInt8) (i:Int) {n:Int} (h:1≤n):0≤atV code i n∧atV code i n≤n - 1:=by
  rw [atV]
  split
  · omega
  · have h1:=Int.emod_nonneg (((code[i.toNat]!).toNat:Nat):Int) (show n≠0 by omega)
    have h2:=Int.emod_lt_of_pos (((code[i.toNat]!).toNat:Nat):Int) (show 0 < n by omega)
    omega
theorem get_set {α:Type} [Inhabited α] (l:List α) (i j:Nat) (v:α) (hi:i < l.length):(l.set i v)[j]! =if i=j then v else l[j]! :=by
  by_cases hj:j < l.length
  · rw [getElem!_pos _ _ (by rw [List.length_set];exact hj),List.getElem_set,getElem!_pos l j hj]
  · rw [getElem!_neg _ _ (by rw [List.length_set];exact hj),getElem!_neg l j hj,if_neg qf]
theorem plusL_get {l m:yLI} {j:Nat} (h:j < l.length):(jR l m 1)[j]! =l[j]! +m[j]! :=by
  rw [getElem!_pos _ _ (by rw [QR];exact h)]
  simp [jR,plusTo]
theorem rep_get (n j:Nat):(List.replicate n (0:Int))[j]! =0:=by
  by_cases h:j < n
  · rw [getElem!_pos _ _ (by simpa using h)];simp
  · rw [getElem!_neg _ _ (by simpa using h)];rfl

def kidIn (s:qy) (t:qF) (k:Int) (j:Nat):Bool:=t.qC[j]! && (qR s t j == k)
def kidsTo (s:qy) (t:qF) (k:Int) (n:Nat):yLI:=((List.range n).filter (kidIn s t k)).map fun j:Nat=>(j:Int)
section
variable {s : qy} {t : qF} {c : Int}
structure Xj (s:qy) (t:qF) (c:Int):Prop where
  frame:ji s
  state:xW s t
  cell:Q4 s c
  skin:c≠0
  alive:t.qC[c.toNat]! =true
theorem Xj.pos (h:Xj s t c):0 < c:=by have:=h.cell.1;have:=h.skin;omega
theorem Xj.par (h:Xj s t c):0≤qR s t c∧qR s t c < c∧t.qC[(qR s t c).toNat]! =true:=Xf h.frame h.state.2.2.1 h.pos h.cell.2
theorem Xj.alive' (h:Xj s t c) (j:Nat):(melted s t c).qC[j]! =if c.toNat=j then false else t.qC[j]! :=by
  have:=h.cell;have:=h.state.1
  exact get_set _ _ _ _ qf
theorem Xj.bags' (h:Xj s t c) (j:Nat):(melted s t c).qK[j]! =if c.toNat=j then List.replicate s.xk.toNat 0 else if (qR s t c).toNat=j then jR (t.qK[(qR s t c).toNat]!) (t.qK[c.toNat]!) 1 else t.qK[j]! :=by
  have:=h.cell;have:=h.state.2.1;have hp:=h.par
  show ((t.qK.set _ _).set _ _)[j]! =_
  rw [get_set _ _ _ _ (by rw [List.length_set];omega),get_set _ _ _ _ qf]
def Few5 (t:qF):Prop:=(∀ k,k < t.qK.length→∀ j,j < (t.qK[k]!).length→(t.qK[k]!)[j]! ≤5)∧∀ j,j < t.qG.length→t.qG[j]! ≤5
def allTo (t:qF):Nat→yLI
  | 0=>t.qG
  | k+1=>jR (allTo t k) (t.qK[k]!) 1
theorem allTo_len (t:qF):∀ k,(allTo t k).length=t.qG.length
  | 0=>rfl
  | k+1=>by rw [allTo,QR,allTo_len t k]
def colTo (t:qF) (j:Nat):Nat→Int
  | 0=>0
  | k+1=>colTo t j k+(t.qK[k]!)[j]!
theorem allTo_get (t:qF) {j:Nat} (hj:j < t.qG.length):∀ k,(allTo t k)[j]! =t.qG[j]! +colTo t j k
  | 0=>by simp [allTo,colTo]
  | k+1=>by
    rw [allTo,plusL_get (by rw [allTo_len];exact hj),allTo_get t hj k,colTo]
    omega
theorem Xj.lens (h:Xj s t c) {k:Nat} (hk:k < s.qx.length):(t.qK[k]!).length=s.xk.toNat:=by
  have:=(h.state.bagLen (k:=k) (by rw [h.state.2.1];exact hk)).2
  omega
theorem Xj.col (h:Xj s t c) {j:Nat} (hj:j < s.xk.toNat):∀ k,colTo (melted s t c) j k=colTo t j k+(if (qR s t c).toNat < k then (t.qK[c.toNat]!)[j]! else 0) - (if c.toNat < k then (t.qK[c.toNat]!)[j]! else 0)
  | 0=>by simp [colTo]
  | k+1=>by
    have hp:=h.par
    have hc:=h.cell
    rw [colTo,colTo,Xj.col h hj k,h.bags']
    by_cases e1:c.toNat=k
    · subst e1
      rw [if_pos rfl,rep_get,if_neg (show ¬ c.toNat < c.toNat by omega),if_pos (show c.toNat < c.toNat+1 by omega),if_pos (show (qR s t c).toNat < c.toNat by omega),if_pos (show (qR s t c).toNat < c.toNat+1 by omega)]
      omega
    · rw [if_neg e1]
      by_cases e2:(qR s t c).toNat=k
      · subst e2
        rw [if_pos rfl,plusL_get (by rw [h.lens qf];exact hj),if_neg (show ¬ (qR s t c).toNat < (qR s t c).toNat by omega),if_pos (show (qR s t c).toNat < (qR s t c).toNat+1 by omega),
          if_neg (show ¬ c.toNat < (qR s t c).toNat by omega),if_neg (show ¬ c.toNat < (qR s t c).toNat+1 by omega)]
        omega
      · rw [if_neg e2]
        have a1:((qR s t c).toNat < k+1)=((qR s t c).toNat < k):=by apply propext;omega
        have a2:(c.toNat < k+1)=(c.toNat < k):=by apply propext;omega
        simp only [a1,a2]
        omega
theorem Xj.total (h:Xj s t c):allTo (melted s t c) s.qx.length=allTo t s.qx.length:=by
  have hp:=h.par
  have hc:=h.cell
  have hl:(melted s t c).qG=t.qG:=rfl
  have hk:t.qG.length=s.xk.toNat:=by have:=h.state.2.2.2.1.2;omega
  apply List.ext_getElem
  · rw [allTo_len,allTo_len,hl]
  · intro j h1 h2
    rw [allTo_len] at h2
    rw [← getElem!_pos,← getElem!_pos,allTo_get _ (by rw [hl];exact h2),allTo_get _ h2,h.col qf,if_pos qf,if_pos qf,hl]
    omega
theorem Xj.ok (h:Xj s t c) (hf:Few5 t):xW s (melted s t c):=by
  have hp:=h.par
  have hc:=h.cell
  have ht:=h.state
  have e1:(melted s t c).qC.length=t.qC.length:=by simp [melted]
  have e2:(melted s t c).qK.length=t.qK.length:=by simp [melted]
  refine ⟨by rw [e1];exact ht.1,by rw [e2];exact ht.2.1,by rw [h.alive',if_neg (by have:=h.pos;omega)];exact ht.2.2.1,ht.2.2.2.1,fun k hk=>?_⟩
  rw [e2] at hk
  rw [h.bags',h.alive']
  have hkk:=ht.2.1
  by_cases g1:c.toNat=k
  · rw [if_pos g1,if_pos g1]
    have hK:=h.frame.1
    refine ⟨⟨⟨fun j hj=>by rw [rep_get];omega,by simp;omega,by simp;omega⟩,by simp;omega⟩,fun _=>?_⟩
    have hz:∀ n,sumTo (List.replicate s.xk.toNat 0) n=0:=by
      intro n
      induction n with
      | zero=>simp [sumTo]
      | succ n ih=>simp only [sumTo,ih,rep_get];omega
    unfold sumL
    rw [hz]
    omega
  · rw [if_neg g1,if_neg g1]
    by_cases g2:(qR s t c).toNat=k
    · rw [if_pos g2]
      subst g2
      have bp:=ht.bagLen hk
      have bc:=ht.bagLen (k:=c.toNat) qf
      refine ⟨⟨⟨fun j hj=>?_,by rw [QR];exact bp.1.2.1,by rw [QR];exact bp.1.2.2⟩,by rw [QR];exact bp.2⟩,fun hd=>?_⟩
      · rw [QR] at hj
        rw [plusL_get hj]
        have hj2:j < (t.qK[c.toNat]!).length:=by have:=bp.2;have:=bc.2;omega
        have a1:=bp.1.1 j hj
        have a2:=bc.1.1 j hj2
        have a3:=hf.1 _ hk j hj
        have a4:=hf.1 c.toNat qf j hj2
        omega
      · rw [hp.2.2] at hd;cases hd
    · rw [if_neg g2]
      exact ht.2.2.2.2 k hk
end
open Classical in
noncomputable def pnV (s:qy) (t:qF) (c:Int):Int:=if zy s t c=0 then qR s t c else 0
theorem pnV_yes {s:qy} {t:qF} {c:Int} (h:zy s t c=0):pnV s t c=qR s t c:=by rw [pnV,if_pos h]
theorem pnV_no {s:qy} {t:qF} {c:Int} (h:zy s t c≠0):pnV s t c=0:=by rw [pnV,if_neg h]
open Classical in
noncomputable def kidsV (s:qy) (t:qF) (c:Int):yLI:=if zy s t c=0 then kidsTo s t c s.qx.length else []
structure CanAdd (a b:yLI):Prop where
  one:BagAny a
  two:BagAny b
  len:a.length=b.length
  sum:BagAny (jR a b 1)
structure TreeAt (s:qy) (t:qF) (c:Int):Prop where
  code:(meltRes s t c).2=0
  cc:zy s t c=0
  ok:jB s∧xW s (meltRes s t c).1
  dead:(meltRes s t c).1.qC[c.toNat]! =false
  par:0≤pnV s t c∧pnV s t c < s.qx.length
  kids:∀ i,i < (kidsV s t c).length→zy s (meltRes s t c).1 ((kidsV s t c)[i]!)=0∧pnV s (meltRes s t c).1 ((kidsV s t c)[i]!)=pnV s t c
  few:(kidsV s t c).length≤6
  total:allTo (meltRes s t c).1 s.qx.length=allTo t s.qx.length
  bag:BagAny (allTo t s.qx.length)
  add:CanAdd (t.qK[(pnV s t c).toNat]!) (t.qK[c.toNat]!)
  sum:jR (t.qK[(pnV s t c).toNat]!) (t.qK[c.toNat]!) 1=(meltRes s t c).1.qK[(pnV s t c).toNat]!
theorem mem_atI {l:yLI} {c:Int} {k:Nat} (hk:k < l.length) (h:l[k]! =c):c∈l:=by
  rw [← h,getElem!_pos l k hk];exact List.getElem_mem hk
theorem no_mem {l:yLI} {c:Int} {i:Nat} (h:∀ j,j < i→l[j]! ≠c) (hi:l.length≤i):¬ c∈l:=fun hm=>by
  obtain ⟨j,hj,e⟩:=List.mem_iff_getElem.1 hm
  exact h j qf (by rw [getElem!_pos l j hj];exact e)
def MayMelt (s:qy) (c:Int):Prop:=∃ i,i < s.qw.length∧(s.qw[i]!).zD=true∧(s.qw[i]!).qE=c
def DeadOk (s:qy) (u:qF):Prop:=∀ c,c < s.qx.length→u.qC[c]! =false→MayMelt s (c:Int)
open Classical in
noncomputable def chain (s:qy):Nat→Int→yLI
  | 0,_=>[]
  | n+1,p=>if p < 0 then [] else p :: (if MayMelt s p then chain s n (s.qx[p.toNat]!) else [])
theorem climb_chain {s:qy} {u:qF} (hs:ji s) (h0:u.qC[0]! =true) (hd:DeadOk s u):∀ (n m:Nat) (p:Int),0≤p→p < n→p < m→p≤(s.qx.length:Int) - 1→climb s.qx u.qC n p∈chain s m p
  | 0,m,p,h1,h2,h3,h4=>by omega
  | n+1,0,p,h1,h2,h3,h4=>by omega
  | n+1,m+1,p,h1,h2,h3,h4=>by
    rw [chain,if_neg qf,climb]
    by_cases ha:0≤p∧u.qC[p.toNat]! =false
    · rw [if_pos ha]
      have hx:0 < p:=by
        rcases Int.lt_or_eq_of_le h1 with h | h
        · exact h
        · rw [← h] at ha;simp [h0] at ha
      have hu:=hs.up hx h4
      have hm:MayMelt s p:=by
        have:=hd p.toNat qf ha.2
        rwa [show ((p.toNat:Nat):Int)=p by omega] at this
      rw [if_pos hm]
      exact List.mem_cons_of_mem _ (climb_chain hs h0 hd n m _ hu.1 qf qf qf)
    · rw [if_neg ha]
      exact List.mem_cons_self ..
theorem parent_chain {s:qy} {u:qF} (hs:ji s) (hu:xW s u) (hd:DeadOk s u) {c:Int} (hc:Q4 s c) (h0:0 < c):qR s u c∈chain s s.qx.length (s.qx[c.toNat]!):=by
  have h:=hs.up h0 hc.2
  exact climb_chain hs hu.2.2.1 hd _ _ _ h.1 qf qf qf
theorem meltDown_dead {s:qy} {counts:yLI} {u:qF} (hl:u.qC.length=s.qx.length) (hd:DeadOk s u):∀ j,j+1≤s.qx.length→DeadOk s (qZ s counts u j)∧(qZ s counts u j).qC.length=s.qx.length
  | 0,_=>⟨hd,hl⟩
  | j+1,hj=>by
    obtain ⟨ih,il⟩:=meltDown_dead (counts:=counts) hl hd j qf
    by_cases hm:Melts s counts ((vK s:Int) - 1 - j)
    · rw [meltDown_yes hm rfl]
      have hn:vK s=s.qx.length:=rfl
      refine ⟨fun c hc ha=>?_,by simp [melted,il]⟩
      have e:(melted s (qZ s counts u j) ((vK s:Int) - 1 - j)).qC[c]! =if ((vK s:Int) - 1 - j).toNat=c then false else (qZ s counts u j).qC[c]! :=get_set _ _ _ _ qf
      rw [e] at ha
      by_cases hcc:((vK s:Int) - 1 - j).toNat=c
      · obtain ⟨i,h1,_,h3,h4⟩:=hm
        exact ⟨i,h1,h3,by rw [h4];omega⟩
      · rw [if_neg hcc] at ha
        exact ih c hc ha
    · rw [meltDown_no hm rfl];exact ⟨ih,il⟩
theorem stepBy_dead {s:qy} {t:qF} {counts:yLI} (hs:ji s) (ht:xW s t) (hd:DeadOk s t) (h:(xU s t counts).2=0):DeadOk s (xU s t counts).1:=by
  by_cases hc:IsCh s t counts
  · rw [stepBy_yes hc] at h ⊢
    unfold stepRes at h ⊢
    by_cases ho:xW s (qZ s counts (xf s t counts) (vK s - 1))
    · rw [told_yes ho]
      have hn:vK s=s.qx.length:=rfl
      have:=hs.2.1
      exact (meltDown_dead (u:=xf s t counts) ht.1 hd (vK s - 1) qf).1
    · rw [told_no ho] at h;cases h
  · rw [stepBy_no hc] at h;cases h
theorem runGo_dead {s:qy} (hs:ji s):∀ (f:Nat) (made:Int) (u:qF),xW s u→DeadOk s u→(runGo s f made u).2.2=0→DeadOk s (runGo s f made u).1
  | 0,made,u,_,h,_=>h
  | f+1,made,u,hu,h,hz=>by
    by_cases hh:Halted s u
    · rw [runGo_halt hh];exact h
    · by_cases hc:(xU s u (xX s u)).2=0
      · rw [runGo_go rfl hh hc] at hz ⊢
        exact runGo_dead hs f _ _ (stepBy_ok hc) (stepBy_dead hs hu h hc) hz
      · rw [runGo_bad qf hh hc] at hz;exact absurd hz hc
theorem run_parents {s:qy} {t:qF} {n:Int} (h:jB s∧xW s t) (ha:∀ c,c < s.qx.length→t.qC[c]! =true) (hn:0≤n∧n≤200) (hz:(xA s t n).2.2=0):
    xW s (xA s t n).1∧∀ c,Q4 s c→0 < c→qR s (xA s t n).1 c∈chain s s.qx.length (s.qx[c.toNat]!):=by
  rw [run_0 h hn] at hz ⊢
  have hd:DeadOk s t:=fun c hc hx=>by rw [ha c hc] at hx;cases hx
  have h1:=runGo_ok n.toNat 0 t h.2 hz
  exact ⟨h1,fun c hc h0=>parent_chain h.1.1 h1 (runGo_dead h.1.1 n.toNat 0 t h.2 hd hz) hc h0⟩
end
section
open Go.RowKit Go.Shelf Go.Lib Go.Sort
set_option linter.unusedVariables false
def sortI (l:yLI):yLI:=l.mergeSort fun x y=>decide (x≤y)
theorem sortI_perm (l:yLI):(sortI l).Perm l:=List.mergeSort_perm _ _
theorem sortI_len (l:yLI):(sortI l).length=l.length:=(sortI_perm l).length_eq
section
variable {W0 w : World} {ps : List Prv} {Γ : List Fact}
theorem sw_blockI {α:Type} [Inhabited α] {enc:α→Value} {blk m:Nat} {d:Array α} {os:Array Obj} {k:Nat} (hk:k < w.heap.size) (hne:k≠blk):(grow (putRow enc (Sort.ahead w m) blk 0 d) os).heap[k]? =w.heap[k]? :=by
  unfold putRow mapBlock grow
  show ((Sort.ahead w m).heap.modify blk _++os)[k]? =_
  have hs:((Sort.ahead w m).heap.modify blk (onCells (putCells enc 0 d))).size=w.heap.size:=by rw [Array.size_modify];rfl
  rw [Array.getElem?_append_left (by rw [hs];exact hk),Array.getElem?_modify,if_neg (Ne.symm hne)]
  rfl
theorem sw_rowI {α:Type} [Inhabited α] {enc:α→Value} {blk m:Nat} {d:Array α} {os:Array Obj} {cur:Array Value} {e:TypeId} (h:w.heap[blk]? =some (.cells cur e (0,0))):(grow (putRow enc (Sort.ahead w m) blk 0 d) os).heap[blk]? =some (.cells (putCells enc 0 d cur) e (0,0)):=by
  have hk:blk < w.heap.size:=(Array.getElem?_eq_some_iff.1 h).1
  unfold putRow mapBlock grow
  show ((Sort.ahead w m).heap.modify blk _++os)[blk]? =_
  have hs:((Sort.ahead w m).heap.modify blk (onCells (putCells enc 0 d))).size=w.heap.size:=by rw [Array.size_modify];rfl
  rw [Array.getElem?_append_left (by rw [hs];exact hk),Array.getElem?_modify,if_pos rfl]
  show (w.heap[blk]?).map _=_
  rw [h]
  rfl
theorem sortRowS {P:Program} {ρ:Ren} (L:SlLaysN.n53 P ρ) (H:St W0 w ps Γ) (k:Nat) {b c:Nat} {e:TypeId} {nn:Nat} {l:yLI} (hp:ps[k]? =some (.row (.slice (some ⟨b,0,none⟩) nn c) e 1 nn (l.map (Value.int .i64)))) (hsz:l.length < 4611686018427387904):
    Calls P (ρ.f 53) #[.slice (some ⟨b,0,none⟩) nn c] w fun e' w' =>∃ v,e' =.returned v∧v=.tuple #[]∧
      St W0 w' (ps.set k (.row (.slice (some ⟨b,0,none⟩) nn c) e 1 nn ((sortI l).map (Value.int .i64)))) Γ:=by
  have ho:=(H.has _ (List.mem_of_getElem? hp):w.ownsRow W0.heap.size e 1 _ nn (l.map (Value.int .i64)))
  have hnn:nn=l.length:=by have:=ho.1;simp at this;omega
  subst hnn
  obtain ⟨hl,h | ⟨g',cap,cur,hv,hB,hg,hn,hm,hcs,ht⟩⟩:=ho
  · simp at h
  simp only [Value.slice.injEq,Option.some.injEq,Addr.mk.injEq,and_true] at hv
  obtain ⟨rfl,_,rfl⟩:=hv
  have hcx:∀ i,i < l.length→cur[i]? =some (.int .i64 (l[i]!)):=fun i hi=>by
    have h1:(l.map (Value.int .i64))[i]? =some (.int .i64 (l[i]!)):=by
      rw [List.getElem?_map,List.getElem?_eq_getElem hi,getElem!_pos l i hi];rfl
    rw [← ht,List.getElem?_take,if_pos qf] at h1
    simpa using h1
  have hH:Holds (Value.int .i64) w b 0 l.toArray:=fun i hi=>by
    have hi' :i < l.length:=by simpa using hi
    have e1:l.toArray[i]! =l[i]! :=by rw [getElem!_pos l.toArray i hi,getElem!_pos l i hi'];simp
    rw [e1,Nat.zero_add]
    constructor
    · rw [World.cell?,hg];exact hcx i hi'
    · rw [World.frozen?,hg];simp
  have hblk:b < w.heap.size:=(Array.getElem?_eq_some_iff.1 hg).1
  refine (AnyG.slices_Sort_int L b 0 c l w hH hblk hsz).mono fun e' w' ⟨he,n,os,hw⟩=>⟨_,he,rfl,?_⟩
  subst hw
  have sl:(sortI l).length=l.length:=sortI_len l
  have hown:(grow (putRow (Value.int .i64) (Sort.ahead w n) b 0 (sortI l).toArray) os).ownsRow W0.heap.size e 1 (.slice (some ⟨b,0,none⟩) l.length c) l.length ((sortI l).map (Value.int .i64)):=by
    refine ⟨by simp [sl],Or.inr ⟨b,c,putCells (Value.int .i64) 0 (sortI l).toArray cur,rfl,hB,sw_rowI hg,hn,hm,by unfold putCells;rw [Array.size_mapIdx];exact hcs,?_⟩⟩
    rw [Nat.mul_one]
    refine List.ext_getElem? fun q=>?_
    rw [List.getElem?_take]
    split
    · next hq=>
      rw [Array.getElem?_toList]
      unfold putCells
      rw [Array.getElem?_mapIdx,hcx q hq,List.getElem?_map,List.getElem?_eq_getElem qf]
      simp only [Option.map_some,Nat.zero_le,true_and,Nat.zero_add,List.size_toArray,sl,if_pos hq,Nat.sub_zero]
      rw [getElem!_pos (sortI l).toArray q (by simp;omega)]
      simp
    · next hq=>rw [List.getElem?_eq_none (by simp;omega)]
  have hsize:w.heap.size≤(grow (putRow (Value.int .i64) (Sort.ahead w n) b 0 (sortI l).toArray) os).heap.size:=by
    unfold putRow mapBlock grow
    show _≤((Sort.ahead w n).heap.modify b _++os).size
    rw [Array.size_append,Array.size_modify]
    exact Nat.le_add_right _ _
  exact H.change k hp (p' :=.row (.slice (some ⟨b,0,none⟩) l.length c) e 1 l.length ((sortI l).map (Value.int .i64))) rfl rfl rfl hsize (fun i hi hne=>sw_blockI hi (fun e2=>hne (by subst e2;rfl))) hown (Or.inl rfl)
theorem set_sameI {α:Type} {l:List α} {k:Nat} {x:α} (h:l[k]? =some x):l.set k x=l:=by
  refine List.ext_getElem? fun i=>?_
  by_cases e:k=i
  · subst e
    have hk:k < l.length:=(List.getElem?_eq_some_iff.1 h).1
    rw [List.getElem?_set_self hk,h]
  · rw [List.getElem?_set_ne e]
theorem sortRowI {P:Program} {ρ:Ren} (L:SlLaysN.n53 P ρ) (H:St W0 w ps Γ) (k:Nat) {a:yOA} {c:Nat} {e:TypeId} {nn:Nat} {l:yLI} (hp:ps[k]? =some (.row (.slice a nn c) e 1 nn (l.map (Value.int .i64)))) (hsz:l.length < 4611686018427387904):
    Calls P (ρ.f 53) #[.slice a nn c] w fun e' w' =>∃ v,e' =.returned v∧v=.tuple #[]∧
      St W0 w' (ps.set k (.row (.slice a nn c) e 1 nn ((sortI l).map (Value.int .i64)))) Γ:=by
  have ho:=(H.has _ (List.mem_of_getElem? hp):w.ownsRow W0.heap.size e 1 _ nn (l.map (Value.int .i64)))
  have hnn:nn=l.length:=by have:=ho.1;simp at this;omega
  subst hnn
  by_cases h0:l.length=0
  · obtain rfl:=List.eq_nil_of_length_eq_zero h0
    refine (AnyG.slices_Sort_int_none L a c w).mono fun e' w' ⟨he,hw⟩=>⟨_,he,rfl,?_⟩
    subst hw
    have:sortI []=[]:=by simp [sortI]
    rw [this,set_sameI hp]
    exact H
  · obtain ⟨hl,⟨h,_⟩ | ⟨g',cap,cur,hv,_⟩⟩:=ho
    · simp only [Value.slice.injEq] at h
      exact absurd h.2.1 h0
    · simp only [Value.slice.injEq] at hv
      obtain ⟨rfl,_,_⟩:=hv
      exact sortRowS L H k hp hsz
end
end
section

theorem chain_end {s:qy} {n:Nat} {p:Int} (h:p < 0):chain s n p=[]:=by
  cases n with
  | zero=>rfl
  | succ n=>rw [chain,if_pos h]
theorem chain_go {s:qy} {n:Nat} {p:Int} (hn:0 < n) (h:¬ p < 0) (hm:MayMelt s p):chain s n p=p :: chain s (n - 1) (s.qx[p.toNat]!):=by
  obtain ⟨m,rfl⟩:∃ m,n=m+1:=⟨n - 1,by omega⟩
  rw [chain,if_neg h,if_pos hm];rfl
theorem chain_stop {s:qy} {n:Nat} {p:Int} (hn:0 < n) (h:¬ p < 0) (hm:¬ MayMelt s p):chain s n p=[p]:=by
  obtain ⟨m,rfl⟩:∃ m,n=m+1:=⟨n - 1,by omega⟩
  rw [chain,if_neg h,if_neg hm]
noncomputable def possL (s:qy) (c:Int):yLI:=sortI (chain s s.qx.length (s.qx[c.toNat]!))
theorem mem_poss {s:qy} {c x:Int}:x∈possL s c↔x∈chain s s.qx.length (s.qx[c.toNat]!):=(sortI_perm _).mem_iff
theorem poss_mem {s:qy} {u:qF} {c:Int} (h:zy s u c=0) (h1:qR s u c∈chain s s.qx.length (s.qx[c.toNat]!)):pnV s u c∈possL s c:=by
  rw [pnV_yes h];exact mem_poss.2 h1
theorem Xg {s:qy} {c:Int} {i:Nat} (h:∀ j,j < i→¬ ((s.qw[j]!).zD=true∧(s.qw[j]!).qE=c)) (h1:¬ ((s.qw[i]!).zD=true∧(s.qw[i]!).qE=c)):∀ j,j < i+1→¬ ((s.qw[j]!).zD=true∧(s.qw[j]!).qE=c):=fun j hj=>by
  by_cases e:j=i
  · rw [e];exact h1
  · exact h j qf
end
section
open Go.Proofs.Tryz
open Go.RowKit
set_option linter.unusedVariables false
set_option linter.unusedSimpArgs false
set_option maxRecDepth 100000
set_option maxHeartbeats 4000000
variable {cl bs os qA qI yl yw yt yu QK jU bt ot qU xB qN : Nat}
theorem l01Bag_ok (w:World) (l:yLI) {al:yOA} {Fl:yLN} (hl:qW.rep w Fl [.slice al l.length cl] l):Calls Tryz.prog 177 #[.slice al l.length cl] w (Ret (fun v w' =>v=.bool (dec (BagAny l))) w):=by
 refine en func177 ntmps177 ?_
 have H:=(St.start w).arg hl
 have nhl:=qQ hl
 clear hl
 refine zcr (sp (.bool false) (zjcc (sp (yI 0) (zjn (xq ?_)))))
 refine vJ (fun m' ρ w1=>∃ (zx:Env) (k:Nat),ρ=upd (upd zx 0 (.slice al l.length cl)) 3 (yI k)∧(k≤l.length)∧(Counts l k)∧m' =l.length - k∧St w w1 [] [sF false Fl al cl l]) (l.length - 0) ⟨_,0,uE2,qf,(by exact Counts.zero l),rfl,H⟩ ?_
 clear H
 rintro m' ρ w2 ⟨zx,k,rfl,i0,i1,rfl,H⟩
 refine zcc (sps [yI k,.slice al l.length cl] (oN rfl (sp (.bool (decide ((k:Int) < l.length))) (zjn (cD rfl (fun h3=>?_) (fun h3=>?_))))))
 ·skip
  refine xw (t_n (zn (xq (zcr (sps [.slice al l.length cl,yI k] ?_)))))
  obtain ⟨b4,o5,rfl⟩:=H.addr 0 rfl qf
  refine oI rfl rfl (oL rfl (H.jZ 0 rfl k qf qf) (sw (oq (l00In_ok w2 (l[k]!) 0 1000) H fun w6 H=>sp (.bool (!(inR (l[k]!) 0 1000))) (zjn (xO (!(inR (l[k]!) 0 1000)) rfl (fun h8=>?_) (fun h8=>?_))))))
  ·skip
   replace h8:=xy h8
   replace h8:=QS h8
   refine zcr (sp (.bool false) (zjr (zr5 (ret1 (.bool false) rfl rfl ⟨_,rfl,?_,H.base⟩))))
   rw [xg (fun h=>‹¬ (0≤l[k]! ∧l[k]! ≤1000)› (h.1 k qf))]
  replace h8:=xm h8
  replace h8:=Qp.1 h8
  refine xw (b_n (t_n (zl (sp (yI k) (sw (vg k 1 rfl rfl qf (sp (yI (k+1)) (zo (xn (m' :=l.length - (k+1)) qf ⟨_,k+1,uE2,?_,?_,rfl,H⟩)))))))))
  · omega
  · exact i1.succ ‹_›
 refine zx4 (zcr (sp (.slice al l.length cl) (oN rfl (sw (oq (l00In_ok w2 l.length 1 8) H fun w9 H=>sp (.bool (inR l.length 1 8)) (zjr (ret1 (.bool (inR l.length 1 8)) rfl rfl ⟨_,rfl,?_,H.base⟩)))))))
 obtain rfl:k=l.length:=by omega
 refine congrArg Value.bool (dec_eq ?_)
 rw [Qp]
 exact ⟨fun h=>⟨i1,by omega,by omega⟩,fun h=>by have:=h.2;omega⟩

theorem QD (w:World) (s:qy) (b:yLI) {qB:yOA} {qX:yLN} {qJ:yOA} {xG:yLN} {ab:yOA} {cb:Nat} {Fb:yLN} (hs:jd w bs os (yS s qB qA qJ qI)) (qP:qW.rep w qX [.slice qB s.qx.length qA] s.qx) (xx:qW.rep w xG [.slice qJ s.qw.length qI] s.qw) (hb:qW.rep w Fb [.slice ab b.length cb] b):Calls Tryz.prog 119 #[pp bs os,.slice ab b.length cb] w (Ret (fun v w' =>v=.bool (dec (zQ s.xk b))) w):=by
 refine en func119 ntmps119 ?_
 have H:=((((St.start w).arg hb).arg xx).arg qP).argAt hs
 have zS:=qQ qP
 have jv:=qQ xx
 have nhb:=qQ hb
 clear hs qP xx hb
 refine zcr (sp (.bool false) (zjc (sp (.slice ab b.length cb) (sw (oq (l01Bag_ok _ b (H.get 3 rfl).1) H fun w1 H=>sp (.bool (dec (BagAny b))) ?_)))))
 cases h3:(dec (BagAny b))
 ·skip
  replace h3:=zF h3
  refine xR [8,9,10,11,12,13,14] (sps [.bool false,.bool false] (zjr (ret1 (.bool false) rfl rfl ⟨_,rfl,?_,H.base⟩)))
  rw [xg (fun h=>‹¬ BagAny b› h.1)]
 replace h3:=y5 h3
 refine qL 7 rfl rfl (sp (.slice ab b.length cb) (qL 7 rfl rfl (oN rfl (qL 7 rfl rfl (sp (pp bs os) (qL 7 rfl rfl (sp (pp bs os) (qL 7 rfl rfl (oF rfl (qL 7 rfl rfl (oL rfl (H.zg 0 rfl 0 rfl) (qL 7 rfl rfl (sps [.bool ((b.length:Int) == s.xk),.bool ((b.length:Int) == s.xk),.bool ((b.length:Int) == s.xk)] (zjr (ret1 (.bool ((b.length:Int) == s.xk)) rfl rfl ⟨_,rfl,(congrArg Value.bool (dec_eq ?_)),H.base⟩)))))))))))))))
 rw [beq_iff_eq]
 exact ⟨fun h=>⟨‹_›,h⟩,fun h=>h.2⟩

theorem l02Frame_ok (w:World) (s:qy) {qB:yOA} {qX:yLN} {qJ:yOA} {xG:yLN} (hs:jd w bs os (yS s qB qA qJ qI)) (qP:qW.rep w qX [.slice qB s.qx.length qA] s.qx) (xx:qW.rep w xG [.slice qJ s.qw.length qI] s.qw):Calls Tryz.prog 117 #[pp bs os] w (Ret (fun v w' =>v=.bool (dec (ji s))) w):=by
 refine en func117 ntmps117 ?_
 have H:=(((St.start w).arg xx).arg qP).argAt hs
 have zS:=qQ qP
 have jv:=qQ xx
 clear hs qP xx
 refine zcr (sp (.bool false) (zjcc (sps [pp bs os,pp bs os] (oF rfl (oL rfl (H.zg 0 rfl 0 rfl) (sw (oq (l00In_ok w s.xk 1 8) H fun w1 H=>sps [.bool (!(inR s.xk 1 8)),.bool (!(inR s.xk 1 8))] ?_)))))))
 cases h3:(!(inR s.xk 1 8))
 ·skip
  replace h3:=xm h3
  replace h3:=Qp.1 h3
  refine qL 10 rfl rfl (sp (pp bs os) (qL 10 rfl rfl (sp (pp bs os) (qL 10 rfl rfl (oF rfl (qL 10 rfl rfl (oL rfl (H.zg 0 rfl 1 rfl) (qL 10 rfl rfl (oN rfl (qL 10 rfl rfl (sw (oq (l00In_ok w1 s.qx.length 1 6) H fun w4 H=>qL 10 rfl rfl (sps [.bool (!(inR s.qx.length 1 6)),.bool (!(inR s.qx.length 1 6)),.bool (!(inR s.qx.length 1 6))] ?_)))))))))))))
  cases h6:(!(inR s.qx.length 1 6))
  ·skip
   replace h6:=xm h6
   replace h6:=Qp.1 h6
   refine qL 19 rfl rfl (sp (pp bs os) (qL 19 rfl rfl (sp (pp bs os) (qL 19 rfl rfl (oF rfl (qL 19 rfl rfl (oL rfl (H.zg 0 rfl 1 rfl) (qL 19 rfl rfl ?_))))))))
   obtain ⟨b7,o8,rfl⟩:=H.addr 1 rfl qf
   refine oI rfl rfl (qL 19 rfl rfl (oL rfl (H.jZ 1 rfl 0 qf qf) (qL 19 rfl rfl (sps [.bool ((s.qx[0]! :Int) != (-1)),.bool ((s.qx[0]! :Int) != (-1))] (zjn (xO ((s.qx[0]! :Int) != (-1)) rfl (fun h9=>?_) (fun h9=>?_)))))))
   ·skip
    replace h9:=bne_iff_ne.1 h9
    refine zcr (sp (.bool false) (zjr (t_r (ret1 (.bool false) rfl rfl ⟨_,rfl,?_,H.base⟩))))
    rw [xg (fun h=>by obtain ⟨h1,h2,h3,h4⟩:=h;first | omega | (have:=h4 k qf qf;omega))]
   replace h9:=vW h9
   refine xw (t_n (zcc (sp (yI 1) (zjn (xq ?_)))))
   refine vJ (fun m' ρ w10=>∃ (zx:Env) (k:Nat),ρ=upd (upd zx 0 (pp bs os)) 3 (yI k)∧(k≤s.qx.length)∧(1≤k)∧(FrameTo s k)∧m' =s.qx.length - k∧St w w10 [] [atF bs os [yI s.xk,.slice (aa b7 o8) s.qx.length qA,.slice qJ s.qw.length qI],sF false qX (aa b7 o8) qA s.qx,sF false xG qJ qI s.qw]) (s.qx.length - 1) ⟨_,1,uE2,qf,qf,(by exact FrameTo.one s),rfl,H⟩ ?_
   clear H
   rintro m' ρ w11 ⟨zx,k,rfl,i0,i2,i1,rfl,H⟩
   refine zcc (sps [yI k,pp bs os,pp bs os] (oF rfl (oL rfl (H.zg 0 rfl 1 rfl) (oN rfl (sp (.bool (decide ((k:Int) < s.qx.length))) (zjn (cD rfl (fun h12=>?_) (fun h12=>?_))))))))
   ·skip
    refine xw (t_n (zn (xq (zcr (sps [pp bs os,pp bs os] (oF rfl (oL rfl (H.zg 0 rfl 1 rfl) (sp (yI k) (oI rfl rfl (oL rfl (H.jZ 1 rfl k qf qf) (sp (yI k) (sw (o_sub k 1 rfl rfl qf (sw (oq (l00In_ok w11 (s.qx[k]!) 0 (k - 1)) H fun w13 H=>sp (.bool (!(inR (s.qx[k]!) 0 (k - 1)))) (zjn (xO (!(inR (s.qx[k]!) 0 (k - 1))) rfl (fun h15=>?_) (fun h15=>?_))))))))))))))))))
    ·skip
     replace h15:=xy h15
     replace h15:=QS h15
     refine zcr (sp (.bool false) (zjr (zr5 (ret1 (.bool false) rfl rfl ⟨_,rfl,?_,H.base⟩))))
     rw [xg (fun h=>by obtain ⟨h1,h2,h3,h4⟩:=h;first | omega | (have:=h4 k qf qf;omega))]
    replace h15:=xm h15
    replace h15:=Qp.1 h15
    refine xw (b_n (t_n (zl (sp (yI k) (sw (vg k 1 rfl rfl qf (sp (yI (k+1)) (zo (xn (m' :=s.qx.length - (k+1)) qf ⟨_,k+1,uE2,?_,?_,?_,rfl,H⟩)))))))))
    · omega
    · omega
    · exact i1.succ ‹_›
   refine zx4 (zcr (sp (.bool true) (zjr (ret1 (.bool true) rfl rfl ⟨_,rfl,?_,H.base⟩))))
   obtain rfl:k=s.qx.length:=by omega
   rw [yP ⟨by omega,by omega,by omega,i1⟩]
  replace h6:=xy h6
  replace h6:=QS h6
  refine xR [20,21,22,23,24,25,26] (sp (.bool true) (zjn (xO true rfl (fun _=>zcr (sp (.bool false) (zjr (t_r (ret1 (.bool false) rfl rfl ⟨_,rfl,?_,H.base⟩))))) (fun h=>absurd h qj))))
  rw [xg (fun h=>by obtain ⟨h1,h2,h3,h4⟩:=h;first | omega | (have:=h4 k qf qf;omega))]
 replace h3:=xy h3
 replace h3:=QS h3
 refine xR [11,12,13,14,15,16,17] (sps [.bool true,.bool true] (xR [20,21,22,23,24,25,26] (sp (.bool true) (zjn (xO true rfl (fun _=>zcr (sp (.bool false) (zjr (t_r (ret1 (.bool false) rfl rfl ⟨_,rfl,?_,H.base⟩))))) (fun h=>absurd h qj))))))
 rw [xg (fun h=>by obtain ⟨h1,h2,h3,h4⟩:=h;first | omega | (have:=h4 k qf qf;omega))]

theorem l02In_ok (w:World) (s:qy) (c:Int) (other:Int) {qB:yOA} {qX:yLN} {qJ:yOA} {xG:yLN} (hs:jd w bs os (yS s qB qA qJ qI)) (qP:qW.rep w qX [.slice qB s.qx.length qA] s.qx) (xx:qW.rep w xG [.slice qJ s.qw.length qI] s.qw) (p0:ji s) (p1:Q4 s c):Calls Tryz.prog 176 #[pp bs os,yI c,yI other] w (Ret (fun v w' =>v=.bool (dec (Lies s.qx other c))) w):=by
 refine en func176 ntmps176 ?_
 have H:=(((St.start w).arg xx).arg qP).argAt hs
 have zS:=qQ qP
 have jv:=qQ xx
 clear hs qP xx
 refine zcr (sp (.bool false) (zjn (zn (xq ?_))))
 refine vJ (fun m' ρ w1=>∃ (zx:Env) (y:Int),ρ=upd (upd (upd zx 0 (pp bs os)) 1 (yI y)) 2 (yI other)∧(0≤y∧y≤(s.qx.length:Int) - 1)∧(Lies s.qx other c↔Lies s.qx other y)∧m' =y.toNat∧St w w1 [] [atF bs os (yS s qB qA qJ qI),sF false qX qB qA s.qx,sF false xG qJ qI s.qw]) (c.toNat) ⟨_,c,uE3,(by exact p1),(by exact Iff.rfl),rfl,H⟩ ?_
 clear H
 rintro m' ρ w2 ⟨zx,y,rfl,i0,i1,rfl,H⟩
 have up:=fun h=>p0.up (c:=y) h i0.2
 refine zcc (sps [yI y,.bool (decide ((y:Int) > 0))] (zjn (cD rfl (fun h3=>?_) (fun h3=>?_))))
 ·skip
  refine xw (t_n (xq (zcr (sps [pp bs os,pp bs os] (oF rfl (oL rfl (H.zg 0 rfl 1 rfl) (sp (yI y) ?_)))))))
  obtain ⟨b4,o5,rfl⟩:=H.addr 1 rfl qf
  refine oI rfl rfl (oL rfl (H.jZ 1 rfl y qf qf) (sp (yI (s.qx[y.toNat]!)) (zjc (sps [yI (s.qx[y.toNat]!),yI other,.bool ((s.qx[y.toNat]! :Int) == other)] (zjn (cE rfl (fun h6=>?_) (fun h6=>?_)))))))
  ·skip
   refine zcr (sp (.bool true) (zjr (b_r (t_r (b_r (t_r (ret1 (.bool true) rfl rfl ⟨_,rfl,?_,H.base⟩)))))))
   rw [yP (i1.2 (.here qf ‹_›))]
  refine xw (b_n ?_)
  have up1:=up qf
  refine xn (m' :=(s.qx[y.toNat]!).toNat) qf ⟨_,(s.qx[y.toNat]!),uE3,?_,?_,rfl,H⟩
  · have:=up qf;omega
  · exact i1.trans (lies_iff.trans ⟨fun h=>h.2.resolve_left ‹_›,fun h=>⟨by omega,.inr h⟩⟩)
 refine zx4 (zcr (sp (.bool false) (zjr (ret1 (.bool false) rfl rfl ⟨_,rfl,?_,H.base⟩))))
 rw [xg (fun h=>by have:=(lies_iff.1 (i1.1 h)).1;omega)]

theorem l02Rule_ok (w:World) (s:qy) (r:jg) {qB:yOA} {qX:yLN} {qJ:yOA} {xG:yLN} {br or:Nat} {yx:yOA} {Xz:yLN} {yB:yOA} {XC:yLN} {yz:yOA} {XA:yLN} {yA:yOA} {XB:yLN} {QL:yOA} {FrOut:yLN} {jV:yOA} {FrInto:yLN} (hs:jd w bs os (yS s qB qA qJ qI)) (qP:qW.rep w qX [.slice qB s.qx.length qA] s.qx) (xx:qW.rep w xG [.slice qJ s.qw.length qI] s.qw) (hr:jd w br or [yI r.qE,yI r.vw,.slice yx r.xC.length yl,.slice yB r.x8.length yw,.slice yz r.xZ.length yt,.slice yA r.zf.length yu,.slice QL r.jb.length QK,.slice jV r.qM.length jU,.bool r.zD]) (hrNeed:qW.rep w Xz [.slice yx r.xC.length yl] r.xC) (hrHave:qW.rep w XC [.slice yB r.x8.length yw] r.x8) (hrLack:qW.rep w XA [.slice yz r.xZ.length yt] r.xZ) (hrHere:qW.rep w XB [.slice yA r.zf.length yu] r.zf) (hrOut:qW.rep w FrOut [.slice QL r.jb.length QK] r.jb) (hrInto:qW.rep w FrInto [.slice jV r.qM.length jU] r.qM) (p0:ji s):Calls Tryz.prog 118 #[pp bs os,pp br or] w (Ret (fun v w' =>v=.bool (dec (RuleOk s r))) w):=by
 refine en func118 ntmps118 ?_
 have H:=((((((((((St.start w).arg hrInto).arg hrOut).arg hrHere).arg hrLack).arg hrHave).arg hrNeed).argAt hr).arg xx).arg qP).argAt hs
 have zS:=qQ qP
 have jv:=qQ xx
 have nhrNeed:=qQ hrNeed
 have nhrHave:=qQ hrHave
 have nhrLack:=qQ hrLack
 have nhrHere:=qQ hrHere
 have nhrOut:=qQ hrOut
 have nhrInto:=qQ hrInto
 clear hs qP xx hr hrNeed hrHave hrLack hrHere hrOut hrInto
 refine zcr (sp (.bool false) (zjn (zn (zn ?_))))
 refine y9 rfl H fun H=>rtp 0 (pp br or) H ?_
 refine rtp 1 (pp br or) H ?_
 refine tF 2 rfl rfl H ?_
 refine tL 3 rfl rfl (fun _ h=>h.zg 3 rfl 0 rfl) H ?_
 refine rtp 4 (pp bs os) H ?_
 refine rtp 5 (pp bs os) H ?_
 refine tF 6 rfl rfl H ?_
 refine tL 7 rfl rfl (fun _ h=>h.zg 0 rfl 1 rfl) H ?_
 refine tN 8 rfl rfl H ?_
 refine rt 9 (yI (s.qx.length - 1)) (y_sub s.qx.length 1 rfl rfl qf) H ?_
 refine ro 10 rfl (oq (l00In_ok w.drew r.qE 0 (s.qx.length - 1)) H fun w2 H=>⟨H,(rtp 11 (.bool (!(inR r.qE 0 (s.qx.length - 1)))) H ?_)⟩)
 refine rtp 12 (.bool (!(inR r.qE 0 (s.qx.length - 1)))) H ?_
 cases h4:(!(inR r.qE 0 (s.qx.length - 1)))
 ·skip
  replace h4:=xm h4
  replace h4:=Qp.1 h4
  refine rgp 13 (pp br or) 19 H ?_
  refine rgp 14 (pp br or) 19 H ?_
  refine gF 15 rfl rfl H ?_
  refine gL 16 rfl rfl (fun _ h=>h.zg 3 rfl 1 rfl) H ?_
  refine zI [17] qh qm (r_opG rfl (e:=19) rfl rfl (oq (l00In_ok w2 r.vw 0 9) H fun w5 H=>⟨H,(rgp 18 (.bool (!(inR r.vw 0 9))) 19 H ?_)⟩) zJ)
  refine rtp 19 (.bool (!(inR r.vw 0 9))) H ?_
  refine rtp 20 (.bool (!(inR r.vw 0 9))) H ?_
  cases h7:(!(inR r.vw 0 9))
  ·skip
   replace h7:=xm h7
   replace h7:=Qp.1 h7
   refine rgp 21 (pp br or) 27 H ?_
   refine rgp 22 (pp br or) 27 H ?_
   refine gF 23 rfl rfl H ?_
   refine gL 24 rfl rfl (fun _ h=>h.zg 3 rfl 8 rfl) H ?_
   refine rgp 25 (.bool r.zD) 27 H ?_
   cases h8:(r.zD)
   ·skip
    rw [h8] at H
    refine zH [26,27,28,29,30] 5 (H) (rgp 31 (.bool false) 27 H ?_)
    refine rtp 32 (.bool false) H ?_
    refine rtp 33 (.bool false) H ?_
    refine rgp 34 (pp br or) 40 H ?_
    refine rgp 35 (pp br or) 40 H ?_
    refine gF 36 rfl rfl H ?_
    refine gL 37 rfl rfl (fun _ h=>h.zg 3 rfl 7 rfl) H ?_
    refine gN 38 rfl rfl H ?_
    refine rgp 39 (.bool (decide ((r.qM.length:Int) > 3))) 40 H ?_
    refine rtp 40 (.bool (decide ((r.qM.length:Int) > 3))) H ?_
    refine xh qh (t_n (cD rfl (fun h9=>?_) (fun h9=>?_)))
    ·skip
     refine zcr (sp (.bool false) (zjr (t_r (ret1 (.bool false) rfl rfl ⟨_,rfl,?_,H.base⟩))))
     rw [xg (fun h=>by obtain ⟨h1,h2,h3,h4,h5,h6,h7,h8,h9,h10,h11⟩:=h;first | contradiction | omega | exact h3 ⟨‹_›,‹_›⟩ | (obtain ⟨q1,q2,q3,q4,q5⟩:=h11 k qf;first | contradiction | omega | (have:=q5 qf;omega)))]
    refine xw (t_n (zcc (sps [pp bs os,pp br or,pp br or] (oF rfl (oL rfl (H.zg 3 rfl 2 rfl) (sw (oq (QD _ s r.xC (qH (H.get 0 rfl) 0 3) (H.get 1 rfl).1 (H.get 2 rfl).1 (H.get 4 rfl).1) H fun w10 H=>sps [.bool (!(dec (zQ s.xk r.xC))),.bool (!(dec (zQ s.xk r.xC)))] ?_)))))))
    cases h12:(!(dec (zQ s.xk r.xC)))
    ·skip
     replace h12:=xm h12
     replace h12:=y5 h12
     refine qL 55 rfl rfl (sp (pp bs os) (qL 55 rfl rfl (sp (pp br or) (qL 55 rfl rfl (sp (pp br or) (qL 55 rfl rfl (oF rfl (qL 55 rfl rfl (oL rfl (H.zg 3 rfl 3 rfl) (qL 55 rfl rfl (sw (oq (QD _ s r.x8 (qH (H.get 0 rfl) 0 3) (H.get 1 rfl).1 (H.get 2 rfl).1 (H.get 5 rfl).1) H fun w13 H=>qL 55 rfl rfl (sps [.bool (!(dec (zQ s.xk r.x8))),.bool (!(dec (zQ s.xk r.x8))),.bool (!(dec (zQ s.xk r.x8)))] ?_)))))))))))))
     cases h15:(!(dec (zQ s.xk r.x8)))
     ·skip
      replace h15:=xm h15
      replace h15:=y5 h15
      refine qL 64 rfl rfl (sp (pp bs os) (qL 64 rfl rfl (sp (pp br or) (qL 64 rfl rfl (sp (pp br or) (qL 64 rfl rfl (oF rfl (qL 64 rfl rfl (oL rfl (H.zg 3 rfl 4 rfl) (qL 64 rfl rfl (sw (oq (QD _ s r.xZ (qH (H.get 0 rfl) 0 3) (H.get 1 rfl).1 (H.get 2 rfl).1 (H.get 6 rfl).1) H fun w16 H=>qL 64 rfl rfl (sps [.bool (!(dec (zQ s.xk r.xZ))),.bool (!(dec (zQ s.xk r.xZ))),.bool (!(dec (zQ s.xk r.xZ)))] ?_)))))))))))))
      cases h18:(!(dec (zQ s.xk r.xZ)))
      ·skip
       replace h18:=xm h18
       replace h18:=y5 h18
       refine qL 73 rfl rfl (sp (pp bs os) (qL 73 rfl rfl (sp (pp br or) (qL 73 rfl rfl (sp (pp br or) (qL 73 rfl rfl (oF rfl (qL 73 rfl rfl (oL rfl (H.zg 3 rfl 5 rfl) (qL 73 rfl rfl (sw (oq (QD _ s r.zf (qH (H.get 0 rfl) 0 3) (H.get 1 rfl).1 (H.get 2 rfl).1 (H.get 7 rfl).1) H fun w19 H=>qL 73 rfl rfl (sps [.bool (!(dec (zQ s.xk r.zf))),.bool (!(dec (zQ s.xk r.zf))),.bool (!(dec (zQ s.xk r.zf)))] ?_)))))))))))))
       cases h21:(!(dec (zQ s.xk r.zf)))
       ·skip
        replace h21:=xm h21
        replace h21:=y5 h21
        refine qL 82 rfl rfl (sp (pp bs os) (qL 82 rfl rfl (sp (pp br or) (qL 82 rfl rfl (sp (pp br or) (qL 82 rfl rfl (oF rfl (qL 82 rfl rfl (oL rfl (H.zg 3 rfl 6 rfl) (qL 82 rfl rfl (sw (oq (QD _ s r.jb (qH (H.get 0 rfl) 0 3) (H.get 1 rfl).1 (H.get 2 rfl).1 (H.get 8 rfl).1) H fun w22 H=>qL 82 rfl rfl (sps [.bool (!(dec (zQ s.xk r.jb))),.bool (!(dec (zQ s.xk r.jb))),.bool (!(dec (zQ s.xk r.jb)))] ?_)))))))))))))
        cases h24:(!(dec (zQ s.xk r.jb)))
        ·skip
         replace h24:=xm h24
         replace h24:=y5 h24
         refine qL 91 rfl rfl (sp (pp br or) (qL 91 rfl rfl (sp (pp br or) (qL 91 rfl rfl (oF rfl (qL 91 rfl rfl (oL rfl (H.zg 3 rfl 2 rfl) (qL 91 rfl rfl (sw (oq (l01Size_ok _ r.xC (H.get 4 rfl).1 (by first | assumption | exact jf ql | exact QF ql)) H fun w25 H=>qL 91 rfl rfl (sps [.bool ((sumL r.xC:Int) == 0),.bool ((sumL r.xC:Int) == 0)] (zjn (cE rfl (fun h27=>?_) (fun h27=>?_))))))))))))))
         ·skip
          refine zcr (sp (.bool false) (zjr (t_r (ret1 (.bool false) rfl rfl ⟨_,rfl,?_,H.base⟩))))
          rw [xg (fun h=>by obtain ⟨h1,h2,h3,h4,h5,h6,h7,h8,h9,h10,h11⟩:=h;first | contradiction | omega | exact h3 ⟨‹_›,‹_›⟩ | (obtain ⟨q1,q2,q3,q4,q5⟩:=h11 k qf;first | contradiction | omega | (have:=q5 qf;omega)))]
         refine xw (t_n (zcc (sp (yI 0) (zjn (xq ?_)))))
         refine vJ (fun m' ρ w28=>∃ (zx:Env) (k:Nat),ρ=upd (upd (upd zx 0 (pp bs os)) 1 (pp br or)) 5 (yI k)∧(k≤r.qM.length)∧(IntosTo s r k)∧m' =r.qM.length - k∧St w w28 [] [atF bs os (yS s qB qA qJ qI),sF false qX qB qA s.qx,sF false xG qJ qI s.qw,atF br or [yI r.qE,yI r.vw,.slice yx r.xC.length yl,.slice yB r.x8.length yw,.slice yz r.xZ.length yt,.slice yA r.zf.length yu,.slice QL r.jb.length QK,.slice jV r.qM.length jU,.bool false],sF false Xz yx yl r.xC,sF false XC yB yw r.x8,sF false XA yz yt r.xZ,sF false XB yA yu r.zf,sF false FrOut QL QK r.jb,sF false FrInto jV jU r.qM]) (r.qM.length - 0) ⟨_,0,uE3,qf,(by exact fun j hj=>by omega),rfl,H⟩ ?_
         clear H
         rintro m' ρ w29 ⟨zx,k,rfl,i0,i1,rfl,H⟩
         refine zcc (sps [yI k,pp br or,pp br or] (oF rfl (oL rfl (H.zg 3 rfl 7 rfl) (oN rfl (sp (.bool (decide ((k:Int) < r.qM.length))) (zjn (cD rfl (fun h30=>?_) (fun h30=>?_))))))))
         ·skip
          refine xw (t_n (zn (xq (zcr (sps [pp br or,pp br or] (oF rfl (oL rfl (H.zg 3 rfl 7 rfl) (sp (yI k) ?_))))))))
          obtain ⟨b31,o32,rfl⟩:=H.addr 9 rfl qf
          obtain ⟨ae33Bag,ce33Bag,Fe33Bag,H⟩:=H.yY 9 rfl k k qf qf qf
          refine oI rfl rfl (sp (pp b31 (o32+(k:Int).toNat * 2)) (zjn (zn (zn ?_))))
          refine y9 rfl H fun H=>rtp 0 (pp b31 (o32+(k:Int).toNat * 2)) H ?_
          refine rtp 1 (pp b31 (o32+(k:Int).toNat * 2)) H ?_
          refine tF 2 rfl rfl H ?_
          refine tL 3 rfl rfl (fun _ h=>h.zg 1 rfl 0 rfl) H ?_
          refine rtp 4 (pp bs os) H ?_
          refine rtp 5 (pp bs os) H ?_
          refine tF 6 rfl rfl H ?_
          refine tL 7 rfl rfl (fun _ h=>h.zg 2 rfl 1 rfl) H ?_
          refine tN 8 rfl rfl H ?_
          refine rt 9 (yI (s.qx.length - 1)) (y_sub s.qx.length 1 rfl rfl qf) H ?_
          refine ro 10 rfl (oq (l00In_ok w29.drew ((r.qM[k]!).qE) 0 (s.qx.length - 1)) H fun w35 H=>⟨H,(rtp 11 (.bool (!(inR ((r.qM[k]!).qE) 0 (s.qx.length - 1)))) H ?_)⟩)
          refine rtp 12 (.bool (!(inR ((r.qM[k]!).qE) 0 (s.qx.length - 1)))) H ?_
          cases h37:(!(inR ((r.qM[k]!).qE) 0 (s.qx.length - 1)))
          ·skip
           replace h37:=xm h37
           replace h37:=Qp.1 h37
           refine rgp 13 (pp bs os) 126 H ?_
           refine rgp 14 (pp b31 (o32+(k:Int).toNat * 2)) 126 H ?_
           refine rgp 15 (pp b31 (o32+(k:Int).toNat * 2)) 126 H ?_
           refine gF 16 rfl rfl H ?_
           refine gL 17 rfl rfl (fun _ h=>h.zg 1 rfl 0 rfl) H ?_
           refine rgp 18 (pp br or) 126 H ?_
           refine rgp 19 (pp br or) 126 H ?_
           refine gF 20 rfl rfl H ?_
           refine gL 21 rfl rfl (fun _ h=>h.zg 5 rfl 0 rfl) H ?_
           refine zI [22] qh qm (r_opG rfl (e:=126) rfl rfl (oq (l02In_ok _ s ((r.qM[k]!).qE) r.qE (qH (H.get 2 rfl) 0 3) (H.get 3 rfl).1 (H.get 4 rfl).1 ql ql) H fun w38 H=>⟨H,(rgp 23 (.bool (!(dec (Lies s.qx r.qE ((r.qM[k]!).qE))))) 126 H ?_)⟩) zJ)
           refine rtp 24 (.bool (!(dec (Lies s.qx r.qE ((r.qM[k]!).qE))))) H ?_
           refine rtp 25 (.bool (!(dec (Lies s.qx r.qE ((r.qM[k]!).qE))))) H ?_
           cases h40:(!(dec (Lies s.qx r.qE ((r.qM[k]!).qE))))
           ·skip
            replace h40:=xm h40
            replace h40:=y5 h40
            refine rgp 26 (pp bs os) 139 H ?_
            refine rgp 27 (pp b31 (o32+(k:Int).toNat * 2)) 139 H ?_
            refine rgp 28 (pp b31 (o32+(k:Int).toNat * 2)) 139 H ?_
            refine gF 29 rfl rfl H ?_
            refine gL 30 rfl rfl (fun _ h=>h.zg 1 rfl 1 rfl) H ?_
            refine zI [31] qh qm (r_opG rfl (e:=139) rfl rfl (oq (QD _ s ((r.qM[k]!).QC) (qH (H.get 2 rfl) 0 3) (H.get 3 rfl).1 (H.get 4 rfl).1 (H.get 0 rfl).1) H fun w41 H=>⟨H,(rgp 32 (.bool (!(dec (zQ s.xk ((r.qM[k]!).QC))))) 139 H ?_)⟩) zJ)
            refine rtp 33 (.bool (!(dec (zQ s.xk ((r.qM[k]!).QC))))) H ?_
            refine rtp 34 (.bool (!(dec (zQ s.xk ((r.qM[k]!).QC))))) H ?_
            cases h43:(!(dec (zQ s.xk ((r.qM[k]!).QC))))
            ·skip
             replace h43:=xm h43
             replace h43:=y5 h43
             refine rgp 35 (pp b31 (o32+(k:Int).toNat * 2)) 148 H ?_
             refine rgp 36 (pp b31 (o32+(k:Int).toNat * 2)) 148 H ?_
             refine gF 37 rfl rfl H ?_
             refine gL 38 rfl rfl (fun _ h=>h.zg 1 rfl 1 rfl) H ?_
             refine zI [39] qh qm (r_opG rfl (e:=148) rfl rfl (oq (l01Size_ok _ ((r.qM[k]!).QC) (H.get 0 rfl).1 (by first | assumption | exact jf ql | exact QF ql)) H fun w44 H=>⟨H,(rgp 40 (.bool ((sumL ((r.qM[k]!).QC):Int) == 0)) 148 H ?_)⟩) zJ)
             refine rtp 41 (.bool ((sumL ((r.qM[k]!).QC):Int) == 0)) H ?_
             refine xh qh (t_n (cE rfl (fun h46=>?_) (fun h46=>?_)))
             ·skip
              refine zcr (sp (.bool false) (zjr (t_r (zr5 (ret1 (.bool false) rfl rfl ⟨_,rfl,?_,H.base⟩)))))
              rw [xg (fun h=>by obtain ⟨h1,h2,h3,h4,h5,h6,h7,h8,h9,h10,h11⟩:=h;first | contradiction | omega | exact h3 ⟨‹_›,‹_›⟩ | (obtain ⟨q1,q2,q3,q4,q5⟩:=h11 k qf;first | contradiction | omega | (have:=q5 qf;omega)))]
             refine xw (t_n (zn ?_))
             refine y9 rfl H fun H=>rtp 0 (yI k) H ?_
             refine rtp 1 (.bool (decide ((k:Int) > 0))) H ?_
             refine rtp 2 (.bool (decide ((k:Int) > 0))) H ?_
             cases h48:(decide ((k:Int) > 0))
             ·skip
              replace h48:=of_decide_eq_false h48
              refine zH [3,4,5,6,7,8,9,10,11,12,13,14,15,16] 14 (H) (rtp 17 (.bool false) H ?_)
              refine xh qh (t_n (xO false rfl (fun h=>absurd h qj) (fun _=>xw (b_n (t_n (zl (sp (yI k) (sw (vg k 1 rfl rfl qf (sp (yI (k+1)) (zo (xn (m' :=r.qM.length - (k+1)) qf ⟨_,k+1,uE3,?_,?_,rfl,H.sel _ (.refl _) _ qm⟩))))))))))))
              · omega
              · exact i1.succ ⟨‹_›,‹_›,‹_›,‹_›,fun hk=>by omega⟩
             replace h48:=of_decide_eq_true h48
             refine rgp 3 (pp br or) 158 H ?_
             refine rgp 4 (pp br or) 158 H ?_
             refine gF 5 rfl rfl H ?_
             refine gL 6 rfl rfl (fun _ h=>h.zg 5 rfl 7 rfl) H ?_
             refine rgp 7 (yI k) 158 H ?_
             refine rg 8 (yI (k - 1)) 158 (y_sub k 1 rfl rfl qf) H ?_
             obtain ⟨ae49Bag,ce49Bag,Fe49Bag,H⟩:=H.yY 11 rfl (k - 1) (k - 1) qf qf qf
             refine gI 9 rfl rfl rfl (H.sel _ (.refl _) _ (fun _ h=>List.mem_cons_of_mem _ (List.mem_cons_of_mem _ (h)))) ?_
             refine gF 10 rfl rfl (H.sel _ (.refl _) _ (fun _ h=>List.mem_cons_of_mem _ (List.mem_cons_of_mem _ (h)))) ?_
             refine rgp 12 (pp b31 (o32+(k:Int).toNat * 2)) 158 (H.sel _ (.refl _) _ (fun _ h=>List.mem_cons_of_mem _ (List.mem_cons_of_mem _ (h)))) ?_
             refine rgp 13 (pp b31 (o32+(k:Int).toNat * 2)) 158 (H.sel _ (.refl _) _ (fun _ h=>List.mem_cons_of_mem _ (List.mem_cons_of_mem _ (h)))) ?_
             refine gF 14 rfl rfl (H.sel _ (.refl _) _ (fun _ h=>List.mem_cons_of_mem _ (List.mem_cons_of_mem _ (h)))) ?_
             refine gL 15 rfl rfl (fun _ h=>h.zg 1 rfl 0 rfl) (H.sel _ (.refl _) _ (fun _ h=>List.mem_cons_of_mem _ (List.mem_cons_of_mem _ (h)))) ?_
             refine zI [11] qh qm (r_opG rfl (e:=158) rfl rfl (zk (yI ((r.qM[k - 1]!).qE)) isAgg2 rfl (H.zg 1 rfl 0 rfl) (⟨H.dF 2,(rgp 16 (.bool (decide (((r.qM[k - 1]!).qE:Int)≥((r.qM[k]!).qE)))) 158 (H.sel _ (.refl _) _ (fun _ h=>List.mem_cons_of_mem _ (List.mem_cons_of_mem _ (h)))) ?_)⟩)) zJ)
             refine rtp 17 (.bool (decide (((r.qM[k - 1]!).qE:Int)≥((r.qM[k]!).qE)))) (H.sel _ (.refl _) _ (fun _ h=>List.mem_cons_of_mem _ (List.mem_cons_of_mem _ (h)))) ?_
             refine xh qh (t_n (cD rfl (fun h50=>?_) (fun h50=>?_)))
             ·skip
              refine zcr (sp (.bool false) (zjr (zr5 (ret1 (.bool false) rfl rfl ⟨_,rfl,?_,H.base⟩))))
              rw [xg (fun h=>by obtain ⟨h1,h2,h3,h4,h5,h6,h7,h8,h9,h10,h11⟩:=h;first | contradiction | omega | exact h3 ⟨‹_›,‹_›⟩ | (obtain ⟨q1,q2,q3,q4,q5⟩:=h11 k qf;first | contradiction | omega | (have:=q5 qf;omega)))]
             refine xw (b_n (t_n (zl (sp (yI k) (sw (vg k 1 rfl rfl qf (sp (yI (k+1)) (zo (xn (m' :=r.qM.length - (k+1)) qf ⟨_,k+1,uE3,?_,?_,rfl,H.sel _ (.refl _) _ qm⟩)))))))))
             · omega
             · exact i1.succ ⟨‹_›,‹_›,‹_›,‹_›,fun hk=>by omega⟩
            replace h43:=xy h43
            replace h43:=zF h43
            refine zH [35,36,37,38,39,40] 6 (H) (rtp 41 (.bool true) H ?_)
            refine xh qh (t_n (xO true rfl (fun _=>zcr (sp (.bool false) (zjr (t_r (zr5 (ret1 (.bool false) rfl rfl ⟨_,rfl,?_,H.base⟩)))))) (fun h=>absurd h qj)))
            rw [xg (fun h=>by obtain ⟨h1,h2,h3,h4,h5,h6,h7,h8,h9,h10,h11⟩:=h;first | contradiction | omega | exact h3 ⟨‹_›,‹_›⟩ | (obtain ⟨q1,q2,q3,q4,q5⟩:=h11 k qf;first | contradiction | omega | (have:=q5 qf;omega)))]
           replace h40:=xy h40
           replace h40:=zF h40
           refine zH [26,27,28,29,30,31,32] 7 (H) (rtp 33 (.bool true) H ?_)
           refine rtp 34 (.bool true) H ?_
           refine zH [35,36,37,38,39,40] 6 (H) (rtp 41 (.bool true) H ?_)
           refine xh qh (t_n (xO true rfl (fun _=>zcr (sp (.bool false) (zjr (t_r (zr5 (ret1 (.bool false) rfl rfl ⟨_,rfl,?_,H.base⟩)))))) (fun h=>absurd h qj)))
           rw [xg (fun h=>by obtain ⟨h1,h2,h3,h4,h5,h6,h7,h8,h9,h10,h11⟩:=h;first | contradiction | omega | exact h3 ⟨‹_›,‹_›⟩ | (obtain ⟨q1,q2,q3,q4,q5⟩:=h11 k qf;first | contradiction | omega | (have:=q5 qf;omega)))]
          replace h37:=xy h37
          replace h37:=QS h37
          refine zH [13,14,15,16,17,18,19,20,21,22,23] 11 (H) (rtp 24 (.bool true) H ?_)
          refine rtp 25 (.bool true) H ?_
          refine zH [26,27,28,29,30,31,32] 7 (H) (rtp 33 (.bool true) H ?_)
          refine rtp 34 (.bool true) H ?_
          refine zH [35,36,37,38,39,40] 6 (H) (rtp 41 (.bool true) H ?_)
          refine xh qh (t_n (xO true rfl (fun _=>zcr (sp (.bool false) (zjr (t_r (zr5 (ret1 (.bool false) rfl rfl ⟨_,rfl,?_,H.base⟩)))))) (fun h=>absurd h qj)))
          rw [xg (fun h=>by obtain ⟨h1,h2,h3,h4,h5,h6,h7,h8,h9,h10,h11⟩:=h;first | contradiction | omega | exact h3 ⟨‹_›,‹_›⟩ | (obtain ⟨q1,q2,q3,q4,q5⟩:=h11 k qf;first | contradiction | omega | (have:=q5 qf;omega)))]
         refine zx4 (zcr (sp (.bool true) (zjr (ret1 (.bool true) rfl rfl ⟨_,rfl,?_,H.base⟩))))
         obtain rfl:k=r.qM.length:=by omega
         rw [yP ⟨by assumption,by omega,by simp_all,by omega,by assumption,by assumption,by assumption,by assumption,by assumption,by assumption,i1⟩]
        replace h24:=xy h24
        replace h24:=zF h24
        refine xR [92,93,94,95,96,97] (sp (.bool true) (zjn (xO true rfl (fun _=>zcr (sp (.bool false) (zjr (t_r (ret1 (.bool false) rfl rfl ⟨_,rfl,?_,H.base⟩))))) (fun h=>absurd h qj))))
        rw [xg (fun h=>by obtain ⟨h1,h2,h3,h4,h5,h6,h7,h8,h9,h10,h11⟩:=h;first | contradiction | omega | exact h3 ⟨‹_›,‹_›⟩ | (obtain ⟨q1,q2,q3,q4,q5⟩:=h11 k qf;first | contradiction | omega | (have:=q5 qf;omega)))]
       replace h21:=xy h21
       replace h21:=zF h21
       refine xR [83,84,85,86,87,88,89] (sps [.bool true,.bool true] (xR [92,93,94,95,96,97] (sp (.bool true) (zjn (xO true rfl (fun _=>zcr (sp (.bool false) (zjr (t_r (ret1 (.bool false) rfl rfl ⟨_,rfl,?_,H.base⟩))))) (fun h=>absurd h qj))))))
       rw [xg (fun h=>by obtain ⟨h1,h2,h3,h4,h5,h6,h7,h8,h9,h10,h11⟩:=h;first | contradiction | omega | exact h3 ⟨‹_›,‹_›⟩ | (obtain ⟨q1,q2,q3,q4,q5⟩:=h11 k qf;first | contradiction | omega | (have:=q5 qf;omega)))]
      replace h18:=xy h18
      replace h18:=zF h18
      refine xR [74,75,76,77,78,79,80] (sps [.bool true,.bool true] (xR [83,84,85,86,87,88,89] (sps [.bool true,.bool true] (xR [92,93,94,95,96,97] (sp (.bool true) (zjn (xO true rfl (fun _=>zcr (sp (.bool false) (zjr (t_r (ret1 (.bool false) rfl rfl ⟨_,rfl,?_,H.base⟩))))) (fun h=>absurd h qj))))))))
      rw [xg (fun h=>by obtain ⟨h1,h2,h3,h4,h5,h6,h7,h8,h9,h10,h11⟩:=h;first | contradiction | omega | exact h3 ⟨‹_›,‹_›⟩ | (obtain ⟨q1,q2,q3,q4,q5⟩:=h11 k qf;first | contradiction | omega | (have:=q5 qf;omega)))]
     replace h15:=xy h15
     replace h15:=zF h15
     refine xR [65,66,67,68,69,70,71] (sps [.bool true,.bool true] (xR [74,75,76,77,78,79,80] (sps [.bool true,.bool true] (xR [83,84,85,86,87,88,89] (sps [.bool true,.bool true] (xR [92,93,94,95,96,97] (sp (.bool true) (zjn (xO true rfl (fun _=>zcr (sp (.bool false) (zjr (t_r (ret1 (.bool false) rfl rfl ⟨_,rfl,?_,H.base⟩))))) (fun h=>absurd h qj))))))))))
     rw [xg (fun h=>by obtain ⟨h1,h2,h3,h4,h5,h6,h7,h8,h9,h10,h11⟩:=h;first | contradiction | omega | exact h3 ⟨‹_›,‹_›⟩ | (obtain ⟨q1,q2,q3,q4,q5⟩:=h11 k qf;first | contradiction | omega | (have:=q5 qf;omega)))]
    replace h12:=xy h12
    replace h12:=zF h12
    refine xR [56,57,58,59,60,61,62] (sps [.bool true,.bool true] (xR [65,66,67,68,69,70,71] (sps [.bool true,.bool true] (xR [74,75,76,77,78,79,80] (sps [.bool true,.bool true] (xR [83,84,85,86,87,88,89] (sps [.bool true,.bool true] (xR [92,93,94,95,96,97] (sp (.bool true) (zjn (xO true rfl (fun _=>zcr (sp (.bool false) (zjr (t_r (ret1 (.bool false) rfl rfl ⟨_,rfl,?_,H.base⟩))))) (fun h=>absurd h qj))))))))))))
    rw [xg (fun h=>by obtain ⟨h1,h2,h3,h4,h5,h6,h7,h8,h9,h10,h11⟩:=h;first | contradiction | omega | exact h3 ⟨‹_›,‹_›⟩ | (obtain ⟨q1,q2,q3,q4,q5⟩:=h11 k qf;first | contradiction | omega | (have:=q5 qf;omega)))]
   rw [h8] at H
   refine rgp 26 (pp br or) 32 H ?_
   refine rgp 27 (pp br or) 32 H ?_
   refine gF 28 rfl rfl H ?_
   refine gL 29 rfl rfl (fun _ h=>h.zg 3 rfl 0 rfl) H ?_
   refine rgp 30 (.bool ((r.qE:Int) == 0)) 32 H ?_
   refine rgp 31 (.bool ((r.qE:Int) == 0)) 27 H ?_
   refine rtp 32 (.bool ((r.qE:Int) == 0)) H ?_
   refine rtp 33 (.bool ((r.qE:Int) == 0)) H ?_
   cases h51:((r.qE:Int) == 0)
   ·skip
    replace h51:=ne_of_beq_false h51
    refine rgp 34 (pp br or) 40 H ?_
    refine rgp 35 (pp br or) 40 H ?_
    refine gF 36 rfl rfl H ?_
    refine gL 37 rfl rfl (fun _ h=>h.zg 3 rfl 7 rfl) H ?_
    refine gN 38 rfl rfl H ?_
    refine rgp 39 (.bool (decide ((r.qM.length:Int) > 3))) 40 H ?_
    refine rtp 40 (.bool (decide ((r.qM.length:Int) > 3))) H ?_
    refine xh qh (t_n (cD rfl (fun h52=>?_) (fun h52=>?_)))
    ·skip
     refine zcr (sp (.bool false) (zjr (t_r (ret1 (.bool false) rfl rfl ⟨_,rfl,?_,H.base⟩))))
     rw [xg (fun h=>by obtain ⟨h1,h2,h3,h4,h5,h6,h7,h8,h9,h10,h11⟩:=h;first | contradiction | omega | exact h3 ⟨‹_›,‹_›⟩ | (obtain ⟨q1,q2,q3,q4,q5⟩:=h11 k qf;first | contradiction | omega | (have:=q5 qf;omega)))]
    refine xw (t_n (zcc (sps [pp bs os,pp br or,pp br or] (oF rfl (oL rfl (H.zg 3 rfl 2 rfl) (sw (oq (QD _ s r.xC (qH (H.get 0 rfl) 0 3) (H.get 1 rfl).1 (H.get 2 rfl).1 (H.get 4 rfl).1) H fun w53 H=>sps [.bool (!(dec (zQ s.xk r.xC))),.bool (!(dec (zQ s.xk r.xC)))] ?_)))))))
    cases h55:(!(dec (zQ s.xk r.xC)))
    ·skip
     replace h55:=xm h55
     replace h55:=y5 h55
     refine qL 55 rfl rfl (sp (pp bs os) (qL 55 rfl rfl (sp (pp br or) (qL 55 rfl rfl (sp (pp br or) (qL 55 rfl rfl (oF rfl (qL 55 rfl rfl (oL rfl (H.zg 3 rfl 3 rfl) (qL 55 rfl rfl (sw (oq (QD _ s r.x8 (qH (H.get 0 rfl) 0 3) (H.get 1 rfl).1 (H.get 2 rfl).1 (H.get 5 rfl).1) H fun w56 H=>qL 55 rfl rfl (sps [.bool (!(dec (zQ s.xk r.x8))),.bool (!(dec (zQ s.xk r.x8))),.bool (!(dec (zQ s.xk r.x8)))] ?_)))))))))))))
     cases h58:(!(dec (zQ s.xk r.x8)))
     ·skip
      replace h58:=xm h58
      replace h58:=y5 h58
      refine qL 64 rfl rfl (sp (pp bs os) (qL 64 rfl rfl (sp (pp br or) (qL 64 rfl rfl (sp (pp br or) (qL 64 rfl rfl (oF rfl (qL 64 rfl rfl (oL rfl (H.zg 3 rfl 4 rfl) (qL 64 rfl rfl (sw (oq (QD _ s r.xZ (qH (H.get 0 rfl) 0 3) (H.get 1 rfl).1 (H.get 2 rfl).1 (H.get 6 rfl).1) H fun w59 H=>qL 64 rfl rfl (sps [.bool (!(dec (zQ s.xk r.xZ))),.bool (!(dec (zQ s.xk r.xZ))),.bool (!(dec (zQ s.xk r.xZ)))] ?_)))))))))))))
      cases h61:(!(dec (zQ s.xk r.xZ)))
      ·skip
       replace h61:=xm h61
       replace h61:=y5 h61
       refine qL 73 rfl rfl (sp (pp bs os) (qL 73 rfl rfl (sp (pp br or) (qL 73 rfl rfl (sp (pp br or) (qL 73 rfl rfl (oF rfl (qL 73 rfl rfl (oL rfl (H.zg 3 rfl 5 rfl) (qL 73 rfl rfl (sw (oq (QD _ s r.zf (qH (H.get 0 rfl) 0 3) (H.get 1 rfl).1 (H.get 2 rfl).1 (H.get 7 rfl).1) H fun w62 H=>qL 73 rfl rfl (sps [.bool (!(dec (zQ s.xk r.zf))),.bool (!(dec (zQ s.xk r.zf))),.bool (!(dec (zQ s.xk r.zf)))] ?_)))))))))))))
       cases h64:(!(dec (zQ s.xk r.zf)))
       ·skip
        replace h64:=xm h64
        replace h64:=y5 h64
        refine qL 82 rfl rfl (sp (pp bs os) (qL 82 rfl rfl (sp (pp br or) (qL 82 rfl rfl (sp (pp br or) (qL 82 rfl rfl (oF rfl (qL 82 rfl rfl (oL rfl (H.zg 3 rfl 6 rfl) (qL 82 rfl rfl (sw (oq (QD _ s r.jb (qH (H.get 0 rfl) 0 3) (H.get 1 rfl).1 (H.get 2 rfl).1 (H.get 8 rfl).1) H fun w65 H=>qL 82 rfl rfl (sps [.bool (!(dec (zQ s.xk r.jb))),.bool (!(dec (zQ s.xk r.jb))),.bool (!(dec (zQ s.xk r.jb)))] ?_)))))))))))))
        cases h67:(!(dec (zQ s.xk r.jb)))
        ·skip
         replace h67:=xm h67
         replace h67:=y5 h67
         refine qL 91 rfl rfl (sp (pp br or) (qL 91 rfl rfl (sp (pp br or) (qL 91 rfl rfl (oF rfl (qL 91 rfl rfl (oL rfl (H.zg 3 rfl 2 rfl) (qL 91 rfl rfl (sw (oq (l01Size_ok _ r.xC (H.get 4 rfl).1 (by first | assumption | exact jf ql | exact QF ql)) H fun w68 H=>qL 91 rfl rfl (sps [.bool ((sumL r.xC:Int) == 0),.bool ((sumL r.xC:Int) == 0)] (zjn (cE rfl (fun h70=>?_) (fun h70=>?_))))))))))))))
         ·skip
          refine zcr (sp (.bool false) (zjr (t_r (ret1 (.bool false) rfl rfl ⟨_,rfl,?_,H.base⟩))))
          rw [xg (fun h=>by obtain ⟨h1,h2,h3,h4,h5,h6,h7,h8,h9,h10,h11⟩:=h;first | contradiction | omega | exact h3 ⟨‹_›,‹_›⟩ | (obtain ⟨q1,q2,q3,q4,q5⟩:=h11 k qf;first | contradiction | omega | (have:=q5 qf;omega)))]
         refine xw (t_n (zcc (sp (yI 0) (zjn (xq ?_)))))
         refine vJ (fun m' ρ w71=>∃ (zx:Env) (k:Nat),ρ=upd (upd (upd zx 0 (pp bs os)) 1 (pp br or)) 5 (yI k)∧(k≤r.qM.length)∧(IntosTo s r k)∧m' =r.qM.length - k∧St w w71 [] [atF bs os (yS s qB qA qJ qI),sF false qX qB qA s.qx,sF false xG qJ qI s.qw,atF br or [yI r.qE,yI r.vw,.slice yx r.xC.length yl,.slice yB r.x8.length yw,.slice yz r.xZ.length yt,.slice yA r.zf.length yu,.slice QL r.jb.length QK,.slice jV r.qM.length jU,.bool true],sF false Xz yx yl r.xC,sF false XC yB yw r.x8,sF false XA yz yt r.xZ,sF false XB yA yu r.zf,sF false FrOut QL QK r.jb,sF false FrInto jV jU r.qM]) (r.qM.length - 0) ⟨_,0,uE3,qf,(by exact fun j hj=>by omega),rfl,H⟩ ?_
         clear H
         rintro m' ρ w72 ⟨zx,k,rfl,i0,i1,rfl,H⟩
         refine zcc (sps [yI k,pp br or,pp br or] (oF rfl (oL rfl (H.zg 3 rfl 7 rfl) (oN rfl (sp (.bool (decide ((k:Int) < r.qM.length))) (zjn (cD rfl (fun h73=>?_) (fun h73=>?_))))))))
         ·skip
          refine xw (t_n (zn (xq (zcr (sps [pp br or,pp br or] (oF rfl (oL rfl (H.zg 3 rfl 7 rfl) (sp (yI k) ?_))))))))
          obtain ⟨b74,o75,rfl⟩:=H.addr 9 rfl qf
          obtain ⟨ae76Bag,ce76Bag,Fe76Bag,H⟩:=H.yY 9 rfl k k qf qf qf
          refine oI rfl rfl (sp (pp b74 (o75+(k:Int).toNat * 2)) (zjn (zn (zn ?_))))
          refine y9 rfl H fun H=>rtp 0 (pp b74 (o75+(k:Int).toNat * 2)) H ?_
          refine rtp 1 (pp b74 (o75+(k:Int).toNat * 2)) H ?_
          refine tF 2 rfl rfl H ?_
          refine tL 3 rfl rfl (fun _ h=>h.zg 1 rfl 0 rfl) H ?_
          refine rtp 4 (pp bs os) H ?_
          refine rtp 5 (pp bs os) H ?_
          refine tF 6 rfl rfl H ?_
          refine tL 7 rfl rfl (fun _ h=>h.zg 2 rfl 1 rfl) H ?_
          refine tN 8 rfl rfl H ?_
          refine rt 9 (yI (s.qx.length - 1)) (y_sub s.qx.length 1 rfl rfl qf) H ?_
          refine ro 10 rfl (oq (l00In_ok w72.drew ((r.qM[k]!).qE) 0 (s.qx.length - 1)) H fun w78 H=>⟨H,(rtp 11 (.bool (!(inR ((r.qM[k]!).qE) 0 (s.qx.length - 1)))) H ?_)⟩)
          refine rtp 12 (.bool (!(inR ((r.qM[k]!).qE) 0 (s.qx.length - 1)))) H ?_
          cases h80:(!(inR ((r.qM[k]!).qE) 0 (s.qx.length - 1)))
          ·skip
           replace h80:=xm h80
           replace h80:=Qp.1 h80
           refine rgp 13 (pp bs os) 126 H ?_
           refine rgp 14 (pp b74 (o75+(k:Int).toNat * 2)) 126 H ?_
           refine rgp 15 (pp b74 (o75+(k:Int).toNat * 2)) 126 H ?_
           refine gF 16 rfl rfl H ?_
           refine gL 17 rfl rfl (fun _ h=>h.zg 1 rfl 0 rfl) H ?_
           refine rgp 18 (pp br or) 126 H ?_
           refine rgp 19 (pp br or) 126 H ?_
           refine gF 20 rfl rfl H ?_
           refine gL 21 rfl rfl (fun _ h=>h.zg 5 rfl 0 rfl) H ?_
           refine zI [22] qh qm (r_opG rfl (e:=126) rfl rfl (oq (l02In_ok _ s ((r.qM[k]!).qE) r.qE (qH (H.get 2 rfl) 0 3) (H.get 3 rfl).1 (H.get 4 rfl).1 ql ql) H fun w81 H=>⟨H,(rgp 23 (.bool (!(dec (Lies s.qx r.qE ((r.qM[k]!).qE))))) 126 H ?_)⟩) zJ)
           refine rtp 24 (.bool (!(dec (Lies s.qx r.qE ((r.qM[k]!).qE))))) H ?_
           refine rtp 25 (.bool (!(dec (Lies s.qx r.qE ((r.qM[k]!).qE))))) H ?_
           cases h83:(!(dec (Lies s.qx r.qE ((r.qM[k]!).qE))))
           ·skip
            replace h83:=xm h83
            replace h83:=y5 h83
            refine rgp 26 (pp bs os) 139 H ?_
            refine rgp 27 (pp b74 (o75+(k:Int).toNat * 2)) 139 H ?_
            refine rgp 28 (pp b74 (o75+(k:Int).toNat * 2)) 139 H ?_
            refine gF 29 rfl rfl H ?_
            refine gL 30 rfl rfl (fun _ h=>h.zg 1 rfl 1 rfl) H ?_
            refine zI [31] qh qm (r_opG rfl (e:=139) rfl rfl (oq (QD _ s ((r.qM[k]!).QC) (qH (H.get 2 rfl) 0 3) (H.get 3 rfl).1 (H.get 4 rfl).1 (H.get 0 rfl).1) H fun w84 H=>⟨H,(rgp 32 (.bool (!(dec (zQ s.xk ((r.qM[k]!).QC))))) 139 H ?_)⟩) zJ)
            refine rtp 33 (.bool (!(dec (zQ s.xk ((r.qM[k]!).QC))))) H ?_
            refine rtp 34 (.bool (!(dec (zQ s.xk ((r.qM[k]!).QC))))) H ?_
            cases h86:(!(dec (zQ s.xk ((r.qM[k]!).QC))))
            ·skip
             replace h86:=xm h86
             replace h86:=y5 h86
             refine rgp 35 (pp b74 (o75+(k:Int).toNat * 2)) 148 H ?_
             refine rgp 36 (pp b74 (o75+(k:Int).toNat * 2)) 148 H ?_
             refine gF 37 rfl rfl H ?_
             refine gL 38 rfl rfl (fun _ h=>h.zg 1 rfl 1 rfl) H ?_
             refine zI [39] qh qm (r_opG rfl (e:=148) rfl rfl (oq (l01Size_ok _ ((r.qM[k]!).QC) (H.get 0 rfl).1 (by first | assumption | exact jf ql | exact QF ql)) H fun w87 H=>⟨H,(rgp 40 (.bool ((sumL ((r.qM[k]!).QC):Int) == 0)) 148 H ?_)⟩) zJ)
             refine rtp 41 (.bool ((sumL ((r.qM[k]!).QC):Int) == 0)) H ?_
             refine xh qh (t_n (cE rfl (fun h89=>?_) (fun h89=>?_)))
             ·skip
              refine zcr (sp (.bool false) (zjr (t_r (zr5 (ret1 (.bool false) rfl rfl ⟨_,rfl,?_,H.base⟩)))))
              rw [xg (fun h=>by obtain ⟨h1,h2,h3,h4,h5,h6,h7,h8,h9,h10,h11⟩:=h;first | contradiction | omega | exact h3 ⟨‹_›,‹_›⟩ | (obtain ⟨q1,q2,q3,q4,q5⟩:=h11 k qf;first | contradiction | omega | (have:=q5 qf;omega)))]
             refine xw (t_n (zn ?_))
             refine y9 rfl H fun H=>rtp 0 (yI k) H ?_
             refine rtp 1 (.bool (decide ((k:Int) > 0))) H ?_
             refine rtp 2 (.bool (decide ((k:Int) > 0))) H ?_
             cases h91:(decide ((k:Int) > 0))
             ·skip
              replace h91:=of_decide_eq_false h91
              refine zH [3,4,5,6,7,8,9,10,11,12,13,14,15,16] 14 (H) (rtp 17 (.bool false) H ?_)
              refine xh qh (t_n (xO false rfl (fun h=>absurd h qj) (fun _=>xw (b_n (t_n (zl (sp (yI k) (sw (vg k 1 rfl rfl qf (sp (yI (k+1)) (zo (xn (m' :=r.qM.length - (k+1)) qf ⟨_,k+1,uE3,?_,?_,rfl,H.sel _ (.refl _) _ qm⟩))))))))))))
              · omega
              · exact i1.succ ⟨‹_›,‹_›,‹_›,‹_›,fun hk=>by omega⟩
             replace h91:=of_decide_eq_true h91
             refine rgp 3 (pp br or) 158 H ?_
             refine rgp 4 (pp br or) 158 H ?_
             refine gF 5 rfl rfl H ?_
             refine gL 6 rfl rfl (fun _ h=>h.zg 5 rfl 7 rfl) H ?_
             refine rgp 7 (yI k) 158 H ?_
             refine rg 8 (yI (k - 1)) 158 (y_sub k 1 rfl rfl qf) H ?_
             obtain ⟨ae92Bag,ce92Bag,Fe92Bag,H⟩:=H.yY 11 rfl (k - 1) (k - 1) qf qf qf
             refine gI 9 rfl rfl rfl (H.sel _ (.refl _) _ (fun _ h=>List.mem_cons_of_mem _ (List.mem_cons_of_mem _ (h)))) ?_
             refine gF 10 rfl rfl (H.sel _ (.refl _) _ (fun _ h=>List.mem_cons_of_mem _ (List.mem_cons_of_mem _ (h)))) ?_
             refine rgp 12 (pp b74 (o75+(k:Int).toNat * 2)) 158 (H.sel _ (.refl _) _ (fun _ h=>List.mem_cons_of_mem _ (List.mem_cons_of_mem _ (h)))) ?_
             refine rgp 13 (pp b74 (o75+(k:Int).toNat * 2)) 158 (H.sel _ (.refl _) _ (fun _ h=>List.mem_cons_of_mem _ (List.mem_cons_of_mem _ (h)))) ?_
             refine gF 14 rfl rfl (H.sel _ (.refl _) _ (fun _ h=>List.mem_cons_of_mem _ (List.mem_cons_of_mem _ (h)))) ?_
             refine gL 15 rfl rfl (fun _ h=>h.zg 1 rfl 0 rfl) (H.sel _ (.refl _) _ (fun _ h=>List.mem_cons_of_mem _ (List.mem_cons_of_mem _ (h)))) ?_
             refine zI [11] qh qm (r_opG rfl (e:=158) rfl rfl (zk (yI ((r.qM[k - 1]!).qE)) isAgg2 rfl (H.zg 1 rfl 0 rfl) (⟨H.dF 2,(rgp 16 (.bool (decide (((r.qM[k - 1]!).qE:Int)≥((r.qM[k]!).qE)))) 158 (H.sel _ (.refl _) _ (fun _ h=>List.mem_cons_of_mem _ (List.mem_cons_of_mem _ (h)))) ?_)⟩)) zJ)
             refine rtp 17 (.bool (decide (((r.qM[k - 1]!).qE:Int)≥((r.qM[k]!).qE)))) (H.sel _ (.refl _) _ (fun _ h=>List.mem_cons_of_mem _ (List.mem_cons_of_mem _ (h)))) ?_
             refine xh qh (t_n (cD rfl (fun h93=>?_) (fun h93=>?_)))
             ·skip
              refine zcr (sp (.bool false) (zjr (zr5 (ret1 (.bool false) rfl rfl ⟨_,rfl,?_,H.base⟩))))
              rw [xg (fun h=>by obtain ⟨h1,h2,h3,h4,h5,h6,h7,h8,h9,h10,h11⟩:=h;first | contradiction | omega | exact h3 ⟨‹_›,‹_›⟩ | (obtain ⟨q1,q2,q3,q4,q5⟩:=h11 k qf;first | contradiction | omega | (have:=q5 qf;omega)))]
             refine xw (b_n (t_n (zl (sp (yI k) (sw (vg k 1 rfl rfl qf (sp (yI (k+1)) (zo (xn (m' :=r.qM.length - (k+1)) qf ⟨_,k+1,uE3,?_,?_,rfl,H.sel _ (.refl _) _ qm⟩)))))))))
             · omega
             · exact i1.succ ⟨‹_›,‹_›,‹_›,‹_›,fun hk=>by omega⟩
            replace h86:=xy h86
            replace h86:=zF h86
            refine zH [35,36,37,38,39,40] 6 (H) (rtp 41 (.bool true) H ?_)
            refine xh qh (t_n (xO true rfl (fun _=>zcr (sp (.bool false) (zjr (t_r (zr5 (ret1 (.bool false) rfl rfl ⟨_,rfl,?_,H.base⟩)))))) (fun h=>absurd h qj)))
            rw [xg (fun h=>by obtain ⟨h1,h2,h3,h4,h5,h6,h7,h8,h9,h10,h11⟩:=h;first | contradiction | omega | exact h3 ⟨‹_›,‹_›⟩ | (obtain ⟨q1,q2,q3,q4,q5⟩:=h11 k qf;first | contradiction | omega | (have:=q5 qf;omega)))]
           replace h83:=xy h83
           replace h83:=zF h83
           refine zH [26,27,28,29,30,31,32] 7 (H) (rtp 33 (.bool true) H ?_)
           refine rtp 34 (.bool true) H ?_
           refine zH [35,36,37,38,39,40] 6 (H) (rtp 41 (.bool true) H ?_)
           refine xh qh (t_n (xO true rfl (fun _=>zcr (sp (.bool false) (zjr (t_r (zr5 (ret1 (.bool false) rfl rfl ⟨_,rfl,?_,H.base⟩)))))) (fun h=>absurd h qj)))
           rw [xg (fun h=>by obtain ⟨h1,h2,h3,h4,h5,h6,h7,h8,h9,h10,h11⟩:=h;first | contradiction | omega | exact h3 ⟨‹_›,‹_›⟩ | (obtain ⟨q1,q2,q3,q4,q5⟩:=h11 k qf;first | contradiction | omega | (have:=q5 qf;omega)))]
          replace h80:=xy h80
          replace h80:=QS h80
          refine zH [13,14,15,16,17,18,19,20,21,22,23] 11 (H) (rtp 24 (.bool true) H ?_)
          refine rtp 25 (.bool true) H ?_
          refine zH [26,27,28,29,30,31,32] 7 (H) (rtp 33 (.bool true) H ?_)
          refine rtp 34 (.bool true) H ?_
          refine zH [35,36,37,38,39,40] 6 (H) (rtp 41 (.bool true) H ?_)
          refine xh qh (t_n (xO true rfl (fun _=>zcr (sp (.bool false) (zjr (t_r (zr5 (ret1 (.bool false) rfl rfl ⟨_,rfl,?_,H.base⟩)))))) (fun h=>absurd h qj)))
          rw [xg (fun h=>by obtain ⟨h1,h2,h3,h4,h5,h6,h7,h8,h9,h10,h11⟩:=h;first | contradiction | omega | exact h3 ⟨‹_›,‹_›⟩ | (obtain ⟨q1,q2,q3,q4,q5⟩:=h11 k qf;first | contradiction | omega | (have:=q5 qf;omega)))]
         refine zx4 (zcr (sp (.bool true) (zjr (ret1 (.bool true) rfl rfl ⟨_,rfl,?_,H.base⟩))))
         obtain rfl:k=r.qM.length:=by omega
         rw [yP ⟨by assumption,by omega,by simp_all,by omega,by assumption,by assumption,by assumption,by assumption,by assumption,by assumption,i1⟩]
        replace h67:=xy h67
        replace h67:=zF h67
        refine xR [92,93,94,95,96,97] (sp (.bool true) (zjn (xO true rfl (fun _=>zcr (sp (.bool false) (zjr (t_r (ret1 (.bool false) rfl rfl ⟨_,rfl,?_,H.base⟩))))) (fun h=>absurd h qj))))
        rw [xg (fun h=>by obtain ⟨h1,h2,h3,h4,h5,h6,h7,h8,h9,h10,h11⟩:=h;first | contradiction | omega | exact h3 ⟨‹_›,‹_›⟩ | (obtain ⟨q1,q2,q3,q4,q5⟩:=h11 k qf;first | contradiction | omega | (have:=q5 qf;omega)))]
       replace h64:=xy h64
       replace h64:=zF h64
       refine xR [83,84,85,86,87,88,89] (sps [.bool true,.bool true] (xR [92,93,94,95,96,97] (sp (.bool true) (zjn (xO true rfl (fun _=>zcr (sp (.bool false) (zjr (t_r (ret1 (.bool false) rfl rfl ⟨_,rfl,?_,H.base⟩))))) (fun h=>absurd h qj))))))
       rw [xg (fun h=>by obtain ⟨h1,h2,h3,h4,h5,h6,h7,h8,h9,h10,h11⟩:=h;first | contradiction | omega | exact h3 ⟨‹_›,‹_›⟩ | (obtain ⟨q1,q2,q3,q4,q5⟩:=h11 k qf;first | contradiction | omega | (have:=q5 qf;omega)))]
      replace h61:=xy h61
      replace h61:=zF h61
      refine xR [74,75,76,77,78,79,80] (sps [.bool true,.bool true] (xR [83,84,85,86,87,88,89] (sps [.bool true,.bool true] (xR [92,93,94,95,96,97] (sp (.bool true) (zjn (xO true rfl (fun _=>zcr (sp (.bool false) (zjr (t_r (ret1 (.bool false) rfl rfl ⟨_,rfl,?_,H.base⟩))))) (fun h=>absurd h qj))))))))
      rw [xg (fun h=>by obtain ⟨h1,h2,h3,h4,h5,h6,h7,h8,h9,h10,h11⟩:=h;first | contradiction | omega | exact h3 ⟨‹_›,‹_›⟩ | (obtain ⟨q1,q2,q3,q4,q5⟩:=h11 k qf;first | contradiction | omega | (have:=q5 qf;omega)))]
     replace h58:=xy h58
     replace h58:=zF h58
     refine xR [65,66,67,68,69,70,71] (sps [.bool true,.bool true] (xR [74,75,76,77,78,79,80] (sps [.bool true,.bool true] (xR [83,84,85,86,87,88,89] (sps [.bool true,.bool true] (xR [92,93,94,95,96,97] (sp (.bool true) (zjn (xO true rfl (fun _=>zcr (sp (.bool false) (zjr (t_r (ret1 (.bool false) rfl rfl ⟨_,rfl,?_,H.base⟩))))) (fun h=>absurd h qj))))))))))
     rw [xg (fun h=>by obtain ⟨h1,h2,h3,h4,h5,h6,h7,h8,h9,h10,h11⟩:=h;first | contradiction | omega | exact h3 ⟨‹_›,‹_›⟩ | (obtain ⟨q1,q2,q3,q4,q5⟩:=h11 k qf;first | contradiction | omega | (have:=q5 qf;omega)))]
    replace h55:=xy h55
    replace h55:=zF h55
    refine xR [56,57,58,59,60,61,62] (sps [.bool true,.bool true] (xR [65,66,67,68,69,70,71] (sps [.bool true,.bool true] (xR [74,75,76,77,78,79,80] (sps [.bool true,.bool true] (xR [83,84,85,86,87,88,89] (sps [.bool true,.bool true] (xR [92,93,94,95,96,97] (sp (.bool true) (zjn (xO true rfl (fun _=>zcr (sp (.bool false) (zjr (t_r (ret1 (.bool false) rfl rfl ⟨_,rfl,?_,H.base⟩))))) (fun h=>absurd h qj))))))))))))
    rw [xg (fun h=>by obtain ⟨h1,h2,h3,h4,h5,h6,h7,h8,h9,h10,h11⟩:=h;first | contradiction | omega | exact h3 ⟨‹_›,‹_›⟩ | (obtain ⟨q1,q2,q3,q4,q5⟩:=h11 k qf;first | contradiction | omega | (have:=q5 qf;omega)))]
   replace h51:=eq_of_beq h51
   refine zH [34,35,36,37,38,39] 6 (H) (rtp 40 (.bool true) H ?_)
   refine xh qh (t_n (xO true rfl (fun _=>zcr (sp (.bool false) (zjr (t_r (ret1 (.bool false) rfl rfl ⟨_,rfl,?_,H.base⟩))))) (fun h=>absurd h qj)))
   rw [xg (fun h=>by obtain ⟨h1,h2,h3,h4,h5,h6,h7,h8,h9,h10,h11⟩:=h;first | contradiction | omega | exact h3 ⟨‹_›,‹_›⟩ | (obtain ⟨q1,q2,q3,q4,q5⟩:=h11 k qf;first | contradiction | omega | (have:=q5 qf;omega)))]
  replace h7:=xy h7
  replace h7:=QS h7
  refine zH [21,22,23,24,25,26,27,28,29,30,31] 11 (H) (rtp 32 (.bool true) H ?_)
  refine rtp 33 (.bool true) H ?_
  refine zH [34,35,36,37,38,39] 6 (H) (rtp 40 (.bool true) H ?_)
  refine xh qh (t_n (xO true rfl (fun _=>zcr (sp (.bool false) (zjr (t_r (ret1 (.bool false) rfl rfl ⟨_,rfl,?_,H.base⟩))))) (fun h=>absurd h qj)))
  rw [xg (fun h=>by obtain ⟨h1,h2,h3,h4,h5,h6,h7,h8,h9,h10,h11⟩:=h;first | contradiction | omega | exact h3 ⟨‹_›,‹_›⟩ | (obtain ⟨q1,q2,q3,q4,q5⟩:=h11 k qf;first | contradiction | omega | (have:=q5 qf;omega)))]
 replace h4:=xy h4
 replace h4:=QS h4
 refine zH [13,14,15,16,17,18] 6 (H) (rtp 19 (.bool true) H ?_)
 refine rtp 20 (.bool true) H ?_
 refine zH [21,22,23,24,25,26,27,28,29,30,31] 11 (H) (rtp 32 (.bool true) H ?_)
 refine rtp 33 (.bool true) H ?_
 refine zH [34,35,36,37,38,39] 6 (H) (rtp 40 (.bool true) H ?_)
 refine xh qh (t_n (xO true rfl (fun _=>zcr (sp (.bool false) (zjr (t_r (ret1 (.bool false) rfl rfl ⟨_,rfl,?_,H.base⟩))))) (fun h=>absurd h qj)))
 rw [xg (fun h=>by obtain ⟨h1,h2,h3,h4,h5,h6,h7,h8,h9,h10,h11⟩:=h;first | contradiction | omega | exact h3 ⟨‹_›,‹_›⟩ | (obtain ⟨q1,q2,q3,q4,q5⟩:=h11 k qf;first | contradiction | omega | (have:=q5 qf;omega)))]

theorem l02State_ok (w:World) (s:qy) (t:qF) {qB:yOA} {qX:yLN} {qJ:yOA} {xG:yLN} {qY:yOA} {x9:yLN} {xH:yOA} {zN:yLN} {qO:yOA} {xM:yLN} (hs:jd w bs os (yS s qB qA qJ qI)) (qP:qW.rep w qX [.slice qB s.qx.length qA] s.qx) (xx:qW.rep w xG [.slice qJ s.qw.length qI] s.qw) (ht:jd w bt ot (yT t qY qU xH xB qO qN)) (xY:qW.rep w x9 [.slice qY t.qC.length qU] t.qC) (zG:qW.rep w zN [.slice xH t.qK.length xB] t.qK) (xJ:qW.rep w xM [.slice qO t.qG.length qN] t.qG) (p0:ji s):Calls Tryz.prog 60 #[pp bs os,pp bt ot] w (Ret (fun v w' =>v=.bool (dec (xW s t))) w):=by
 refine en func60 ntmps60 ?_
 have H:=(((((((St.start w).arg xJ).arg zG).arg xY).argAt ht).arg xx).arg qP).argAt hs
 have zS:=qQ qP
 have jv:=qQ xx
 have Qe:=qQ xY
 have QI:=qQ zG
 have yg:=qQ xJ
 clear hs qP xx ht xY zG xJ
 have p1:=p0.2.1
 refine zcr (sp (.bool false) (zjn (zn (zn ?_))))
 refine y9 rfl H fun H=>rtp 0 (pp bt ot) H ?_
 refine rtp 1 (pp bt ot) H ?_
 refine tF 2 rfl rfl H ?_
 refine tL 3 rfl rfl (fun _ h=>h.zg 3 rfl 0 rfl) H ?_
 refine tN 4 rfl rfl H ?_
 refine rtp 5 (pp bs os) H ?_
 refine rtp 6 (pp bs os) H ?_
 refine tF 7 rfl rfl H ?_
 refine tL 8 rfl rfl (fun _ h=>h.zg 0 rfl 1 rfl) H ?_
 refine tN 9 rfl rfl H ?_
 refine rtp 10 (.bool ((t.qC.length:Int) != s.qx.length)) H ?_
 refine rtp 11 (.bool ((t.qC.length:Int) != s.qx.length)) H ?_
 cases h2:((t.qC.length:Int) != s.qx.length)
 ·skip
  replace h2:=vW h2
  refine rgp 12 (pp bt ot) 17 H ?_
  refine rgp 13 (pp bt ot) 17 H ?_
  refine gF 14 rfl rfl H ?_
  refine gL 15 rfl rfl (fun _ h=>h.zg 3 rfl 1 rfl) H ?_
  refine gN 16 rfl rfl H ?_
  refine rgp 17 (pp bs os) 17 H ?_
  refine rgp 18 (pp bs os) 17 H ?_
  refine gF 19 rfl rfl H ?_
  refine gL 20 rfl rfl (fun _ h=>h.zg 0 rfl 1 rfl) H ?_
  refine gN 21 rfl rfl H ?_
  refine rgp 22 (.bool ((t.qK.length:Int) != s.qx.length)) 17 H ?_
  refine rtp 23 (.bool ((t.qK.length:Int) != s.qx.length)) H ?_
  refine rtp 24 (.bool ((t.qK.length:Int) != s.qx.length)) H ?_
  cases h3:((t.qK.length:Int) != s.qx.length)
  ·skip
   replace h3:=vW h3
   refine rgp 25 (pp bt ot) 30 H ?_
   refine rgp 26 (pp bt ot) 30 H ?_
   refine gF 27 rfl rfl H ?_
   refine gL 28 rfl rfl (fun _ h=>h.zg 3 rfl 0 rfl) H ?_
   obtain ⟨b4,o5,rfl⟩:=H.addr 4 rfl qf
   refine gI 29 rfl rfl rfl H ?_
   refine gL 30 rfl rfl (fun _ h=>h.Xm 4 rfl 0 qf qf) H ?_
   refine rgp 31 (.bool (!(t.qC[0]!))) 30 H ?_
   refine rtp 32 (.bool (!(t.qC[0]!))) H ?_
   refine rtp 33 (.bool (!(t.qC[0]!))) H ?_
   cases h6:(!(t.qC[0]!))
   ·skip
    replace h6:=xm h6
    refine rgp 34 (pp bs os) 39 H ?_
    refine rgp 35 (pp bt ot) 39 H ?_
    refine rgp 36 (pp bt ot) 39 H ?_
    refine gF 37 rfl rfl H ?_
    refine gL 38 rfl rfl (fun _ h=>h.zg 3 rfl 2 rfl) H ?_
    refine zI [39] qh qm (r_opG rfl (e:=39) rfl rfl (oq (QD _ s t.qG (qH (H.get 0 rfl) 0 3) (H.get 1 rfl).1 (H.get 2 rfl).1 (H.get 6 rfl).1) H fun w7 H=>⟨H,(rgp 40 (.bool (!(dec (zQ s.xk t.qG)))) 39 H ?_)⟩) zJ)
    refine rtp 41 (.bool (!(dec (zQ s.xk t.qG)))) H ?_
    refine xh qh (t_n (cQ rfl (fun h9=>?_) (fun h9=>?_)))
    ·skip
     refine zcr (sp (.bool false) (zjr (t_r (ret1 (.bool false) rfl rfl ⟨_,rfl,?_,H.base⟩))))
     rw [xg (fun h=>by obtain ⟨h1,h2,h3,h4,h5⟩:=h;first | contradiction | omega | (simp_all;done) | (obtain ⟨q1,q2⟩:=h5 k qf;first | contradiction | (have:=q2 ql;omega)))]
    refine xw (t_n (zcc (sp (yI 0) (zjn (xq ?_)))))
    refine vJ (fun m' ρ w10=>∃ (zx:Env) (k:Nat),ρ=upd (upd (upd zx 0 (pp bs os)) 1 (pp bt ot)) 5 (yI k)∧(k≤t.qK.length)∧(BagsTo s t k)∧m' =t.qK.length - k∧St w w10 [] [atF bs os (yS s qB qA qJ qI),sF false qX qB qA s.qx,sF false xG qJ qI s.qw,atF bt ot [.slice (aa b4 o5) t.qC.length qU,.slice xH t.qK.length xB,.slice qO t.qG.length qN],sF false x9 (aa b4 o5) qU t.qC,sF false zN xH xB t.qK,sF false xM qO qN t.qG]) (t.qK.length - 0) ⟨_,0,uE3,qf,(by exact fun j hj=>by omega),rfl,H⟩ ?_
    clear H
    rintro m' ρ w11 ⟨zx,k,rfl,i0,i1,rfl,H⟩
    refine zcc (sps [yI k,pp bt ot,pp bt ot] (oF rfl (oL rfl (H.zg 3 rfl 1 rfl) (oN rfl (sp (.bool (decide ((k:Int) < t.qK.length))) (zjn (cD rfl (fun h12=>?_) (fun h12=>?_))))))))
    ·skip
     refine xw (t_n (zn (xq (zcr (sps [pp bs os,pp bt ot,pp bt ot] (oF rfl (oL rfl (H.zg 3 rfl 1 rfl) (sp (yI k) ?_))))))))
     obtain ⟨b13,o14,rfl⟩:=H.addr 5 rfl qf
     obtain ⟨ae15,ce15,Fe15,H⟩:=H.Xa 5 rfl k k qf qf qf
     refine oI rfl rfl (oL rfl (H.zg 1 rfl 0 rfl) (sw (oq (QD _ s (t.qK[k]!) (qH (H.get 2 rfl) 0 3) (H.get 3 rfl).1 (H.get 4 rfl).1 (H.get 0 rfl).1) H fun w16 H=>sps [.bool (!(dec (zQ s.xk (t.qK[k]!)))),.bool (!(dec (zQ s.xk (t.qK[k]!))))] ?_)))
     cases h18:(!(dec (zQ s.xk (t.qK[k]!))))
     ·skip
      replace h18:=xm h18
      replace h18:=y5 h18
      refine qL 67 rfl rfl (sp (pp bt ot) (qL 67 rfl rfl (sp (pp bt ot) (qL 67 rfl rfl (oF rfl (qL 67 rfl rfl (oL rfl (H.zg 5 rfl 0 rfl) (qL 67 rfl rfl (sp (yI k) (qL 67 rfl rfl (oI rfl rfl (qL 67 rfl rfl (oL rfl (H.Xm 6 rfl k qf qf) (qL 67 rfl rfl (sp (.bool (!(t.qC[k]!))) (qL 67 rfl rfl (sp (.bool (!(t.qC[k]!))) ?_)))))))))))))))))
      cases h19:(!(t.qC[k]!))
      ·skip
       replace h19:=xm h19
       refine xR [77,78,79,80,81,82,83,84,85] (qL 67 rfl rfl (sps [.bool false,.bool false] (zjn (xO false rfl (fun h=>absurd h qj) (fun _=>xw (b_n (t_n (zl (sp (yI k) (sw (vg k 1 rfl rfl qf (sp (yI (k+1)) (zo (xn (m' :=t.qK.length - (k+1)) qf ⟨_,k+1,uE3,?_,?_,rfl,H.sel _ (.refl _) _ qm⟩))))))))))))))
       · omega
       · exact i1.succ ‹_› (fun hk=>by first | omega | simp_all)
      replace h19:=xy h19
      refine qL 76 rfl rfl (sp (pp bt ot) (qL 76 rfl rfl (sp (pp bt ot) (qL 76 rfl rfl (oF rfl (qL 76 rfl rfl (oL rfl (H.zg 5 rfl 1 rfl) (qL 76 rfl rfl (sp (yI k) (qL 76 rfl rfl (oI rfl rfl (qL 76 rfl rfl (oL rfl (H.zg 1 rfl 0 rfl) (qL 76 rfl rfl (sw (oq (l01Size_ok _ (t.qK[k]!) (H.get 0 rfl).1 (by first | assumption | exact jf ql | exact QF ql)) H fun w20 H=>qL 76 rfl rfl (sp (.bool (decide ((sumL (t.qK[k]!):Int) > 0))) (qL 67 rfl rfl ?_))))))))))))))))))
      refine sps [.bool (decide ((sumL (t.qK[k]!):Int) > 0)),.bool (decide ((sumL (t.qK[k]!):Int) > 0))] (zjn (cD rfl (fun h22=>?_) (fun h22=>?_)))
      ·skip
       refine zcr (sp (.bool false) (zjr (zr5 (ret1 (.bool false) rfl rfl ⟨_,rfl,?_,H.base⟩))))
       rw [xg (fun h=>by obtain ⟨h1,h2,h3,h4,h5⟩:=h;first | contradiction | omega | (simp_all;done) | (obtain ⟨q1,q2⟩:=h5 k qf;first | contradiction | (have:=q2 ql;omega)))]
      refine xw (b_n (t_n (zl (sp (yI k) (sw (vg k 1 rfl rfl qf (sp (yI (k+1)) (zo (xn (m' :=t.qK.length - (k+1)) qf ⟨_,k+1,uE3,?_,?_,rfl,H.sel _ (.refl _) _ qm⟩)))))))))
      · omega
      · exact i1.succ ‹_› (fun hk=>by first | omega | simp_all)
     replace h18:=xy h18
     replace h18:=zF h18
     refine xR [68,69,70,71,72,73,74,75,76,77,78,79,80,81,82,83,84,85,86] (sp (.bool true) (zjn (xO true rfl (fun _=>zcr (sp (.bool false) (zjr (zr5 (ret1 (.bool false) rfl rfl ⟨_,rfl,?_,H.base⟩))))) (fun h=>absurd h qj))))
     rw [xg (fun h=>by obtain ⟨h1,h2,h3,h4,h5⟩:=h;first | contradiction | omega | (simp_all;done) | (obtain ⟨q1,q2⟩:=h5 k qf;first | contradiction | (have:=q2 ql;omega)))]
    refine zx4 (zcr (sp (.bool true) (zjr (ret1 (.bool true) rfl rfl ⟨_,rfl,?_,H.base⟩))))
    obtain rfl:k=t.qK.length:=by omega
    rw [yP ⟨by omega,by omega,by first | assumption | simp_all,by assumption,i1⟩]
   replace h6:=xy h6
   refine zH [34,35,36,37,38,39,40] 7 (H) (rtp 41 (.bool true) H ?_)
   refine xh qh (t_n (xO true rfl (fun _=>zcr (sp (.bool false) (zjr (t_r (ret1 (.bool false) rfl rfl ⟨_,rfl,?_,H.base⟩))))) (fun h=>absurd h qj)))
   rw [xg (fun h=>by obtain ⟨h1,h2,h3,h4,h5⟩:=h;first | contradiction | omega | (simp_all;done) | (obtain ⟨q1,q2⟩:=h5 k qf;first | contradiction | (have:=q2 ql;omega)))]
  replace h3:=bne_iff_ne.1 h3
  refine zH [25,26,27,28,29,30,31] 7 (H) (rtp 32 (.bool true) H ?_)
  refine rtp 33 (.bool true) H ?_
  refine zH [34,35,36,37,38,39,40] 7 (H) (rtp 41 (.bool true) H ?_)
  refine xh qh (t_n (xO true rfl (fun _=>zcr (sp (.bool false) (zjr (t_r (ret1 (.bool false) rfl rfl ⟨_,rfl,?_,H.base⟩))))) (fun h=>absurd h qj)))
  rw [xg (fun h=>by obtain ⟨h1,h2,h3,h4,h5⟩:=h;first | contradiction | omega | (simp_all;done) | (obtain ⟨q1,q2⟩:=h5 k qf;first | contradiction | (have:=q2 ql;omega)))]
 replace h2:=bne_iff_ne.1 h2
 refine zH [12,13,14,15,16,17,18,19,20,21,22] 11 (H) (rtp 23 (.bool true) H ?_)
 refine rtp 24 (.bool true) H ?_
 refine zH [25,26,27,28,29,30,31] 7 (H) (rtp 32 (.bool true) H ?_)
 refine rtp 33 (.bool true) H ?_
 refine zH [34,35,36,37,38,39,40] 7 (H) (rtp 41 (.bool true) H ?_)
 refine xh qh (t_n (xO true rfl (fun _=>zcr (sp (.bool false) (zjr (t_r (ret1 (.bool false) rfl rfl ⟨_,rfl,?_,H.base⟩))))) (fun h=>absurd h qj)))
 rw [xg (fun h=>by obtain ⟨h1,h2,h3,h4,h5⟩:=h;first | contradiction | omega | (simp_all;done) | (obtain ⟨q1,q2⟩:=h5 k qf;first | contradiction | (have:=q2 ql;omega)))]

theorem l02Parent_ok (w:World) (s:qy) (t:qF) (c:Int) {qB:yOA} {qX:yLN} {qJ:yOA} {xG:yLN} {qY:yOA} {x9:yLN} {xH:yOA} {zN:yLN} {qO:yOA} {xM:yLN} (hs:jd w bs os (yS s qB qA qJ qI)) (qP:qW.rep w qX [.slice qB s.qx.length qA] s.qx) (xx:qW.rep w xG [.slice qJ s.qw.length qI] s.qw) (ht:jd w bt ot (yT t qY qU xH xB qO qN)) (xY:qW.rep w x9 [.slice qY t.qC.length qU] t.qC) (zG:qW.rep w zN [.slice xH t.qK.length xB] t.qK) (xJ:qW.rep w xM [.slice qO t.qG.length qN] t.qG) (p0:ji s) (p1:Q4 s c) (p2:t.qC.length=s.qx.length):Calls Tryz.prog 113 #[pp bs os,pp bt ot,yI c] w (Ret (fun v w' =>v=yI (qR s t c)) w):=by
 refine en func113 ntmps113 ?_
 have H:=(((((((St.start w).arg xJ).arg zG).arg xY).argAt ht).arg xx).arg qP).argAt hs
 have zS:=qQ qP
 have jv:=qQ xx
 have Qe:=qQ xY
 have QI:=qQ zG
 have yg:=qQ xJ
 clear hs qP xx ht xY zG xJ
 have p3:=p0.step p1.1 p1.2
 refine zcr (sp (yI 0) (zjc (sps [pp bs os,pp bs os] (oF rfl (oL rfl (H.zg 0 rfl 1 rfl) (sp (yI c) ?_))))))
 obtain ⟨b1,o2,rfl⟩:=H.addr 1 rfl qf
 refine oI rfl rfl (oL rfl (H.jZ 1 rfl c qf qf) (sp (yI (s.qx[c.toNat]!)) (zjn (zn (xq ?_)))))
 refine vJ (fun m' ρ w3=>∃ (zx:Env) (y:Int) (n:Nat),ρ=upd (upd (upd (upd zx 0 (pp bs os)) 1 (pp bt ot)) 6 (yI 0)) 7 (yI y)∧(-1≤y∧y≤(s.qx.length:Int) - 1)∧(y < n)∧(qR s t c=climb s.qx t.qC n y)∧m' =(y+1).toNat∧St w w3 [] [atF bs os [yI s.xk,.slice (aa b1 o2) s.qx.length qA,.slice qJ s.qw.length qI],sF false qX (aa b1 o2) qA s.qx,sF false xG qJ qI s.qw,atF bt ot (yT t qY qU xH xB qO qN),sF false x9 qY qU t.qC,sF false zN xH xB t.qK,sF false xM qO qN t.qG]) (((s.qx[c.toNat]!)+1).toNat) ⟨_,s.qx[c.toNat]!,s.qx.length,uE4,qf,qf,(by rfl),rfl,H⟩ ?_
 clear H
 rintro m' ρ w4 ⟨zx,y,n,rfl,i0,i1,i2,rfl,H⟩
 have up:=fun h=>p0.step (c:=y) h i0.2
 refine zcc (sps [yI y,.bool (decide ((y:Int)≥0)),.bool (decide ((y:Int)≥0))] ?_)
 cases h5:(decide ((y:Int)≥0))
 ·skip
  replace h5:=of_decide_eq_false h5
  refine xR [18,19,20,21,22,23,24,25] (sp (.bool false) (zjn (xO false rfl (fun h=>absurd h qj) (fun _=>zx4 (zcr (sps [yI y,yI y] (zjr (ret1 (yI y) rfl rfl ⟨_,rfl,?_,H.base⟩))))))))
  rw [i2,climb_end (by first | omega | simp_all)]
 replace h5:=of_decide_eq_true h5
 refine qL 17 rfl rfl (sp (pp bt ot) (qL 17 rfl rfl (sp (pp bt ot) (qL 17 rfl rfl (oF rfl (qL 17 rfl rfl (oL rfl (H.zg 3 rfl 0 rfl) (qL 17 rfl rfl (sp (yI y) (qL 17 rfl rfl ?_))))))))))
 obtain ⟨b6,o7,rfl⟩:=H.addr 4 rfl qf
 refine oI rfl rfl (qL 17 rfl rfl (oL rfl (H.Xm 4 rfl y qf qf) (qL 17 rfl rfl (sps [.bool (!(t.qC[y.toNat]!)),.bool (!(t.qC[y.toNat]!))] (zjn (xO (!(t.qC[y.toNat]!)) rfl (fun h8=>?_) (fun h8=>?_)))))))
 ·skip
  replace h8:=xy h8
  refine xw (t_n (xq (zl (sps [pp bs os,pp bs os] (oF rfl (oL rfl (H.zg 0 rfl 1 rfl) (sp (yI y) (oI rfl rfl (oL rfl (H.jZ 1 rfl y qf qf) (sp (yI (s.qx[y.toNat]!)) (zo (b_n ?_))))))))))))
  have up1:=up qf
  refine xn (m' :=((s.qx[y.toNat]!)+1).toNat) qf ⟨_,(s.qx[y.toNat]!),n - 1,uE4,?_,?_,?_,rfl,H⟩
  · omega
  · omega
  · exact i2.trans (climb_go qf qf ‹_›)
 replace h8:=xm h8
 refine zx4 (zcr (sps [yI y,yI y] (zjr (ret1 (yI y) rfl rfl ⟨_,rfl,?_,H.base⟩))))
 rw [i2,climb_end (by first | omega | simp_all)]

theorem l02Ok_ok (w:World) (s:qy) {qB:yOA} {qX:yLN} {qJ:yOA} {xG:yLN} (hs:jd w bs os (yS s qB qA qJ qI)) (qP:qW.rep w qX [.slice qB s.qx.length qA] s.qx) (xx:qW.rep w xG [.slice qJ s.qw.length qI] s.qw):Calls Tryz.prog 59 #[pp bs os] w (Ret (fun v w' =>v=.bool (dec (jB s))) w):=by
 refine en func59 ntmps59 ?_
 have H:=(((St.start w).arg xx).arg qP).argAt hs
 have zS:=qQ qP
 have jv:=qQ xx
 clear hs qP xx
 have p1:=fun h:ji s=>h.2.1
 refine zcr (sp (.bool false) (zjcc (sp (pp bs os) (sw (oq (l02Frame_ok _ s (qH (H.get 0 rfl) 0 3) (H.get 1 rfl).1 (H.get 2 rfl).1) H fun w1 H=>sps [.bool (!(dec (ji s))),.bool (!(dec (ji s)))] ?_)))))
 cases h3:(!(dec (ji s)))
 ·skip
  replace h3:=xm h3
  replace h3:=y5 h3
  refine qL 8 rfl rfl (sp (pp bs os) (qL 8 rfl rfl (sp (pp bs os) (qL 8 rfl rfl (oF rfl (qL 8 rfl rfl (oL rfl (H.zg 0 rfl 2 rfl) (qL 8 rfl rfl (oN rfl (qL 8 rfl rfl (sps [.bool (decide ((s.qw.length:Int) > 16)),.bool (decide ((s.qw.length:Int) > 16))] (zjn (cD rfl (fun h4=>?_) (fun h4=>?_))))))))))))))
  ·skip
   refine zcr (sp (.bool false) (zjr (t_r (ret1 (.bool false) rfl rfl ⟨_,rfl,?_,H.base⟩))))
   rw [xg (fun h=>by obtain ⟨h1,h2,h3⟩:=h;first | contradiction | omega | (obtain ⟨q1,q2⟩:=h3 k qf;first | contradiction | (have:=XI (k:=k+1) q;omega)))]
  have p2:=p1 ql
  refine xw (t_n (zcr (sps [pp bs os,pp bs os] (oF rfl (oL rfl (H.zg 0 rfl 1 rfl) (oN rfl (sw (o_make1 H underlying24 ti2 rfl s.qx.length rfl rfl qf qf fun b5 w6 H=>?_))))))))
  replace H:St _ _ [.box b5 (List.replicate s.qx.length (yI 0)) 2] _:=H
  refine sp (.slice (aa b5 0) s.qx.length s.qx.length) (zjcc (sp (yI 0) (zjn (xq ?_))))
  rw [ints_zero,counts_zero] at H
  refine vJ (fun m' ρ w7=>∃ (zx:Env) (k:Nat),ρ=upd (upd (upd zx 0 (pp bs os)) 3 (.slice (aa b5 0) s.qx.length s.qx.length)) 4 (yI k)∧(k≤s.qw.length)∧(RulesTo s k)∧m' =s.qw.length - k∧St w w7 [.box b5 ((counts s k).map (Value.int .i64)) 2] [atF bs os (yS s qB qA qJ qI),sF false qX qB qA s.qx,sF false xG qJ qI s.qw]) (s.qw.length - 0) ⟨_,0,uE3,qf,(by exact fun j hj=>by omega),rfl,H⟩ ?_
  clear H
  rintro m' ρ w8 ⟨zx,k,rfl,i0,i1,rfl,H⟩
  refine zcc (sps [yI k,pp bs os,pp bs os] (oF rfl (oL rfl (H.zg 0 rfl 2 rfl) (oN rfl (sp (.bool (decide ((k:Int) < s.qw.length))) (zjn (cD rfl (fun h9=>?_) (fun h9=>?_))))))))
  ·skip
   refine xw (t_n (zn (xq (zcc (sps [pp bs os,pp bs os,pp bs os] (oF rfl (oL rfl (H.zg 0 rfl 2 rfl) (sp (yI k) ?_))))))))
   obtain ⟨b10,o11,rfl⟩:=H.addr 2 rfl qf
   obtain ⟨ae12Need,ce12Need,Fe12Need,ae12Have,ce12Have,Fe12Have,ae12Lack,ce12Lack,Fe12Lack,ae12Here,ce12Here,Fe12Here,ae12Out,ce12Out,Fe12Out,ae12Into,ce12Into,Fe12Into,H⟩:=H.Qm 2 rfl k k qf qf qf
   refine oI rfl rfl (sw (oq (l02Rule_ok _ s (s.qw[k]!) (qH (H.get 7 rfl) 0 3) (H.get 8 rfl).1 (H.get 9 rfl).1 (qH (H.get 6 rfl) 0 9) (H.get 0 rfl).1 (H.get 1 rfl).1 (H.get 2 rfl).1 (H.get 3 rfl).1 (H.get 4 rfl).1 (H.get 5 rfl).1 ql) H fun w13 H=>sp (.bool (!(dec (RuleOk s (s.qw[k]!))))) (zjn (cQ rfl (fun h15=>?_) (fun h15=>?_)))))
   ·skip
    refine zcr (sp (.bool false) (zjr (t_r (zr5 (ret1 (.bool false) rfl rfl ⟨_,rfl,?_,H.base⟩)))))
    rw [xg (fun h=>by obtain ⟨h1,h2,h3⟩:=h;first | contradiction | omega | (obtain ⟨q1,q2⟩:=h3 k qf;first | contradiction | (have:=XI (k:=k+1) q;omega)))]
   have q:=(h15).1
   refine xw (t_n (zcr (sps [.slice (aa b5 0) s.qx.length s.qx.length,pp bs os,pp bs os] (oF rfl (oL rfl (H.zg 7 rfl 2 rfl) (sp (yI k) (oI rfl rfl (oF rfl (oL rfl (H.zg 6 rfl 0 rfl) (oI rfl rfl (oL rfl (H.cell 0 rfl (ints_get (by rw [counts_len];omega))) (sw (vg ((counts s k)[((s.qw[k]!).qE:Int).toNat]!) 1 rfl rfl (by (first | omega | (rw [XI q];have:=ofCell_bd s.qw (s.qw[k]!).qE k;omega))) (oI rfl rfl ?_))))))))))))))
   refine sw (o_store1 H 0 rfl (yI (((counts s k)[((s.qw[k]!).qE:Int).toNat]!)+1)) sizeOf2 rfl rfl rfl (ints_lt (by rw [counts_len];omega)) fun w16 H=>?_)
   rw [ints_set] at H
   rw [counts_succ q] at H
   replace H:St _ _ [.box b5 ((counts s (k+1)).map (Value.int .i64)) 2] _:=H
   refine zjc (sps [.slice (aa b5 0) s.qx.length s.qx.length,pp bs os,pp bs os] (oF rfl (oL rfl (H.zg 7 rfl 2 rfl) (sp (yI k) (oI rfl rfl (oF rfl (oL rfl (H.zg 6 rfl 0 rfl) (oI rfl rfl (oL rfl (H.cell 0 rfl (ints_get (by rw [counts_len];omega))) (sp (.bool (decide (((counts s (k+1))[((s.qw[k]!).qE:Int).toNat]! :Int) > 8))) (zjn (cD rfl (fun h17=>?_) (fun h17=>?_)))))))))))))
   ·skip
    refine zcr (sp (.bool false) (zjr (zr5 (ret1 (.bool false) rfl rfl ⟨_,rfl,?_,H.base⟩))))
    rw [xg (fun h=>by obtain ⟨h1,h2,h3⟩:=h;first | contradiction | omega | (obtain ⟨q1,q2⟩:=h3 k qf;first | contradiction | (have:=XI (k:=k+1) q;omega)))]
   refine xw (b_n (t_n (zl (sp (yI k) (sw (vg k 1 rfl rfl (by (first | omega | (rw [XI q];have:=ofCell_bd s.qw (s.qw[k]!).qE k;omega))) (sp (yI (k+1)) (zo (xn (m' :=s.qw.length - (k+1)) qf ⟨_,k+1,uE3,?_,?_,rfl,H.sel _ (.refl _) _ qm⟩)))))))))
   · omega
   · exact i1.succ ‹_› (by have:=XI (k:=k+1) q;omega)
  refine zx4 (zcr (sp (.bool true) (zjr (ret1 (.bool true) rfl rfl ⟨_,rfl,?_,H.base⟩))))
  obtain rfl:k=s.qw.length:=by omega
  rw [yP ⟨by assumption,by omega,i1⟩]
 replace h3:=xy h3
 replace h3:=zF h3
 refine xR [9,10,11,12,13,14] (sp (.bool true) (zjn (xO true rfl (fun _=>zcr (sp (.bool false) (zjr (t_r (ret1 (.bool false) rfl rfl ⟨_,rfl,?_,H.base⟩))))) (fun h=>absurd h qj))))
 rw [xg (fun h=>by obtain ⟨h1,h2,h3⟩:=h;first | contradiction | omega | (obtain ⟨q1,q2⟩:=h3 k qf;first | contradiction | (have:=XI (k:=k+1) q;omega)))]
theorem cloneB_ok (w:World) (l:List Bool) {al:yOA} {Fl:yLN} (hl:qW.rep w Fl [.slice al l.length cl] l) (p0:l.length≤1000000):Calls Tryz.prog 103 #[.slice al l.length cl] w (Ret (fun v w' =>∃ (ra:yOA) (rn:Nat) (rc:Nat),v=.slice ra rn rc∧Fresh w.heap.size []∧St w w' [rr ra rn rc 4 1 (l.map (Value.bool))] []) w):=by
 refine en func103 ntmps103 ?_
 have H:=(St.start w).arg hl
 have nhl:=qQ hl
 clear hl
 have N:=Fresh.nil w.heap.size
 refine zcr (sp yN (zjcc (sp (.slice al l.length cl) (sw (o_eqnil underlying28 al l.length cl rfl (zjn (xO (al.isNone) rfl (fun h1=>?_) (fun h1=>?_))))))))
 ·skip
  refine zcr (sp yN (zjr (t_r ?_)))
  replace H:=H.nilRowB 4
  refine ret1 yN rfl rfl ⟨_,rfl,?_,H.base⟩
  obtain rfl:=H.nilOf 0 rfl ‹_›
  exact ⟨none,0,0,rfl,N,H.pick [0] []⟩
 refine xw (t_n (zcr (sw (QN H underlying28 ti4 fun b2 w3 H=>sp (.slice al l.length cl) ?_))))
 replace H:=H.boxRowB 0 [] 0
 refine sw (o_appendFR H 0 rfl 0 rfl underlying28 ti4 rfl qj rfl rfl qp qf fun a4 c5 w6 us7 G8 H hG9=>?_)
 obtain ⟨_,rfl⟩:=reps_bools (H.get 0 rfl).1
 replace H:=H.sub _ fun f hf=>List.mem_cons_of_mem _ hf
 rw [catB] at H
 refine sp (.slice a4 (0+l.length) c5) (zjr (ret1 (.slice a4 (0+l.length) c5) rfl rfl ⟨_,rfl,(⟨a4,0+l.length,c5,rfl,N,H.pick [0] []⟩),H.base⟩))

theorem l02Own_ok (w:World) (t:qF) {qY:yOA} {x9:yLN} {xH:yOA} {zN:yLN} {qO:yOA} {xM:yLN} (ht:jd w bt ot (yT t qY qU xH xB qO qN)) (xY:qW.rep w x9 [.slice qY t.qC.length qU] t.qC) (zG:qW.rep w zN [.slice xH t.qK.length xB] t.qK) (xJ:qW.rep w xM [.slice qO t.qG.length qN] t.qG) (p0:t.qC.length≤1000000) (p1:t.qG.length≤1000000) (p2:t.qK.length≤1000000) (p3:∀ k,k < t.qK.length→(t.qK[k]!).length≤1000000):Calls Tryz.prog 55 #[pp bt ot] w (Ret (fun v w' =>∃ (raAlive:yOA) (rnAlive:Nat) (rcAlive:Nat) (raBags:yOA) (rnBags:Nat) (rcBags:Nat) (rxBags:List Value) (rFBags:yLN) (raAround:yOA) (rnAround:Nat) (rcAround:Nat),v=.agg #[.slice raAlive rnAlive rcAlive,.slice raBags rnBags rcBags,.slice raAround rnAround rcAround]∧Fresh w.heap.size [rFBags]∧St w w' [rr raAlive rnAlive rcAlive 4 1 (t.qC.map (Value.bool)),rr raBags rnBags rcBags 24 1 rxBags,rr raAround rnAround rcAround 2 1 (t.qG.map (Value.int .i64))] [xe true rFBags rxBags t.qK]) w):=by
 refine en func55 ntmps55 ?_
 have H:=((((St.start w).arg xJ).arg zG).arg xY).argAt ht
 have Qe:=qQ xY
 have QI:=qQ zG
 have yg:=qQ xJ
 clear ht xY zG xJ
 have N:=Fresh.nil w.heap.size
 refine zcr (sw (xu H ti31 [yN,yN,yN] fun b1 w2 H=>zjn (zn ?_)))
 refine c_cut (fun ρ w8=>∃ (zx:Env) (b3:Nat) (a4:yOA) (c5:Nat) (a6:yOA) (c7:Nat),ρ=upd (upd (upd zx 0 (pp bt ot)) 2 (pp b1 0)) 3 (pp b3 0)∧Fresh w.heap.size []∧St w w8 [.box b3 [.slice a4 (0+t.qC.length) c5,yN,.slice a6 t.qG.length c7] 31,rr a6 t.qG.length c7 2 1 (t.qG.map (Value.int .i64)),rr a4 (0+t.qC.length) c5 4 1 ((([]:List Bool)++t.qC).map (Value.bool)),.box b1 [yN,yN,yN] 31] [atF bt ot (yT t qY qU xH xB qO qN),sF false x9 qY qU t.qC,sF false zN xH xB t.qK,sF false xM qO qN t.qG]) ?_ ?_
 ·skip
  refine y9 rfl H fun H=>rtp 1 (pp bt ot) H ?_
  refine rtp 2 (pp bt ot) H ?_
  refine tF 3 rfl rfl H ?_
  refine tL 4 rfl rfl (fun _ h=>h.zg 0 rfl 0 rfl) H ?_
  refine rtp 6 (pp bt ot) H ?_
  refine rtp 7 (pp bt ot) H ?_
  refine tF 8 rfl rfl H ?_
  refine tL 9 rfl rfl (fun _ h=>h.zg 0 rfl 2 rfl) H ?_
  refine zI [0,12] qh qm (vk rfl ?_ (vk rfl ?_ zJ))
  ·skip
   refine QN H underlying28 ti4 fun b10 w11 H=>⟨H.pick [1] [0,1,2,3],(zI [5,12] qh qm (vk rfl ?_ (vk rfl ?_ zJ)))⟩
   ·skip
    replace H:=H.boxRowB 0 [] 0
    refine o_appendFR H 0 rfl 1 rfl underlying28 ti4 rfl qj rfl rfl qp qf fun a12 c13 w14 us15 G16 H hG17=>?_
    obtain ⟨_,rfl⟩:=reps_bools (H.get 0 rfl).1
    replace H:=H.sub _ fun f hf=>List.mem_cons_of_mem _ hf
    rw [catB] at H
    refine ⟨H.pick [1] [0,1,2,3],(zI [10,12] qh qm (vk rfl ?_ (vk rfl ?_ zJ)))⟩
    ·skip
     have sz18:=H.base.size
     refine oc (l00Own_ok _ t.qG (H.get 3 rfl).1 qg) ?_
     rintro v23 w21 r23 x22
     replace H:=H.zt x22 r23
     obtain ⟨a24,c25,rfl,hc26,hm27⟩:=H.jS 0 rfl
     refine ⟨H.pick [2] [0,1,2,3],(zI [11,12] qh qm (vk rfl ?_ (vk rfl ?_ zJ)))⟩
     ·skip
      refine xK [.slice a12 (0+t.qC.length) c13,yN,.slice a24 t.qG.length c25] [(0,.slice a12 (0+t.qC.length) c13),(2,.slice a24 t.qG.length c25)] (⟨H.pick [2] [0,1,2,3],(ro 12 rfl (xu H ti31 [yN,yN,yN] fun b28 w29 H=>⟨H.pick [3] [0,1,2,3],(ro 13 rfl (qV H 0 [.slice a12 (0+t.qC.length) c13,yN,.slice a24 t.qG.length c25] sizeOf31 fun w30 H=>⟨H.pick [3] [0,1,2,3],(xh qh ((meet ⟨_,b28,a12,c13,a24,c25,uE3,N,H⟩)))⟩))⟩))⟩)
     refine xu H ti31 [yN,yN,yN] fun b31 w32 H=>⟨H.pick [3] [0,1,2,3],(ro 11 rfl (xK [.slice a12 (0+t.qC.length) c13,yN,.slice a24 t.qG.length c25] [(0,.slice a12 (0+t.qC.length) c13),(2,.slice a24 t.qG.length c25)] (⟨H.pick [3] [0,1,2,3],(ro 13 rfl (qV H 0 [.slice a12 (0+t.qC.length) c13,yN,.slice a24 t.qG.length c25] sizeOf31 fun w33 H=>⟨H.pick [3] [0,1,2,3],(xh qh ((meet ⟨_,b31,a12,c13,a24,c25,uE3,N,H⟩)))⟩))⟩)))⟩
    refine xu H ti31 [yN,yN,yN] fun b34 w35 H=>⟨H.pick [2] [0,1,2,3],(ro 10 rfl ?_)⟩
    have sz36:=H.base.size
    refine oc (l00Own_ok _ t.qG (H.get 3 rfl).1 qg) ?_
    rintro v41 w39 r41 x40
    replace H:=H.zt x40 r41
    obtain ⟨a42,c43,rfl,hc44,hm45⟩:=H.jS 0 rfl
    refine ⟨H.pick [3] [0,1,2,3],(ro 11 rfl (xK [.slice a12 (0+t.qC.length) c13,yN,.slice a42 t.qG.length c43] [(0,.slice a12 (0+t.qC.length) c13),(2,.slice a42 t.qG.length c43)] (⟨H.pick [3] [0,1,2,3],(ro 13 rfl (qV H 1 [.slice a12 (0+t.qC.length) c13,yN,.slice a42 t.qG.length c43] sizeOf31 fun w46 H=>⟨H.pick [3] [0,1,2,3],(xh qh ((meet ⟨_,b34,a12,c13,a42,c43,uE3,N,H.pick [1,0,2,3] [0,1,2,3]⟩)))⟩))⟩)))⟩
   refine xu H ti31 [yN,yN,yN] fun b47 w48 H=>⟨H.pick [2] [0,1,2,3],(ro 5 rfl ?_)⟩
   replace H:=H.boxRowB 1 [] 0
   refine o_appendFR H 1 rfl 1 rfl underlying28 ti4 rfl qj rfl rfl qp qf fun a49 c50 w51 us52 G53 H hG54=>?_
   obtain ⟨_,rfl⟩:=reps_bools (H.get 0 rfl).1
   replace H:=H.sub _ fun f hf=>List.mem_cons_of_mem _ hf
   rw [catB] at H
   refine ⟨H.pick [2] [0,1,2,3],(ro 10 rfl ?_)⟩
   have sz55:=H.base.size
   refine oc (l00Own_ok _ t.qG (H.get 3 rfl).1 qg) ?_
   rintro v60 w58 r60 x59
   replace H:=H.zt x59 r60
   obtain ⟨a61,c62,rfl,hc63,hm64⟩:=H.jS 0 rfl
   refine ⟨H.pick [3] [0,1,2,3],(ro 11 rfl (xK [.slice a49 (0+t.qC.length) c50,yN,.slice a61 t.qG.length c62] [(0,.slice a49 (0+t.qC.length) c50),(2,.slice a61 t.qG.length c62)] (⟨H.pick [3] [0,1,2,3],(ro 13 rfl (qV H 1 [.slice a49 (0+t.qC.length) c50,yN,.slice a61 t.qG.length c62] sizeOf31 fun w65 H=>⟨H.pick [3] [0,1,2,3],(xh qh ((meet ⟨_,b47,a49,c50,a61,c62,uE3,N,H.pick [1,0,2,3] [0,1,2,3]⟩)))⟩))⟩)))⟩
  refine xu H ti31 [yN,yN,yN] fun b66 w67 H=>⟨H.pick [1] [0,1,2,3],(ro 0 rfl (QN H underlying28 ti4 fun b68 w69 H=>⟨H.pick [2] [0,1,2,3],(ro 5 rfl ?_)⟩))⟩
  replace H:=H.boxRowB 0 [] 0
  refine o_appendFR H 0 rfl 1 rfl underlying28 ti4 rfl qj rfl rfl qp qf fun a70 c71 w72 us73 G74 H hG75=>?_
  obtain ⟨_,rfl⟩:=reps_bools (H.get 0 rfl).1
  replace H:=H.sub _ fun f hf=>List.mem_cons_of_mem _ hf
  rw [catB] at H
  refine ⟨H.pick [2] [0,1,2,3],(ro 10 rfl ?_)⟩
  have sz76:=H.base.size
  refine oc (l00Own_ok _ t.qG (H.get 3 rfl).1 qg) ?_
  rintro v81 w79 r81 x80
  replace H:=H.zt x80 r81
  obtain ⟨a82,c83,rfl,hc84,hm85⟩:=H.jS 0 rfl
  refine ⟨H.pick [3] [0,1,2,3],(ro 11 rfl (xK [.slice a70 (0+t.qC.length) c71,yN,.slice a82 t.qG.length c83] [(0,.slice a70 (0+t.qC.length) c71),(2,.slice a82 t.qG.length c83)] (⟨H.pick [3] [0,1,2,3],(ro 13 rfl (qV H 2 [.slice a70 (0+t.qC.length) c71,yN,.slice a82 t.qG.length c83] sizeOf31 fun w86 H=>⟨H.pick [3] [0,1,2,3],(xh qh ((meet ⟨_,b66,a70,c71,a82,c83,uE3,N,H.pick [2,0,1,3] [0,1,2,3]⟩)))⟩))⟩)))⟩
 clear H N
 rintro ρ w87 ⟨zx,b3,a4,c5,a6,c7,rfl,N,H⟩
 refine t_n (zcc (sp (yI 0) (zjn (xq ?_))))
 replace H:=H.nilRow 24 1
 replace H:=H.Qz (α:=yLI)
 refine vJ (fun m' ρ w88=>∃ (zx:Env) (c:Nat) (jQ:yOA) (zT:Nat) (jP:Nat) (out_Bags:yLL) (zq:List Value) (xN:yLN),ρ=upd (upd (upd (upd zx 0 (pp bt ot)) 2 (pp b1 0)) 3 (pp b3 0)) 4 (yI c)∧out_Bags=t.qK.take c∧((c:Int)≤t.qK.length)∧m' =(t.qK.length - (c:Int)).toNat∧Fresh w.heap.size [xN]∧St w w88 [rr jQ zT jP 24 1 zq,.box b3 [.slice a4 (0+t.qC.length) c5,.slice jQ zT jP,.slice a6 t.qG.length c7] 31,rr a6 t.qG.length c7 2 1 (t.qG.map (Value.int .i64)),rr a4 (0+t.qC.length) c5 4 1 ((([]:List Bool)++t.qC).map (Value.bool)),.box b1 [yN,yN,yN] 31] [xe true xN zq out_Bags,atF bt ot (yT t qY qU xH xB qO qN),sF false x9 qY qU t.qC,sF false zN xH xB t.qK,sF false xM qO qN t.qG]) ((t.qK.length - (0:Int)).toNat) ⟨_,0,none,0,0,([]:yLL),[],[],uE4,(by rfl),qf,rfl,N.emp,H⟩ ?_
 clear H N
 rintro m' ρ w89 ⟨zx,c,jQ,zT,jP,out_Bags,zq,xN,rfl,rfl,i0,rfl,N,H⟩
 have XE:=H.zi (α:=yLI) 0 rfl 0 rfl qj
 have p4:=p3 c
 rw [List.length_take_of_le qf] at XE
 refine zcc (sps [yI c,pp bt ot,pp bt ot] (oF rfl (oL rfl (H.zg 1 rfl 1 rfl) (oN rfl (sp (.bool (decide ((c:Int) < t.qK.length))) (zjn (cD rfl (fun h90=>?_) (fun h90=>?_))))))))
 ·skip
  refine xw (t_n (zn (xq ?_)))
  obtain ⟨b91,o92,rfl⟩:=H.addr 3 rfl qf
  refine c_cut (fun ρ w102=>∃ (zx:Env) (a94:yOA) (c95:Nat) (a96:yOA) (c97:Nat) (G98:yLN) (F99:yLN) (a100:yOA) (c101:Nat),ρ=upd (upd (upd (upd zx 0 (pp bt ot)) 2 (pp b1 0)) 3 (pp b3 0)) 4 (yI c)∧Fresh w.heap.size [(xN++G98)]∧St w w102 [rr a94 (zT+1) c95 24 1 (zq++[.slice a96 ((t.qK[c]!).length) c97]),.box b3 [.slice a4 (0+t.qC.length) c5,.slice a94 (zT+1) c95,.slice a6 t.qG.length c7] 31,rr a6 t.qG.length c7 2 1 (t.qG.map (Value.int .i64)),rr a4 (0+t.qC.length) c5 4 1 ((([]:List Bool)++t.qC).map (Value.bool)),.box b1 [yN,yN,yN] 31] [xe true (xN++G98) (zq++[.slice a96 ((t.qK[c]!).length) c97]) ((t.qK.take c)++[(t.qK[c]!)]),sF true G98 a96 c97 (t.qK[c]!),sF false F99 a100 c101 (t.qK[c]!),atF b91 (o92+(c:Int).toNat * 1) [.slice a100 ((t.qK[c]!).length) c101],atF bt ot [.slice qY t.qC.length qU,.slice (aa b91 o92) t.qK.length xB,.slice qO t.qG.length qN],sF false x9 qY qU t.qC,sF false zN (aa b91 o92) xB t.qK,sF false xM qO qN t.qG]) ?_ ?_
  ·skip
   refine yU rfl H [2,3,4] fun H=>?_
   have S:=H.jA [2,3,4] [0,1,2,3,4]
   refine tF 0 rfl rfl S ?_
   refine rtp 2 (pp bt ot) S ?_
   refine rtp 3 (pp bt ot) S ?_
   refine tF 4 rfl rfl S ?_
   refine tL 5 rfl rfl (fun _ h=>h.zg 1 rfl 1 rfl) S ?_
   refine rtp 6 (yI c) S ?_
   obtain ⟨ae104,ce104,Fe104,H⟩:=H.Xa 3 rfl c c qf qf qf
   refine tI 7 rfl rfl rfl (H.pick [2,3,4] [2,3,4,5,6]) ?_
   refine zI [1,8] qh qm (vk rfl ?_ (vk rfl ?_ zJ))
   ·skip
    refine zk (.slice jQ zT jP) isAgg29 rfl (H.cell 1 rfl rfl) (⟨H.pick [2,3,4] [2,3,4,5,6],(ro 8 rfl (zk (.slice ae104 ((t.qK[c]!).length) ce104) isAgg24 rfl (H.zg 1 rfl 0 rfl) (⟨H.pick [2,3,4] [2,3,4,5,6],(ro 9 rfl ?_)⟩)))⟩)
    have sz105:=H.base.size
    have lt106:=H.ltN (L:=[xN]) [2]
    refine oc (l00Own_ok _ (t.qK[c]!) (H.get 0 rfl).1 qg) ?_
    rintro v110 w108 r110 x109
    replace H:=H.zt x109 r110
    obtain ⟨a111,c112,rfl,hc113,hm114⟩:=H.jS 0 rfl
    refine ⟨H.pick [3,4,5] [2,3,4,5,6],(ro 10 rfl (vz H underlying29 ti24 [.slice a111 ((t.qK[c]!).length) c112] fun b115 w116 H=>⟨H.pick [4,5,6] [2,3,4,5,6],(ro 11 rfl ?_)⟩))⟩
    obtain ⟨G120,N,hn121,H⟩:=H.zV 1 rfl N (H.yK [2])
    refine vM H 2 rfl 0 rfl underlying29 ti24 rfl qj rfl rfl rfl (by simp [Value.oneCell',Value.cells]) qp qf fun a117 c118 w119 H=>?_
    replace H:=H.Q9 3 rfl 0 rfl
    replace N:Fresh w.heap.size [(xN++G120)]:=(N.pick [1,0]).join
    refine ⟨H.pick [4,5,6] [4,5,6,7,8],(tF 12 rfl rfl (H.pick [4,5,6] [4,5,6,7,8]) ?_)⟩
    refine ro 13 rfl (zU H 3 [.slice a4 (0+t.qC.length) c5,.slice a117 (zT+1) c118,.slice a6 t.qG.length c7] sizeOf29 fun w122 H=>⟨H.pick [4,5,6] [4,5,6,7,8],(xh qh ((meet ⟨_,a117,c118,a111,c112,G120,Fe104,ae104,ce104,uE4,N,H.pick [2,3,4,5,6] [0,1,2,3,5,6,7,8]⟩)))⟩)
   refine zk (.slice ae104 ((t.qK[c]!).length) ce104) isAgg24 rfl (H.zg 1 rfl 0 rfl) (⟨H.pick [2,3,4] [2,3,4,5,6],(zI [1,9] qh qm (vk rfl ?_ (vk rfl ?_ zJ)))⟩)
   ·skip
    refine zk (.slice jQ zT jP) isAgg29 rfl (H.cell 1 rfl rfl) (⟨H.pick [2,3,4] [2,3,4,5,6],(ro 9 rfl ?_)⟩)
    have sz123:=H.base.size
    have lt124:=H.ltN (L:=[xN]) [2]
    refine oc (l00Own_ok _ (t.qK[c]!) (H.get 0 rfl).1 qg) ?_
    rintro v128 w126 r128 x127
    replace H:=H.zt x127 r128
    obtain ⟨a129,c130,rfl,hc131,hm132⟩:=H.jS 0 rfl
    refine ⟨H.pick [3,4,5] [2,3,4,5,6],(ro 10 rfl (vz H underlying29 ti24 [.slice a129 ((t.qK[c]!).length) c130] fun b133 w134 H=>⟨H.pick [4,5,6] [2,3,4,5,6],(ro 11 rfl ?_)⟩))⟩
    obtain ⟨G138,N,hn139,H⟩:=H.zV 1 rfl N (H.yK [2])
    refine vM H 2 rfl 0 rfl underlying29 ti24 rfl qj rfl rfl rfl (by simp [Value.oneCell',Value.cells]) qp qf fun a135 c136 w137 H=>?_
    replace H:=H.Q9 3 rfl 0 rfl
    replace N:Fresh w.heap.size [(xN++G138)]:=(N.pick [1,0]).join
    refine ⟨H.pick [4,5,6] [4,5,6,7,8],(tF 12 rfl rfl (H.pick [4,5,6] [4,5,6,7,8]) ?_)⟩
    refine ro 13 rfl (zU H 3 [.slice a4 (0+t.qC.length) c5,.slice a135 (zT+1) c136,.slice a6 t.qG.length c7] sizeOf29 fun w140 H=>⟨H.pick [4,5,6] [4,5,6,7,8],(xh qh ((meet ⟨_,a135,c136,a129,c130,G138,Fe104,ae104,ce104,uE4,N,H.pick [2,3,4,5,6] [0,1,2,3,5,6,7,8]⟩)))⟩)
   have sz141:=H.base.size
   have lt142:=H.ltN (L:=[xN]) [2]
   refine oc (l00Own_ok _ (t.qK[c]!) (H.get 0 rfl).1 qg) ?_
   rintro v146 w144 r146 x145
   replace H:=H.zt x145 r146
   obtain ⟨a147,c148,rfl,hc149,hm150⟩:=H.jS 0 rfl
   refine ⟨H.pick [3,4,5] [2,3,4,5,6],(zI [1,10] qh qm (vk rfl ?_ (vk rfl ?_ zJ)))⟩
   ·skip
    refine zk (.slice jQ zT jP) isAgg29 rfl (H.cell 2 rfl rfl) (⟨H.pick [3,4,5] [2,3,4,5,6],(ro 10 rfl (vz H underlying29 ti24 [.slice a147 ((t.qK[c]!).length) c148] fun b151 w152 H=>⟨H.pick [4,5,6] [2,3,4,5,6],(ro 11 rfl ?_)⟩))⟩)
    obtain ⟨G156,N,hn157,H⟩:=H.zV 1 rfl N (H.yK [2])
    refine vM H 2 rfl 0 rfl underlying29 ti24 rfl qj rfl rfl rfl (by simp [Value.oneCell',Value.cells]) qp qf fun a153 c154 w155 H=>?_
    replace H:=H.Q9 3 rfl 0 rfl
    replace N:Fresh w.heap.size [(xN++G156)]:=(N.pick [1,0]).join
    refine ⟨H.pick [4,5,6] [4,5,6,7,8],(tF 12 rfl rfl (H.pick [4,5,6] [4,5,6,7,8]) ?_)⟩
    refine ro 13 rfl (zU H 3 [.slice a4 (0+t.qC.length) c5,.slice a153 (zT+1) c154,.slice a6 t.qG.length c7] sizeOf29 fun w158 H=>⟨H.pick [4,5,6] [4,5,6,7,8],(xh qh ((meet ⟨_,a153,c154,a147,c148,G156,Fe104,ae104,ce104,uE4,N,H.pick [2,3,4,5,6] [0,1,2,3,5,6,7,8]⟩)))⟩)
   refine vz H underlying29 ti24 [.slice a147 ((t.qK[c]!).length) c148] fun b159 w160 H=>⟨H.pick [4,5,6] [2,3,4,5,6],(ro 1 rfl (zk (.slice jQ zT jP) isAgg29 rfl (H.cell 3 rfl rfl) (⟨H.pick [4,5,6] [2,3,4,5,6],(ro 11 rfl ?_)⟩)))⟩
   obtain ⟨G164,N,hn165,H⟩:=H.zV 1 rfl N (H.yK [2])
   refine vM H 2 rfl 0 rfl underlying29 ti24 rfl qj rfl rfl rfl (by simp [Value.oneCell',Value.cells]) qp qf fun a161 c162 w163 H=>?_
   replace H:=H.Q9 3 rfl 0 rfl
   replace N:Fresh w.heap.size [(xN++G164)]:=(N.pick [1,0]).join
   refine ⟨H.pick [4,5,6] [4,5,6,7,8],(tF 12 rfl rfl (H.pick [4,5,6] [4,5,6,7,8]) ?_)⟩
   refine ro 13 rfl (zU H 3 [.slice a4 (0+t.qC.length) c5,.slice a161 (zT+1) c162,.slice a6 t.qG.length c7] sizeOf29 fun w166 H=>⟨H.pick [4,5,6] [4,5,6,7,8],(xh qh ((meet ⟨_,a161,c162,a147,c148,G164,Fe104,ae104,ce104,uE4,N,H.pick [2,3,4,5,6] [0,1,2,3,5,6,7,8]⟩)))⟩)
  clear H N
  rintro ρ w167 ⟨zx,a94,c95,a96,c97,G98,F99,a100,c101,rfl,N,H⟩
  refine b_n (t_n (zl (sp (yI c) (sw (vg c 1 rfl rfl qf (sp (yI (c+1)) (zo (xn (m' :=(t.qK.length - ((c+1):Int)).toNat) qf ⟨_,c+1,a94,zT+1,c95,((t.qK.take c)++[(t.qK[c]!)]),zq++[.slice a96 ((t.qK[c]!).length) c97],(xN++G98),uE4,?_,?_,rfl,N,H.pick [0,1,2,3,4] [0,4,5,6,7]⟩))))))))
  · exact take_snoc qf
  · omega
 refine zx4 (zcr (sw (zu [.slice a4 (0+t.qC.length) c5,.slice jQ zT jP,.slice a6 t.qG.length c7] isAgg31 sizeOf31 rfl (qH (H.cells 1 rfl) 0 3) (sw (qV H 4 [.slice a4 (0+t.qC.length) c5,.slice jQ zT jP,.slice a6 t.qG.length c7] sizeOf31 fun w168 H=>zjr (retC H 4 rfl rfl isAgg31 sizeOf31 rfl ⟨_,rfl,?_,H.base⟩))))))
 obtain rfl:c=t.qK.length:=by omega
 rw [List.take_length] at H
 exact ⟨a4,0+t.qC.length,c5,jQ,zT,jP,zq,xN,a6,t.qG.length,c7,rfl,N,H.pick [3,0,2] [0]⟩
theorem isShell_ok (w:World) (s:qy) {qB:yOA} {qX:yLN} {qJ:yOA} {xG:yLN} (qP:qW.rep w qX [.slice qB s.qx.length qA] s.qx) (xx:qW.rep w xG [.slice qJ s.qw.length qI] s.qw):Calls Tryz.prog 121 #[.agg #[yI s.xk,.slice qB s.qx.length qA,.slice qJ s.qw.length qI]] w (Ret (fun v w' =>v=.bool (dec (ji s))) w):=by
 refine en func121 ntmps121 ?_
 have H:=((St.start w).arg xx).arg qP
 have zS:=qQ qP
 have jv:=qQ xx
 clear qP xx
 have N:=Fresh.nil w.heap.size
 refine zcr (sw (jT H (yS s qB qA qJ qI) fun b1 w2 H=>sp (.bool false) (zjcc (oF rfl (oL rfl (H.cell 0 rfl rfl) (sw (oq (XH w2 s.xk 1 8) H fun w3 H=>sps [.bool (!(inR s.xk 1 8)),.bool (!(inR s.xk 1 8))] ?_)))))))
 cases h5:(!(inR s.xk 1 8))
 ·skip
  replace h5:=xm h5
  replace h5:=Qp.1 h5
  refine qL 9 rfl rfl (oF rfl (qL 9 rfl rfl (oL rfl (H.cell 0 rfl rfl) (qL 9 rfl rfl (sw (oq (sizeI_ok _ s.qx (H.get 0 rfl).1) H fun w6 H=>qL 9 rfl rfl (sw (oq (XH w6 (s.qx.length:Int) 1 6) H fun w8 H=>qL 9 rfl rfl (sps [.bool (!(inR (s.qx.length:Int) 1 6)),.bool (!(inR (s.qx.length:Int) 1 6)),.bool (!(inR (s.qx.length:Int) 1 6))] ?_)))))))))
  cases h10:(!(inR (s.qx.length:Int) 1 6))
  ·skip
   replace h10:=xm h10
   replace h10:=Qp.1 h10
   refine qL 16 rfl rfl (oF rfl (qL 16 rfl rfl (oL rfl (H.cell 0 rfl rfl) (qL 16 rfl rfl ?_))))
   obtain ⟨b11,o12,rfl⟩:=H.addr 0 rfl qf
   refine oI rfl rfl (qL 16 rfl rfl (oL rfl (H.jZ 0 rfl 0 qf qf) (qL 16 rfl rfl (sps [.bool ((s.qx[0]! :Int) != (-1)),.bool ((s.qx[0]! :Int) != (-1))] (zjn (xO ((s.qx[0]! :Int) != (-1)) rfl (fun h14=>?_) (fun h14=>?_)))))))
   ·skip
    replace h14:=bne_iff_ne.1 h14
    refine zcr (sp (.bool false) (zjr (t_r (ret1 (.bool false) rfl rfl ⟨_,rfl,?_,H.base⟩))))
    rw [xg (fun h=>by obtain ⟨h1,h2,h3,h4⟩:=h;first | omega | (have:=h4 (c+1) qf qf;rw [← dg qf] at this;omega))]
   replace h14:=vW h14
   refine xw (t_n (zcc (oF rfl (oL rfl (H.cell 0 rfl rfl) (sw (o_tail H 0 rfl 1 underlying24 ti2 rfl qf fun a15 G16 hG17 H=>?_))))))
   have hl18:(s.qx.drop 1).length=s.qx.length - 1:=List.length_drop
   refine oN rfl (sp (yI 0) (zjn (xq ?_)))
   refine vJ (fun m' ρ w19=>∃ (zx:Env) (c:Nat),ρ=upd (upd (upd zx 25 (.slice a15 ((s.qx.drop 1).length) (qA - 1))) 26 (yI ((s.qx.drop 1).length))) 27 (yI c)∧((c:Int)≤((s.qx.drop 1).length))∧(FrameTo s (c+1))∧m' =(((s.qx.drop 1).length) - (c:Int)).toNat∧Fresh w.heap.size []∧St w w19 [.box b1 [yI s.xk,.slice (aa b11 o12) s.qx.length qA,.slice qJ s.qw.length qI] 27] [sF false G16 a15 (qA - 1) (s.qx.drop 1),sF false qX (aa b11 o12) qA s.qx,sF false xG qJ qI s.qw]) ((((s.qx.drop 1).length) - (0:Int)).toNat) ⟨_,0,uE3,qf,(by exact FrameTo.one s),rfl,N,H⟩ ?_
   clear H N
   rintro m' ρ w20 ⟨zx,c,rfl,i0,i1,rfl,N,H⟩
   have dg:=drop_get (l:=s.qx) (k:=c)
   refine zcr (sp (.bool (decide ((c:Int) < ((s.qx.drop 1).length)))) (zjn (zn (cD rfl (fun h21=>?_) (fun h21=>?_)))))
   ·skip
    refine xw (t_n (zn (xq (zcr (sp (yI c) ?_)))))
    obtain ⟨b22,o23,rfl⟩:=H.addr 0 rfl qf
    refine oI rfl rfl (oL rfl (H.jZ 0 rfl c qf qf) (sps [yI c,yI ((s.qx.drop 1)[c]!)] (zjc (sps [yI ((s.qx.drop 1)[c]!),yI c] (sw (oq (XH w20 ((s.qx.drop 1)[c]!) 0 c) H fun w25 H=>sp (.bool (!(inR ((s.qx.drop 1)[c]!) 0 c))) (zjn (xO (!(inR ((s.qx.drop 1)[c]!) 0 c)) rfl (fun h27=>?_) (fun h27=>?_)))))))))
    ·skip
     replace h27:=xy h27
     replace h27:=QS h27
     refine zcr (sp (.bool false) (zjr (zr5 (ret1 (.bool false) rfl rfl ⟨_,rfl,?_,H.base⟩))))
     rw [xg (fun h=>by obtain ⟨h1,h2,h3,h4⟩:=h;first | omega | (have:=h4 (c+1) qf qf;rw [← dg qf] at this;omega))]
    replace h27:=xm h27
    replace h27:=Qp.1 h27
    refine xw (b_n (t_n (zl (sw (vg c 1 rfl rfl qf (sp (yI (c+1)) (zo (xn (m' :=(((s.qx.drop 1).length) - ((c+1):Int)).toNat) qf ⟨_,c+1,uE3,?_,?_,rfl,N,H⟩))))))))
    · omega
    · exact i1.succ (by rw [← dg qf];omega)
   refine zx4 (zcr (sp (.bool true) (zjr (ret1 (.bool true) rfl rfl ⟨_,rfl,?_,H.base⟩))))
   rw [yP ⟨by omega,by omega,by omega,(show s.qx.length=c+1 by omega)▸i1⟩]
  replace h10:=xy h10
  replace h10:=QS h10
  refine xR [17,18,19,20,21] (sp (.bool true) (zjn (xO true rfl (fun _=>zcr (sp (.bool false) (zjr (t_r (ret1 (.bool false) rfl rfl ⟨_,rfl,?_,H.base⟩))))) (fun h=>absurd h qj))))
  rw [xg (fun h=>by obtain ⟨h1,h2,h3,h4⟩:=h;first | omega | (have:=h4 (c+1) qf qf;rw [← dg qf] at this;omega))]
 replace h5:=xy h5
 replace h5:=QS h5
 refine xR [10,11,12,13,14] (sps [.bool true,.bool true] (xR [17,18,19,20,21] (sp (.bool true) (zjn (xO true rfl (fun _=>zcr (sp (.bool false) (zjr (t_r (ret1 (.bool false) rfl rfl ⟨_,rfl,?_,H.base⟩))))) (fun h=>absurd h qj))))))
 rw [xg (fun h=>by obtain ⟨h1,h2,h3,h4⟩:=h;first | omega | (have:=h4 (c+1) qf qf;rw [← dg qf] at this;omega))]

theorem isCell_ok (w:World) (s:qy) (c:Int) {qB:yOA} {qX:yLN} {qJ:yOA} {xG:yLN} (qP:qW.rep w qX [.slice qB s.qx.length qA] s.qx) (xx:qW.rep w xG [.slice qJ s.qw.length qI] s.qw):Calls Tryz.prog 62 #[.agg #[yI s.xk,.slice qB s.qx.length qA,.slice qJ s.qw.length qI],yI c] w (Ret (fun v w' =>v=.bool (inR c 0 ((s.qx.length:Int) - 1))) w):=by
 refine en func62 ntmps62 ?_
 have H:=((St.start w).arg xx).arg qP
 have zS:=qQ qP
 have jv:=qQ xx
 clear qP xx
 have N:=Fresh.nil w.heap.size
 refine zcr (sw (jT H (yS s qB qA qJ qI) fun b1 w2 H=>sp (.bool false) (zjc (sp (yI c) (oF rfl (oL rfl (H.cell 0 rfl rfl) (sw (oq (sizeI_ok _ s.qx (H.get 0 rfl).1) H fun w3 H=>sw (o_sub (s.qx.length:Int) 1 rfl rfl qf (sw (oq (XH w3 c 0 ((s.qx.length:Int) - 1)) H fun w5 H=>sp (.bool (inR c 0 ((s.qx.length:Int) - 1))) (zjr (ret1 (.bool (inR c 0 ((s.qx.length:Int) - 1))) rfl rfl ⟨_,rfl,?_,H.base⟩)))))))))))))
 rfl

theorem lies_ok (w:World) (s:qy) (c:Int) (within:Int) {qB:yOA} {qX:yLN} {qJ:yOA} {xG:yLN} (qP:qW.rep w qX [.slice qB s.qx.length qA] s.qx) (xx:qW.rep w xG [.slice qJ s.qw.length qI] s.qw) (p0:ji s) (p1:Q4 s c):Calls Tryz.prog 178 #[.agg #[yI s.xk,.slice qB s.qx.length qA,.slice qJ s.qw.length qI],yI c,yI within] w (Ret (fun v w' =>v=.bool (dec (Lies s.qx within c))) w):=by
 refine en func178 ntmps178 ?_
 have H:=((St.start w).arg xx).arg qP
 have zS:=qQ qP
 have jv:=qQ xx
 clear qP xx
 have N:=Fresh.nil w.heap.size
 have p2:=p0.step p1.1 p1.2
 refine zcr (sw (jT H (yS s qB qA qJ qI) fun b1 w2 H=>sp (.bool false) (zjcc (oF rfl (oL rfl (H.cell 0 rfl rfl) (sp (yI c) ?_))))))
 obtain ⟨b3,o4,rfl⟩:=H.addr 0 rfl qf
 refine oI rfl rfl (oL rfl (H.jZ 0 rfl c qf qf) (sp (yI (s.qx[c.toNat]!)) (zjn (xq ?_))))
 refine vJ (fun m' ρ w6=>∃ (zx:Env) (c_1:Int),ρ=upd (upd (upd zx 1 (yI c_1)) 2 (yI within)) 3 (pp b1 0)∧(-1≤c_1∧c_1≤(s.qx.length:Int) - 1)∧(Lies s.qx within c↔0≤c_1∧(c_1=within∨Lies s.qx within c_1))∧m' =(c_1+1).toNat∧Fresh w.heap.size []∧St w w6 [.box b1 [yI s.xk,.slice (aa b3 o4) s.qx.length qA,.slice qJ s.qw.length qI] 27] [sF false qX (aa b3 o4) qA s.qx,sF false xG qJ qI s.qw]) (((s.qx[c.toNat]!)+1).toNat) ⟨_,s.qx[c.toNat]!,uE3,qf,(by exact lies_up p0 p1),rfl,N,H⟩ ?_
 clear H N
 rintro m' ρ w7 ⟨zx,c_1,rfl,i0,i1,rfl,N,H⟩
 have up:=fun h=>p0.step (c:=c_1) h i0.2
 refine zcc (sps [yI c_1,.bool (decide ((c_1:Int)≥0))] (zjn (cD rfl (fun h8=>?_) (fun h8=>?_))))
 ·skip
  refine xw (t_n (zn (xq (zcr (sps [yI c_1,yI within,.bool ((c_1:Int) == within)] (zjn (cE rfl (fun h9=>?_) (fun h9=>?_))))))))
  ·skip
   refine zcr (sp (.bool true) (zjr (zr5 (ret1 (.bool true) rfl rfl ⟨_,rfl,?_,H.base⟩))))
   rw [yP (i1.2 ⟨by omega,.inl ‹_›⟩)]
  refine xw (b_n (t_n (zl (oF rfl (oL rfl (H.cell 0 rfl rfl) (sp (yI c_1) (oI rfl rfl (oL rfl (H.jZ 0 rfl c_1 qf qf) (sp (yI (s.qx[c_1.toNat]!)) (zo ?_))))))))))
  have up1:=up qf
  refine xn (m' :=((s.qx[c_1.toNat]!)+1).toNat) qf ⟨_,s.qx[c_1.toNat]!,uE3,?_,?_,rfl,N,H⟩
  · omega
  · exact i1.trans ⟨fun h=>(lies_up p0 ⟨by omega,by omega⟩).1 (h.2.resolve_left ‹_›),fun h=>⟨by omega,.inr ((lies_up p0 ⟨by omega,by omega⟩).2 h)⟩⟩
 refine zx4 (zcr (sp (.bool false) (zjr (ret1 (.bool false) rfl rfl ⟨_,rfl,?_,H.base⟩))))
 rw [xg (fun h=>by have:=(i1.1 h).1;omega)]

theorem isRule_ok (w:World) (s:qy) (r:jg) {qB:yOA} {qX:yLN} {qJ:yOA} {xG:yLN} {yx:yOA} {Xz:yLN} {yB:yOA} {XC:yLN} {yz:yOA} {XA:yLN} {yA:yOA} {XB:yLN} {QL:yOA} {FrOut:yLN} {jV:yOA} {FrInto:yLN} (qP:qW.rep w qX [.slice qB s.qx.length qA] s.qx) (xx:qW.rep w xG [.slice qJ s.qw.length qI] s.qw) (hrNeed:qW.rep w Xz [.slice yx r.xC.length yl] r.xC) (hrHave:qW.rep w XC [.slice yB r.x8.length yw] r.x8) (hrLack:qW.rep w XA [.slice yz r.xZ.length yt] r.xZ) (hrHere:qW.rep w XB [.slice yA r.zf.length yu] r.zf) (hrOut:qW.rep w FrOut [.slice QL r.jb.length QK] r.jb) (hrInto:qW.rep w FrInto [.slice jV r.qM.length jU] r.qM) (p0:ji s):Calls Tryz.prog 122 #[.agg #[yI s.xk,.slice qB s.qx.length qA,.slice qJ s.qw.length qI],.agg #[yI r.qE,yI r.vw,.slice yx r.xC.length yl,.slice yB r.x8.length yw,.slice yz r.xZ.length yt,.slice yA r.zf.length yu,.slice QL r.jb.length QK,.slice jV r.qM.length jU,.bool r.zD]] w (Ret (fun v w' =>v=.bool (dec (RuleOk s r))) w):=by
 refine en func122 ntmps122 ?_
 have H:=((((((((St.start w).arg hrInto).arg hrOut).arg hrHere).arg hrLack).arg hrHave).arg hrNeed).arg xx).arg qP
 have zS:=qQ qP
 have jv:=qQ xx
 have nhrNeed:=qQ hrNeed
 have nhrHave:=qQ hrHave
 have nhrLack:=qQ hrLack
 have nhrHere:=qQ hrHere
 have nhrOut:=qQ hrOut
 have nhrInto:=qQ hrInto
 clear qP xx hrNeed hrHave hrLack hrHere hrOut hrInto
 have N:=Fresh.nil w.heap.size
 refine zcr (sw (jT H (yS s qB qA qJ qI) fun b1 w2 H=>sw (jT H [yI r.qE,yI r.vw,.slice yx r.xC.length yl,.slice yB r.x8.length yw,.slice yz r.xZ.length yt,.slice yA r.zf.length yu,.slice QL r.jb.length QK,.slice jV r.qM.length jU,.bool r.zD] fun b3 w4 H=>sp (.bool false) (zjcc ?_))))
 refine sw (zu (yS s qB qA qJ qI) isAgg27 sizeOf27 rfl (qH (H.cells 1 rfl) 0 3) (oF rfl (oL rfl (H.cell 0 rfl rfl) (sw (oq (isCell_ok _ s r.qE (H.get 0 rfl).1 (H.get 1 rfl).1) H fun w6 H=>sps [.bool (!(inR r.qE 0 ((s.qx.length:Int) - 1))),.bool (!(inR r.qE 0 ((s.qx.length:Int) - 1)))] ?_)))))
 cases h8:(!(inR r.qE 0 ((s.qx.length:Int) - 1)))
 ·skip
  replace h8:=xm h8
  replace h8:=Qp.1 h8
  refine qL 14 rfl rfl (oF rfl (qL 14 rfl rfl (oL rfl (H.cell 0 rfl rfl) (qL 14 rfl rfl (sw (oq (XH w6 r.vw 0 9) H fun w9 H=>qL 14 rfl rfl (sps [.bool (!(inR r.vw 0 9)),.bool (!(inR r.vw 0 9)),.bool (!(inR r.vw 0 9))] ?_)))))))
  cases h11:(!(inR r.vw 0 9))
  ·skip
   replace h11:=xm h11
   replace h11:=Qp.1 h11
   refine qL 20 rfl rfl (oF rfl (qL 20 rfl rfl (oL rfl (H.cell 0 rfl rfl) (qL 20 rfl rfl (sp (.bool r.zD) ?_)))))
   cases h12:(r.zD)
   ·skip
    rw [h12] at H
    refine xR [24,25,26] (qL 20 rfl rfl (sps [.bool false,.bool false,.bool false] (qL 29 rfl rfl (oF rfl (qL 29 rfl rfl (oL rfl (H.cell 0 rfl rfl) (qL 29 rfl rfl (oN rfl (qL 29 rfl rfl (sps [.bool (decide ((r.qM.length:Int) > 3)),.bool (decide ((r.qM.length:Int) > 3))] (zjn (cD rfl (fun h13=>?_) (fun h13=>?_)))))))))))))
    ·skip
     refine zcr (sp (.bool false) (zjr (t_r (ret1 (.bool false) rfl rfl ⟨_,rfl,?_,H.base⟩))))
     rw [xg (fun h=>by obtain ⟨h1,h2,h3,h4,h5,h6,h7,h8,h9,h10,h11⟩:=h;first | contradiction | omega | exact h3 ⟨‹_›,‹_›⟩ | (obtain ⟨q1,q2,q3,q4,q5⟩:=h11 i qf;first | contradiction | omega | (have:=q5 qf;omega)) | (refine absurd ?_ ‹¬ zQ _ _›;rcases (show k=0∨k=1∨k=2∨k=3∨k=4 by omega) with e | e | e | e | e <;> subst e <;> assumption))]
    refine xw (t_n (zcc (oF rfl (oL rfl (H.cell 0 rfl rfl) (oF rfl (oL rfl (H.cell 0 rfl rfl) (oF rfl (oL rfl (H.cell 0 rfl rfl) (oF rfl (oL rfl (H.cell 0 rfl rfl) (oF rfl (oL rfl (H.cell 0 rfl rfl) (sw (o_buildF H underlying29 ti24 [.slice yx r.xC.length yl,.slice yB r.x8.length yw,.slice yz r.xZ.length yt,.slice yA r.zf.length yu,.slice QL r.jb.length QK] rfl (by simp [Value.cells]) rfl qj qj fun b14 w15 H=>oN rfl (sp (yI 0) (zjn (xq ?_)))))))))))))))))
    replace H:=H.boxRow 0 rfl 1 5 rfl qj
    replace H:=H.Qz (α:=yLI)
    replace H:=H.repsCons false 7 rfl 0 rfl qm
    replace H:=H.repsCons false 7 rfl 0 rfl qm
    replace H:=H.repsCons false 7 rfl 0 rfl qm
    replace H:=H.repsCons false 7 rfl 0 rfl qm
    replace H:=H.repsCons false 7 rfl 0 rfl qm
    refine vJ (fun m' ρ w16=>∃ (zx:Env) (k:Nat),ρ=upd (upd (upd (upd (upd zx 2 (pp b1 0)) 3 (pp b3 0)) 45 (.slice (aa b14 0) 5 5)) 46 (yI 5)) 47 (yI k)∧((k:Int)≤5)∧(∀ j,j < k→zQ s.xk ([r.xC,r.x8,r.xZ,r.zf,r.jb][j]!))∧m' =(5 - (k:Int)).toNat∧Fresh w.heap.size []∧St w w16 [rr (aa b14 0) 5 5 24 1 [.slice yx r.xC.length yl,.slice yB r.x8.length yw,.slice yz r.xZ.length yt,.slice yA r.zf.length yu,.slice QL r.jb.length QK],.box b3 [yI r.qE,yI r.vw,.slice yx r.xC.length yl,.slice yB r.x8.length yw,.slice yz r.xZ.length yt,.slice yA r.zf.length yu,.slice QL r.jb.length QK,.slice jV r.qM.length jU,.bool false] 56,.box b1 (yS s qB qA qJ qI) 27] [xe false (Xz++(XC++(XA++(XB++(FrOut++[]))))) [.slice yx r.xC.length yl,.slice yB r.x8.length yw,.slice yz r.xZ.length yt,.slice yA r.zf.length yu,.slice QL r.jb.length QK] [r.xC,r.x8,r.xZ,r.zf,r.jb],sF false qX qB qA s.qx,sF false xG qJ qI s.qw,sF false Xz yx yl r.xC,sF false XC yB yw r.x8,sF false XA yz yt r.xZ,sF false XB yA yu r.zf,sF false FrOut QL QK r.jb,sF false FrInto jV jU r.qM]) ((5 - (0:Int)).toNat) ⟨_,0,uE5,qf,(by intro j hj;omega),rfl,N,H.pick [0,1,2] [0,6,7,8,9,10,11,12,13]⟩ ?_
    clear H N
    rintro m' ρ w17 ⟨zx,k,rfl,i0,i1,rfl,N,H⟩
    refine zcr (sp (.bool (decide ((k:Int) < 5))) (zjn (zn (cD rfl (fun h18=>?_) (fun h18=>?_)))))
    ·skip
     refine xw (t_n (zn (xq (zcr (oI rfl rfl ?_)))))
     obtain ⟨a19,c20,G21,s22,h23,H⟩:=H.jI 0 rfl 0 rfl (iv:=k) k qf qf
     refine oL rfl (h23) (sp (.slice a19 (([r.xC,r.x8,r.xZ,r.zf,r.jb][k]!).length) c20) (zjc (oF rfl (oL rfl (H.cell 2 rfl rfl) (sp (.slice a19 (([r.xC,r.x8,r.xZ,r.zf,r.jb][k]!).length) c20) (sw (oq (validBag_ok _ s.xk ([r.xC,r.x8,r.xZ,r.zf,r.jb][k]!) (H.get 0 rfl).1) H fun w24 H=>sp (.bool (!(dec (zQ s.xk ([r.xC,r.x8,r.xZ,r.zf,r.jb][k]!))))) (zjn (cQ rfl (fun h26=>?_) (fun h26=>?_))))))))))
     ·skip
      refine zcr (sp (.bool false) (zjr (zr5 (ret1 (.bool false) rfl rfl ⟨_,rfl,?_,H.base⟩))))
      rw [xg (fun h=>by obtain ⟨h1,h2,h3,h4,h5,h6,h7,h8,h9,h10,h11⟩:=h;first | contradiction | omega | exact h3 ⟨‹_›,‹_›⟩ | (obtain ⟨q1,q2,q3,q4,q5⟩:=h11 i qf;first | contradiction | omega | (have:=q5 qf;omega)) | (refine absurd ?_ ‹¬ zQ _ _›;rcases (show k=0∨k=1∨k=2∨k=3∨k=4 by omega) with e | e | e | e | e <;> subst e <;> assumption))]
     refine xw (b_n (t_n (zl (sw (vg k 1 rfl rfl qf (sp (yI (k+1)) (zo (xn (m' :=(5 - ((k+1):Int)).toNat) qf ⟨_,k+1,uE5,?_,?_,rfl,N,H.pick [0,1,2] [1,2,3,4,5,6,7,8,9]⟩))))))))
     · omega
     · intro j hj;by_cases e:j=k;(subst e;assumption);exact i1 j qf
    refine zx4 (zcc (oF rfl (oL rfl (H.cell 1 rfl rfl) (oN rfl (sp (yI 0) (zjn (xq ?_)))))))
    have n1:zQ s.xk r.xC:=i1 0 qf
    have n2:zQ s.xk r.x8:=i1 1 qf
    have n3:zQ s.xk r.xZ:=i1 2 qf
    have n4:zQ s.xk r.zf:=i1 3 qf
    have n5:zQ s.xk r.jb:=i1 4 qf
    refine vJ (fun m' ρ w27=>∃ (zx:Env) (i:Nat),ρ=upd (upd (upd (upd (upd zx 2 (pp b1 0)) 3 (pp b3 0)) 58 (.slice jV r.qM.length jU)) 59 (yI r.qM.length)) 60 (yI i)∧((i:Int)≤r.qM.length)∧(IntosTo s r i)∧m' =(r.qM.length - (i:Int)).toNat∧Fresh w.heap.size []∧St w w27 [rr (aa b14 0) 5 5 24 1 [.slice yx r.xC.length yl,.slice yB r.x8.length yw,.slice yz r.xZ.length yt,.slice yA r.zf.length yu,.slice QL r.jb.length QK],.box b3 [yI r.qE,yI r.vw,.slice yx r.xC.length yl,.slice yB r.x8.length yw,.slice yz r.xZ.length yt,.slice yA r.zf.length yu,.slice QL r.jb.length QK,.slice jV r.qM.length jU,.bool false] 56,.box b1 (yS s qB qA qJ qI) 27] [xe false (Xz++(XC++(XA++(XB++(FrOut++[]))))) [.slice yx r.xC.length yl,.slice yB r.x8.length yw,.slice yz r.xZ.length yt,.slice yA r.zf.length yu,.slice QL r.jb.length QK] [r.xC,r.x8,r.xZ,r.zf,r.jb],sF false qX qB qA s.qx,sF false xG qJ qI s.qw,sF false Xz yx yl r.xC,sF false XC yB yw r.x8,sF false XA yz yt r.xZ,sF false XB yA yu r.zf,sF false FrOut QL QK r.jb,sF false FrInto jV jU r.qM]) ((r.qM.length - (0:Int)).toNat) ⟨_,0,uE5,qf,(by exact fun j hj=>by omega),rfl,N,H⟩ ?_
    clear H N
    rintro m' ρ w28 ⟨zx,i,rfl,i0,i2,rfl,N,H⟩
    refine zcr (sp (.bool (decide ((i:Int) < r.qM.length))) (zjn (zn (cD rfl (fun h29=>?_) (fun h29=>?_)))))
    ·skip
     refine xw (t_n (zn (xq (zcr (sp (yI i) ?_)))))
     obtain ⟨b30,o31,rfl⟩:=H.addr 8 rfl qf
     obtain ⟨ae33Bag,ce33Bag,Fe33Bag,H⟩:=H.yY 8 rfl i i qf qf qf
     refine oI rfl rfl (sw (zu [yI ((r.qM[i]!).qE),.slice ae33Bag (((r.qM[i]!).QC).length) ce33Bag] isAgg142 sizeOf142 rfl (qH (H.get 1 rfl) 0 2) (sw (xu H ti142 [yI 0,yN] fun b34 w35 H=>sp (yI i) (sw (qV H 0 [yI ((r.qM[i]!).qE),.slice ae33Bag (((r.qM[i]!).QC).length) ce33Bag] sizeOf142 fun w36 H=>zjn (zn ?_)))))))
     refine y9 rfl H fun H=>rt 0 (.agg #[yI s.xk,.slice qB s.qx.length qA,.slice qJ s.qw.length qI]) (Qn (cs:=(yS s qB qA qJ qI)) isAgg27 sizeOf27 rfl (fun _ h=>qH (h.cells 3 rfl) 0 3)) H ?_
     refine tF 1 rfl rfl H ?_
     refine tL 2 rfl rfl (fun _ h=>h.cell 0 rfl rfl) H ?_
     refine ro 3 rfl (oq (isCell_ok _ s ((r.qM[i]!).qE) (H.get 3 rfl).1 (H.get 4 rfl).1) H fun w39 H=>⟨H,(rtp 4 (.bool (!(inR ((r.qM[i]!).qE) 0 ((s.qx.length:Int) - 1)))) H ?_)⟩)
     refine rtp 5 (.bool (!(inR ((r.qM[i]!).qE) 0 ((s.qx.length:Int) - 1)))) H ?_
     cases h41:(!(inR ((r.qM[i]!).qE) 0 ((s.qx.length:Int) - 1)))
     ·skip
      replace h41:=xm h41
      replace h41:=Qp.1 h41
      refine rg 6 (.agg #[yI s.xk,.slice qB s.qx.length qA,.slice qJ s.qw.length qI]) 70 (Qn (cs:=(yS s qB qA qJ qI)) isAgg27 sizeOf27 rfl (fun _ h=>qH (h.cells 3 rfl) 0 3)) H ?_
      refine gF 7 rfl rfl H ?_
      refine gL 8 rfl rfl (fun _ h=>h.cell 0 rfl rfl) H ?_
      refine gF 9 rfl rfl H ?_
      refine gL 10 rfl rfl (fun _ h=>h.cell 2 rfl rfl) H ?_
      refine zI [11] qh qm (r_opG rfl (e:=70) rfl rfl (oq (lies_ok _ s ((r.qM[i]!).qE) r.qE (H.get 3 rfl).1 (H.get 4 rfl).1 qg qg) H fun w43 H=>⟨H,(rgp 12 (.bool (!(dec (Lies s.qx r.qE ((r.qM[i]!).qE))))) 70 H ?_)⟩) zJ)
      refine rtp 13 (.bool (!(dec (Lies s.qx r.qE ((r.qM[i]!).qE))))) H ?_
      refine rtp 14 (.bool (!(dec (Lies s.qx r.qE ((r.qM[i]!).qE))))) H ?_
      cases h45:(!(dec (Lies s.qx r.qE ((r.qM[i]!).qE))))
      ·skip
       replace h45:=xm h45
       replace h45:=y5 h45
       refine gF 15 rfl rfl H ?_
       refine gL 16 rfl rfl (fun _ h=>h.cell 3 rfl rfl) H ?_
       refine gF 17 rfl rfl H ?_
       refine gL 18 rfl rfl (fun _ h=>h.cell 0 rfl rfl) H ?_
       refine zI [19] qh qm (r_opG rfl (e:=79) rfl rfl (oq (validBag_ok _ s.xk ((r.qM[i]!).QC) (H.get 0 rfl).1) H fun w46 H=>⟨H,(rgp 20 (.bool (!(dec (zQ s.xk ((r.qM[i]!).QC))))) 79 H ?_)⟩) zJ)
       refine rtp 21 (.bool (!(dec (zQ s.xk ((r.qM[i]!).QC))))) H ?_
       refine rtp 22 (.bool (!(dec (zQ s.xk ((r.qM[i]!).QC))))) H ?_
       cases h48:(!(dec (zQ s.xk ((r.qM[i]!).QC))))
       ·skip
        replace h48:=xm h48
        replace h48:=y5 h48
        refine gF 23 rfl rfl H ?_
        refine gL 24 rfl rfl (fun _ h=>h.cell 0 rfl rfl) H ?_
        refine zI [25] qh qm (r_opG rfl (e:=87) rfl rfl ?_ zJ)
        have sm:Small ((r.qM[i]!).QC):=jf (by first | assumption | exact i1 0 qf)
        refine oq (bagSize_ok _ ((r.qM[i]!).QC) (H.get 0 rfl).1 (by first | assumption | exact jf ql | exact QF ql)) H fun w49 H=>⟨H,(rgp 26 (.bool ((sumL ((r.qM[i]!).QC):Int) == 0)) 87 H ?_)⟩
        refine rtp 27 (.bool ((sumL ((r.qM[i]!).QC):Int) == 0)) H ?_
        refine rtp 28 (.bool ((sumL ((r.qM[i]!).QC):Int) == 0)) H ?_
        cases h51:((sumL ((r.qM[i]!).QC):Int) == 0)
        ·skip
         replace h51:=ne_of_beq_false h51
         refine rgp 29 (yI i) 93 H ?_
         refine rgp 30 (.bool (decide ((i:Int) > 0))) 93 H ?_
         refine rgp 31 (.bool (decide ((i:Int) > 0))) 93 H ?_
         cases h52:(decide ((i:Int) > 0))
         ·skip
          replace h52:=of_decide_eq_false h52
          refine zH [32,33,34,35,36,37,38,39,40,41] 10 (H) (rgp 42 (.bool false) 93 H ?_)
          refine rtp 43 (.bool false) H ?_
          refine xh qh (t_n (xO false rfl (fun h=>absurd h qj) (fun _=>xw (b_n (t_n (zl (sw (vg i 1 rfl rfl qf (sp (yI (i+1)) (zo (xn (m' :=(r.qM.length - ((i+1):Int)).toNat) qf ⟨_,i+1,uE5,?_,?_,rfl,N,H.pick [1,2,3] [2,3,4,5,6,7,8,9,10]⟩)))))))))))
          · omega
          · exact i2.succ ⟨‹_›,‹_›,‹_›,‹_›,fun hk=>by omega⟩
         replace h52:=of_decide_eq_true h52
         refine gF 32 rfl rfl H ?_
         refine gL 33 rfl rfl (fun _ h=>h.cell 0 rfl rfl) H ?_
         refine gF 34 rfl rfl H ?_
         refine gL 35 rfl rfl (fun _ h=>h.cell 2 rfl rfl) H ?_
         refine rgp 36 (yI i) 96 H ?_
         refine rg 37 (yI (i - 1)) 96 (y_sub i 1 rfl rfl qf) H ?_
         obtain ⟨ae53Bag,ce53Bag,Fe53Bag,H⟩:=H.yY 10 rfl (i - 1) (i - 1) qf qf qf
         have S:=H.jA [0,1,2,3] [2,3,4,5,6,7,8,9,10,11,12]
         refine gI 38 rfl rfl rfl S ?_
         refine gF 39 rfl rfl S ?_
         refine zI [40] qh qm (r_opG rfl (e:=96) rfl rfl (zk (yI ((r.qM[i - 1]!).qE)) isAgg2 rfl (H.zg 1 rfl 0 rfl) (⟨H.pick [0,1,2,3] [2,3,4,5,6,7,8,9,10,11,12],?_⟩)) zJ)
         have S:=H.jA [0,1,2,3] [2,3,4,5,6,7,8,9,10,11,12]
         refine rgp 41 (.bool (decide (((r.qM[i]!).qE:Int)≤((r.qM[i - 1]!).qE)))) 96 S ?_
         refine rgp 42 (.bool (decide (((r.qM[i]!).qE:Int)≤((r.qM[i - 1]!).qE)))) 93 S ?_
         refine rtp 43 (.bool (decide (((r.qM[i]!).qE:Int)≤((r.qM[i - 1]!).qE)))) S ?_
         refine xh qh (t_n (cD rfl (fun h54=>?_) (fun h54=>?_)))
         ·skip
          refine zcr (sp (.bool false) (zjr (zr5 (ret1 (.bool false) rfl rfl ⟨_,rfl,?_,H.base⟩))))
          rw [xg (fun h=>by obtain ⟨h1,h2,h3,h4,h5,h6,h7,h8,h9,h10,h11⟩:=h;first | contradiction | omega | exact h3 ⟨‹_›,‹_›⟩ | (obtain ⟨q1,q2,q3,q4,q5⟩:=h11 i qf;first | contradiction | omega | (have:=q5 qf;omega)) | (refine absurd ?_ ‹¬ zQ _ _›;rcases (show k=0∨k=1∨k=2∨k=3∨k=4 by omega) with e | e | e | e | e <;> subst e <;> assumption))]
         refine xw (b_n (t_n (zl (sw (vg i 1 rfl rfl qf (sp (yI (i+1)) (zo (xn (m' :=(r.qM.length - ((i+1):Int)).toNat) qf ⟨_,i+1,uE5,?_,?_,rfl,N,H.pick [1,2,3] [4,5,6,7,8,9,10,11,12]⟩))))))))
         · omega
         · exact i2.succ ⟨‹_›,‹_›,‹_›,‹_›,fun hk=>by omega⟩
        replace h51:=eq_of_beq h51
        refine zH [29,30,31,32,33,34,35,36,37,38,39,40,41,42] 14 (H) (rtp 43 (.bool true) H ?_)
        refine xh qh (t_n (xO true rfl (fun _=>zcr (sp (.bool false) (zjr (zr5 (ret1 (.bool false) rfl rfl ⟨_,rfl,?_,H.base⟩))))) (fun h=>absurd h qj)))
        rw [xg (fun h=>by obtain ⟨h1,h2,h3,h4,h5,h6,h7,h8,h9,h10,h11⟩:=h;first | contradiction | omega | exact h3 ⟨‹_›,‹_›⟩ | (obtain ⟨q1,q2,q3,q4,q5⟩:=h11 i qf;first | contradiction | omega | (have:=q5 qf;omega)) | (refine absurd ?_ ‹¬ zQ _ _›;rcases (show k=0∨k=1∨k=2∨k=3∨k=4 by omega) with e | e | e | e | e <;> subst e <;> assumption))]
       replace h48:=xy h48
       replace h48:=zF h48
       refine zH [23,24,25,26] 4 (H) (rtp 27 (.bool true) H ?_)
       refine rtp 28 (.bool true) H ?_
       refine zH [29,30,31,32,33,34,35,36,37,38,39,40,41,42] 14 (H) (rtp 43 (.bool true) H ?_)
       refine xh qh (t_n (xO true rfl (fun _=>zcr (sp (.bool false) (zjr (zr5 (ret1 (.bool false) rfl rfl ⟨_,rfl,?_,H.base⟩))))) (fun h=>absurd h qj)))
       rw [xg (fun h=>by obtain ⟨h1,h2,h3,h4,h5,h6,h7,h8,h9,h10,h11⟩:=h;first | contradiction | omega | exact h3 ⟨‹_›,‹_›⟩ | (obtain ⟨q1,q2,q3,q4,q5⟩:=h11 i qf;first | contradiction | omega | (have:=q5 qf;omega)) | (refine absurd ?_ ‹¬ zQ _ _›;rcases (show k=0∨k=1∨k=2∨k=3∨k=4 by omega) with e | e | e | e | e <;> subst e <;> assumption))]
      replace h45:=xy h45
      replace h45:=zF h45
      refine zH [15,16,17,18,19,20] 6 (H) (rtp 21 (.bool true) H ?_)
      refine rtp 22 (.bool true) H ?_
      refine zH [23,24,25,26] 4 (H) (rtp 27 (.bool true) H ?_)
      refine rtp 28 (.bool true) H ?_
      refine zH [29,30,31,32,33,34,35,36,37,38,39,40,41,42] 14 (H) (rtp 43 (.bool true) H ?_)
      refine xh qh (t_n (xO true rfl (fun _=>zcr (sp (.bool false) (zjr (zr5 (ret1 (.bool false) rfl rfl ⟨_,rfl,?_,H.base⟩))))) (fun h=>absurd h qj)))
      rw [xg (fun h=>by obtain ⟨h1,h2,h3,h4,h5,h6,h7,h8,h9,h10,h11⟩:=h;first | contradiction | omega | exact h3 ⟨‹_›,‹_›⟩ | (obtain ⟨q1,q2,q3,q4,q5⟩:=h11 i qf;first | contradiction | omega | (have:=q5 qf;omega)) | (refine absurd ?_ ‹¬ zQ _ _›;rcases (show k=0∨k=1∨k=2∨k=3∨k=4 by omega) with e | e | e | e | e <;> subst e <;> assumption))]
     replace h41:=xy h41
     replace h41:=QS h41
     refine zH [6,7,8,9,10,11,12] 7 (H) (rtp 13 (.bool true) H ?_)
     refine rtp 14 (.bool true) H ?_
     refine zH [15,16,17,18,19,20] 6 (H) (rtp 21 (.bool true) H ?_)
     refine rtp 22 (.bool true) H ?_
     refine zH [23,24,25,26] 4 (H) (rtp 27 (.bool true) H ?_)
     refine rtp 28 (.bool true) H ?_
     refine zH [29,30,31,32,33,34,35,36,37,38,39,40,41,42] 14 (H) (rtp 43 (.bool true) H ?_)
     refine xh qh (t_n (xO true rfl (fun _=>zcr (sp (.bool false) (zjr (zr5 (ret1 (.bool false) rfl rfl ⟨_,rfl,?_,H.base⟩))))) (fun h=>absurd h qj)))
     rw [xg (fun h=>by obtain ⟨h1,h2,h3,h4,h5,h6,h7,h8,h9,h10,h11⟩:=h;first | contradiction | omega | exact h3 ⟨‹_›,‹_›⟩ | (obtain ⟨q1,q2,q3,q4,q5⟩:=h11 i qf;first | contradiction | omega | (have:=q5 qf;omega)) | (refine absurd ?_ ‹¬ zQ _ _›;rcases (show k=0∨k=1∨k=2∨k=3∨k=4 by omega) with e | e | e | e | e <;> subst e <;> assumption))]
    refine zx4 (zcr (oF rfl (oL rfl (H.cell 1 rfl rfl) ?_)))
    have sm:Small r.xC:=jf (by first | assumption | exact i1 0 qf)
    refine sw (oq (bagSize_ok _ r.xC (H.get 3 rfl).1 (by first | assumption | exact jf ql | exact QF ql)) H fun w55 H=>sps [.bool (decide ((sumL r.xC:Int) > 0)),.bool (decide ((sumL r.xC:Int) > 0))] (zjr (ret1 (.bool (decide ((sumL r.xC:Int) > 0))) rfl rfl ⟨_,rfl,(congrArg Value.bool (dec_eq ?_)),H.base⟩)))
    rw [decide_eq_true_iff]
    exact ⟨fun h=>⟨by omega,by omega,by simp_all,by omega,n1,n2,n3,n4,n5,by omega,(show i=r.qM.length by omega)▸i2⟩,fun h=>by have:=h.2.2.2.2.2.2.2.2.2.1;have:=sum_nonneg n1.1;omega⟩
   rw [h12] at H
   refine qL 23 rfl rfl (oF rfl (qL 23 rfl rfl (oL rfl (H.cell 0 rfl rfl) (qL 23 rfl rfl (sp (.bool ((r.qE:Int) == 0)) (qL 20 rfl rfl (sps [.bool ((r.qE:Int) == 0),.bool ((r.qE:Int) == 0),.bool ((r.qE:Int) == 0)] ?_)))))))
   cases h57:((r.qE:Int) == 0)
   ·skip
    replace h57:=ne_of_beq_false h57
    refine qL 29 rfl rfl (oF rfl (qL 29 rfl rfl (oL rfl (H.cell 0 rfl rfl) (qL 29 rfl rfl (oN rfl (qL 29 rfl rfl (sps [.bool (decide ((r.qM.length:Int) > 3)),.bool (decide ((r.qM.length:Int) > 3))] (zjn (cD rfl (fun h58=>?_) (fun h58=>?_))))))))))
    ·skip
     refine zcr (sp (.bool false) (zjr (t_r (ret1 (.bool false) rfl rfl ⟨_,rfl,?_,H.base⟩))))
     rw [xg (fun h=>by obtain ⟨h1,h2,h3,h4,h5,h6,h7,h8,h9,h10,h11⟩:=h;first | contradiction | omega | exact h3 ⟨‹_›,‹_›⟩ | (obtain ⟨q1,q2,q3,q4,q5⟩:=h11 i qf;first | contradiction | omega | (have:=q5 qf;omega)) | (refine absurd ?_ ‹¬ zQ _ _›;rcases (show k=0∨k=1∨k=2∨k=3∨k=4 by omega) with e | e | e | e | e <;> subst e <;> assumption))]
    refine xw (t_n (zcc (oF rfl (oL rfl (H.cell 0 rfl rfl) (oF rfl (oL rfl (H.cell 0 rfl rfl) (oF rfl (oL rfl (H.cell 0 rfl rfl) (oF rfl (oL rfl (H.cell 0 rfl rfl) (oF rfl (oL rfl (H.cell 0 rfl rfl) (sw (o_buildF H underlying29 ti24 [.slice yx r.xC.length yl,.slice yB r.x8.length yw,.slice yz r.xZ.length yt,.slice yA r.zf.length yu,.slice QL r.jb.length QK] rfl (by simp [Value.cells]) rfl qj qj fun b59 w60 H=>oN rfl (sp (yI 0) (zjn (xq ?_)))))))))))))))))
    replace H:=H.boxRow 0 rfl 1 5 rfl qj
    replace H:=H.Qz (α:=yLI)
    replace H:=H.repsCons false 7 rfl 0 rfl qm
    replace H:=H.repsCons false 7 rfl 0 rfl qm
    replace H:=H.repsCons false 7 rfl 0 rfl qm
    replace H:=H.repsCons false 7 rfl 0 rfl qm
    replace H:=H.repsCons false 7 rfl 0 rfl qm
    refine vJ (fun m' ρ w61=>∃ (zx:Env) (k:Nat),ρ=upd (upd (upd (upd (upd zx 2 (pp b1 0)) 3 (pp b3 0)) 45 (.slice (aa b59 0) 5 5)) 46 (yI 5)) 47 (yI k)∧((k:Int)≤5)∧(∀ j,j < k→zQ s.xk ([r.xC,r.x8,r.xZ,r.zf,r.jb][j]!))∧m' =(5 - (k:Int)).toNat∧Fresh w.heap.size []∧St w w61 [rr (aa b59 0) 5 5 24 1 [.slice yx r.xC.length yl,.slice yB r.x8.length yw,.slice yz r.xZ.length yt,.slice yA r.zf.length yu,.slice QL r.jb.length QK],.box b3 [yI r.qE,yI r.vw,.slice yx r.xC.length yl,.slice yB r.x8.length yw,.slice yz r.xZ.length yt,.slice yA r.zf.length yu,.slice QL r.jb.length QK,.slice jV r.qM.length jU,.bool true] 56,.box b1 (yS s qB qA qJ qI) 27] [xe false (Xz++(XC++(XA++(XB++(FrOut++[]))))) [.slice yx r.xC.length yl,.slice yB r.x8.length yw,.slice yz r.xZ.length yt,.slice yA r.zf.length yu,.slice QL r.jb.length QK] [r.xC,r.x8,r.xZ,r.zf,r.jb],sF false qX qB qA s.qx,sF false xG qJ qI s.qw,sF false Xz yx yl r.xC,sF false XC yB yw r.x8,sF false XA yz yt r.xZ,sF false XB yA yu r.zf,sF false FrOut QL QK r.jb,sF false FrInto jV jU r.qM]) ((5 - (0:Int)).toNat) ⟨_,0,uE5,qf,(by intro j hj;omega),rfl,N,H.pick [0,1,2] [0,6,7,8,9,10,11,12,13]⟩ ?_
    clear H N
    rintro m' ρ w62 ⟨zx,k,rfl,i0,i1,rfl,N,H⟩
    refine zcr (sp (.bool (decide ((k:Int) < 5))) (zjn (zn (cD rfl (fun h63=>?_) (fun h63=>?_)))))
    ·skip
     refine xw (t_n (zn (xq (zcr (oI rfl rfl ?_)))))
     obtain ⟨a64,c65,G66,s67,h68,H⟩:=H.jI 0 rfl 0 rfl (iv:=k) k qf qf
     refine oL rfl (h68) (sp (.slice a64 (([r.xC,r.x8,r.xZ,r.zf,r.jb][k]!).length) c65) (zjc (oF rfl (oL rfl (H.cell 2 rfl rfl) (sp (.slice a64 (([r.xC,r.x8,r.xZ,r.zf,r.jb][k]!).length) c65) (sw (oq (validBag_ok _ s.xk ([r.xC,r.x8,r.xZ,r.zf,r.jb][k]!) (H.get 0 rfl).1) H fun w69 H=>sp (.bool (!(dec (zQ s.xk ([r.xC,r.x8,r.xZ,r.zf,r.jb][k]!))))) (zjn (cQ rfl (fun h71=>?_) (fun h71=>?_))))))))))
     ·skip
      refine zcr (sp (.bool false) (zjr (zr5 (ret1 (.bool false) rfl rfl ⟨_,rfl,?_,H.base⟩))))
      rw [xg (fun h=>by obtain ⟨h1,h2,h3,h4,h5,h6,h7,h8,h9,h10,h11⟩:=h;first | contradiction | omega | exact h3 ⟨‹_›,‹_›⟩ | (obtain ⟨q1,q2,q3,q4,q5⟩:=h11 i qf;first | contradiction | omega | (have:=q5 qf;omega)) | (refine absurd ?_ ‹¬ zQ _ _›;rcases (show k=0∨k=1∨k=2∨k=3∨k=4 by omega) with e | e | e | e | e <;> subst e <;> assumption))]
     refine xw (b_n (t_n (zl (sw (vg k 1 rfl rfl qf (sp (yI (k+1)) (zo (xn (m' :=(5 - ((k+1):Int)).toNat) qf ⟨_,k+1,uE5,?_,?_,rfl,N,H.pick [0,1,2] [1,2,3,4,5,6,7,8,9]⟩))))))))
     · omega
     · intro j hj;by_cases e:j=k;(subst e;assumption);exact i1 j qf
    refine zx4 (zcc (oF rfl (oL rfl (H.cell 1 rfl rfl) (oN rfl (sp (yI 0) (zjn (xq ?_)))))))
    have n1:zQ s.xk r.xC:=i1 0 qf
    have n2:zQ s.xk r.x8:=i1 1 qf
    have n3:zQ s.xk r.xZ:=i1 2 qf
    have n4:zQ s.xk r.zf:=i1 3 qf
    have n5:zQ s.xk r.jb:=i1 4 qf
    refine vJ (fun m' ρ w72=>∃ (zx:Env) (i:Nat),ρ=upd (upd (upd (upd (upd zx 2 (pp b1 0)) 3 (pp b3 0)) 58 (.slice jV r.qM.length jU)) 59 (yI r.qM.length)) 60 (yI i)∧((i:Int)≤r.qM.length)∧(IntosTo s r i)∧m' =(r.qM.length - (i:Int)).toNat∧Fresh w.heap.size []∧St w w72 [rr (aa b59 0) 5 5 24 1 [.slice yx r.xC.length yl,.slice yB r.x8.length yw,.slice yz r.xZ.length yt,.slice yA r.zf.length yu,.slice QL r.jb.length QK],.box b3 [yI r.qE,yI r.vw,.slice yx r.xC.length yl,.slice yB r.x8.length yw,.slice yz r.xZ.length yt,.slice yA r.zf.length yu,.slice QL r.jb.length QK,.slice jV r.qM.length jU,.bool true] 56,.box b1 (yS s qB qA qJ qI) 27] [xe false (Xz++(XC++(XA++(XB++(FrOut++[]))))) [.slice yx r.xC.length yl,.slice yB r.x8.length yw,.slice yz r.xZ.length yt,.slice yA r.zf.length yu,.slice QL r.jb.length QK] [r.xC,r.x8,r.xZ,r.zf,r.jb],sF false qX qB qA s.qx,sF false xG qJ qI s.qw,sF false Xz yx yl r.xC,sF false XC yB yw r.x8,sF false XA yz yt r.xZ,sF false XB yA yu r.zf,sF false FrOut QL QK r.jb,sF false FrInto jV jU r.qM]) ((r.qM.length - (0:Int)).toNat) ⟨_,0,uE5,qf,(by exact fun j hj=>by omega),rfl,N,H⟩ ?_
    clear H N
    rintro m' ρ w73 ⟨zx,i,rfl,i0,i2,rfl,N,H⟩
    refine zcr (sp (.bool (decide ((i:Int) < r.qM.length))) (zjn (zn (cD rfl (fun h74=>?_) (fun h74=>?_)))))
    ·skip
     refine xw (t_n (zn (xq (zcr (sp (yI i) ?_)))))
     obtain ⟨b75,o76,rfl⟩:=H.addr 8 rfl qf
     obtain ⟨ae78Bag,ce78Bag,Fe78Bag,H⟩:=H.yY 8 rfl i i qf qf qf
     refine oI rfl rfl (sw (zu [yI ((r.qM[i]!).qE),.slice ae78Bag (((r.qM[i]!).QC).length) ce78Bag] isAgg142 sizeOf142 rfl (qH (H.get 1 rfl) 0 2) (sw (xu H ti142 [yI 0,yN] fun b79 w80 H=>sp (yI i) (sw (qV H 0 [yI ((r.qM[i]!).qE),.slice ae78Bag (((r.qM[i]!).QC).length) ce78Bag] sizeOf142 fun w81 H=>zjn (zn ?_)))))))
     refine y9 rfl H fun H=>rt 0 (.agg #[yI s.xk,.slice qB s.qx.length qA,.slice qJ s.qw.length qI]) (Qn (cs:=(yS s qB qA qJ qI)) isAgg27 sizeOf27 rfl (fun _ h=>qH (h.cells 3 rfl) 0 3)) H ?_
     refine tF 1 rfl rfl H ?_
     refine tL 2 rfl rfl (fun _ h=>h.cell 0 rfl rfl) H ?_
     refine ro 3 rfl (oq (isCell_ok _ s ((r.qM[i]!).qE) (H.get 3 rfl).1 (H.get 4 rfl).1) H fun w84 H=>⟨H,(rtp 4 (.bool (!(inR ((r.qM[i]!).qE) 0 ((s.qx.length:Int) - 1)))) H ?_)⟩)
     refine rtp 5 (.bool (!(inR ((r.qM[i]!).qE) 0 ((s.qx.length:Int) - 1)))) H ?_
     cases h86:(!(inR ((r.qM[i]!).qE) 0 ((s.qx.length:Int) - 1)))
     ·skip
      replace h86:=xm h86
      replace h86:=Qp.1 h86
      refine rg 6 (.agg #[yI s.xk,.slice qB s.qx.length qA,.slice qJ s.qw.length qI]) 70 (Qn (cs:=(yS s qB qA qJ qI)) isAgg27 sizeOf27 rfl (fun _ h=>qH (h.cells 3 rfl) 0 3)) H ?_
      refine gF 7 rfl rfl H ?_
      refine gL 8 rfl rfl (fun _ h=>h.cell 0 rfl rfl) H ?_
      refine gF 9 rfl rfl H ?_
      refine gL 10 rfl rfl (fun _ h=>h.cell 2 rfl rfl) H ?_
      refine zI [11] qh qm (r_opG rfl (e:=70) rfl rfl (oq (lies_ok _ s ((r.qM[i]!).qE) r.qE (H.get 3 rfl).1 (H.get 4 rfl).1 qg qg) H fun w88 H=>⟨H,(rgp 12 (.bool (!(dec (Lies s.qx r.qE ((r.qM[i]!).qE))))) 70 H ?_)⟩) zJ)
      refine rtp 13 (.bool (!(dec (Lies s.qx r.qE ((r.qM[i]!).qE))))) H ?_
      refine rtp 14 (.bool (!(dec (Lies s.qx r.qE ((r.qM[i]!).qE))))) H ?_
      cases h90:(!(dec (Lies s.qx r.qE ((r.qM[i]!).qE))))
      ·skip
       replace h90:=xm h90
       replace h90:=y5 h90
       refine gF 15 rfl rfl H ?_
       refine gL 16 rfl rfl (fun _ h=>h.cell 3 rfl rfl) H ?_
       refine gF 17 rfl rfl H ?_
       refine gL 18 rfl rfl (fun _ h=>h.cell 0 rfl rfl) H ?_
       refine zI [19] qh qm (r_opG rfl (e:=79) rfl rfl (oq (validBag_ok _ s.xk ((r.qM[i]!).QC) (H.get 0 rfl).1) H fun w91 H=>⟨H,(rgp 20 (.bool (!(dec (zQ s.xk ((r.qM[i]!).QC))))) 79 H ?_)⟩) zJ)
       refine rtp 21 (.bool (!(dec (zQ s.xk ((r.qM[i]!).QC))))) H ?_
       refine rtp 22 (.bool (!(dec (zQ s.xk ((r.qM[i]!).QC))))) H ?_
       cases h93:(!(dec (zQ s.xk ((r.qM[i]!).QC))))
       ·skip
        replace h93:=xm h93
        replace h93:=y5 h93
        refine gF 23 rfl rfl H ?_
        refine gL 24 rfl rfl (fun _ h=>h.cell 0 rfl rfl) H ?_
        refine zI [25] qh qm (r_opG rfl (e:=87) rfl rfl ?_ zJ)
        have sm:Small ((r.qM[i]!).QC):=jf (by first | assumption | exact i1 0 qf)
        refine oq (bagSize_ok _ ((r.qM[i]!).QC) (H.get 0 rfl).1 (by first | assumption | exact jf ql | exact QF ql)) H fun w94 H=>⟨H,(rgp 26 (.bool ((sumL ((r.qM[i]!).QC):Int) == 0)) 87 H ?_)⟩
        refine rtp 27 (.bool ((sumL ((r.qM[i]!).QC):Int) == 0)) H ?_
        refine rtp 28 (.bool ((sumL ((r.qM[i]!).QC):Int) == 0)) H ?_
        cases h96:((sumL ((r.qM[i]!).QC):Int) == 0)
        ·skip
         replace h96:=ne_of_beq_false h96
         refine rgp 29 (yI i) 93 H ?_
         refine rgp 30 (.bool (decide ((i:Int) > 0))) 93 H ?_
         refine rgp 31 (.bool (decide ((i:Int) > 0))) 93 H ?_
         cases h97:(decide ((i:Int) > 0))
         ·skip
          replace h97:=of_decide_eq_false h97
          refine zH [32,33,34,35,36,37,38,39,40,41] 10 (H) (rgp 42 (.bool false) 93 H ?_)
          refine rtp 43 (.bool false) H ?_
          refine xh qh (t_n (xO false rfl (fun h=>absurd h qj) (fun _=>xw (b_n (t_n (zl (sw (vg i 1 rfl rfl qf (sp (yI (i+1)) (zo (xn (m' :=(r.qM.length - ((i+1):Int)).toNat) qf ⟨_,i+1,uE5,?_,?_,rfl,N,H.pick [1,2,3] [2,3,4,5,6,7,8,9,10]⟩)))))))))))
          · omega
          · exact i2.succ ⟨‹_›,‹_›,‹_›,‹_›,fun hk=>by omega⟩
         replace h97:=of_decide_eq_true h97
         refine gF 32 rfl rfl H ?_
         refine gL 33 rfl rfl (fun _ h=>h.cell 0 rfl rfl) H ?_
         refine gF 34 rfl rfl H ?_
         refine gL 35 rfl rfl (fun _ h=>h.cell 2 rfl rfl) H ?_
         refine rgp 36 (yI i) 96 H ?_
         refine rg 37 (yI (i - 1)) 96 (y_sub i 1 rfl rfl qf) H ?_
         obtain ⟨ae98Bag,ce98Bag,Fe98Bag,H⟩:=H.yY 10 rfl (i - 1) (i - 1) qf qf qf
         have S:=H.jA [0,1,2,3] [2,3,4,5,6,7,8,9,10,11,12]
         refine gI 38 rfl rfl rfl S ?_
         refine gF 39 rfl rfl S ?_
         refine zI [40] qh qm (r_opG rfl (e:=96) rfl rfl (zk (yI ((r.qM[i - 1]!).qE)) isAgg2 rfl (H.zg 1 rfl 0 rfl) (⟨H.pick [0,1,2,3] [2,3,4,5,6,7,8,9,10,11,12],?_⟩)) zJ)
         have S:=H.jA [0,1,2,3] [2,3,4,5,6,7,8,9,10,11,12]
         refine rgp 41 (.bool (decide (((r.qM[i]!).qE:Int)≤((r.qM[i - 1]!).qE)))) 96 S ?_
         refine rgp 42 (.bool (decide (((r.qM[i]!).qE:Int)≤((r.qM[i - 1]!).qE)))) 93 S ?_
         refine rtp 43 (.bool (decide (((r.qM[i]!).qE:Int)≤((r.qM[i - 1]!).qE)))) S ?_
         refine xh qh (t_n (cD rfl (fun h99=>?_) (fun h99=>?_)))
         ·skip
          refine zcr (sp (.bool false) (zjr (zr5 (ret1 (.bool false) rfl rfl ⟨_,rfl,?_,H.base⟩))))
          rw [xg (fun h=>by obtain ⟨h1,h2,h3,h4,h5,h6,h7,h8,h9,h10,h11⟩:=h;first | contradiction | omega | exact h3 ⟨‹_›,‹_›⟩ | (obtain ⟨q1,q2,q3,q4,q5⟩:=h11 i qf;first | contradiction | omega | (have:=q5 qf;omega)) | (refine absurd ?_ ‹¬ zQ _ _›;rcases (show k=0∨k=1∨k=2∨k=3∨k=4 by omega) with e | e | e | e | e <;> subst e <;> assumption))]
         refine xw (b_n (t_n (zl (sw (vg i 1 rfl rfl qf (sp (yI (i+1)) (zo (xn (m' :=(r.qM.length - ((i+1):Int)).toNat) qf ⟨_,i+1,uE5,?_,?_,rfl,N,H.pick [1,2,3] [4,5,6,7,8,9,10,11,12]⟩))))))))
         · omega
         · exact i2.succ ⟨‹_›,‹_›,‹_›,‹_›,fun hk=>by omega⟩
        replace h96:=eq_of_beq h96
        refine zH [29,30,31,32,33,34,35,36,37,38,39,40,41,42] 14 (H) (rtp 43 (.bool true) H ?_)
        refine xh qh (t_n (xO true rfl (fun _=>zcr (sp (.bool false) (zjr (zr5 (ret1 (.bool false) rfl rfl ⟨_,rfl,?_,H.base⟩))))) (fun h=>absurd h qj)))
        rw [xg (fun h=>by obtain ⟨h1,h2,h3,h4,h5,h6,h7,h8,h9,h10,h11⟩:=h;first | contradiction | omega | exact h3 ⟨‹_›,‹_›⟩ | (obtain ⟨q1,q2,q3,q4,q5⟩:=h11 i qf;first | contradiction | omega | (have:=q5 qf;omega)) | (refine absurd ?_ ‹¬ zQ _ _›;rcases (show k=0∨k=1∨k=2∨k=3∨k=4 by omega) with e | e | e | e | e <;> subst e <;> assumption))]
       replace h93:=xy h93
       replace h93:=zF h93
       refine zH [23,24,25,26] 4 (H) (rtp 27 (.bool true) H ?_)
       refine rtp 28 (.bool true) H ?_
       refine zH [29,30,31,32,33,34,35,36,37,38,39,40,41,42] 14 (H) (rtp 43 (.bool true) H ?_)
       refine xh qh (t_n (xO true rfl (fun _=>zcr (sp (.bool false) (zjr (zr5 (ret1 (.bool false) rfl rfl ⟨_,rfl,?_,H.base⟩))))) (fun h=>absurd h qj)))
       rw [xg (fun h=>by obtain ⟨h1,h2,h3,h4,h5,h6,h7,h8,h9,h10,h11⟩:=h;first | contradiction | omega | exact h3 ⟨‹_›,‹_›⟩ | (obtain ⟨q1,q2,q3,q4,q5⟩:=h11 i qf;first | contradiction | omega | (have:=q5 qf;omega)) | (refine absurd ?_ ‹¬ zQ _ _›;rcases (show k=0∨k=1∨k=2∨k=3∨k=4 by omega) with e | e | e | e | e <;> subst e <;> assumption))]
      replace h90:=xy h90
      replace h90:=zF h90
      refine zH [15,16,17,18,19,20] 6 (H) (rtp 21 (.bool true) H ?_)
      refine rtp 22 (.bool true) H ?_
      refine zH [23,24,25,26] 4 (H) (rtp 27 (.bool true) H ?_)
      refine rtp 28 (.bool true) H ?_
      refine zH [29,30,31,32,33,34,35,36,37,38,39,40,41,42] 14 (H) (rtp 43 (.bool true) H ?_)
      refine xh qh (t_n (xO true rfl (fun _=>zcr (sp (.bool false) (zjr (zr5 (ret1 (.bool false) rfl rfl ⟨_,rfl,?_,H.base⟩))))) (fun h=>absurd h qj)))
      rw [xg (fun h=>by obtain ⟨h1,h2,h3,h4,h5,h6,h7,h8,h9,h10,h11⟩:=h;first | contradiction | omega | exact h3 ⟨‹_›,‹_›⟩ | (obtain ⟨q1,q2,q3,q4,q5⟩:=h11 i qf;first | contradiction | omega | (have:=q5 qf;omega)) | (refine absurd ?_ ‹¬ zQ _ _›;rcases (show k=0∨k=1∨k=2∨k=3∨k=4 by omega) with e | e | e | e | e <;> subst e <;> assumption))]
     replace h86:=xy h86
     replace h86:=QS h86
     refine zH [6,7,8,9,10,11,12] 7 (H) (rtp 13 (.bool true) H ?_)
     refine rtp 14 (.bool true) H ?_
     refine zH [15,16,17,18,19,20] 6 (H) (rtp 21 (.bool true) H ?_)
     refine rtp 22 (.bool true) H ?_
     refine zH [23,24,25,26] 4 (H) (rtp 27 (.bool true) H ?_)
     refine rtp 28 (.bool true) H ?_
     refine zH [29,30,31,32,33,34,35,36,37,38,39,40,41,42] 14 (H) (rtp 43 (.bool true) H ?_)
     refine xh qh (t_n (xO true rfl (fun _=>zcr (sp (.bool false) (zjr (zr5 (ret1 (.bool false) rfl rfl ⟨_,rfl,?_,H.base⟩))))) (fun h=>absurd h qj)))
     rw [xg (fun h=>by obtain ⟨h1,h2,h3,h4,h5,h6,h7,h8,h9,h10,h11⟩:=h;first | contradiction | omega | exact h3 ⟨‹_›,‹_›⟩ | (obtain ⟨q1,q2,q3,q4,q5⟩:=h11 i qf;first | contradiction | omega | (have:=q5 qf;omega)) | (refine absurd ?_ ‹¬ zQ _ _›;rcases (show k=0∨k=1∨k=2∨k=3∨k=4 by omega) with e | e | e | e | e <;> subst e <;> assumption))]
    refine zx4 (zcr (oF rfl (oL rfl (H.cell 1 rfl rfl) ?_)))
    have sm:Small r.xC:=jf (by first | assumption | exact i1 0 qf)
    refine sw (oq (bagSize_ok _ r.xC (H.get 3 rfl).1 (by first | assumption | exact jf ql | exact QF ql)) H fun w100 H=>sps [.bool (decide ((sumL r.xC:Int) > 0)),.bool (decide ((sumL r.xC:Int) > 0))] (zjr (ret1 (.bool (decide ((sumL r.xC:Int) > 0))) rfl rfl ⟨_,rfl,(congrArg Value.bool (dec_eq ?_)),H.base⟩)))
    rw [decide_eq_true_iff]
    exact ⟨fun h=>⟨by omega,by omega,by simp_all,by omega,n1,n2,n3,n4,n5,by omega,(show i=r.qM.length by omega)▸i2⟩,fun h=>by have:=h.2.2.2.2.2.2.2.2.2.1;have:=sum_nonneg n1.1;omega⟩
   replace h57:=eq_of_beq h57
   refine xR [30,31,32,33] (sp (.bool true) (zjn (xO true rfl (fun _=>zcr (sp (.bool false) (zjr (t_r (ret1 (.bool false) rfl rfl ⟨_,rfl,?_,H.base⟩))))) (fun h=>absurd h qj))))
   rw [xg (fun h=>by obtain ⟨h1,h2,h3,h4,h5,h6,h7,h8,h9,h10,h11⟩:=h;first | contradiction | omega | exact h3 ⟨‹_›,‹_›⟩ | (obtain ⟨q1,q2,q3,q4,q5⟩:=h11 i qf;first | contradiction | omega | (have:=q5 qf;omega)) | (refine absurd ?_ ‹¬ zQ _ _›;rcases (show k=0∨k=1∨k=2∨k=3∨k=4 by omega) with e | e | e | e | e <;> subst e <;> assumption))]
  replace h11:=xy h11
  replace h11:=QS h11
  refine xR [21,22,23,24,25,26,27] (sps [.bool true,.bool true] (xR [30,31,32,33] (sp (.bool true) (zjn (xO true rfl (fun _=>zcr (sp (.bool false) (zjr (t_r (ret1 (.bool false) rfl rfl ⟨_,rfl,?_,H.base⟩))))) (fun h=>absurd h qj))))))
  rw [xg (fun h=>by obtain ⟨h1,h2,h3,h4,h5,h6,h7,h8,h9,h10,h11⟩:=h;first | contradiction | omega | exact h3 ⟨‹_›,‹_›⟩ | (obtain ⟨q1,q2,q3,q4,q5⟩:=h11 i qf;first | contradiction | omega | (have:=q5 qf;omega)) | (refine absurd ?_ ‹¬ zQ _ _›;rcases (show k=0∨k=1∨k=2∨k=3∨k=4 by omega) with e | e | e | e | e <;> subst e <;> assumption))]
 replace h8:=xy h8
 replace h8:=QS h8
 refine xR [15,16,17,18] (sps [.bool true,.bool true] (xR [21,22,23,24,25,26,27] (sps [.bool true,.bool true] (xR [30,31,32,33] (sp (.bool true) (zjn (xO true rfl (fun _=>zcr (sp (.bool false) (zjr (t_r (ret1 (.bool false) rfl rfl ⟨_,rfl,?_,H.base⟩))))) (fun h=>absurd h qj))))))))
 rw [xg (fun h=>by obtain ⟨h1,h2,h3,h4,h5,h6,h7,h8,h9,h10,h11⟩:=h;first | contradiction | omega | exact h3 ⟨‹_›,‹_›⟩ | (obtain ⟨q1,q2,q3,q4,q5⟩:=h11 i qf;first | contradiction | omega | (have:=q5 qf;omega)) | (refine absurd ?_ ‹¬ zQ _ _›;rcases (show k=0∨k=1∨k=2∨k=3∨k=4 by omega) with e | e | e | e | e <;> subst e <;> assumption))]
theorem validSystem_ok (w:World) (s:qy) {qB:yOA} {qX:yLN} {qJ:yOA} {xG:yLN} (qP:qW.rep w qX [.slice qB s.qx.length qA] s.qx) (xx:qW.rep w xG [.slice qJ s.qw.length qI] s.qw):Calls Tryz.prog 61 #[.agg #[yI s.xk,.slice qB s.qx.length qA,.slice qJ s.qw.length qI]] w (Ret (fun v w' =>v=.bool (dec (jB s))) w):=by
 refine en func61 ntmps61 ?_
 have H:=((St.start w).arg xx).arg qP
 have zS:=qQ qP
 have jv:=qQ xx
 clear qP xx
 have N:=Fresh.nil w.heap.size
 have p1:=fun h:ji s=>h.2.1
 refine zcr (sw (jT H (yS s qB qA qJ qI) fun b1 w2 H=>sp (.bool false) (zjcc (sw (zu (yS s qB qA qJ qI) isAgg27 sizeOf27 rfl (qH (H.cells 0 rfl) 0 3) (sw (oq (isShell_ok _ s (H.get 0 rfl).1 (H.get 1 rfl).1) H fun w4 H=>sps [.bool (!(dec (ji s))),.bool (!(dec (ji s)))] ?_)))))))
 cases h6:(!(dec (ji s)))
 ·skip
  replace h6:=xm h6
  replace h6:=y5 h6
  refine qL 9 rfl rfl (oF rfl (qL 9 rfl rfl (oL rfl (H.cell 0 rfl rfl) (qL 9 rfl rfl (oN rfl (qL 9 rfl rfl (sps [.bool (decide ((s.qw.length:Int) > 16)),.bool (decide ((s.qw.length:Int) > 16))] (zjn (cD rfl (fun h7=>?_) (fun h7=>?_))))))))))
  ·skip
   refine zcr (sp (.bool false) (zjr (t_r (ret1 (.bool false) rfl rfl ⟨_,rfl,?_,H.base⟩))))
   rw [xg (fun h=>by obtain ⟨h1,h2,h3⟩:=h;first | contradiction | omega | (obtain ⟨r1,r2⟩:=h3 k qf;first | contradiction | (have:=XF (s:=s) (k:=k+1) q1 q2;omega)))]
  refine xw (t_n (zcr (sw (xK [yI 0,yI 0,yI 0,yI 0,yI 0,yI 0] [] (sw (xu H ti148 [yI 0,yI 0,yI 0,yI 0,yI 0,yI 0] fun b8 w9 H=>sw (qV H 0 [yI 0,yI 0,yI 0,yI 0,yI 0,yI 0] sizeOf148 fun w10 H=>zjcc (oF rfl (oL rfl (H.cell 1 rfl rfl) (oN rfl (sp (yI 0) (zjn (xq ?_)))))))))))))
  have p2:=p1 ‹_›
  refine vJ (fun m' ρ w11=>∃ (zx:Env) (k:Nat) (many:yLI),ρ=upd (upd (upd (upd (upd zx 1 (pp b1 0)) 3 (pp b8 0)) 17 (.slice qJ s.qw.length qI)) 18 (yI s.qw.length)) 19 (yI k)∧many=counts6 s k∧((k:Int)≤s.qw.length)∧(RulesTo s k)∧m' =(s.qw.length - (k:Int)).toNat∧Fresh w.heap.size []∧St w w11 [.box b8 (many.map (Value.int .i64)) 148,.box b1 (yS s qB qA qJ qI) 27] [sF false qX qB qA s.qx,sF false xG qJ qI s.qw]) ((s.qw.length - (0:Int)).toNat) ⟨_,0,[0,0,0,0,0,0],uE5,(by exact counts6_zero s),qf,(by exact fun j hj=>by omega),rfl,N,H⟩ ?_
  clear H N
  rintro m' ρ w12 ⟨zx,k,many,rfl,rfl,i0,i1,rfl,N,H⟩
  refine zcr (sp (.bool (decide ((k:Int) < s.qw.length))) (zjn (zn (cD rfl (fun h13=>?_) (fun h13=>?_)))))
  ·skip
   refine xw (t_n (zn (xq (zcr ?_))))
   obtain ⟨b14,o15,rfl⟩:=H.addr 1 rfl qf
   obtain ⟨ae17Need,ce17Need,Fe17Need,ae17Have,ce17Have,Fe17Have,ae17Lack,ce17Lack,Fe17Lack,ae17Here,ce17Here,Fe17Here,ae17Out,ce17Out,Fe17Out,ae17Into,ce17Into,Fe17Into,H⟩:=H.Qm 1 rfl k k qf qf qf
   refine oI rfl rfl (sw (zu [yI ((s.qw[k]!).qE),yI ((s.qw[k]!).vw),.slice ae17Need (((s.qw[k]!).xC).length) ce17Need,.slice ae17Have (((s.qw[k]!).x8).length) ce17Have,.slice ae17Lack (((s.qw[k]!).xZ).length) ce17Lack,.slice ae17Here (((s.qw[k]!).zf).length) ce17Here,.slice ae17Out (((s.qw[k]!).jb).length) ce17Out,.slice ae17Into (((s.qw[k]!).qM).length) ce17Into,.bool ((s.qw[k]!).zD)] isAgg56 sizeOf56 rfl (qH (H.get 6 rfl) 0 9) ?_))
   refine sw (xu H ti56 [yI 0,yI 0,yN,yN,yN,yN,yN,yN,.bool false] fun b18 w19 H=>sw (qV H 0 [yI ((s.qw[k]!).qE),yI ((s.qw[k]!).vw),.slice ae17Need (((s.qw[k]!).xC).length) ce17Need,.slice ae17Have (((s.qw[k]!).x8).length) ce17Have,.slice ae17Lack (((s.qw[k]!).xZ).length) ce17Lack,.slice ae17Here (((s.qw[k]!).zf).length) ce17Here,.slice ae17Out (((s.qw[k]!).jb).length) ce17Out,.slice ae17Into (((s.qw[k]!).qM).length) ce17Into,.bool ((s.qw[k]!).zD)] sizeOf56 fun w20 H=>?_))
   refine zjcc (sw (zu [yI s.xk,.slice qB s.qx.length qA,.slice (aa b14 o15) s.qw.length qI] isAgg27 sizeOf27 rfl (qH (H.cells 2 rfl) 0 3) ?_))
   refine sw (zu [yI ((s.qw[k]!).qE),yI ((s.qw[k]!).vw),.slice ae17Need (((s.qw[k]!).xC).length) ce17Need,.slice ae17Have (((s.qw[k]!).x8).length) ce17Have,.slice ae17Lack (((s.qw[k]!).xZ).length) ce17Lack,.slice ae17Here (((s.qw[k]!).zf).length) ce17Here,.slice ae17Out (((s.qw[k]!).jb).length) ce17Out,.slice ae17Into (((s.qw[k]!).qM).length) ce17Into,.bool ((s.qw[k]!).zD)] isAgg56 sizeOf56 rfl (qH (H.cells 0 rfl) 0 9) ?_)
   refine sw (oq (isRule_ok _ s (s.qw[k]!) (H.get 7 rfl).1 (H.get 8 rfl).1 (H.get 0 rfl).1 (H.get 1 rfl).1 (H.get 2 rfl).1 (H.get 3 rfl).1 (H.get 4 rfl).1 (H.get 5 rfl).1 qg) H fun w22 H=>?_)
   have q:=fun h:RuleOk s (s.qw[k]!)=>(show 0≤(s.qw[k]!).qE∧(s.qw[k]!).qE≤5 from ⟨h.1.1,by have:=h.1.2;omega⟩)
   refine sp (.bool (!(dec (RuleOk s (s.qw[k]!))))) (zjn (cQ rfl (fun h24=>?_) (fun h24=>?_)))
   ·skip
    refine zcr (sp (.bool false) (zjr (t_r (zr5 (ret1 (.bool false) rfl rfl ⟨_,rfl,?_,H.base⟩)))))
    rw [xg (fun h=>by obtain ⟨h1,h2,h3⟩:=h;first | contradiction | omega | (obtain ⟨r1,r2⟩:=h3 k qf;first | contradiction | (have:=XF (s:=s) (k:=k+1) q1 q2;omega)))]
   obtain ⟨q1,q2⟩:=q ‹_›
   have q3:=XF (s:=s) (k:=k) q1 q2
   have q4:=ofCell_bd s.qw (s.qw[k]!).qE k
   refine xw (t_n (zcr (oF rfl (oL rfl (H.cell 0 rfl rfl) (sw (o_idxArr ((s.qw[k]!).qE) underlying148 ti3 rfl rfl qf qf (oL rfl (H.cell 1 rfl (ints_at (iv:=(s.qw[k]!).qE) (i:=(((s.qw[k]!).qE).toNat)) qf (by simp only [List.length_set,List.length_cons,List.length_nil,counts6_len];omega))) (sw (vg ((counts6 s k)[((s.qw[k]!).qE).toNat]!) 1 rfl rfl qf (sw (o_idxArr ((s.qw[k]!).qE) underlying148 ti3 rfl rfl qf qf ?_)))))))))))
   refine sw (o_storeArr H 1 rfl (((counts6 s k)[((s.qw[k]!).qE).toNat]!)+1) sizeOf3 rfl rfl (i:=(((s.qw[k]!).qE).toNat)) qf (by simp only [List.length_set,List.length_cons,List.length_nil,counts6_len];omega) fun w25 H=>?_)
   rw [counts6_succ q1 q2] at H
   refine zjc (oF rfl (oL rfl (H.cell 0 rfl rfl) (sw (o_idxArr ((s.qw[k]!).qE) underlying148 ti3 rfl rfl qf qf (oL rfl (H.cell 1 rfl (ints_at (iv:=(s.qw[k]!).qE) (i:=(((s.qw[k]!).qE).toNat)) qf (by simp only [List.length_set,List.length_cons,List.length_nil,counts6_len];omega))) (sp (.bool (decide (((counts6 s (k+1))[((s.qw[k]!).qE).toNat]! :Int) > 8))) (zjn (cD rfl (fun h26=>?_) (fun h26=>?_)))))))))
   ·skip
    refine zcr (sp (.bool false) (zjr (zr5 (ret1 (.bool false) rfl rfl ⟨_,rfl,?_,H.base⟩))))
    rw [xg (fun h=>by obtain ⟨h1,h2,h3⟩:=h;first | contradiction | omega | (obtain ⟨r1,r2⟩:=h3 k qf;first | contradiction | (have:=XF (s:=s) (k:=k+1) q1 q2;omega)))]
   refine xw (b_n (t_n (zl (sw (vg k 1 rfl rfl qf (sp (yI (k+1)) (zo (xn (m' :=(s.qw.length - ((k+1):Int)).toNat) qf ⟨_,k+1,counts6 s (k+1),uE5,?_,?_,?_,rfl,N,H.pick [1,2] [7,8]⟩))))))))
   · rfl
   · omega
   · exact i1.succ ‹_› (by have:=XF (s:=s) (k:=k+1) q1 q2;omega)
  refine zx4 (zcr (sp (.bool true) (zjr (ret1 (.bool true) rfl rfl ⟨_,rfl,?_,H.base⟩))))
  rw [yP ⟨by assumption,by omega,(show s.qw.length=k by omega)▸i1⟩]
 replace h6:=xy h6
 replace h6:=zF h6
 refine xR [10,11,12,13] (sp (.bool true) (zjn (xO true rfl (fun _=>zcr (sp (.bool false) (zjr (t_r (ret1 (.bool false) rfl rfl ⟨_,rfl,?_,H.base⟩))))) (fun h=>absurd h qj))))
 rw [xg (fun h=>by obtain ⟨h1,h2,h3⟩:=h;first | contradiction | omega | (obtain ⟨r1,r2⟩:=h3 k qf;first | contradiction | (have:=XF (s:=s) (k:=k+1) q1 q2;omega)))]

theorem validState_ok (w:World) (s:qy) (t:qF) {qB:yOA} {qX:yLN} {qJ:yOA} {xG:yLN} {qY:yOA} {x9:yLN} {xH:yOA} {zN:yLN} {qO:yOA} {xM:yLN} (qP:qW.rep w qX [.slice qB s.qx.length qA] s.qx) (xx:qW.rep w xG [.slice qJ s.qw.length qI] s.qw) (xY:qW.rep w x9 [.slice qY t.qC.length qU] t.qC) (zG:qW.rep w zN [.slice xH t.qK.length xB] t.qK) (xJ:qW.rep w xM [.slice qO t.qG.length qN] t.qG):Calls Tryz.prog 47 #[.agg #[yI s.xk,.slice qB s.qx.length qA,.slice qJ s.qw.length qI],.agg #[.slice qY t.qC.length qU,.slice xH t.qK.length xB,.slice qO t.qG.length qN]] w (Ret (fun v w' =>v=.bool (dec (jB s∧xW s t))) w):=by
 refine en func47 ntmps47 ?_
 have H:=(((((St.start w).arg xJ).arg zG).arg xY).arg xx).arg qP
 have zS:=qQ qP
 have jv:=qQ xx
 have Qe:=qQ xY
 have QI:=qQ zG
 have yg:=qQ xJ
 clear qP xx xY zG xJ
 have N:=Fresh.nil w.heap.size
 refine zcr (sw (jT H (yS s qB qA qJ qI) fun b1 w2 H=>sw (jT H (yT t qY qU xH xB qO qN) fun b3 w4 H=>sp (.bool false) (zjcc (sw (zu (yS s qB qA qJ qI) isAgg27 sizeOf27 rfl (qH (H.cells 1 rfl) 0 3) (sw (oq (validSystem_ok _ s (H.get 0 rfl).1 (H.get 1 rfl).1) H fun w6 H=>sps [.bool (!(dec (jB s))),.bool (!(dec (jB s)))] ?_))))))))
 cases h8:(!(dec (jB s)))
 ·skip
  replace h8:=xm h8
  replace h8:=y5 h8
  have z1:=(‹jB s›:jB s).1.2.1
  refine qL 10 rfl rfl (oF rfl (qL 10 rfl rfl (oL rfl (H.cell 0 rfl rfl) (qL 10 rfl rfl (oN rfl (qL 10 rfl rfl (oF rfl (qL 10 rfl rfl (oL rfl (H.cell 1 rfl rfl) (qL 10 rfl rfl (oN rfl (qL 10 rfl rfl (sps [.bool ((t.qC.length:Int) != s.qx.length),.bool ((t.qC.length:Int) != s.qx.length),.bool ((t.qC.length:Int) != s.qx.length)] ?_)))))))))))))
  cases h9:((t.qC.length:Int) != s.qx.length)
  ·skip
   replace h9:=vW h9
   refine qL 19 rfl rfl (oF rfl (qL 19 rfl rfl (oL rfl (H.cell 0 rfl rfl) (qL 19 rfl rfl (oN rfl (qL 19 rfl rfl (oF rfl (qL 19 rfl rfl (oL rfl (H.cell 1 rfl rfl) (qL 19 rfl rfl (oN rfl (qL 19 rfl rfl (sps [.bool ((t.qK.length:Int) != s.qx.length),.bool ((t.qK.length:Int) != s.qx.length),.bool ((t.qK.length:Int) != s.qx.length)] ?_)))))))))))))
   cases h10:((t.qK.length:Int) != s.qx.length)
   ·skip
    replace h10:=vW h10
    refine qL 28 rfl rfl (oF rfl (qL 28 rfl rfl (oL rfl (H.cell 0 rfl rfl) (qL 28 rfl rfl ?_))))
    obtain ⟨b11,o12,rfl⟩:=H.addr 2 rfl qf
    refine oI rfl rfl (qL 28 rfl rfl (oL rfl (H.Xm 2 rfl 0 qf qf) (qL 28 rfl rfl (sps [.bool (!(t.qC[0]!)),.bool (!(t.qC[0]!)),.bool (!(t.qC[0]!))] ?_))))
    cases h14:(!(t.qC[0]!))
    ·skip
     replace h14:=xm h14
     refine qL 35 rfl rfl (oF rfl (qL 35 rfl rfl (oL rfl (H.cell 1 rfl rfl) (qL 35 rfl rfl (oF rfl (qL 35 rfl rfl (oL rfl (H.cell 0 rfl rfl) (qL 35 rfl rfl (sw (oq (validBag_ok _ s.xk t.qG (H.get 4 rfl).1) H fun w15 H=>qL 35 rfl rfl (sps [.bool (!(dec (zQ s.xk t.qG))),.bool (!(dec (zQ s.xk t.qG)))] (zjn (cQ rfl (fun h17=>?_) (fun h17=>?_))))))))))))))
     ·skip
      refine zcr (sp (.bool false) (zjr (t_r (ret1 (.bool false) rfl rfl ⟨_,rfl,?_,H.base⟩))))
      rw [xg (fun h=>by obtain ⟨h0,h1,h2,h3,h4,h5⟩:=h;first | contradiction | omega | (simp_all;done) | (obtain ⟨q1,q2⟩:=h5 c qf;first | contradiction | (have:=q2 ql;omega)))]
     refine xw (t_n (zcc (oF rfl (oL rfl (H.cell 0 rfl rfl) (oN rfl (sp (yI 0) (zjn (xq ?_))))))))
     refine vJ (fun m' ρ w18=>∃ (zx:Env) (c:Nat),ρ=upd (upd (upd (upd (upd zx 2 (pp b1 0)) 3 (pp b3 0)) 44 (.slice xH t.qK.length xB)) 45 (yI t.qK.length)) 46 (yI c)∧((c:Int)≤t.qK.length)∧(BagsTo s t c)∧m' =(t.qK.length - (c:Int)).toNat∧Fresh w.heap.size []∧St w w18 [.box b3 [.slice (aa b11 o12) t.qC.length qU,.slice xH t.qK.length xB,.slice qO t.qG.length qN] 31,.box b1 (yS s qB qA qJ qI) 27] [sF false qX qB qA s.qx,sF false xG qJ qI s.qw,sF false x9 (aa b11 o12) qU t.qC,sF false zN xH xB t.qK,sF false xM qO qN t.qG]) ((t.qK.length - (0:Int)).toNat) ⟨_,0,uE5,qf,(by exact fun j hj=>by omega),rfl,N,H⟩ ?_
     clear H N
     rintro m' ρ w19 ⟨zx,c,rfl,i0,i1,rfl,N,H⟩
     refine zcr (sp (.bool (decide ((c:Int) < t.qK.length))) (zjn (zn (cD rfl (fun h20=>?_) (fun h20=>?_)))))
     ·skip
      refine xw (t_n (zn (xq (zcr (sp (yI c) ?_)))))
      obtain ⟨b21,o22,rfl⟩:=H.addr 3 rfl qf
      obtain ⟨ae24,ce24,Fe24,H⟩:=H.Xa 3 rfl c c qf qf qf
      refine oI rfl rfl (oL rfl (H.zg 1 rfl 0 rfl) (sps [yI c,.slice ae24 ((t.qK[c]!).length) ce24] (zjc (oF rfl (oL rfl (H.cell 1 rfl rfl) (sp (.slice ae24 ((t.qK[c]!).length) ce24) (sw (oq (validBag_ok _ s.xk (t.qK[c]!) (H.get 0 rfl).1) H fun w25 H=>sps [.bool (!(dec (zQ s.xk (t.qK[c]!)))),.bool (!(dec (zQ s.xk (t.qK[c]!))))] ?_))))))))
      cases h27:(!(dec (zQ s.xk (t.qK[c]!))))
      ·skip
       replace h27:=xm h27
       replace h27:=y5 h27
       refine qL 56 rfl rfl (oF rfl (qL 56 rfl rfl (oL rfl (H.cell 0 rfl rfl) (qL 56 rfl rfl (sp (yI c) (qL 56 rfl rfl (oI rfl rfl (qL 56 rfl rfl (oL rfl (H.Xm 4 rfl c qf qf) (qL 56 rfl rfl (sp (.bool (!(t.qC[c]!))) (qL 56 rfl rfl (sp (.bool (!(t.qC[c]!))) ?_)))))))))))))
       cases h28:(!(t.qC[c]!))
       ·skip
        replace h28:=xm h28
        refine xR [64,65,66] (qL 56 rfl rfl (sps [.bool false,.bool false] (zjn (xO false rfl (fun h=>absurd h qj) (fun _=>xw (b_n (t_n (zl (sw (vg c 1 rfl rfl qf (sp (yI (c+1)) (zo (xn (m' :=(t.qK.length - ((c+1):Int)).toNat) qf ⟨_,c+1,uE5,?_,?_,rfl,N,H.pick [0,1] [2,3,4,5,6]⟩)))))))))))))
        · omega
        · exact i1.succ ‹_› (fun hk=>by first | omega | simp_all)
       replace h28:=xy h28
       refine qL 63 rfl rfl (sp (.slice ae24 ((t.qK[c]!).length) ce24) (qL 63 rfl rfl (sw (oq (bagSize_ok _ (t.qK[c]!) (H.get 0 rfl).1 (by first | assumption | exact jf ql | exact QF ql)) H fun w29 H=>qL 63 rfl rfl (sp (.bool (decide ((sumL (t.qK[c]!):Int) > 0))) (qL 56 rfl rfl (sps [.bool (decide ((sumL (t.qK[c]!):Int) > 0)),.bool (decide ((sumL (t.qK[c]!):Int) > 0))] (zjn (cD rfl (fun h31=>?_) (fun h31=>?_))))))))))
       ·skip
        refine zcr (sp (.bool false) (zjr (zr5 (ret1 (.bool false) rfl rfl ⟨_,rfl,?_,H.base⟩))))
        rw [xg (fun h=>by obtain ⟨h0,h1,h2,h3,h4,h5⟩:=h;first | contradiction | omega | (simp_all;done) | (obtain ⟨q1,q2⟩:=h5 c qf;first | contradiction | (have:=q2 ql;omega)))]
       refine xw (b_n (t_n (zl (sw (vg c 1 rfl rfl qf (sp (yI (c+1)) (zo (xn (m' :=(t.qK.length - ((c+1):Int)).toNat) qf ⟨_,c+1,uE5,?_,?_,rfl,N,H.pick [0,1] [2,3,4,5,6]⟩))))))))
       · omega
       · exact i1.succ ‹_› (fun hk=>by first | omega | simp_all)
      replace h27:=xy h27
      replace h27:=zF h27
      refine xR [57,58,59,60,61,62,63,64,65,66,67] (sp (.bool true) (zjn (xO true rfl (fun _=>zcr (sp (.bool false) (zjr (zr5 (ret1 (.bool false) rfl rfl ⟨_,rfl,?_,H.base⟩))))) (fun h=>absurd h qj))))
      rw [xg (fun h=>by obtain ⟨h0,h1,h2,h3,h4,h5⟩:=h;first | contradiction | omega | (simp_all;done) | (obtain ⟨q1,q2⟩:=h5 c qf;first | contradiction | (have:=q2 ql;omega)))]
     refine zx4 (zcr (sp (.bool true) (zjr (ret1 (.bool true) rfl rfl ⟨_,rfl,?_,H.base⟩))))
     rw [yP ⟨by assumption,by omega,by omega,by first | assumption | simp_all,by assumption,(show t.qK.length=c by omega)▸i1⟩]
    replace h14:=xy h14
    refine xR [36,37,38,39,40,41] (sp (.bool true) (zjn (xO true rfl (fun _=>zcr (sp (.bool false) (zjr (t_r (ret1 (.bool false) rfl rfl ⟨_,rfl,?_,H.base⟩))))) (fun h=>absurd h qj))))
    rw [xg (fun h=>by obtain ⟨h0,h1,h2,h3,h4,h5⟩:=h;first | contradiction | omega | (simp_all;done) | (obtain ⟨q1,q2⟩:=h5 c qf;first | contradiction | (have:=q2 ql;omega)))]
   replace h10:=bne_iff_ne.1 h10
   refine xR [29,30,31,32,33] (sps [.bool true,.bool true] (xR [36,37,38,39,40,41] (sp (.bool true) (zjn (xO true rfl (fun _=>zcr (sp (.bool false) (zjr (t_r (ret1 (.bool false) rfl rfl ⟨_,rfl,?_,H.base⟩))))) (fun h=>absurd h qj))))))
   rw [xg (fun h=>by obtain ⟨h0,h1,h2,h3,h4,h5⟩:=h;first | contradiction | omega | (simp_all;done) | (obtain ⟨q1,q2⟩:=h5 c qf;first | contradiction | (have:=q2 ql;omega)))]
  replace h9:=bne_iff_ne.1 h9
  refine xR [20,21,22,23,24,25,26] (sps [.bool true,.bool true] (xR [29,30,31,32,33] (sps [.bool true,.bool true] (xR [36,37,38,39,40,41] (sp (.bool true) (zjn (xO true rfl (fun _=>zcr (sp (.bool false) (zjr (t_r (ret1 (.bool false) rfl rfl ⟨_,rfl,?_,H.base⟩))))) (fun h=>absurd h qj))))))))
  rw [xg (fun h=>by obtain ⟨h0,h1,h2,h3,h4,h5⟩:=h;first | contradiction | omega | (simp_all;done) | (obtain ⟨q1,q2⟩:=h5 c qf;first | contradiction | (have:=q2 ql;omega)))]
 replace h8:=xy h8
 replace h8:=zF h8
 refine xR [11,12,13,14,15,16,17] (sps [.bool true,.bool true] (xR [20,21,22,23,24,25,26] (sps [.bool true,.bool true] (xR [29,30,31,32,33] (sps [.bool true,.bool true] (xR [36,37,38,39,40,41] (sp (.bool true) (zjn (xO true rfl (fun _=>zcr (sp (.bool false) (zjr (t_r (ret1 (.bool false) rfl rfl ⟨_,rfl,?_,H.base⟩))))) (fun h=>absurd h qj))))))))))
 rw [xg (fun h=>by obtain ⟨h0,h1,h2,h3,h4,h5⟩:=h;first | contradiction | omega | (simp_all;done) | (obtain ⟨q1,q2⟩:=h5 c qf;first | contradiction | (have:=q2 ql;omega)))]

theorem cellCode_ok (w:World) (s:qy) (t:qF) (c:Int) {qB:yOA} {qX:yLN} {qJ:yOA} {xG:yLN} {qY:yOA} {x9:yLN} {xH:yOA} {zN:yLN} {qO:yOA} {xM:yLN} (qP:qW.rep w qX [.slice qB s.qx.length qA] s.qx) (xx:qW.rep w xG [.slice qJ s.qw.length qI] s.qw) (xY:qW.rep w x9 [.slice qY t.qC.length qU] t.qC) (zG:qW.rep w zN [.slice xH t.qK.length xB] t.qK) (xJ:qW.rep w xM [.slice qO t.qG.length qN] t.qG):Calls Tryz.prog 64 #[.agg #[yI s.xk,.slice qB s.qx.length qA,.slice qJ s.qw.length qI],.agg #[.slice qY t.qC.length qU,.slice xH t.qK.length xB,.slice qO t.qG.length qN],yI c] w (Ret (fun v w' =>v=yI (zy s t c)) w):=by
 refine en func64 ntmps64 ?_
 have H:=(((((St.start w).arg xJ).arg zG).arg xY).arg xx).arg qP
 have zS:=qQ qP
 have jv:=qQ xx
 have Qe:=qQ xY
 have QI:=qQ zG
 have yg:=qQ xJ
 clear qP xx xY zG xJ
 have N:=Fresh.nil w.heap.size
 refine zcr (sw (jT H (yS s qB qA qJ qI) fun b1 w2 H=>sw (jT H (yT t qY qU xH xB qO qN) fun b3 w4 H=>sp (yI 0) (zjn (zn (xq (zcr (sw (zu (yS s qB qA qJ qI) isAgg27 sizeOf27 rfl (qH (H.cells 1 rfl) 0 3) ?_)))))))))
 refine sw (zu (yT t qY qU xH xB qO qN) isAgg31 sizeOf31 rfl (qH (H.cells 0 rfl) 0 3) (sw (oq (validState_ok _ s t (H.get 0 rfl).1 (H.get 1 rfl).1 (H.get 2 rfl).1 (H.get 3 rfl).1 (H.get 4 rfl).1) H fun w6 H=>sps [.bool (!(dec (jB s∧xW s t))),.bool (!(dec (jB s∧xW s t)))] (zjn (cQ rfl (fun h8=>?_) (fun h8=>?_))))))
 ·skip
  refine zcr (sp (yI 1) (zjr (b_r (t_r (ret1 (yI 1) rfl rfl ⟨_,rfl,?_,H.base⟩)))))
  rw [code_1 ql]
 have z0:jB s∧xW s t:=‹_›
 have z1:=z0.2.1
 refine zcr (sw (zu (yS s qB qA qJ qI) isAgg27 sizeOf27 rfl (qH (H.cells 1 rfl) 0 3) (sp (yI c) (sw (oq (isCell_ok _ s c (H.get 0 rfl).1 (H.get 1 rfl).1) H fun w10 H=>sps [.bool (!(inR c 0 ((s.qx.length:Int) - 1))),.bool (!(inR c 0 ((s.qx.length:Int) - 1)))] (zjn (xO (!(inR c 0 ((s.qx.length:Int) - 1))) rfl (fun h12=>?_) (fun h12=>?_))))))))
 ·skip
  replace h12:=xy h12
  replace h12:=QS h12
  refine zcr (sp (yI 2) (zjr (b_r (t_r (ret1 (yI 2) rfl rfl ⟨_,rfl,?_,H.base⟩)))))
  rw [code_2 z0.1 z0.2 ql]
 replace h12:=xm h12
 replace h12:=Qp.1 h12
 refine zcr (oF rfl (oL rfl (H.cell 0 rfl rfl) (sp (yI c) ?_)))
 obtain ⟨b13,o14,rfl⟩:=H.addr 2 rfl qf
 refine oI rfl rfl (oL rfl (H.Xm 2 rfl c qf qf) (sps [.bool (!(t.qC[c.toNat]!)),.bool (!(t.qC[c.toNat]!))] (zjn (xO (!(t.qC[c.toNat]!)) rfl (fun h16=>?_) (fun h16=>?_)))))
 ·skip
  replace h16:=xy h16
  refine zcr (sp (yI 4) (zjr (b_r (t_r (ret1 (yI 4) rfl rfl ⟨_,rfl,?_,H.base⟩)))))
  rw [code_4 z0.1 z0.2 ql (by first | assumption | simp_all)]
 replace h16:=xm h16
 refine xw (b_n (t_n (zcr (sp (yI 0) (zjr (ret1 (yI 0) rfl rfl ⟨_,rfl,?_,H.base⟩))))))
 rw [code_0 z0.1 z0.2 ql (by first | assumption | simp_all)]

theorem parentNow_ok (w:World) (s:qy) (t:qF) (c:Int) {qB:yOA} {qX:yLN} {qJ:yOA} {xG:yLN} {qY:yOA} {x9:yLN} {xH:yOA} {zN:yLN} {qO:yOA} {xM:yLN} (qP:qW.rep w qX [.slice qB s.qx.length qA] s.qx) (xx:qW.rep w xG [.slice qJ s.qw.length qI] s.qw) (xY:qW.rep w x9 [.slice qY t.qC.length qU] t.qC) (zG:qW.rep w zN [.slice xH t.qK.length xB] t.qK) (xJ:qW.rep w xM [.slice qO t.qG.length qN] t.qG) (p0:ji s) (p1:Q4 s c) (p2:t.qC.length=s.qx.length):Calls Tryz.prog 65 #[.agg #[yI s.xk,.slice qB s.qx.length qA,.slice qJ s.qw.length qI],.agg #[.slice qY t.qC.length qU,.slice xH t.qK.length xB,.slice qO t.qG.length qN],yI c] w (Ret (fun v w' =>v=yI (qR s t c)) w):=by
 refine en func65 ntmps65 ?_
 have H:=(((((St.start w).arg xJ).arg zG).arg xY).arg xx).arg qP
 have zS:=qQ qP
 have jv:=qQ xx
 have Qe:=qQ xY
 have QI:=qQ zG
 have yg:=qQ xJ
 clear qP xx xY zG xJ
 have N:=Fresh.nil w.heap.size
 have p3:=p0.step p1.1 p1.2
 refine zcr (sw (jT H (yS s qB qA qJ qI) fun b1 w2 H=>sw (jT H (yT t qY qU xH xB qO qN) fun b3 w4 H=>sp (yI 0) (zjc (oF rfl (oL rfl (H.cell 1 rfl rfl) (sp (yI c) ?_)))))))
 obtain ⟨b5,o6,rfl⟩:=H.addr 0 rfl qf
 refine oI rfl rfl (oL rfl (H.jZ 0 rfl c qf qf) (sp (yI (s.qx[c.toNat]!)) (zjn (zn (xq ?_)))))
 refine vJ (fun m' ρ w8=>∃ (zx:Env) (p:Int) (n:Nat),ρ=upd (upd (upd zx 3 (pp b1 0)) 4 (pp b3 0)) 7 (yI p)∧(-1≤p∧p≤(s.qx.length:Int) - 1)∧(p < n)∧(qR s t c=climb s.qx t.qC n p)∧m' =(p+1).toNat∧Fresh w.heap.size []∧St w w8 [.box b3 (yT t qY qU xH xB qO qN) 31,.box b1 [yI s.xk,.slice (aa b5 o6) s.qx.length qA,.slice qJ s.qw.length qI] 27] [sF false qX (aa b5 o6) qA s.qx,sF false xG qJ qI s.qw,sF false x9 qY qU t.qC,sF false zN xH xB t.qK,sF false xM qO qN t.qG]) (((s.qx[c.toNat]!)+1).toNat) ⟨_,s.qx[c.toNat]!,s.qx.length,uE3,qf,qf,(by rfl),rfl,N,H⟩ ?_
 clear H N
 rintro m' ρ w9 ⟨zx,p,n,rfl,i0,i1,i2,rfl,N,H⟩
 have up:=fun h=>p0.step (c:=p) h i0.2
 refine zcc (sps [yI p,.bool (decide ((p:Int)≥0)),.bool (decide ((p:Int)≥0))] ?_)
 cases h10:(decide ((p:Int)≥0))
 ·skip
  replace h10:=of_decide_eq_false h10
  refine xR [16,17,18,19,20,21] (sp (.bool false) (zjn (xO false rfl (fun h=>absurd h qj) (fun _=>zx4 (zcr (sps [yI p,yI p] (zjr (ret1 (yI p) rfl rfl ⟨_,rfl,?_,H.base⟩))))))))
  rw [i2,climb_end (by first | omega | simp_all)]
 replace h10:=of_decide_eq_true h10
 refine qL 15 rfl rfl (oF rfl (qL 15 rfl rfl (oL rfl (H.cell 0 rfl rfl) (qL 15 rfl rfl (sp (yI p) (qL 15 rfl rfl ?_))))))
 obtain ⟨b11,o12,rfl⟩:=H.addr 2 rfl qf
 refine oI rfl rfl (qL 15 rfl rfl (oL rfl (H.Xm 2 rfl p qf qf) (qL 15 rfl rfl (sps [.bool (!(t.qC[p.toNat]!)),.bool (!(t.qC[p.toNat]!))] (zjn (xO (!(t.qC[p.toNat]!)) rfl (fun h14=>?_) (fun h14=>?_)))))))
 ·skip
  replace h14:=xy h14
  refine xw (t_n (xq (zl (oF rfl (oL rfl (H.cell 1 rfl rfl) (sp (yI p) (oI rfl rfl (oL rfl (H.jZ 0 rfl p qf qf) (sp (yI (s.qx[p.toNat]!)) (zo (b_n ?_)))))))))))
  have up1:=up qf
  refine xn (m' :=((s.qx[p.toNat]!)+1).toNat) qf ⟨_,s.qx[p.toNat]!,n - 1,uE3,?_,?_,?_,rfl,N,H⟩
  · omega
  · omega
  · exact i2.trans (climb_go qf qf ‹_›)
 replace h14:=xm h14
 refine zx4 (zcr (sps [yI p,yI p] (zjr (ret1 (yI p) rfl rfl ⟨_,rfl,?_,H.base⟩))))
 rw [i2,climb_end (by first | omega | simp_all)]

theorem Xx (w:World) (t:qF) {qY:yOA} {x9:yLN} {xH:yOA} {zN:yLN} {qO:yOA} {xM:yLN} (xY:qW.rep w x9 [.slice qY t.qC.length qU] t.qC) (zG:qW.rep w zN [.slice xH t.qK.length xB] t.qK) (xJ:qW.rep w xM [.slice qO t.qG.length qN] t.qG) (p0:t.qC.length≤1000000) (p1:t.qG.length≤1000000) (p2:t.qK.length≤1000000) (p3:∀ j,j < t.qK.length→(t.qK[j]!).length≤1000000):Calls Tryz.prog 49 #[.agg #[.slice qY t.qC.length qU,.slice xH t.qK.length xB,.slice qO t.qG.length qN]] w (Ret (fun v w' =>∃ (raAlive:yOA) (rnAlive:Nat) (rcAlive:Nat) (raBags:yOA) (rnBags:Nat) (rcBags:Nat) (rxBags:List Value) (rFBags:yLN) (raAround:yOA) (rnAround:Nat) (rcAround:Nat),v=.agg #[.slice raAlive rnAlive rcAlive,.slice raBags rnBags rcBags,.slice raAround rnAround rcAround]∧Fresh w.heap.size [rFBags]∧St w w' [rr raAlive rnAlive rcAlive 4 1 (t.qC.map (Value.bool)),rr raBags rnBags rcBags 24 1 rxBags,rr raAround rnAround rcAround 2 1 (t.qG.map (Value.int .i64))] [xe true rFBags rxBags t.qK]) w):=by
 refine en func49 ntmps49 ?_
 have H:=(((St.start w).arg xJ).arg zG).arg xY
 have Qe:=qQ xY
 have QI:=qQ zG
 have yg:=qQ xJ
 clear xY zG xJ
 have N:=Fresh.nil w.heap.size
 refine zcr (sw (jT H (yT t qY qU xH xB qO qN) fun b1 w2 H=>sw (xu H ti31 [yN,yN,yN] fun b3 w4 H=>zjn (zn ?_))))
 refine c_cut (fun ρ w10=>∃ (zx:Env) (b5:Nat) (ra6:yOA) (rc7:Nat) (a8:yOA) (c9:Nat),ρ=upd (upd (upd zx 1 (pp b1 0)) 2 (pp b3 0)) 3 (pp b5 0)∧Fresh w.heap.size []∧St w w10 [.box b5 [.slice ra6 t.qC.length rc7,yN,.slice a8 t.qG.length c9] 31,rr a8 t.qG.length c9 2 1 (t.qG.map (Value.int .i64)),rr ra6 t.qC.length rc7 4 1 (t.qC.map (Value.bool)),.box b3 [yN,yN,yN] 31,.box b1 (yT t qY qU xH xB qO qN) 31] [sF false x9 qY qU t.qC,sF false zN xH xB t.qK,sF false xM qO qN t.qG]) ?_ ?_
 ·skip
  refine y9 rfl H fun H=>tF 0 rfl rfl H ?_
  refine tL 1 rfl rfl (fun _ h=>h.cell 1 rfl rfl) H ?_
  refine tF 3 rfl rfl H ?_
  refine tL 4 rfl rfl (fun _ h=>h.cell 1 rfl rfl) H ?_
  refine zI [2,7] qh qm (vk rfl ?_ (vk rfl ?_ zJ))
  ·skip
   have sz15:=H.base.size
   refine oc (cloneB_ok _ t.qC (H.get 0 rfl).1 qg) ?_
   rintro _ w13 ⟨ra12,rn12,rc12,rfl,M,K⟩ _
   replace H:=H.merge K M
   obtain rfl:=H.QY 0 rfl
   refine ⟨H.pick [1,2] [0,1,2],(zI [5,7] qh qm (vk rfl ?_ (vk rfl ?_ zJ)))⟩
   ·skip
    have sz18:=H.base.size
    refine oc (cloneI_ok _ t.qG (H.get 2 rfl).1 qg) ?_
    rintro v23 w21 r23 x22
    replace H:=H.zt x22 r23
    obtain ⟨a24,c25,rfl,hc26,hm27⟩:=H.jS 0 rfl
    refine ⟨H.pick [2,3] [0,1,2],(zI [6,7] qh qm (vk rfl ?_ (vk rfl ?_ zJ)))⟩
    ·skip
     refine xK [.slice ra12 t.qC.length rc12,yN,.slice a24 t.qG.length c25] [(0,.slice ra12 t.qC.length rc12),(2,.slice a24 t.qG.length c25)] (⟨H.pick [2,3] [0,1,2],(ro 7 rfl (xu H ti31 [yN,yN,yN] fun b28 w29 H=>⟨H.pick [3,4] [0,1,2],(ro 8 rfl (qV H 0 [.slice ra12 t.qC.length rc12,yN,.slice a24 t.qG.length c25] sizeOf31 fun w30 H=>⟨H.pick [3,4] [0,1,2],(xh qh ((meet ⟨_,b28,ra12,rc12,a24,c25,uE3,N,H⟩)))⟩))⟩))⟩)
    refine xu H ti31 [yN,yN,yN] fun b31 w32 H=>⟨H.pick [3,4] [0,1,2],(ro 6 rfl (xK [.slice ra12 t.qC.length rc12,yN,.slice a24 t.qG.length c25] [(0,.slice ra12 t.qC.length rc12),(2,.slice a24 t.qG.length c25)] (⟨H.pick [3,4] [0,1,2],(ro 8 rfl (qV H 0 [.slice ra12 t.qC.length rc12,yN,.slice a24 t.qG.length c25] sizeOf31 fun w33 H=>⟨H.pick [3,4] [0,1,2],(xh qh ((meet ⟨_,b31,ra12,rc12,a24,c25,uE3,N,H⟩)))⟩))⟩)))⟩
   refine xu H ti31 [yN,yN,yN] fun b34 w35 H=>⟨H.pick [2,3] [0,1,2],(ro 5 rfl ?_)⟩
   have sz36:=H.base.size
   refine oc (cloneI_ok _ t.qG (H.get 2 rfl).1 qg) ?_
   rintro v41 w39 r41 x40
   replace H:=H.zt x40 r41
   obtain ⟨a42,c43,rfl,hc44,hm45⟩:=H.jS 0 rfl
   refine ⟨H.pick [3,4] [0,1,2],(ro 6 rfl (xK [.slice ra12 t.qC.length rc12,yN,.slice a42 t.qG.length c43] [(0,.slice ra12 t.qC.length rc12),(2,.slice a42 t.qG.length c43)] (⟨H.pick [3,4] [0,1,2],(ro 8 rfl (qV H 1 [.slice ra12 t.qC.length rc12,yN,.slice a42 t.qG.length c43] sizeOf31 fun w46 H=>⟨H.pick [3,4] [0,1,2],(xh qh ((meet ⟨_,b34,ra12,rc12,a42,c43,uE3,N,H.pick [1,0,2,3,4] [0,1,2]⟩)))⟩))⟩)))⟩
  refine xu H ti31 [yN,yN,yN] fun b47 w48 H=>⟨H.pick [1,2] [0,1,2],(ro 2 rfl ?_)⟩
  have sz52:=H.base.size
  refine oc (cloneB_ok _ t.qC (H.get 0 rfl).1 qg) ?_
  rintro _ w50 ⟨ra49,rn49,rc49,rfl,M,K⟩ _
  replace H:=H.merge K M
  obtain rfl:=H.QY 0 rfl
  refine ⟨H.pick [2,3] [0,1,2],(ro 5 rfl ?_)⟩
  have sz55:=H.base.size
  refine oc (cloneI_ok _ t.qG (H.get 2 rfl).1 qg) ?_
  rintro v60 w58 r60 x59
  replace H:=H.zt x59 r60
  obtain ⟨a61,c62,rfl,hc63,hm64⟩:=H.jS 0 rfl
  refine ⟨H.pick [3,4] [0,1,2],(ro 6 rfl (xK [.slice ra49 t.qC.length rc49,yN,.slice a61 t.qG.length c62] [(0,.slice ra49 t.qC.length rc49),(2,.slice a61 t.qG.length c62)] (⟨H.pick [3,4] [0,1,2],(ro 8 rfl (qV H 2 [.slice ra49 t.qC.length rc49,yN,.slice a61 t.qG.length c62] sizeOf31 fun w65 H=>⟨H.pick [3,4] [0,1,2],(xh qh ((meet ⟨_,b47,ra49,rc49,a61,c62,uE3,N,H.pick [2,0,1,3,4] [0,1,2]⟩)))⟩))⟩)))⟩
 clear H N
 rintro ρ w66 ⟨zx,b5,ra6,rc7,a8,c9,rfl,N,H⟩
 refine t_n (zcc (oF rfl (oL rfl (H.cell 4 rfl rfl) (oN rfl (sp (yI 0) (zjn (xq ?_)))))))
 replace H:=H.nilRow 24 1
 replace H:=H.Qz (α:=yLI)
 refine vJ (fun m' ρ w67=>∃ (zx:Env) (k:Nat) (jQ:yOA) (zT:Nat) (jP:Nat) (out_Bags:yLL) (zq:List Value) (xN:yLN),ρ=upd (upd (upd (upd (upd zx 2 (pp b3 0)) 3 (pp b5 0)) 14 (.slice xH t.qK.length xB)) 15 (yI t.qK.length)) 16 (yI k)∧out_Bags=t.qK.take k∧((k:Int)≤t.qK.length)∧m' =(t.qK.length - (k:Int)).toNat∧Fresh w.heap.size [xN]∧St w w67 [rr jQ zT jP 24 1 zq,.box b5 [.slice ra6 t.qC.length rc7,.slice jQ zT jP,.slice a8 t.qG.length c9] 31,rr a8 t.qG.length c9 2 1 (t.qG.map (Value.int .i64)),rr ra6 t.qC.length rc7 4 1 (t.qC.map (Value.bool)),.box b3 [yN,yN,yN] 31,.box b1 (yT t qY qU xH xB qO qN) 31] [xe true xN zq out_Bags,sF false x9 qY qU t.qC,sF false zN xH xB t.qK,sF false xM qO qN t.qG]) ((t.qK.length - (0:Int)).toNat) ⟨_,0,none,0,0,([]:yLL),[],[],uE5,(by rfl),qf,rfl,N.emp,H⟩ ?_
 clear H N
 rintro m' ρ w68 ⟨zx,k,jQ,zT,jP,out_Bags,zq,xN,rfl,rfl,i0,rfl,N,H⟩
 have XE:=H.zi (α:=yLI) 0 rfl 0 rfl qj
 have p4:=p3 k
 rw [List.length_take_of_le qf] at XE
 refine zcr (sp (.bool (decide ((k:Int) < t.qK.length))) (zjn (zn (cD rfl (fun h69=>?_) (fun h69=>?_)))))
 ·skip
  refine xw (t_n (zn (xq (zcr ?_))))
  obtain ⟨b70,o71,rfl⟩:=H.addr 2 rfl qf
  obtain ⟨ae73,ce73,Fe73,H⟩:=H.Xa 2 rfl k k qf qf qf
  refine oI rfl rfl (oL rfl (H.zg 1 rfl 0 rfl) (sp (.slice ae73 ((t.qK[k]!).length) ce73) (zjn ?_)))
  refine c_cut (fun ρ w79=>∃ (zx:Env) (a74:yOA) (c75:Nat) (a76:yOA) (c77:Nat) (G78:yLN),ρ=upd (upd (upd (upd (upd zx 2 (pp b3 0)) 3 (pp b5 0)) 14 (.slice (aa b70 o71) t.qK.length xB)) 15 (yI t.qK.length)) 16 (yI k)∧Fresh w.heap.size [(xN++G78)]∧St w w79 [rr a74 (zT+1) c75 24 1 (zq++[.slice a76 ((t.qK[k]!).length) c77]),.box b5 [.slice ra6 t.qC.length rc7,.slice a74 (zT+1) c75,.slice a8 t.qG.length c9] 31,rr a8 t.qG.length c9 2 1 (t.qG.map (Value.int .i64)),rr ra6 t.qC.length rc7 4 1 (t.qC.map (Value.bool)),.box b3 [yN,yN,yN] 31,.box b1 [.slice qY t.qC.length qU,.slice (aa b70 o71) t.qK.length xB,.slice qO t.qG.length qN] 31] [xe true (xN++G78) (zq++[.slice a76 ((t.qK[k]!).length) c77]) ((t.qK.take k)++[(t.qK[k]!)]),sF true G78 a76 c77 (t.qK[k]!),sF false Fe73 ae73 ce73 (t.qK[k]!),atF b70 (o71+(k:Int).toNat * 1) [.slice ae73 ((t.qK[k]!).length) ce73],sF false x9 qY qU t.qC,sF false zN (aa b70 o71) xB t.qK,sF false xM qO qN t.qG]) ?_ ?_
  ·skip
   refine yU rfl H [2,3,4,5] fun H=>?_
   have S:=H.jA [2,3,4,5] [0,1,2,3,4,5]
   refine tF 0 rfl rfl S ?_
   refine rtp 2 (.slice ae73 ((t.qK[k]!).length) ce73) S ?_
   refine zI [1,3] qh qm (vk rfl ?_ (vk rfl ?_ zJ))
   ·skip
    refine zk (.slice jQ zT jP) isAgg29 rfl (H.cell 1 rfl rfl) (⟨H.pick [2,3,4,5] [0,1,2,3,4,5],(ro 3 rfl ?_)⟩)
    have sz81:=H.base.size
    have lt82:=H.ltN (L:=[xN]) [2]
    refine oc (cloneI_ok _ (t.qK[k]!) (H.get 0 rfl).1 qg) ?_
    rintro v86 w84 r86 x85
    replace H:=H.zt x85 r86
    obtain ⟨a87,c88,rfl,hc89,hm90⟩:=H.jS 0 rfl
    refine ⟨H.pick [3,4,5,6] [0,1,2,3,4,5],(ro 4 rfl (vz H underlying29 ti24 [.slice a87 ((t.qK[k]!).length) c88] fun b91 w92 H=>⟨H.pick [4,5,6,7] [0,1,2,3,4,5],(ro 5 rfl ?_)⟩))⟩
    obtain ⟨G96,N,hn97,H⟩:=H.zV 1 rfl N (H.yK [2])
    refine vM H 2 rfl 0 rfl underlying29 ti24 rfl qj rfl rfl rfl (by simp [Value.oneCell',Value.cells]) qp qf fun a93 c94 w95 H=>?_
    replace H:=H.Q9 3 rfl 0 rfl
    replace N:Fresh w.heap.size [(xN++G96)]:=(N.pick [1,0]).join
    refine ⟨H.pick [4,5,6,7] [2,3,4,5,6,7],(tF 6 rfl rfl (H.pick [4,5,6,7] [2,3,4,5,6,7]) ?_)⟩
    refine ro 7 rfl (zU H 3 [.slice ra6 t.qC.length rc7,.slice a93 (zT+1) c94,.slice a8 t.qG.length c9] sizeOf29 fun w98 H=>⟨H.pick [4,5,6,7] [2,3,4,5,6,7],(xh qh ((meet ⟨_,a93,c94,a87,c88,G96,uE5,N,H.pick [2,3,4,5,6,7] [0,1,2,3,5,6,7]⟩)))⟩)
   have sz99:=H.base.size
   have lt100:=H.ltN (L:=[xN]) [2]
   refine oc (cloneI_ok _ (t.qK[k]!) (H.get 0 rfl).1 qg) ?_
   rintro v104 w102 r104 x103
   replace H:=H.zt x103 r104
   obtain ⟨a105,c106,rfl,hc107,hm108⟩:=H.jS 0 rfl
   refine ⟨H.pick [3,4,5,6] [0,1,2,3,4,5],(zI [1,4] qh qm (vk rfl ?_ (vk rfl ?_ zJ)))⟩
   ·skip
    refine zk (.slice jQ zT jP) isAgg29 rfl (H.cell 2 rfl rfl) (⟨H.pick [3,4,5,6] [0,1,2,3,4,5],(ro 4 rfl (vz H underlying29 ti24 [.slice a105 ((t.qK[k]!).length) c106] fun b109 w110 H=>⟨H.pick [4,5,6,7] [0,1,2,3,4,5],(ro 5 rfl ?_)⟩))⟩)
    obtain ⟨G114,N,hn115,H⟩:=H.zV 1 rfl N (H.yK [2])
    refine vM H 2 rfl 0 rfl underlying29 ti24 rfl qj rfl rfl rfl (by simp [Value.oneCell',Value.cells]) qp qf fun a111 c112 w113 H=>?_
    replace H:=H.Q9 3 rfl 0 rfl
    replace N:Fresh w.heap.size [(xN++G114)]:=(N.pick [1,0]).join
    refine ⟨H.pick [4,5,6,7] [2,3,4,5,6,7],(tF 6 rfl rfl (H.pick [4,5,6,7] [2,3,4,5,6,7]) ?_)⟩
    refine ro 7 rfl (zU H 3 [.slice ra6 t.qC.length rc7,.slice a111 (zT+1) c112,.slice a8 t.qG.length c9] sizeOf29 fun w116 H=>⟨H.pick [4,5,6,7] [2,3,4,5,6,7],(xh qh ((meet ⟨_,a111,c112,a105,c106,G114,uE5,N,H.pick [2,3,4,5,6,7] [0,1,2,3,5,6,7]⟩)))⟩)
   refine vz H underlying29 ti24 [.slice a105 ((t.qK[k]!).length) c106] fun b117 w118 H=>⟨H.pick [4,5,6,7] [0,1,2,3,4,5],(ro 1 rfl (zk (.slice jQ zT jP) isAgg29 rfl (H.cell 3 rfl rfl) (⟨H.pick [4,5,6,7] [0,1,2,3,4,5],(ro 5 rfl ?_)⟩)))⟩
   obtain ⟨G122,N,hn123,H⟩:=H.zV 1 rfl N (H.yK [2])
   refine vM H 2 rfl 0 rfl underlying29 ti24 rfl qj rfl rfl rfl (by simp [Value.oneCell',Value.cells]) qp qf fun a119 c120 w121 H=>?_
   replace H:=H.Q9 3 rfl 0 rfl
   replace N:Fresh w.heap.size [(xN++G122)]:=(N.pick [1,0]).join
   refine ⟨H.pick [4,5,6,7] [2,3,4,5,6,7],(tF 6 rfl rfl (H.pick [4,5,6,7] [2,3,4,5,6,7]) ?_)⟩
   refine ro 7 rfl (zU H 3 [.slice ra6 t.qC.length rc7,.slice a119 (zT+1) c120,.slice a8 t.qG.length c9] sizeOf29 fun w124 H=>⟨H.pick [4,5,6,7] [2,3,4,5,6,7],(xh qh ((meet ⟨_,a119,c120,a105,c106,G122,uE5,N,H.pick [2,3,4,5,6,7] [0,1,2,3,5,6,7]⟩)))⟩)
  clear H N
  rintro ρ w125 ⟨zx,a74,c75,a76,c77,G78,rfl,N,H⟩
  refine b_n (t_n (zl (sw (vg k 1 rfl rfl qf (sp (yI (k+1)) (zo (xn (m' :=(t.qK.length - ((k+1):Int)).toNat) qf ⟨_,k+1,a74,zT+1,c75,((t.qK.take k)++[(t.qK[k]!)]),zq++[.slice a76 ((t.qK[k]!).length) c77],(xN++G78),uE5,?_,?_,rfl,N,H.pick [0,1,2,3,4,5] [0,4,5,6]⟩)))))))
  · exact take_snoc qf
  · omega
 refine zx4 (zcr (sw (zu [.slice ra6 t.qC.length rc7,.slice jQ zT jP,.slice a8 t.qG.length c9] isAgg31 sizeOf31 rfl (qH (H.cells 1 rfl) 0 3) (sw (qV H 4 [.slice ra6 t.qC.length rc7,.slice jQ zT jP,.slice a8 t.qG.length c9] sizeOf31 fun w126 H=>zjr (retC H 4 rfl rfl isAgg31 sizeOf31 rfl ⟨_,rfl,?_,H.base⟩))))))
 obtain rfl:k=t.qK.length:=by omega
 rw [List.take_length] at H
 exact ⟨ra6,t.qC.length,rc7,jQ,zT,jP,zq,xN,a8,t.qG.length,c9,rfl,N,H.pick [3,0,2] [0]⟩
end
end Go.Proofs.YtcpnclokildllaaGreat
