/- Walks and laws, printed by program and by hand: what each function comes to, for all arguments, part 2. -/
import Derived.Test.YtfekhnffbngoaabGreatA1
import Derived.Shelf.SortG.Plain
import Derived.Shelf.SortG.SortNone
import Derived.Ground.SlgnProg
namespace Go.Proofs.YtfekhnffbngoaabGreat
set_option linter.unusedVariables false
set_option linter.unusedSimpArgs false
open Go.Proofs.YtfekhnffbngoaabGreat.Tot (tot)
open Go.Proofs.YtfekhnffbngoaabGreat.Mark (cnt mrk mkd mkd_mark cnt_mark)
section

theorem zX.rule {s:qG} (h:zX s) {i:Nat} (hi:i < s.qB.length):RuleOk s (s.qB[i]!):=(h.2.2 i hi).1
theorem RuleOk.cell {s:qG} {r:zK} (h:RuleOk s r):r.qF.toNat < xN s:=by have:=h.1.1;have:=h.1.2;unfold xN;omega
theorem zy.len {s:qG} {l:yLI} (h:zy s.qQ l):l.length=zn s:=by have:=h.2;unfold zn;omega
theorem zy.get {n:Int} {l:yLI} (h:zy n l) {k:Nat} (hk:k < l.length):0≤l[k]! ∧l[k]! ≤1000:=h.1.1 k hk
theorem zy.mul {s:qG} {m:yLI} (h:zy s.qQ m) {t:Int} (ht: -1000≤t∧t≤1000):∀ k,k < zn s→ -1000000≤t * m[k]! ∧t * m[k]! ≤1000000:=fun k hk=>by
  have h1:=h.1.1 k (by rw [h.len];exact hk)
  rcases Int.le_total 0 t with h0 | h0
  · have h2:=Int.mul_nonneg h0 h1.1
    have h3:=Int.mul_le_mul_of_nonneg_left h1.2 h0
    omega
  · have h2:=Int.mul_nonneg (show 0≤ -t by omega) h1.1
    have h3:=Int.mul_le_mul_of_nonneg_left h1.2 (show 0≤ -t by omega)
    have h4: -t * m[k]! = -(t * m[k]!):=Int.neg_mul ..
    omega
theorem zy.QB {s:qG} {m:yLI} (h:zy s.qQ m) {t:Int} (ht: -1000≤t∧t≤1000):SmallT m t:=bagOk_smallT h qf
theorem kinds_le {s:qG} (h:zX s):zn s≤8:=by have:=h.1.1.2;unfold zn;omega
theorem xQ.shape {s:qG} {t:qR} (h:xQ s t):Shape (xN s) (zn s) 1000 t.qN:=by
  refine ⟨h.2.1,fun p hp=>?_⟩
  have hb:=h.bagLen (k:=p) (by rw [h.2.1];exact hp)
  refine ⟨hb.len,fun k hk=>?_⟩
  have:=hb.get (k:=k) (by rw [hb.len];exact hk)
  omega
def CntOk (s:qG) (counts:yLI):Prop:=counts.length=s.qB.length∧∀ i,i < counts.length→0≤counts[i]! ∧counts[i]! ≤1000
theorem CntOk.bd {s:qG} {counts:yLI} (h:CntOk s counts) {i:Nat} (hi:i < s.qB.length):0≤counts[i]! ∧counts[i]! ≤1000:=h.2 i (by rw [h.1];exact hi)

def restR (s:qG) (t:qR) (counts:yLI):Nat→yLL
  | 0=>t.qN
  | k+1=>(restR s t counts k).set (s.qB[k]!).qF.toNat (y9 ((restR s t counts k)[(s.qB[k]!).qF.toNat]!) (s.qB[k]!).xu (-(counts[k]!)))
def needF (s:qG) (counts:yLI) (i p k:Nat):Int:=at' p (s.qB[i]!).qF.toNat (-(counts[i]!) * ((s.qB[i]!).xu)[k]!)
def needS (s:qG) (counts:yLI):Nat→Nat→Nat→Int
  | 0,_,_=>0
  | i+1,p,k=>needS s counts i p k+needF s counts i p k
theorem restR_ent {s:qG} {t:qR} {counts:yLI} (hs:zX s) (ht:xQ s t) (hc:CntOk s counts):∀ k,k≤s.qB.length→
    Ent (xN s) (zn s) (fun p q=>(t.qN[p]!)[q]! +needS s counts k p q) (1000+1000000 * k) (restR s t counts k)
  | 0,_=>⟨by simpa [restR] using ht.shape,fun p k hp hk=>by simp [restR,needS]⟩
  | k+1,h=>by
    have hr:=hs.rule (i:=k) qf
    have hcb:=hc.bd (i:=k) qf
    refine ((restR_ent hs ht hc k qf).add (D:=1000000) rfl hr.cell (hr.2.2.2.2.1.mul qf) qf).to (fun p q=>?_) qf
    show _=_+(needS s counts k p q+needF s counts k p q)
    unfold needF;omega
theorem restR_len {s:qG} {t:qR} {counts:yLI}:∀ k,(restR s t counts k).length=t.qN.length
  | 0=>rfl
  | k+1=>by rw [restR,List.length_set];exact restR_len k
theorem restR_skip {s:qG} {t:qR} {counts:yLI} (hs:zX s) (ht:xQ s t) {k:Nat} (hk:k < s.qB.length) (h:counts[k]! =0):restR s t counts (k+1)=restR s t counts k:=by
  rw [restR,plus_zero qf]
  exact set_self (by rw [restR_len,ht.2.1];exact (hs.rule hk).cell) rfl
def BadAt (s:qG) (t:qR) (counts:yLI) (i:Nat):Prop:=0 < counts[i]! ∧¬ Appl s t i
def GoodTo (s:qG) (t:qR) (counts:yLI) (k:Nat):Prop:=∀ i,i < k→¬ BadAt s t counts i
theorem GoodTo.succ {s:qG} {t:qR} {counts:yLI} {k:Nat} (h:GoodTo s t counts k) (h1:¬ BadAt s t counts k):GoodTo s t counts (k+1):=fun j hj=>by
  by_cases e:j=k
  · subst e;exact h1
  · exact h j qf
def NonNeg (b:yLL) (n:Nat):Prop:=∀ p,p < n→∀ k,k < (b[p]!).length→0≤(b[p]!)[k]!
theorem NonNeg.succ {b:yLL} {n:Nat} (h:NonNeg b n) (h1:∀ k,k < (b[n]!).length→0≤(b[n]!)[k]!):NonNeg b (n+1):=fun j hj=>by
  by_cases e:j=n
  · subst e;exact h1
  · exact h j qf
def IsCh (s:qG) (t:qR) (counts:yLI):Prop:=GoodTo s t counts counts.length∧NonNeg (restR s t counts counts.length) t.qN.length
def IsMost (s:qG) (t:qR) (counts:yLI):Prop:=IsCh s t counts∧∀ i,i < s.qB.length→Appl s t i→within (s.qB[i]!).xu ((restR s t counts counts.length)[(s.qB[i]!).qF.toNat]!)=false

def Qj (l m:yLI):Nat→Int
  | 0=>1000
  | k+1=>if 0 < l[k]! then min (Qj l m k) (m[k]! / l[k]!) else Qj l m k
def timesL (l m:yLI):Int:=Qj l m l.length
theorem timesTo_pos {l m:yLI} {k:Nat} (h:0 < l[k]!):Qj l m (k+1)=min (Qj l m k) (m[k]! / l[k]!):=by rw [Qj,if_pos h]
theorem timesTo_skip {l m:yLI} {k:Nat} (h:¬ 0 < l[k]!):Qj l m (k+1)=Qj l m k:=by rw [Qj,if_neg h]
theorem timesTo_bd {l m:yLI} (hm:∀ k,k < l.length→0≤m[k]!):∀ k,k≤l.length→0≤Qj l m k∧Qj l m k≤1000
  | 0,_=>by simp [Qj]
  | k+1,h=>by
    have:=timesTo_bd hm k qf
    rw [Qj]
    split
    · next h1=>have:=Int.ediv_nonneg (hm k qf) (show 0≤l[k]! by omega);omega
    · exact this
theorem timesTo_le {l m:yLI}:∀ {k j:Nat},j < k→0 < l[j]! →Qj l m k≤m[j]! / l[j]!
  | k+1,j,h,h1=>by
    rw [Qj]
    by_cases e:j=k
    · subst e;rw [if_pos h1];omega
    · have:=timesTo_le (m:=m) (show j < k by omega) h1
      split <;> omega
theorem timesL_left {l m:yLI} (hl:∀ k,k < l.length→0≤l[k]!) (hm:∀ k,k < l.length→0≤m[k]!) {k:Nat} (hk:k < l.length):0≤m[k]! + -(timesL l m) * l[k]! :=by
  have h0:=timesTo_bd hm l.length (Nat.le_refl _)
  rcases Int.lt_or_eq_of_le (hl k hk) with h | h
  · have h1:=timesTo_le (m:=m) hk h
    have h2:m[k]! / l[k]! * l[k]! ≤m[k]! :=Int.ediv_mul_le _ qf
    have h3:=Int.mul_le_mul_of_nonneg_right h1 (show 0≤l[k]! by omega)
    have h4: -(timesL l m) * l[k]! = -(timesL l m * l[k]!):=Int.neg_mul ..
    unfold timesL at *
    omega
  · rw [← h];have:=hm k hk;omega
def TimesInv (l m:yLI) (i:Nat) (best:Int):Prop:=(best=Qj l m i∧∃ j,j < i∧0 < l[j]!)∨(best= -1∧Qj l m i=1000∧∀ j,j < i→l[j]! ≤0)
theorem TimesInv.zero (l m:yLI):TimesInv l m 0 (-1):=.inr ⟨rfl,rfl,fun j hj=>by omega⟩
theorem TimesInv.take {l m:yLI} {i:Nat} {best:Int} (h:TimesInv l m i best) (hm:0≤m[i]! ∧m[i]! ≤1000) (hl:0 < l[i]!) (hb:best < 0∨m[i]! / l[i]! < best) (hn:0≤Qj l m i):TimesInv l m (i+1) (m[i]! / l[i]!):=by
  refine .inl ⟨?_,i,by omega,hl⟩
  rw [timesTo_pos hl]
  have h1:m[i]! / l[i]! ≤m[i]! :=Int.ediv_le_self _ hm.1
  rcases h with ⟨h,_⟩ | ⟨h,h2,_⟩ <;> omega
theorem TimesInv.keep {l m:yLI} {i:Nat} {best:Int} (h:TimesInv l m i best) (hl:¬ 0 < l[i]!):TimesInv l m (i+1) best:=by
  unfold TimesInv
  rw [timesTo_skip hl]
  rcases h with ⟨h,j,h1,h2⟩ | ⟨h,h2,h3⟩
  · exact .inl ⟨h,j,by omega,h2⟩
  · refine .inr ⟨h,h2,fun j hj=>?_⟩
    by_cases e:j=i
    · subst e;omega
    · exact h3 j qf
theorem TimesInv.done {l m:yLI} {i:Nat} {best:Int} (h:TimesInv l m i best) (hp:∃ j,j < i∧0 < l[j]!):best=Qj l m i:=by
  rcases h with ⟨h,_⟩ | ⟨_,_,h3⟩
  · exact h
  · obtain ⟨j,h1,h2⟩:=hp
    have:=h3 j h1;omega
def Box (n K:Nat) (b:yLL):Prop:=b.length=n∧∀ p,p < n→(b[p]!).length=K∧∀ k,k < K→0≤(b[p]!)[k]! ∧(b[p]!)[k]! ≤1000
theorem xQ.box {s:qG} {t:qR} (h:xQ s t):Box (xN s) (zn s) t.qN:=by
  refine ⟨h.2.1,fun p hp=>?_⟩
  have hb:=h.bagLen (k:=p) (by rw [h.2.1];exact hp)
  exact ⟨hb.len,fun k hk=>hb.get (by rw [hb.len];exact hk)⟩
theorem parentNow_root {s:qG} {t:qR} (hs:zN s):xn s t 0= -1:=by
  unfold xn
  rw [show s.qA[(0:Int).toNat]! = -1 from hs.2.2.1]
  exact climb_end fun h=>by omega
def outPl (s:qG) (t:qR) (r:zK):Nat:=if r.qF=0 then xN s else (xn s t r.qF).toNat
theorem outPl_root {s:qG} {t:qR} {r:zK} (h:r.qF=0):outPl s t r=xN s:=by rw [outPl,if_pos h]
theorem outPl_up {s:qG} {t:qR} {r:zK} (h:r.qF≠0):outPl s t r=(xn s t r.qF).toNat:=by rw [outPl,if_neg h]
def Xy (r:zK) (c:Int):Nat→Nat→Nat→Int
  | 0,_,_=>0
  | j+1,p,k=>Xy r c j p k+at' p (r.qL[j]!).qF.toNat (c * ((r.qL[j]!).jR)[k]!)
def putF (s:qG) (t:qR) (r:zK) (c:Int) (p k:Nat):Int:=at' p r.qF.toNat (c * r.xF[k]!)+at' p (outPl s t r) (c * r.zI[k]!)+Xy r c r.qL.length p k
def putS (s:qG) (t:qR) (counts:yLI):Nat→Nat→Nat→Int
  | 0,_,_=>0
  | i+1,p,k=>putS s t counts i p k+putF s t (s.qB[i]!) (counts[i]!) p k
def allS (s:qG) (t:qR) (counts:yLI):Nat→Nat→Nat→Int
  | 0,_,_=>0
  | i+1,p,k=>allS s t counts i p k+needF s counts i p k+putF s t (s.qB[i]!) (counts[i]!) p k
theorem allS_eq (s:qG) (t:qR) (counts:yLI) (p k:Nat):∀ i,allS s t counts i p k=needS s counts i p k+putS s t counts i p k
  | 0=>rfl
  | i+1=>by
    have:=allS_eq s t counts p k i
    simp only [allS,needS,putS]
    omega
theorem at_zero (p c:Nat) (x:Int):at' p c (0 * x)=0:=by unfold at';split <;> simp
theorem intoF_zero (r:zK) (p k:Nat):∀ j,Xy r 0 j p k=0
  | 0=>rfl
  | j+1=>by rw [Xy,intoF_zero r p k j,at_zero];rfl
theorem putF_zero (s:qG) (t:qR) (r:zK) {c:Int} (h:c=0) (p k:Nat):putF s t r c p k=0:=by
  subst h;rw [putF,at_zero,at_zero,intoF_zero];rfl
def base0 (s:qG) (t:qR) (p k:Nat):Int:=if p < xN s then (t.qN[p]!)[k]! else t.qM[k]!
def stepF (s:qG) (t:qR) (counts:yLI) (p k:Nat):Int:=base0 s t p k+allS s t counts s.qB.length p k
noncomputable def xA (s:qG) (t:qR) (counts:yLI):qR:=
  ⟨t.qJ,(tab2 (xN s+1) (zn s) (stepF s t counts)).take (xN s),(tab2 (xN s+1) (zn s) (stepF s t counts))[xN s]!⟩
theorem xQ.around {s:qG} {t:qR} (h:xQ s t):t.qM.length=zn s∧∀ k,k < zn s→0≤t.qM[k]! ∧t.qM[k]! ≤1000:=by
  have hb:=h.2.2.2.1
  exact ⟨hb.len,fun k hk=>hb.get (by rw [hb.len];exact hk)⟩
theorem start_ent {s:qG} {t:qR} {counts:yLI} (ht:xQ s t):Ent (xN s+1) (zn s) (fun p k=>base0 s t p k+allS s t counts 0 p k) 1000 (t.qN++[t.qM]):=by
  have h1:Ent (xN s) (zn s) (fun p k=>base0 s t p k+allS s t counts 0 p k) 1000 t.qN:=⟨ht.shape,fun p k hp hk=>by simp [base0,hp,allS]⟩
  refine h1.snoc ht.around.1 (fun k hk=>by have:=ht.around.2 k hk;omega) fun k hk=>?_
  simp [base0,allS]
theorem step_tab {s:qG} {t:qR} {counts:yLI} {B:Int} {b:yLL} (h:Ent (xN s+1) (zn s) (fun p k=>base0 s t p k+allS s t counts s.qB.length p k) B b):
    b.take (xN s)=(xA s t counts).qN∧b[xN s]! =(xA s t counts).qM:=by
  have e:=h.tab
  constructor
  · show _=(tab2 _ _ _).take _
    rw [e];rfl
  · show _=(tab2 _ _ _)[_]!
    rw [e];rfl
def MeltsTo (s:qG) (counts:yLI) (c:Int) (k:Nat):Prop:=∃ i,i < k∧0 < counts[i]! ∧(s.qB[i]!).xR=true∧(s.qB[i]!).qF=c
theorem melts_zero (s:qG) (counts:yLI) (c:Int):¬ MeltsTo s counts c 0:=fun ⟨i,h,_⟩=>by omega
theorem melts_succ {s:qG} {counts:yLI} {c:Int} {k:Nat}:MeltsTo s counts c (k+1)↔MeltsTo s counts c k∨(0 < counts[k]! ∧(s.qB[k]!).xR=true∧(s.qB[k]!).qF=c):=by
  constructor
  · rintro ⟨i,h,h1⟩
    by_cases e:i=k
    · subst e;exact .inr h1
    · exact .inl ⟨i,by omega,h1⟩
  · rintro (⟨i,h,h1⟩ | h)
    · exact ⟨i,by omega,h1⟩
    · exact ⟨k,by omega,h⟩
abbrev Melts (s:qG) (counts:yLI) (c:Int):Prop:=MeltsTo s counts c s.qB.length
noncomputable def jC (s:qG) (counts:yLI) (n k:Nat):List Bool:=(List.range n).map fun c:Nat=>dec (MeltsTo s counts (c:Int) k)
theorem meltsL_len (s:qG) (counts:yLI) (n k:Nat):(jC s counts n k).length=n:=by simp [jC]
theorem meltsL_get {s:qG} {counts:yLI} {n k c:Nat} (h:c < n):(jC s counts n k)[c]! =dec (MeltsTo s counts (c:Int) k):=by
  rw [getElem!_pos (jC s counts n k) c (by rw [meltsL_len];exact h)];simp [jC]
theorem meltsL_zero (s:qG) (counts:yLI) (n:Nat):List.replicate n false=jC s counts n 0:=by
  refine ext_get (by simp [meltsL_len]) fun k hk=>?_
  rw [List.length_replicate] at hk
  rw [meltsL_get hk,qZ (melts_zero _ _ _),getElem!_pos (List.replicate n false) k (by simpa using hk)];simp
theorem meltsL_set {s:qG} {counts:yLI} {n k:Nat} (h0:0≤(s.qB[k]!).qF) (h:(s.qB[k]!).qF.toNat < n) {x:Bool} (hx:x=true↔((jC s counts n k)[(s.qB[k]!).qF.toNat]! =true∨(0 < counts[k]! ∧(s.qB[k]!).xR=true))):
    (jC s counts n k).set (s.qB[k]!).qF.toNat x=jC s counts n (k+1):=by
  refine ext_get (by simp [meltsL_len]) fun p hp=>?_
  rw [List.length_set,meltsL_len] at hp
  rw [getset (by rw [meltsL_len];exact h),meltsL_get hp,meltsL_get hp]
  rw [meltsL_get h] at hx
  by_cases e:p=(s.qB[k]!).qF.toNat
  · rw [if_pos e]
    refine dec_eq (hx.trans ?_)
    rw [melts_succ,e,show (((s.qB[k]!).qF.toNat:Nat):Int)=(s.qB[k]!).qF by omega]
    constructor
    · rintro (h1 | h1)
      · exact .inl (jJ h1)
      · exact .inr ⟨h1.1,h1.2,rfl⟩
    · rintro (h1 | h1)
      · exact .inl (jL h1)
      · exact .inr ⟨h1.1,h1.2.1⟩
  · rw [if_neg e]
    refine dec_congr ?_
    rw [melts_succ]
    constructor
    · exact .inl
    · rintro (h1 | ⟨_,_,h1⟩)
      · exact h1
      · exfalso;omega
open Classical in
noncomputable def xC (s:qG) (counts:yLI) (u:qR):Nat→qR
  | 0=>u
  | j+1=>if Melts s counts ((xN s:Int) - 1 - j) then melted s (xC s counts u j) ((xN s:Int) - 1 - j) else xC s counts u j
theorem meltDown_yes {s:qG} {counts:yLI} {u:qR} {j:Nat} {c:Int} (h:Melts s counts c) (hc:c=(xN s:Int) - 1 - j):xC s counts u (j+1)=melted s (xC s counts u j) c:=by subst hc;rw [xC,if_pos h]
theorem meltDown_no {s:qG} {counts:yLI} {u:qR} {j:Nat} {c:Int} (h:¬ Melts s counts c) (hc:c=(xN s:Int) - 1 - j):xC s counts u (j+1)=xC s counts u j:=by subst hc;rw [xC,if_neg h]
theorem meltDown_yes' {s:qG} {counts:yLI} {u:qR} {j i:Nat} {c:Int} (h:dec (MeltsTo s counts c i)=true) (hi:i=s.qB.length) (hc:c=(xN s:Int) - 1 - j):xC s counts u (j+1)=melted s (xC s counts u j) c:=by subst hi;exact meltDown_yes (jJ h) hc
theorem meltDown_no' {s:qG} {counts:yLI} {u:qR} {j i:Nat} {c:Int} (h:dec (MeltsTo s counts c i)=false) (hi:i=s.qB.length) (hc:c=(xN s:Int) - 1 - j):xC s counts u (j+1)=xC s counts u j:=by subst hi;exact meltDown_no (zo h) hc
theorem QG (s:qG) (counts:yLI) (u:qR):∀ j,(xC s counts u j).qM=u.qM
  | 0=>rfl
  | j+1=>by
    rw [xC]
    split
    · exact QG s counts u j
    · exact QG s counts u j
structure Live (s:qG) (B:Int) (u:qR):Prop where
  alive:u.qJ.length=xN s
  root:u.qJ[0]! =true
  bags:Shape (xN s) (zn s) B u.qN
  around:u.qM.length=zn s
theorem Live.melt {s:qG} {B:Int} {u:qR} (hs:zX s) (h:Live s B u) (hB:0≤B) {c:Int} (h0:0 < c) (h1:c≤(xN s:Int) - 1):Live s (2 * B) (melted s u c):=by
  have hp:=Qc (t:=u) hs.1 h.root h0 h1
  have hpc:(xn s u c).toNat < xN s:=by omega
  have hcc:c.toNat < xN s:=by omega
  refine ⟨by simp [melted,h.alive],?_,?_,h.around⟩
  · show (u.qJ.set c.toNat false)[0]! =true
    rw [getset (by rw [h.alive];exact hcc),if_neg qf];exact h.root
  · have hr:=(h.bags.2 _ hcc).2
    have hk:=(h.bags.2 _ hcc).1
    have h2:=h.bags.plus (m:=u.qN[c.toNat]!) (t:=1) (D:=B) hpc (fun k hk=>by have:=hr k hk;omega) hB
    refine (h2.set (D:=B+B) hcc (by simp [zn]) (fun k hk=>?_) qf).mono qf
    rw [getElem!_pos (List.replicate s.qQ.toNat (0:Int)) k (by simpa [zn] using hk)]
    simp;omega
def bnd:Nat→Int
  | 0=>200000000
  | j+1=>2 * bnd j
theorem bnd_pos:∀ j,0≤bnd j
  | 0=>by simp [bnd]
  | j+1=>by have:=bnd_pos j;simp only [bnd];omega
theorem bnd_mono:∀ {i j:Nat},i≤j→bnd i≤bnd j
  | i, 0, h => by obtain rfl : i = 0 := by omega
                  exact Int.le_refl _
  | i,j+1,h=>by
    by_cases e:i=j+1
    · subst e;exact Int.le_refl _
    · have:=bnd_mono (show i≤j by omega)
      have:=bnd_pos j
      simp only [bnd];omega
theorem bnd_le {j:Nat} (h:j≤6):bnd j≤12800000000:=Int.le_trans (bnd_mono h) (by simp [bnd])
theorem Live.mono {s:qG} {B D:Int} {u:qR} (h:Live s B u) (hD:B≤D):Live s D u:=⟨h.alive,h.root,h.bags.mono hD,h.around⟩
theorem stepped_live {s:qG} {t:qR} {counts:yLI} {B:Int} {b:yLL} (ht:xQ s t) (h:Ent (xN s+1) (zn s) (fun p k=>base0 s t p k+allS s t counts s.qB.length p k) B b) (hB:B≤200000000):Live s (bnd 0) (xA s t counts):=by
  have h1:=step_tab h
  have hr:=h.sh.2 (xN s) qf
  refine ⟨ht.1,ht.2.2.1,?_,by rw [← h1.2];exact hr.1⟩
  rw [← h1.1]
  refine ⟨by rw [List.length_take,h.sh.1];omega,fun p hp=>?_⟩
  have e:(b.take (xN s))[p]! =b[p]! :=by
    rw [getElem!_pos (b.take (xN s)) p (by rw [List.length_take,h.sh.1];omega),getElem!_pos b p (by rw [h.sh.1];omega)];simp
  rw [e]
  have:=h.sh.2 p qf
  exact ⟨this.1,fun k hk=>by have:=this.2 k hk;simp only [bnd];omega⟩
theorem meltDown_live {s:qG} {counts:yLI} {u:qR} (hs:zX s) (h:Live s (bnd 0) u):∀ j,j+1≤xN s→Live s (bnd j) (xC s counts u j)
  | 0,_=>h
  | j+1,hj=>by
    have ih:=meltDown_live (counts:=counts) hs h j qf
    by_cases hm:Melts s counts ((xN s:Int) - 1 - j)
    · rw [meltDown_yes hm rfl];exact ih.melt hs (bnd_pos j) qf qf
    · rw [meltDown_no hm rfl];exact ih.mono (bnd_mono qf)
theorem Live.rows {s:qG} {B:Int} {u:qR} (hs:zX s) (h:Live s B u) (hB:B≤12800000000) {p c:Nat} (hp:p < xN s) (hc:c < xN s):
    (u.qN[p]!).length≤(u.qN[c]!).length∧Mid (u.qN[p]!)∧SmallT (u.qN[c]!) 1:=by
  have h1:=h.bags.row qf (kinds_le hs) hp
  have h2:=h.bags.row qf (kinds_le hs) hc
  refine ⟨by omega,h1.2,fun k hk=>?_⟩
  have:=h2.2.2 k hk
  omega
noncomputable def stepRes (s:qG) (t:qR) (counts:yLI):qR×Int:=told s (xC s counts (xA s t counts) (xN s - 1))
open Classical in
noncomputable def QA (s:qG) (t:qR) (counts:yLI):qR×Int:=if IsCh s t counts then stepRes s t counts else (default,4)
theorem stepBy_yes {s:qG} {t:qR} {counts:yLI} (h:IsCh s t counts):QA s t counts=stepRes s t counts:=by rw [QA,if_pos h]
theorem stepBy_no {s:qG} {t:qR} {counts:yLI} (h:¬ IsCh s t counts):QA s t counts=(default,4):=by rw [QA,if_neg h]
def minus (k:Nat):yLI:=(List.range 6).map fun j=>if j < k then -1 else 0
theorem minus_len (k:Nat):(minus k).length=6:=by simp [minus]
theorem minus_get {k j:Nat} (h:j < 6):(minus k)[j]! =if j < k then -1 else 0:=by
  rw [getElem!_pos (minus k) j (by rw [minus_len];exact h)];simp [minus]
theorem minus_set {k:Nat} (h:k < 6):(minus k).set k (-1)=minus (k+1):=by
  refine ext_get (by simp [minus_len]) fun p hp=>?_
  rw [List.length_set,minus_len] at hp
  rw [getset (by rw [minus_len];exact h),minus_get hp,minus_get hp]
  by_cases e:p=k
  · rw [if_pos e,if_pos qf]
  · rw [if_neg e]
    by_cases h1:p < k
    · rw [if_pos h1,if_pos qf]
    · rw [if_neg h1,if_neg qf]
theorem minus_six {k:Nat} (h:k=6) (s:qG) (t:qR):minus k=bests s t (-1) 6 0:=by
  subst h
  rw [← bests_zero];rfl
theorem appl_yes {s:qG} {t:qR} {i k n:Nat} {z:Int} (hk:k=s.qB.length) (hi:i < s.qB.length) (hz:z≤(s.qB[i]!).zM) (hc:(s.qB[i]!).qF.toNat < n) (h1:(s.qB[i]!).zM=(bests s t z n k)[(s.qB[i]!).qF.toNat]!) (h2:EnOk s t (s.qB[i]!)):Appl s t i:=by
  rw [bests_get hc,hk] at h1
  exact (appl_iff hi hz).2 ⟨h2,h1⟩
theorem appl_no {s:qG} {t:qR} {i k n:Nat} {z:Int} (hk:k=s.qB.length) (hi:i < s.qB.length) (hz:z≤(s.qB[i]!).zM) (hc:(s.qB[i]!).qF.toNat < n) (h1:(s.qB[i]!).zM≠(bests s t z n k)[(s.qB[i]!).qF.toNat]!):¬ Appl s t i:=fun h=>by
  rw [bests_get hc,hk] at h1
  exact h1 ((appl_iff hi hz).1 h).2
theorem outPl_in {s:qG} {t:qR} {r:zK} (hs:zN s) (h:0≤xn s t r.qF):outPl s t r=(xn s t r.qF).toNat:=by
  refine outPl_up fun e=>?_
  rw [e,parentNow_root hs] at h;omega
theorem outPl_out {s:qG} {t:qR} {r:zK} (hs:zN s) (h0:t.qJ[0]! =true) (hc:y8 s r.qF) (h:¬ 0≤xn s t r.qF):outPl s t r=s.qA.length:=by
  refine outPl_root ?_
  rcases Int.lt_or_eq_of_le hc.1 with h1 | h1
  · exact absurd (Qc hs h0 h1 hc.2).1 h
  · exact h1.symm
theorem parentNow_lt {s:qG} {t:qR} (hs:zN s) (h0:t.qJ[0]! =true) {c:Int} (hc:y8 s c):xn s t c≤(s.qA.length:Int) - 1:=by
  rcases Int.lt_or_eq_of_le hc.1 with h1 | h1
  · have:=Qc hs h0 h1 hc.2;have:=hc.2;omega
  · rw [← h1,parentNow_root hs];have:=hs.2.1;omega
theorem meltsL_1 {s:qG} {counts:yLI} {n k:Nat} (h0:0≤(s.qB[k]!).qF) (h:(s.qB[k]!).qF.toNat < n) (h1:(jC s counts n k)[(s.qB[k]!).qF.toNat]! =true):(jC s counts n k).set (s.qB[k]!).qF.toNat true=jC s counts n (k+1):=
  meltsL_set h0 h ⟨fun _=>.inl h1,fun _=>rfl⟩
theorem meltsL_2 {s:qG} {counts:yLI} {n k:Nat} (h0:0≤(s.qB[k]!).qF) (h:(s.qB[k]!).qF.toNat < n) (h1:(jC s counts n k)[(s.qB[k]!).qF.toNat]! =false) (h2:¬ counts[k]! > 0):(jC s counts n k).set (s.qB[k]!).qF.toNat false=jC s counts n (k+1):=
  meltsL_set h0 h ⟨fun h=>(by cases h),fun h=>h.elim (fun h=>(ft h h1).elim) fun h=>(h2 h.1).elim⟩
theorem meltsL_3 {s:qG} {counts:yLI} {n k:Nat} (h0:0≤(s.qB[k]!).qF) (h:(s.qB[k]!).qF.toNat < n) (h1:(jC s counts n k)[(s.qB[k]!).qF.toNat]! =false) (h2:counts[k]! > 0):(jC s counts n k).set (s.qB[k]!).qF.toNat (s.qB[k]!).xR=jC s counts n (k+1):=
  meltsL_set h0 h ⟨fun h=>.inr ⟨h2,h⟩,fun h=>h.elim (fun h=>(ft h h1).elim) fun h=>h.2⟩
theorem meltDown_yesL {s:qG} {counts:yLI} {u:qR} {j i n:Nat} {c:Int} (h:(jC s counts n i)[c.toNat]! =true) (hn:c.toNat < n) (h0:0≤c) (hi:i=s.qB.length) (hc:c=(xN s:Int) - 1 - j):xC s counts u (j+1)=melted s (xC s counts u j) c:=by
  rw [meltsL_get hn,show ((c.toNat:Nat):Int)=c by omega] at h
  exact meltDown_yes' h hi hc
theorem meltDown_noL {s:qG} {counts:yLI} {u:qR} {j i n:Nat} {c:Int} (h:(jC s counts n i)[c.toNat]! =false) (hn:c.toNat < n) (h0:0≤c) (hi:i=s.qB.length) (hc:c=(xN s:Int) - 1 - j):xC s counts u (j+1)=xC s counts u j:=by
  rw [meltsL_get hn,show ((c.toNat:Nat):Int)=c by omega] at h
  exact meltDown_no' h hi hc
theorem copy_pre {n K:Nat} {f:Nat→Nat→Int} {B:Int} {b:yLL} {al:List Bool} (h:Ent (n+1) K f B b) (hK:K≤8) (hn:n≤6) (ha:al.length=n):
    (⟨al,b.take n,b[n]!⟩:qR).qJ.length≤1000000∧(⟨al,b.take n,b[n]!⟩:qR).qM.length≤1000000∧(⟨al,b.take n,b[n]!⟩:qR).qN.length≤1000000∧
      ∀ j,j < (⟨al,b.take n,b[n]!⟩:qR).qN.length→((⟨al,b.take n,b[n]!⟩:qR).qN[j]!).length≤1000000:=by
  have hl:(b.take n).length=n:=by rw [List.length_take,h.sh.1];omega
  have hr:=h.sh.2 n qf
  refine ⟨?_,?_,?_,fun j hj=>?_⟩
  · show al.length≤1000000;omega
  · show (b[n]!).length≤1000000;omega
  · show (b.take n).length≤1000000;omega
  · have hj:j < (b.take n).length:=hj
    show ((b.take n)[j]!).length≤1000000
    rw [getElem!_pos (b.take n) j hj,List.getElem_take,← getElem!_pos b j (by rw [h.sh.1];omega)]
    have:=(h.sh.2 j qf).1;omega
theorem anyTo_mem {l:yLI} {x:Int}:anyTo (fun k=>x == l[k]!) l.length=dec (x∈l):=by
  refine dec_eq ?_
  rw [anyTo_iff]
  constructor
  · rintro ⟨k,h,h1⟩
    rw [beq_iff_eq,getElem!_pos l k h] at h1
    rw [h1];exact List.getElem_mem h
  · intro h
    obtain ⟨k,hk,e⟩:=List.mem_iff_getElem.1 h
    exact ⟨k,hk,by rw [beq_iff_eq,getElem!_pos l k hk,e]⟩
theorem mem_appls {s:qG} {t:qR} {i:Nat} (hi:i < s.qB.length):(i:Int)∈appls s t↔Appl s t i:=by
  unfold appls
  rw [mem_applL]
  constructor
  · rintro ⟨_,_,h⟩;simpa using h
  · intro h;exact ⟨Int.natCast_nonneg i,by simpa using hi,by simpa using h⟩
theorem mem_applsI {s:qG} {t:qR} {i:Int} (h0:0≤i) (hi:i.toNat < s.qB.length):i∈appls s t↔Appl s t i.toNat:=by
  have:=mem_appls (s:=s) (t:=t) hi
  rwa [show ((i.toNat:Nat):Int)=i by omega] at this
def minTo (l:yLI):Nat→Int
  | 0=>l[0]!
  | k+1=>if k=0 then l[0]! else min (minTo l k) (l[k]!)
theorem minTo_one (l:yLI):minTo l 1=l[0]! :=rfl
theorem minTo_succ {l:yLI} {k:Nat} (h:1≤k):minTo l (k+1)=min (minTo l k) (l[k]!):=by rw [minTo,if_neg qf]
def minL (l:yLI):Int:=minTo l l.length
theorem minTo_neg {l:yLI}:∀ {k:Nat},1≤k→(minTo l k < 0↔∃ j,j < k∧l[j]! < 0)
  | 1,_=>by
    rw [minTo_one]
    constructor
    · intro h;exact ⟨0,by omega,h⟩
    · rintro ⟨j,h,h1⟩;obtain rfl:j=0:=by omega
      exact h1
  | k+2,_=>by
    have ih:=minTo_neg (l:=l) (k:=k+1) qf
    rw [minTo_succ qf]
    constructor
    · intro h
      by_cases h1:minTo l (k+1) < 0
      · obtain ⟨j,h2,h3⟩:=ih.1 h1;exact ⟨j,by omega,h3⟩
      · exact ⟨k+1,by omega,by omega⟩
    · rintro ⟨j,h,h1⟩
      by_cases e:j=k+1
      · subst e;omega
      · have:=ih.2 ⟨j,by omega,h1⟩;omega
theorem minL_neg {l:yLI} (h:1≤l.length):minL l < 0↔¬ ∀ k,k < l.length→0≤l[k]! :=by
  unfold minL
  rw [minTo_neg h]
  constructor
  · rintro ⟨j,h1,h2⟩ h3;have:=h3 j h1;omega
  · intro h1
    apply Classical.byContradiction
    intro h2
    refine h1 fun k hk=>?_
    have:¬ l[k]! < 0:=fun h3=>h2 ⟨k,hk,h3⟩
    omega
def single (s:qG) (i:Nat):yLI:=(List.replicate s.qB.length (0:Int)).set i 1
theorem single_len (s:qG) (i:Nat):(single s i).length=s.qB.length:=by simp [single]
theorem single_get {s:qG} {i j:Nat} (hi:i < s.qB.length) (hj:j < s.qB.length):(single s i)[j]! =if j=i then 1 else 0:=by
  unfold single
  rw [getset (by simpa using hi)]
  by_cases e:j=i
  · rw [if_pos e,if_pos e]
  · rw [if_neg e,if_neg e,getElem!_pos (List.replicate s.qB.length (0:Int)) j (by simpa using hj)];simp
theorem single_cnt {s:qG} {i:Nat} (hi:i < s.qB.length):CntOk s (single s i):=by
  refine ⟨single_len s i,fun j hj=>?_⟩
  rw [single_len] at hj
  rw [single_get hi hj]
  split <;> omega
theorem single_rest {s:qG} {t:qR} (hs:zX s) (ht:xQ s t) {i:Nat} (hi:i < s.qB.length):∀ k,k≤s.qB.length→
    restR s t (single s i) k=if k≤i then t.qN else t.qN.set (s.qB[i]!).qF.toNat (y9 (t.qN[(s.qB[i]!).qF.toNat]!) (s.qB[i]!).xu (-1))
  | 0,_=>by rw [if_pos qf];rfl
  | k+1,h=>by
    have ih:=single_rest hs ht hi k qf
    by_cases e:k=i
    · subst e
      rw [if_neg qf,restR,ih,if_pos qf,single_get hi hi,if_pos rfl]
    · rw [restR_skip hs ht qf (by rw [single_get hi qf,if_neg e]),ih]
      by_cases h1:k≤i
      · rw [if_pos h1,if_pos qf]
      · rw [if_neg h1,if_neg qf]
theorem single_isCh {s:qG} {t:qR} (hs:zX s) (ht:xQ s t) {i:Nat} (hi:i < s.qB.length):IsCh s t (single s i)↔Appl s t i:=by
  constructor
  · intro h
    apply Classical.byContradiction
    intro hn
    exact h.1 i (by rw [single_len];exact hi) ⟨by rw [single_get hi hi,if_pos rfl];omega,hn⟩
  · intro ha
    constructor
    · intro j hj
      rw [single_len] at hj
      rintro ⟨h1,h2⟩
      rw [single_get hi hj] at h1
      by_cases e:j=i
      · subst e;exact h2 ha
      · rw [if_neg e] at h1;omega
    · rw [single_len,single_rest hs ht hi _ (Nat.le_refl _),if_neg qf]
      have hr:=hs.rule hi
      have hb:=hr.2.2.2.2.1
      have hbox:=ht.box
      intro p hp k hk
      rw [ht.2.1] at hp
      rw [getset (by rw [ht.2.1];exact hr.cell)] at hk ⊢
      by_cases e:p=(s.qB[i]!).qF.toNat
      · rw [if_pos e] at hk ⊢
        rw [jY] at hk
        rw [plus_get hk]
        have h1:=within_iff.1 ha.1.2.1 k (by rw [hb.len,← (hbox.2 _ hr.cell).1];exact hk)
        omega
      · rw [if_neg e] at hk ⊢
        have:=hbox.2 p hp
        exact (this.2 k (by rw [← this.1];exact hk)).1
open Classical in
noncomputable def zk (s:qG) (t:qR) (i:Int):qR×Int:=
  if ¬ (zX s∧xQ s t) then (default,1) else if ¬ (0≤i∧i≤(s.qB.length:Int) - 1) then (default,2) else QA s t (single s i.toNat)
theorem one_1 {s:qG} {t:qR} {i:Int} (h:¬ (zX s∧xQ s t)):zk s t i=(default,1):=by rw [zk,if_pos h]
theorem one_2 {s:qG} {t:qR} {i:Int} (h:zX s∧xQ s t) (h1:¬ (0≤i∧i≤(s.qB.length:Int) - 1)):zk s t i=(default,2):=by rw [zk,if_neg (by simpa using h),if_pos h1]
theorem one_0 {s:qG} {t:qR} {i:Int} (h:zX s∧xQ s t) (h1:0≤i∧i≤(s.qB.length:Int) - 1):zk s t i=QA s t (single s i.toNat):=by rw [zk,if_neg (by simpa using h),if_neg (by simpa using h1)]
theorem one_4 {s:qG} {t:qR} {i:Int} (h:zX s∧xQ s t) (h1:0≤i∧i≤(s.qB.length:Int) - 1) (h2:¬ i∈appls s t):zk s t i=(default,4):=by
  rw [one_0 h h1,stepBy_no fun hc=>h2 ((mem_applsI h1.1 qf).2 ((single_isCh h.1 h.2 qf).1 hc))]
theorem most_of {s:qG} {t:qR} {P:Nat→Prop} (h:∀ q,q < (appls s t).length→P ((appls s t)[q]!).toNat):∀ i,i < s.qB.length→Appl s t i→P i:=by
  intro i hi ha
  obtain ⟨q,hq,e⟩:=List.mem_iff_getElem.1 ((mem_appls hi).2 ha)
  have:=h q hq
  rwa [getElem!_pos _ q hq,e] at this
def MostTo (s:qG) (t:qR) (counts:yLI) (k:Nat):Prop:=∀ i,i < k→Appl s t i→within (s.qB[i]!).xu ((restR s t counts counts.length)[(s.qB[i]!).qF.toNat]!)=false
theorem MostTo.succ {s:qG} {t:qR} {counts:yLI} {k:Nat} (h:MostTo s t counts k) (h1:Appl s t k→within (s.qB[k]!).xu ((restR s t counts counts.length)[(s.qB[k]!).qF.toNat]!)=false):MostTo s t counts (k+1):=fun j hj=>by
  by_cases e:j=k
  · subst e;exact h1
  · exact h j qf
def MostL (s:qG) (t:qR) (counts:yLI) (k:Nat):Prop:=∀ q,q < k→within (s.qB[((appls s t)[q]!).toNat]!).xu ((restR s t counts counts.length)[(s.qB[((appls s t)[q]!).toNat]!).qF.toNat]!)=false
theorem MostL.succ {s:qG} {t:qR} {counts:yLI} {k:Nat} (h:MostL s t counts k) (h1:within (s.qB[((appls s t)[k]!).toNat]!).xu ((restR s t counts counts.length)[(s.qB[((appls s t)[k]!).toNat]!).qF.toNat]!)=false):MostL s t counts (k+1):=fun j hj=>by
  by_cases e:j=k
  · subst e;exact h1
  · exact h j qf
theorem MostL.most {s:qG} {t:qR} {counts:yLI} (h:MostL s t counts (appls s t).length) (hc:IsCh s t counts):IsMost s t counts:=
  ⟨hc,most_of (P:=fun i=>within (s.qB[i]!).xu ((restR s t counts counts.length)[(s.qB[i]!).qF.toNat]!)=false) h⟩
def AllCnt (s:qG) (ch:yLL) (k:Nat):Prop:=∀ j,j < k→CntOk s (ch[j]!)
theorem AllCnt.succ {s:qG} {ch:yLL} {k:Nat} (h:AllCnt s ch k) (h1:CntOk s (ch[k]!)):AllCnt s ch (k+1):=fun j hj=>by
  by_cases e:j=k
  · subst e;exact h1
  · exact h j qf
def CodeBad (s:qG) (t:qR) (cs:yLL) (k:Nat):Prop:=(QA s t (cs[k]!)).2≠0
def NoBad (s:qG) (t:qR) (cs:yLL) (k:Nat):Prop:=∀ j,j < k→¬ CodeBad s t cs j
theorem NoBad.succ {s:qG} {t:qR} {cs:yLL} {k:Nat} (h:NoBad s t cs k) (h1:(QA s t (cs[k]!)).2=0):NoBad s t cs (k+1):=fun j hj=>by
  by_cases e:j=k
  · subst e;exact fun x=>x h1
  · exact h j qf
def NotIn (l:List qR) (u:qR) (k:Nat):Prop:=∀ j,j < k→l[j]! ≠u
theorem NotIn.succ {l:List qR} {u:qR} {k:Nat} (h:NotIn l u k) (h1:l[k]! ≠u):NotIn l u (k+1):=fun j hj=>by
  by_cases e:j=k
  · subst e;exact h1
  · exact h j qf
theorem NotIn.out {l:List qR} {u:qR} (h:NotIn l u l.length):¬ u∈l:=fun hm=>by
  obtain ⟨k,hk,e⟩:=List.mem_iff_getElem.1 hm
  exact h k hk (by rw [getElem!_pos l k hk];exact e)
theorem appls_single {s:qG} {t:qR} {k:Nat} (h:k < (appls s t).length):0≤(appls s t)[k]! ∧((appls s t)[k]!).toNat < s.qB.length∧Appl s t ((appls s t)[k]!).toNat:=by
  have h:(appls s t)[k]! ∈appls s t:=by rw [getElem!_pos _ k h];exact List.getElem_mem h
  exact mem_applL.1 h
def StillTo (s:qG) (k:Nat):Prop:=∀ i,i < k→(s.qB[i]!).xR=false
theorem StillTo.succ {s:qG} {k:Nat} (h:StillTo s k) (h1:(s.qB[k]!).xR=false):StillTo s (k+1):=fun j hj=>by
  by_cases e:j=k
  · subst e;exact h1
  · exact h j qf
def WholeTo (t:qR) (k:Nat):Prop:=∀ c,c < k→t.qJ[c]! =true
theorem WholeTo.succ {t:qR} {k:Nat} (h:WholeTo t k) (h1:t.qJ[k]! =true):WholeTo t (k+1):=fun j hj=>by
  by_cases e:j=k
  · subst e;exact h1
  · exact h j qf
abbrev Whole (t:qR):Prop:=WholeTo t t.qJ.length
def TookOk (s:qG) (l:yLI) (i:Nat):Prop:=l.length=zn s∧∀ q,q < zn s→ -(1000000 * (i:Int))≤l[q]! ∧l[q]! ≤1000000 * (i:Int)
theorem TookOk.zero (s:qG):TookOk s (List.replicate s.qQ.toNat 0) 0:=by
  refine ⟨by simp [zn],fun k hk=>?_⟩
  rw [getElem!_pos (List.replicate s.qQ.toNat (0:Int)) k (by simpa [zn] using hk)];simp
theorem TookOk.keep {s:qG} {l:yLI} {i:Nat} (h:TookOk s l i):TookOk s l (i+1):=⟨h.1,fun q hq=>by have:=h.2 q hq;omega⟩
theorem TookOk.plus {s:qG} {l m:yLI} {i:Nat} {n:Int} (h:TookOk s l i) (hm:zy s.qQ m) (hn: -1000≤n∧n≤1000):TookOk s (y9 l m n) (i+1):=by
  refine ⟨by rw [jY];exact h.1,fun q hq=>?_⟩
  rw [plus_get (by rw [h.1];exact hq)]
  have:=h.2 q hq
  have:=hm.mul hn q hq
  omega
theorem TookOk.mid {s:qG} {l:yLI} {i:Nat} (h:TookOk s l i) (hi:i≤16) (hk:zn s≤8):l.length=zn s∧Mid l:=by
  refine ⟨h.1,by have:=h.1;omega,fun q hq=>?_⟩
  have:=h.2 q (by have:=h.1;omega)
  omega
def AllBags (b:yLL) (k:Nat):Prop:=∀ j,j < k→BagAny (b[j]!)
theorem AllBags.succ {b:yLL} {k:Nat} (h:AllBags b k) (h1:BagAny (b[k]!)):AllBags b (k+1):=fun j hj=>by
  by_cases e:j=k
  · subst e;exact h1
  · exact h j qf
end
section
open Go.RowKit
set_option linter.unusedVariables false
set_option linter.unusedSimpArgs false
instance:qW UInt8 where
  size:=1
  rep:=fun _ F cs x=>F=[]∧cs=[.int .u8 (x.toNat:Int)]
  len:=by rintro w F cs x ⟨_,rfl⟩;rfl
  one:=by rintro w F cs x ⟨_,rfl⟩ u hu;simp only [List.mem_singleton] at hu;subst hu;rfl
  stay:=by rintro w w' F cs x h _;exact h
  lt:=by rintro w F cs x ⟨rfl,_⟩ b hb;simp at hb

section
variable {P : Program} {ops : Array Oper} {Q : Exit → Act → World → Prop} {n : Nat} {ρ : Env} {W0 w : World} {rest : List Oper} {ps : List Prv} {Γ : List Fact}
  {d:Nat} {ty:TypeId} {pos:String} {af:Array Edge} {K:Env→World→Prop}
theorem St.elemByte (H:St W0 w ps Γ) (i:Nat) {fr:Bool} {F:yLN} {b o m c:Nat} {l:List UInt8} (hf:Γ[i]? =some (isF fr F (.slice (some ⟨b,o,none⟩) m c) l)) (iv:Int) (k:Nat) (hk:iv.toNat=k) (h0:0≤iv) (h1:iv < l.length):
    w.cell? ⟨b,o+iv.toNat * 1,none⟩=some (.int .u8 (((l[k]!).toNat:Nat):Int)):=by
  obtain ⟨cs,Fk,hc,hr,_⟩:=H.elem i hf iv h0 h1
  rw [hk] at hr
  obtain ⟨_,rfl⟩:=hr
  have:=hc 0 _ rfl
  simpa [qW.size] using this
theorem byte_lt (x:UInt8):((x.toNat:Nat):Int)≤255:=by have:=x.toNat_lt;omega
theorem o_mulU {x y:Operand} {t u:TypeId} (a b:Int) (hx:ev n ρ x=.int .u64 a) (hy:ev n ρ y=.int .u64 b) (k:∀ r,K (upd ρ d (.int .u64 r)) w):OW P Q ⟨some d,.binOp .mul t x y u,ty,pos,af,none⟩ n ρ w K:=
  Xi (.int .u64 (IntKind.u64.wrap (a * b))) (by simp [execOp,hx,hy,eqGuard,binOp,Op.intArith]) (k _)
theorem o_addU {x y:Operand} {t u:TypeId} (a b:Int) (hx:ev n ρ x=.int .u64 a) (hy:ev n ρ y=.int .u64 b) (k:∀ r,K (upd ρ d (.int .u64 r)) w):OW P Q ⟨some d,.binOp .add t x y u,ty,pos,af,none⟩ n ρ w K:=
  Xi (.int .u64 (IntKind.u64.wrap (a+b))) (by simp [execOp,hx,hy,eqGuard,binOp,Op.intArith]) (k _)
theorem o_shrU {x y:Operand} {t u:TypeId} (a b:Int) (h:0≤b) (hx:ev n ρ x=.int .u64 a) (hy:ev n ρ y=.int .u64 b) (k:∀ r,K (upd ρ d (.int .u64 r)) w):OW P Q ⟨some d,.binOp .shr t x y u,ty,pos,af,none⟩ n ρ w K:=
  Xi (.int .u64 (a.fdiv (2 ^ (min b.toNat IntKind.u64.bits)))) (by simp [execOp,hx,hy,eqGuard,binOp,Op.shift,show ¬ b < 0 by omega]) (k _)
theorem and_bd (a:Int):0≤IntKind.u64.wrap ((BitVec.ofInt IntKind.u64.bits a &&& BitVec.ofInt IntKind.u64.bits 255).toNat:Int)∧IntKind.u64.wrap ((BitVec.ofInt IntKind.u64.bits a &&& BitVec.ofInt IntKind.u64.bits 255).toNat:Int)≤255:=by
  have b6:IntKind.u64.bits=64:=rfl
  have s6:IntKind.u64.signed=false:=rfl
  have h:(BitVec.ofInt IntKind.u64.bits a &&& BitVec.ofInt IntKind.u64.bits 255).toNat≤255:=by
    rw [BitVec.toNat_and]
    exact Nat.le_trans Nat.and_le_right qj
  generalize (BitVec.ofInt IntKind.u64.bits a &&& BitVec.ofInt IntKind.u64.bits 255).toNat=m at h ⊢
  simp only [IntKind.wrap,b6,s6,Bool.false_and,Bool.false_eq_true,if_false]
  omega
theorem o_andU {x y:Operand} {t u:TypeId} (a:Int) (hx:ev n ρ x=.int .u64 a) (hy:ev n ρ y=.int .u64 255) (k:∀ r,0≤r∧r≤255→K (upd ρ d (.int .u64 r)) w):OW P Q ⟨some d,.binOp .and t x y u,ty,pos,af,none⟩ n ρ w K:=
  Xi (.int .u64 (IntKind.u64.wrap ((BitVec.ofInt IntKind.u64.bits a &&& BitVec.ofInt IntKind.u64.bits 255).toNat:Int))) (by simp [execOp,hx,hy,eqGuard,binOp,Op.intBits]) (k _ (and_bd a))
theorem o_conv {x:Operand} {s t:TypeId} {ds:TypeDesc} {k k' :IntKind} (a:Int) (hs:P.underlying s=some ds) (ht:P.underlying t=some (.int k')) (hx:ev n ρ x=.int k a) (h:K (upd ρ d (.int k' (k'.wrap a))) w):
    OW P Q ⟨some d,.convert s t x,ty,pos,af,none⟩ n ρ w K:=
  Xi _ (by simp [execOp,hx,convert,run_underlying hs,run_underlying ht,Conv.intToInt]) h
theorem o_convI {x:Operand} {s t:TypeId} {ds:TypeDesc} {k:IntKind} (a:Int) (hs:P.underlying s=some ds) (ht:P.underlying t=some (.int .i64)) (hx:ev n ρ x=.int k a) (h0:0≤a∧a≤255) (h:K (upd ρ d (.int .i64 a)) w):
    OW P Q ⟨some d,.convert s t x,ty,pos,af,none⟩ n ρ w K:=by
  refine o_conv a hs ht hx ?_
  rw [wrap_in qf]
  exact h
theorem o_convU {x:Operand} {s t:TypeId} {ds:TypeDesc} {k:IntKind} (a:Int) (hs:P.underlying s=some ds) (ht:P.underlying t=some (.int .u64)) (hx:ev n ρ x=.int k a) (h:∀ r,K (upd ρ d (.int .u64 r)) w):
    OW P Q ⟨some d,.convert s t x,ty,pos,af,none⟩ n ρ w K:=o_conv a hs ht hx (h _)
end
section
variable {P : Program} {n : Nat} {ρ : Env} {W0 w : World} {ps : List Prv} {Γ : List Fact}
theorem retCC {fn:Func} {R:Ending→World→Prop} {t u T U b c:Nat} {cs ds:List Value} {tb tc:TypeId} (H:St W0 w ps Γ) (i:Nat) (hp:ps[i]? =some (.box b cs tb)) (j:Nat) (hq:ps[j]? =some (.box c ds tc)) (hr:fn.results=#[.cell t T,.cell u U])
    (ha:∀ w,(isAgg T).run P w=.ok true w) (hs:∀ w,(Go.sizeOf T).run P w=.ok cs.length w) (ha' :∀ w,(isAgg U).run P w=.ok true w) (hs' :∀ w,(Go.sizeOf U).run P w=.ok ds.length w)
    (hv:ev n ρ (.tmp t)=.pointer (some ⟨b,0,none⟩)) (hx:ev n ρ (.tmp u)=.pointer (some ⟨c,0,none⟩)) (h:R (.returned (.tuple #[.agg cs.toArray,.agg ds.toArray])) w):bodyPost P fn R .ret (mk n ρ) w:=by
  have hl:=run_loadCells_list (P:=P) w ⟨b,0,none⟩ cs (fun j v hv=>by rw [Addr.add_mid];exact H.cells i hp j v hv)
  have hl' :=run_loadCells_list (P:=P) w ⟨c,0,none⟩ ds (fun k v hv=>by rw [Addr.add_mid];exact H.cells j hq k v hv)
  have e:=congrFun (Qx n ρ) (.tmp t)
  have e' :=congrFun (Qx n ρ) (.tmp u)
  simp only [Act.eval,Array.getD_eq_getD_getElem?] at e e'
  rw [hv] at e
  rw [hx] at e'
  exact bodyPost_ret (v:=.tuple #[.agg cs.toArray,.agg ds.toArray]) (by simp [results,hr,e,e',asAddr,loadVar,ha,hs,hl,ha',hs',hl']) rfl h
end
end
section

def zx (kk M:Int) (l:yLI):Prop:=l.length=kk.toNat∧∀ j,j < l.length→0≤l[j]! ∧l[j]! ≤M
theorem zx.len {kk M:Int} {l:yLI} (h:zx kk M l) (h0:0≤kk):(l.length:Int)=kk:=by have:=h.1;omega
theorem zx.zero {kk M:Int} (h0:0≤kk) (hM:0≤M):zx kk M (List.replicate kk.toNat 0):=⟨by simp,fun j hj=>by
  have hj' :j < kk.toNat:=by simpa using hj
  rw [getElem!_pos (List.replicate kk.toNat (0:Int)) j hj,List.getElem_replicate]
  omega⟩
theorem zx.mono {kk M M' :Int} {l:yLI} (h:zx kk M l) (hM:M≤M'):zx kk M' l:=⟨h.1,fun j hj=>by have:=h.2 j hj;omega⟩
theorem zx.put {kk M:Int} {l:yLI} {v:Int} {i:Nat} (h:zx kk M l) (h0:0≤v∧v≤M):zx kk M (l.set i v):=⟨by rw [List.length_set];exact h.1,fun j hj=>by
  rw [List.length_set] at hj
  rw [getElem!_pos (l.set i v) j (by rw [List.length_set];exact hj),List.getElem_set]
  split
  · exact h0
  · have:=h.2 j hj
    rwa [getElem!_pos l j hj] at this⟩
theorem zx.up {kk M M' :Int} {l:yLI} {i:Nat} (h:zx kk M l) (hi:i < l.length) (hM:M+1≤M'):zx kk M' (l.set i (l[i]! +1)):=
  (h.mono (by omega:M≤M')).put (by have:=h.2 i hi;omega)
theorem zx.ok {kk M:Int} {l:yLI} (h:zx kk M l) (hk:1≤kk∧kk≤8) (hM:M≤1000):zy kk l:=
  ⟨⟨fun j hj=>by have:=h.2 j hj;omega,by have:=h.len qf;omega,by have:=h.len qf;omega⟩,h.len qf⟩
theorem zx.small {kk M:Int} {l:yLI} (h:zx kk M l) (hk:1≤kk∧kk≤8) (hM:M≤1000):Small l:=vY (h.ok hk hM)
theorem sumTo_up {l:yLI} (h:∀ j,j < l.length→0≤l[j]!):∀ k,k≤l.length→0≤sumTo l k∧∀ i,i < k→l[i]! ≤sumTo l k
  | 0,_=>⟨Int.le_refl _,fun i hi=>by omega⟩
  | k+1,hk=>by
    obtain ⟨h1,h2⟩:=sumTo_up h k qf
    have h3:=h k qf
    refine ⟨by simp only [sumTo];omega,fun i hi=>?_⟩
    simp only [sumTo]
    rcases Nat.lt_or_eq_of_le (Nat.le_of_lt_succ hi) with h4 | h4
    · have:=h2 i h4;omega
    · subst h4;omega
theorem zx.one {kk M:Int} {l:yLI} {i:Nat} (h:zx kk M l) (hk:1≤kk∧kk≤8) (hM:1≤M) (hs:Xc l=0) (hi:i < l.length):Xc (l.set i 1)≠0:=by
  have h1:=h.put (i:=i) (v:=1) qf
  have h2:=(sumTo_up (l:=l.set i 1) (fun j hj=>(h1.2 j hj).1) _ (Nat.le_refl _)).2 i (by rw [List.length_set];exact hi)
  rw [getElem!_pos (l.set i 1) i (by rw [List.length_set];exact hi),List.getElem_set_self] at h2
  show sumTo _ _≠0
  omega

def IntoDr (kk:Int) (par:yLI) (cell:Int) (l:List y5) (c:Int):Prop:=
  ∀ j,j < l.length→(0≤(l[j]!).qF∧(l[j]!).qF < c)∧Lies par cell (l[j]!).qF∧zx kk 1 (l[j]!).jR∧Xc (l[j]!).jR≠0∧(0 < j→(l[j - 1]!).qF < (l[j]!).qF)
theorem IntoDr.nil (kk:Int) (par:yLI) (cell c:Int):IntoDr kk par cell [] c:=fun j hj=>by simp at hj
theorem IntoDr.mono {kk:Int} {par:yLI} {cell c c' :Int} {l:List y5} (h:IntoDr kk par cell l c) (hc:c≤c'):IntoDr kk par cell l c' :=fun j hj=>by
  obtain ⟨h1,h2⟩:=h j hj
  exact ⟨by omega,h2⟩
theorem Xn {α:Type} [Inhabited α] {l:List α} {x:α} {j:Nat}:(l++[x])[j]! =if j < l.length then l[j]! else if j=l.length then x else default:=by
  by_cases h:j < l.length
  · rw [if_pos h,getElem!_pos (l++[x]) j qy,getElem!_pos l j h,List.getElem_append_left h]
  · rw [if_neg h]
    by_cases h2:j=l.length
    · subst h2
      rw [if_pos rfl,getElem!_pos (l++[x]) l.length qm]
      simp
    · rw [if_neg h2,getElem!_neg (l++[x]) j qy]
theorem IntoDr.snoc {kk:Int} {par:yLI} {cell c:Int} {l:List y5} {b:yLI} (h:IntoDr kk par cell l c) (hc:0≤c) (hl:Lies par cell c) (hb:zx kk 1 b) (hs:Xc b≠0):IntoDr kk par cell (l++[⟨c,b⟩]) (c+1):=fun j hj=>by
  have hj' :j < l.length∨j=l.length:=by simp at hj;omega
  rcases hj' with hj' | hj'
  · obtain ⟨h1,h2,h3,h4,h5⟩:=h j hj'
    rw [Xn,if_pos hj',Xn,if_pos qf]
    exact ⟨by omega,h2,h3,h4,h5⟩
  · subst hj'
    rw [Xn,if_neg qf,if_pos rfl]
    refine ⟨⟨hc,by show c < c+1;omega⟩,hl,hb,hs,fun h0=>?_⟩
    rw [Xn,if_pos qf]
    exact (h (l.length - 1) qf).1.2
structure RuleDr (kk:Int) (par:yLI) (r:zK):Prop where
  cell:0≤r.qF∧r.qF < par.length
  rank:0≤r.zM∧r.zM≤2
  melts:¬ (r.xR=true∧r.qF=0)
  need:zx kk 2 r.xu∧Xc r.xu≠0
  hav:zx kk 1 r.xM
  lack:zx kk 1 r.xK
  here:zx kk 2 r.xF
  out:zx kk 2 r.zI
  many:r.qL.length≤3
  into:IntoDr kk par r.qF r.qL par.length
theorem RuleDr.ok {s:qG} {r:zK} (h:RuleDr s.qQ s.qA r) (hk:1≤s.qQ∧s.qQ≤8):RuleOk s r:=
  ⟨⟨h.cell.1,by have:=h.cell.2;omega⟩,by have:=h.rank;omega,h.melts,h.many,h.need.1.ok hk qf,h.hav.ok hk qf,h.lack.ok hk qf,h.here.ok hk qf,h.out.ok hk qf,h.need.2,
    fun j hj=>by
      obtain ⟨h1,h2,h3,h4,h5⟩:=h.into j hj
      exact ⟨⟨h1.1,by omega⟩,h2,h3.ok hk qf,h4,h5⟩⟩
theorem ruleDr_of {kk:Int} {par:yLI} {cell rank:Int} {need hav lack here out:yLI} {into:List y5} {melts:Bool} (h1:0≤cell∧cell < (par.length:Int)) (h2:0≤rank∧rank≤2) (h3:melts=true→cell≠0)
    (h4:zx kk 2 need∧Xc need≠0) (h5:zx kk 1 hav) (h6:zx kk 1 lack) (h7:zx kk 2 here) (h8:zx kk 1 out) (h9:into.length≤3∧IntoDr kk par cell into par.length):RuleDr kk par ⟨cell,rank,need,hav,lack,here,out,into,melts⟩:=
  ⟨h1,h2,fun h=>h3 h.1 h.2,h4,h5,h6,h7,h8.mono qf,h9.1,h9.2⟩
def zQ (kk:Int) (par:yLI) (l:List zK):Prop:=∀ j,j < l.length→RuleDr kk par (l[j]!)
theorem zQ.nil (kk:Int) (par:yLI):zQ kk par []:=fun j hj=>by simp at hj
theorem zQ.snoc {kk:Int} {par:yLI} {l:List zK} {r:zK} (h:zQ kk par l) (hr:RuleDr kk par r):zQ kk par (l++[r]):=fun j hj=>by
  rw [Xn]
  by_cases h1:j < l.length
  · rw [if_pos h1];exact h j h1
  · rw [if_neg h1,if_pos (by simp at hj;omega)];exact hr
theorem zQ.set {kk:Int} {par:yLI} {l:List zK} {r:zK} {i:Nat} (h:zQ kk par l) (hr:RuleDr kk par r):zQ kk par (l.set i r):=fun j hj=>by
  rw [List.length_set] at hj
  rw [getElem!_pos (l.set i r) j (by rw [List.length_set];exact hj),List.getElem_set]
  split
  · exact hr
  · have:=h j hj;rwa [getElem!_pos l j hj] at this
def ParDr (par:yLI):Prop:=1≤par.length∧par[0]! = -1∧∀ c,1≤c→c < par.length→0≤par[c]! ∧par[c]! ≤(c:Int) - 1
theorem ParDr.one:ParDr [-1]:=⟨by simp,rfl,fun c h1 h2=>by simp at h2;omega⟩
theorem ParDr.snoc {par:yLI} {v:Int} (h:ParDr par) (hv:0≤v∧v < par.length):ParDr (par++[v]):=by
  obtain ⟨h1,h2,h3⟩:=h
  refine ⟨by simp,by rw [Xn,if_pos qf];exact h2,fun c hc hl=>?_⟩
  rw [Xn]
  by_cases h4:c < par.length
  · rw [if_pos h4];exact h3 c hc h4
  · have h5:c=par.length:=by simp at hl;omega
    rw [if_neg h4,if_pos h5];omega
theorem frame_of {kk:Int} {par:yLI} {rules:List zK} (h:ParDr par) (hk:1≤kk∧kk≤3) (hl:par.length≤3):zN ⟨kk,par,rules⟩:=
  ⟨⟨hk.1,by show kk≤8;omega⟩,⟨h.1,by show par.length≤6;omega⟩,h.2.1,h.2.2⟩
structure SysDr (kk:Int) (par:yLI) (rules:List zK):Prop where
  kinds:1≤kk∧kk≤3
  cells:1≤par.length∧par.length≤3
  skin:par[0]! = -1
  up:∀ c,1≤c→c < par.length→0≤par[c]! ∧par[c]! ≤(c:Int) - 1
  few:rules.length≤5
  rules:zQ kk par rules
theorem sysDr_of {kk:Int} {par:yLI} {rules:List zK} (h:ParDr par) (hk:1≤kk∧kk≤3) (hl:par.length≤3) (hr:rules.length≤5) (hd:zQ kk par rules):SysDr kk par rules:=⟨hk,⟨h.1,hl⟩,h.2.1,h.2.2,hr,hd⟩
theorem SysDr.frame {kk:Int} {par:yLI} {rules:List zK} (h:SysDr kk par rules):zN ⟨kk,par,rules⟩:=by
  have h1:=h.kinds
  have h2:=h.cells
  exact ⟨⟨h1.1,by show kk≤8;omega⟩,⟨h2.1,by show par.length≤6;omega⟩,h.skin,h.up⟩
theorem SysDr.ok {kk:Int} {par:yLI} {rules:List zK} (h:SysDr kk par rules):zX ⟨kk,par,rules⟩:=by
  have h1:=h.kinds
  have h3:=h.few
  refine ⟨h.frame,by show rules.length≤16;omega,fun j hj=>⟨(h.rules j hj).ok (s:=⟨kk,par,rules⟩) ⟨h1.1,by show kk≤8;omega⟩,?_⟩⟩
  have h4:=(ofCell_bd rules (rules[j]!).qF (j+1)).2
  have h5:j < rules.length:=hj
  show ofCell rules (rules[j]!).qF (j+1)≤8
  omega
structure StDr (kk:Int) (n:Nat) (M:Int) (alive:List Bool) (bags:yLL) (around:yLI):Prop where
  la:alive.length=n
  lb:bags.length=n
  skin:alive[0]! =true
  around:zx kk 2 around
  bags:∀ c,c < bags.length→zx kk M (bags[c]!)∧(alive[c]! =false→Xc (bags[c]!)≤0)
theorem StDr.ok {kk M:Int} {par:yLI} {rules:List zK} {alive:List Bool} {bags:yLL} {around:yLI} (h:StDr kk par.length M alive bags around) (hs:SysDr kk par rules) (hM:M≤1000):xQ ⟨kk,par,rules⟩ ⟨alive,bags,around⟩:=by
  have h1:=hs.kinds
  exact ⟨h.la,h.lb,h.skin,h.around.ok ⟨h1.1,by omega⟩ qf,fun c hc=>⟨(h.bags c hc).1.ok ⟨h1.1,by show kk≤8;omega⟩ hM,(h.bags c hc).2⟩⟩
theorem sum_zeros (n:Nat):Xc (List.replicate n (0:Int))≤0:=by
  have:∀ k,k≤n→sumTo (List.replicate n (0:Int)) k=0:=fun k=>by
    induction k with
    | zero=>intro _;rfl
    | succ k ih=>
      intro hk
      rw [sumTo,ih qf,getElem!_pos (List.replicate n (0:Int)) k qy,List.getElem_replicate]
      rfl
  have h:=this (List.replicate n (0:Int)).length qm
  show sumTo _ _≤0
  omega
structure StTo (kk M:Int) (c:Nat) (alive:List Bool) (bags:yLL):Prop where
  la:alive.length=c
  lb:bags.length=c
  skin:0 < c→alive[0]! =true
  bags:∀ j,j < bags.length→zx kk M (bags[j]!)∧(alive[j]! =false→Xc (bags[j]!)≤0)
theorem StTo.nil (kk M:Int):StTo kk M 0 [] []:=⟨rfl,rfl,fun h=>by omega,fun j hj=>by simp at hj⟩
theorem StTo.snoc {kk M:Int} {c:Nat} {alive:List Bool} {bags:yLL} {a:Bool} {b:yLI} (h:StTo kk M c alive bags) (ha:c=0→a=true) (hb:zx kk M b) (hz:a=false→Xc b≤0):StTo kk M (c+1) (alive++[a]) (bags++[b]):=by
  have la:=h.la
  have lb:=h.lb
  refine ⟨by simp [la],by simp [lb],fun _=>?_,fun j hj=>?_⟩
  · rw [Xn]
    by_cases h0:0 < c
    · rw [if_pos qf];exact h.skin h0
    · rw [if_neg qf,if_pos qf];exact ha qf
  · rw [Xn,Xn]
    by_cases h1:j < c
    · rw [if_pos qf,if_pos qf];exact h.bags j qf
    · rw [if_neg qf,if_pos (by simp at hj;omega),if_neg qf,if_pos (by simp at hj;omega)];exact ⟨hb,hz⟩
end
section
open Go.RowKit
set_option linter.unusedVariables false
set_option linter.unusedSimpArgs false
theorem St.rowel_RuleD {W0 w:World} {ps:List Prv} {Γ:List Fact} (H:St W0 w ps Γ) (k:Nat) {b c:Nat} {e:TypeId} {nn:Nat} {xs:List Value} (hp:ps[k]? =some (.row (.slice (some ⟨b,0,none⟩) nn c) e 9 nn xs)) (j:Nat) {fr:Bool} {F:yLN} {l:List zK}
    (hf:Γ[j]? =some (xB fr F xs l)) {iv:Int} (i:Nat) (h:iv.toNat=i) (h1:i < nn):
    ∃ (aN:yOA) (cN:Nat) (FN:yLN) (aH:yOA) (cH:Nat) (FH:yLN) (aL:yOA) (cL:Nat) (FL:yLN) (aE:yOA) (cE:Nat) (FE:yLN) (aO:yOA) (cO:Nat) (FO:yLN) (aI:yOA) (cI:Nat) (FI:yLN),
      (∀ (q:Nat) (v:Value),([.int .i64 (l[i]!).qF,.int .i64 (l[i]!).zM,.slice aN ((l[i]!).xu.length) cN,.slice aH ((l[i]!).xM.length) cH,.slice aL ((l[i]!).xK.length) cL,.slice aE ((l[i]!).xF.length) cE,.slice aO ((l[i]!).zI.length) cO,.slice aI ((l[i]!).qL.length) cI,.bool (l[i]!).xR]:List Value)[q]? =some v→xs[0+iv.toNat * 9+q]? =some v)∧
      St W0 w ps (isF fr FN (.slice aN ((l[i]!).xu.length) cN) ((l[i]!).xu) :: isF fr FH (.slice aH ((l[i]!).xM.length) cH) ((l[i]!).xM) :: isF fr FL (.slice aL ((l[i]!).xK.length) cL) ((l[i]!).xK) ::
        isF fr FE (.slice aE ((l[i]!).xF.length) cE) ((l[i]!).xF) :: isF fr FO (.slice aO ((l[i]!).zI.length) cO) ((l[i]!).zI) :: isF fr FI (.slice aI ((l[i]!).qL.length) cI) ((l[i]!).qL) :: Γ):=by
  obtain ⟨cs,G,hc,hr,hsub,hfr,v1,v2,hv,hv1⟩:=St.rowElem (α:=zK) H k hp j hf qj h h1
  obtain ⟨vN,vH,vL,vE,vO,vI,FN,FH,FL,FE,FO,FI,rfl,hFF,hN,hH,hL,hE,hO,hI⟩:=id hr
  obtain ⟨aN,cN,rfl⟩:=slice_form hN
  obtain ⟨aH,cH,rfl⟩:=slice_form hH
  obtain ⟨aL,cL,rfl⟩:=slice_form hL
  obtain ⟨aE,cE,rfl⟩:=slice_form hE
  obtain ⟨aO,cO,rfl⟩:=slice_form hO
  obtain ⟨aI,cI,rfl⟩:=slice_form hI
  refine ⟨aN,cN,FN,aH,cH,FH,aL,cL,FL,aE,cE,FE,aO,cO,FO,aI,cI,FI,fun q v hq=>?_,?_⟩
  · have hv1:v1.length=i * 9:=hv1
    have hlt:q < 9:=by
      rcases Nat.lt_or_ge q 9 with h | h
      · exact h
      · rw [List.getElem?_eq_none (by simpa using h)] at hq;cases hq
    rw [hv,List.append_assoc,Nat.zero_add,h,← hv1,List.getElem?_append_right qf,Nat.add_sub_cancel_left,List.getElem?_append_left (by simpa using hlt)]
    exact hq
  · have hs:∀ {x:Nat} {X:yLN},x∈X→(∀ y∈X,y∈G)→x∈G:=fun h h' =>h' _ h
    have s6:=H.yH j hf (isF fr FI (.slice aI ((l[i]!).qL.length) cI) ((l[i]!).qL)) ⟨hI,fun e=>(hfr e).sub (by rw [hFF];intro x hx;simp [hx])⟩ (fun x hx=>hsub x (by rw [hFF];have hx:x∈FI:=hx;simp [hx]))
    have s5:=s6.yH (j+1) hf (isF fr FO (.slice aO ((l[i]!).zI.length) cO) ((l[i]!).zI)) ⟨hO,fun e=>(hfr e).sub (by rw [hFF];intro x hx;simp [hx])⟩ (fun x hx=>hsub x (by rw [hFF];have hx:x∈FO:=hx;simp [hx]))
    have s4:=s5.yH (j+2) hf (isF fr FE (.slice aE ((l[i]!).xF.length) cE) ((l[i]!).xF)) ⟨hE,fun e=>(hfr e).sub (by rw [hFF];intro x hx;simp [hx])⟩ (fun x hx=>hsub x (by rw [hFF];have hx:x∈FE:=hx;simp [hx]))
    have s3:=s4.yH (j+3) hf (isF fr FL (.slice aL ((l[i]!).xK.length) cL) ((l[i]!).xK)) ⟨hL,fun e=>(hfr e).sub (by rw [hFF];intro x hx;simp [hx])⟩ (fun x hx=>hsub x (by rw [hFF];have hx:x∈FL:=hx;simp [hx]))
    have s2:=s3.yH (j+4) hf (isF fr FH (.slice aH ((l[i]!).xM.length) cH) ((l[i]!).xM)) ⟨hH,fun e=>(hfr e).sub (by rw [hFF];intro x hx;simp [hx])⟩ (fun x hx=>hsub x (by rw [hFF];have hx:x∈FH:=hx;simp [hx]))
    exact s2.yH (j+5) hf (isF fr FN (.slice aN ((l[i]!).xu.length) cN) ((l[i]!).xu)) ⟨hN,fun e=>(hfr e).sub (by rw [hFF];intro x hx;simp [hx])⟩ (fun x hx=>hsub x (by rw [hFF];have hx:x∈FN:=hx;simp [hx]))

theorem part_lt {xs:List Value} {q:Nat} {v:Value} (h:xs[q]? =some v):q < xs.length:=(List.getElem?_eq_some_iff.1 h).1
theorem part_get {cells xs:List Value} {B:Nat} (hx:∀ (q:Nat) (v:Value),cells[q]? =some v→xs[B+q]? =some v) (j:Nat) (u:Value) (hj:j < cells.length):
    ∀ (q:Nat) (v:Value),(cells.set j u)[q]? =some v→(xs.set (B+j) u)[B+q]? =some v:=fun q v h=>by
  have hl:=part_lt (hx j _ (List.getElem?_eq_getElem hj))
  by_cases e:q=j
  · subst e
    rw [List.getElem?_set_self hj] at h
    rw [List.getElem?_set_self hl]
    exact h
  · rw [List.getElem?_set_ne (fun h=>e h.symm)] at h
    rw [List.getElem?_set_ne qf]
    exact hx q v h

section
variable {P : Program} {ops : Array Oper} {Q : Exit → Act → World → Prop} {n : Nat} {ρ : Env} {W0 w : World} {rest : List Oper} {ps : List Prv} {Γ : List Fact}
  {d:Nat} {ty:TypeId} {pos:String} {af:Array Edge} {K:Env→World→Prop}
theorem QE {t:TypeId} {x y:Operand} {b c off:Nat} {e:TypeId} {sz nn:Nat} {xs:List Value} (H:St W0 w ps Γ) (k:Nat) (hp:ps[k]? =some (.row (.slice (some ⟨b,0,none⟩) nn c) e sz nn xs)) (v:Value)
    (hs:∀ w,(Go.sizeOf t).run P w=.ok 1 w) (hx:ev n ρ x=.pointer (some ⟨b,off,none⟩)) (hy:ev n ρ y=v) (h1:v.oneCell' =true) (h2:off < xs.length)
    (kk:∀ w',St W0 w' (ps.set k (.row (.slice (some ⟨b,0,none⟩) nn c) e sz nn (xs.set off v))) Γ→K ρ w'):
    OW P Q ⟨none,.store t x y,ty,pos,af,none⟩ n ρ w K:=by
  have hc:v.cells=#[v]:=by cases v <;> first | rfl | (simp [Value.oneCell'] at h1)
  refine o_storeRow H k hp v (by simpa [hc] using hs) hx hy (by simp [hc,h1]) (by simp [hc];omega) ?_
  simp only [hc,List.size_toArray,List.length_cons,List.length_nil,Nat.zero_add]
  rw [show xs.take off++[v]++xs.drop (off+1)=xs.set off v by rw [List.set_eq_take_append_cons_drop,if_pos qf];simp]
  exact kk
end

theorem reps_part {α:Type} [qW α] [Inhabited α] {w:World} {F G:yLN} {X:List Value} {l:List α} {v:Value} {f:α} (i q:Nat) (hi:i < l.length) (hq:q < qW.size α)
    (hr:∀ Fk ck,qW.rep w Fk ck (l[i]!)→∃ F',qW.rep w F' (ck.set q v) f∧∀ b∈F',b∈Fk∨b∈G) (h:reps w F X l):
    ∃ F',reps w F' (X.set (i * qW.size α+q) v) (l.set i f)∧∀ b∈F',b∈F∨b∈G:=by
  obtain ⟨F1,Fk,F2,v1,cs,v2,hF,hv,hl1,hlc,h1,h2,h3⟩:=reps_get h i hi
  obtain ⟨F',hr',hs⟩:=hr Fk cs (by rw [getElem!_pos l i hi];exact h1)
  refine ⟨F1++F' ++F2,?_,fun b hb=>?_⟩
  · rw [hv,← hl1,List.append_assoc v1,List.set_append_right _ _ qf,Nat.add_sub_cancel_left,List.set_append_left _ _ qf,List.set_eq_take_append_cons_drop (l:=l),if_pos hi,← List.append_assoc]
    have:=jZ (jZ h2 (reps_one hr')) h3
    simpa using this
  · simp only [List.mem_append] at hb
    rw [hF]
    rcases hb with (hb | hb) | hb
    · exact .inl (by simp [hb])
    · rcases hs b hb with h | h
      · exact .inl (by simp [h])
      · exact .inr h
    · exact .inl (by simp [hb])
section
variable {W0 w : World} {ps : List Prv} {Γ : List Fact}
theorem St.part {β:Type} [qW β] (H:St W0 w ps Γ) (j:Nat) {fr:Bool} {F:yLN} {X:List Value} {l:List zK} (hf:Γ[j]? =some (xB fr F X l)) (m:Nat) {fr' :Bool} {G:yLN} {v:Value} {z:β} (hg:Γ[m]? =some (isF fr' G v z))
    {iv:Int} (i:Nat) (hi:iv.toNat=i) (h1:i < l.length) (q:Nat) (hq:q < 9) (f:zK) (hr:∀ Fk ck,qW.rep w Fk ck (l[i]!)→∃ F',qW.rep w F' (ck.set q v) f∧∀ b∈F',b∈Fk∨b∈G):
    ∃ F',St W0 w ps (xB false F' (X.set (0+iv.toNat * 9+q) v) (l.set i f) :: Γ):=by
  subst hi
  obtain ⟨F',h2,h3⟩:=reps_part (α:=zK) iv.toNat q h1 hq hr (H.get j hf).1
  refine ⟨F',H.add _ ⟨by rw [Nat.zero_add];exact h2,by simp⟩ fun b hb=>?_⟩
  rcases h3 b hb with h | h
  · exact (H.facts _ (List.mem_of_getElem? hf)).2 b h
  · exact (H.facts _ (List.mem_of_getElem? hg)).2 b h
theorem St.part_5 (H:St W0 w ps Γ) (j:Nat) {fr:Bool} {F:yLN} {X:List Value} {l:List zK} (hf:Γ[j]? =some (xB fr F X l)) (m:Nat) {fr' :Bool} {G:yLN} {v:Value} {z:yLI} (hg:Γ[m]? =some (isF fr' G v z)) {iv:Int} (i:Nat) (hi:iv.toNat=i) (h1:i < l.length):
    ∃ F',St W0 w ps (xB false F' (X.set (0+iv.toNat * 9+5) v) (l.set i { l[i]! with xF:=z }) :: Γ):=by
  refine H.part j hf m hg i hi h1 5 qj _ fun Fk ck hk=>?_
  obtain ⟨v1,v2,v3,v4,v5,v6,F1,F2,F3,F4,F5,F6,rfl,rfl,k1,k2,k3,k4,k5,k6⟩:=hk
  refine ⟨_,⟨v1,v2,v3,v,v5,v6,F1,F2,F3,G,F5,F6,rfl,rfl,k1,k2,k3,(H.get m hg).1,k5,k6⟩,fun b hb=>?_⟩
  simp only [List.mem_append] at hb
  rcases hb with ((((hb | hb) | hb) | hb) | hb) | hb <;> simp [hb]
theorem St.part_6 (H:St W0 w ps Γ) (j:Nat) {fr:Bool} {F:yLN} {X:List Value} {l:List zK} (hf:Γ[j]? =some (xB fr F X l)) (m:Nat) {fr' :Bool} {G:yLN} {v:Value} {z:yLI} (hg:Γ[m]? =some (isF fr' G v z)) {iv:Int} (i:Nat) (hi:iv.toNat=i) (h1:i < l.length):
    ∃ F',St W0 w ps (xB false F' (X.set (0+iv.toNat * 9+6) v) (l.set i { l[i]! with zI:=z }) :: Γ):=by
  refine H.part j hf m hg i hi h1 6 qj _ fun Fk ck hk=>?_
  obtain ⟨v1,v2,v3,v4,v5,v6,F1,F2,F3,F4,F5,F6,rfl,rfl,k1,k2,k3,k4,k5,k6⟩:=hk
  refine ⟨_,⟨v1,v2,v3,v4,v,v6,F1,F2,F3,F4,G,F6,rfl,rfl,k1,k2,k3,k4,(H.get m hg).1,k6⟩,fun b hb=>?_⟩
  simp only [List.mem_append] at hb
  rcases hb with ((((hb | hb) | hb) | hb) | hb) | hb <;> simp [hb]
theorem St.part_7 (H:St W0 w ps Γ) (j:Nat) {fr:Bool} {F:yLN} {X:List Value} {l:List zK} (hf:Γ[j]? =some (xB fr F X l)) (m:Nat) {fr' :Bool} {G:yLN} {v:Value} {z:List y5} (hg:Γ[m]? =some (isF fr' G v z)) {iv:Int} (i:Nat) (hi:iv.toNat=i) (h1:i < l.length):
    ∃ F',St W0 w ps (xB false F' (X.set (0+iv.toNat * 9+7) v) (l.set i { l[i]! with qL:=z }) :: Γ):=by
  refine H.part j hf m hg i hi h1 7 qj _ fun Fk ck hk=>?_
  obtain ⟨v1,v2,v3,v4,v5,v6,F1,F2,F3,F4,F5,F6,rfl,rfl,k1,k2,k3,k4,k5,k6⟩:=hk
  refine ⟨_,⟨v1,v2,v3,v4,v5,v,F1,F2,F3,F4,F5,G,rfl,rfl,k1,k2,k3,k4,k5,(H.get m hg).1⟩,fun b hb=>?_⟩
  simp only [List.mem_append] at hb
  rcases hb with ((((hb | hb) | hb) | hb) | hb) | hb <;> simp [hb]
end

theorem zQ.here {kk:Int} {par:yLI} {l:List zK} {i:Nat} {b:yLI} (h:zQ kk par l) (hi:i < l.length) (hb:zx kk 2 b):zQ kk par (l.set i { l[i]! with xF:=b }):=
  h.set (let r:=h i hi;⟨r.cell,r.rank,r.melts,r.need,r.hav,r.lack,hb,r.out,r.many,r.into⟩)
theorem zQ.out {kk:Int} {par:yLI} {l:List zK} {i:Nat} {b:yLI} (h:zQ kk par l) (hi:i < l.length) (hb:zx kk 2 b):zQ kk par (l.set i { l[i]! with zI:=b }):=
  h.set (let r:=h i hi;⟨r.cell,r.rank,r.melts,r.need,r.hav,r.lack,r.here,hb,r.many,r.into⟩)
theorem zQ.into {kk:Int} {par:yLI} {l:List zK} {i:Nat} (h:zQ kk par l) (hi:i < l.length):zQ kk par (l.set i { l[i]! with qL:=[]}):=
  h.set (let r:=h i hi;⟨r.cell,r.rank,r.melts,r.need,r.hav,r.lack,r.here,r.out,by simp,IntoDr.nil _ _ _ _⟩)
theorem SysDr.with {kk:Int} {par:yLI} {rules rules' :List zK} (h:SysDr kk par rules) (h1:rules'.length≤5) (h2:zQ kk par rules'):SysDr kk par rules' :=⟨h.kinds,h.cells,h.skin,h.up,h1,h2⟩
def HereTo (kk:Int) (k:Nat) (l:yLI):Prop:=zx kk 2 l∧∀ j,j < l.length→k≤j+1→l[j]! =0
theorem HereTo.zero {kk:Int} (h0:0≤kk):HereTo kk 1 (List.replicate kk.toNat 0):=⟨zx.zero h0 qf,fun j hj _=>by rw [getElem!_pos (List.replicate kk.toNat (0:Int)) j hj,List.getElem_replicate]⟩
theorem HereTo.go {kk:Int} {k:Nat} {l:yLI} (h:HereTo kk k l):HereTo kk (k+1) l:=⟨h.1,fun j hj hk=>h.2 j hj qf⟩
theorem HereTo.put {kk:Int} {k i:Nat} {l:yLI} {v:Int} (h:HereTo kk k l) (hi:i < l.length) (hk:i+1=k) (hv:0≤v∧v≤2):HereTo kk (k+1) (l.set i (l[i]! +v)):=by
  have h0:=h.2 i hi qf
  refine ⟨h.1.put qf,fun j hj hk' =>?_⟩
  rw [List.length_set] at hj
  rw [getElem!_pos (l.set i _) j (by rw [List.length_set];exact hj),List.getElem_set,if_neg qf]
  have:=h.2 j hj qf
  rwa [getElem!_pos l j hj] at this
end
section

def atV (code:List UInt8) (i n:Int):Int:=if i≥code.length∨n < 1 then 0 else (((code[i.toNat]!).toNat:Nat):Int) % n
theorem atV_no {code:List UInt8} {i n:Int} (h:i≥code.length∨n < 1):atV code i n=0:=by rw [atV,if_pos h]
theorem atV_yes {code:List UInt8} {i n:Int} (h:¬ i≥code.length) (h1:¬ n < 1):atV code i n=(((code[i.toNat]!).toNat:Nat):Int) % n:=by rw [atV,if_neg qf]
theorem atV_bd (code:List UInt8) (i:Int) {n:Int} (h:1≤n):0≤atV code i n∧atV code i n≤n - 1:=by
  rw [atV]
  split
  · omega
  · have h1:=Int.emod_nonneg (((code[i.toNat]!).toNat:Nat):Int) (show n≠0 by omega)
    have h2:=Int.emod_lt_of_pos (((code[i.toNat]!).toNat:Nat):Int) (show 0 < n by omega)
    omega
theorem get_set {α:Type} [Inhabited α] (l:List α) (i j:Nat) (v:α) (hi:i < l.length):(l.set i v)[j]! =if i=j then v else l[j]! :=by
  by_cases hj:j < l.length
  · rw [getElem!_pos _ _ (by rw [List.length_set];exact hj),List.getElem_set,getElem!_pos l j hj]
  · rw [getElem!_neg _ _ (by rw [List.length_set];exact hj),getElem!_neg l j hj,if_neg qf]
theorem plusL_get {l m:yLI} {j:Nat} (h:j < l.length):(y9 l m 1)[j]! =l[j]! +m[j]! :=by
  rw [getElem!_pos _ _ (by rw [jY];exact h)]
  simp [y9,plusTo]
theorem rep_get (n j:Nat):(List.replicate n (0:Int))[j]! =0:=by
  by_cases h:j < n
  · rw [getElem!_pos _ _ (by simpa using h)];simp
  · rw [getElem!_neg _ _ (by simpa using h)];rfl

def kidIn (s:qG) (t:qR) (k:Int) (j:Nat):Bool:=t.qJ[j]! && (xn s t j == k)
def kidsTo (s:qG) (t:qR) (k:Int) (n:Nat):yLI:=((List.range n).filter (kidIn s t k)).map fun j:Nat=>(j:Int)
section
variable {s : qG} {t : qR} {c : Int}
structure y7 (s:qG) (t:qR) (c:Int):Prop where
  frame:zN s
  state:xQ s t
  cell:y8 s c
  skin:c≠0
  alive:t.qJ[c.toNat]! =true
theorem y7.pos (h:y7 s t c):0 < c:=by have:=h.cell.1;have:=h.skin;omega
theorem y7.par (h:y7 s t c):0≤xn s t c∧xn s t c < c∧t.qJ[(xn s t c).toNat]! =true:=Qc h.frame h.state.2.2.1 h.pos h.cell.2
theorem y7.alive' (h:y7 s t c) (j:Nat):(melted s t c).qJ[j]! =if c.toNat=j then false else t.qJ[j]! :=by
  have:=h.cell;have:=h.state.1
  exact get_set _ _ _ _ qf
theorem y7.bags' (h:y7 s t c) (j:Nat):(melted s t c).qN[j]! =if c.toNat=j then List.replicate s.qQ.toNat 0 else if (xn s t c).toNat=j then y9 (t.qN[(xn s t c).toNat]!) (t.qN[c.toNat]!) 1 else t.qN[j]! :=by
  have:=h.cell;have:=h.state.2.1;have hp:=h.par
  show ((t.qN.set _ _).set _ _)[j]! =_
  rw [get_set _ _ _ _ (by rw [List.length_set];omega),get_set _ _ _ _ qf]
def Few5 (t:qR):Prop:=(∀ k,k < t.qN.length→∀ j,j < (t.qN[k]!).length→(t.qN[k]!)[j]! ≤5)∧∀ j,j < t.qM.length→t.qM[j]! ≤5
def allTo (t:qR):Nat→yLI
  | 0=>t.qM
  | k+1=>y9 (allTo t k) (t.qN[k]!) 1
theorem allTo_len (t:qR):∀ k,(allTo t k).length=t.qM.length
  | 0=>rfl
  | k+1=>by rw [allTo,jY,allTo_len t k]
def colTo (t:qR) (j:Nat):Nat→Int
  | 0=>0
  | k+1=>colTo t j k+(t.qN[k]!)[j]!
theorem allTo_get (t:qR) {j:Nat} (hj:j < t.qM.length):∀ k,(allTo t k)[j]! =t.qM[j]! +colTo t j k
  | 0=>by simp [allTo,colTo]
  | k+1=>by
    rw [allTo,plusL_get (by rw [allTo_len];exact hj),allTo_get t hj k,colTo]
    omega
theorem y7.lens (h:y7 s t c) {k:Nat} (hk:k < s.qA.length):(t.qN[k]!).length=s.qQ.toNat:=by
  have:=(h.state.bagLen (k:=k) (by rw [h.state.2.1];exact hk)).2
  omega
theorem y7.col (h:y7 s t c) {j:Nat} (hj:j < s.qQ.toNat):∀ k,colTo (melted s t c) j k=colTo t j k+(if (xn s t c).toNat < k then (t.qN[c.toNat]!)[j]! else 0) - (if c.toNat < k then (t.qN[c.toNat]!)[j]! else 0)
  | 0=>by simp [colTo]
  | k+1=>by
    have hp:=h.par
    have hc:=h.cell
    rw [colTo,colTo,y7.col h hj k,h.bags']
    by_cases e1:c.toNat=k
    · subst e1
      rw [if_pos rfl,rep_get,if_neg (show ¬ c.toNat < c.toNat by omega),if_pos (show c.toNat < c.toNat+1 by omega),if_pos (show (xn s t c).toNat < c.toNat by omega),if_pos (show (xn s t c).toNat < c.toNat+1 by omega)]
      omega
    · rw [if_neg e1]
      by_cases e2:(xn s t c).toNat=k
      · subst e2
        rw [if_pos rfl,plusL_get (by rw [h.lens qf];exact hj),if_neg (show ¬ (xn s t c).toNat < (xn s t c).toNat by omega),if_pos (show (xn s t c).toNat < (xn s t c).toNat+1 by omega),
          if_neg (show ¬ c.toNat < (xn s t c).toNat by omega),if_neg (show ¬ c.toNat < (xn s t c).toNat+1 by omega)]
        omega
      · rw [if_neg e2]
        have a1:((xn s t c).toNat < k+1)=((xn s t c).toNat < k):=by apply propext;omega
        have a2:(c.toNat < k+1)=(c.toNat < k):=by apply propext;omega
        simp only [a1,a2]
        omega
theorem y7.total (h:y7 s t c):allTo (melted s t c) s.qA.length=allTo t s.qA.length:=by
  have hp:=h.par
  have hc:=h.cell
  have hl:(melted s t c).qM=t.qM:=rfl
  have hk:t.qM.length=s.qQ.toNat:=by have:=h.state.2.2.2.1.2;omega
  apply List.ext_getElem
  · rw [allTo_len,allTo_len,hl]
  · intro j h1 h2
    rw [allTo_len] at h2
    rw [← getElem!_pos,← getElem!_pos,allTo_get _ (by rw [hl];exact h2),allTo_get _ h2,h.col qf,if_pos qf,if_pos qf,hl]
    omega
theorem y7.ok (h:y7 s t c) (hf:Few5 t):xQ s (melted s t c):=by
  have hp:=h.par
  have hc:=h.cell
  have ht:=h.state
  have e1:(melted s t c).qJ.length=t.qJ.length:=by simp [melted]
  have e2:(melted s t c).qN.length=t.qN.length:=by simp [melted]
  refine ⟨by rw [e1];exact ht.1,by rw [e2];exact ht.2.1,by rw [h.alive',if_neg (by have:=h.pos;omega)];exact ht.2.2.1,ht.2.2.2.1,fun k hk=>?_⟩
  rw [e2] at hk
  rw [h.bags',h.alive']
  have hkk:=ht.2.1
  by_cases g1:c.toNat=k
  · rw [if_pos g1,if_pos g1]
    have hK:=h.frame.1
    refine ⟨⟨⟨fun j hj=>by rw [rep_get];omega,by simp;omega,by simp;omega⟩,by simp;omega⟩,fun _=>?_⟩
    have hz:∀ n,sumTo (List.replicate s.qQ.toNat 0) n=0:=by
      intro n
      induction n with
      | zero=>simp [sumTo]
      | succ n ih=>simp only [sumTo,ih,rep_get];omega
    unfold Xc
    rw [hz]
    omega
  · rw [if_neg g1,if_neg g1]
    by_cases g2:(xn s t c).toNat=k
    · rw [if_pos g2]
      subst g2
      have bp:=ht.bagLen hk
      have bc:=ht.bagLen (k:=c.toNat) qf
      refine ⟨⟨⟨fun j hj=>?_,by rw [jY];exact bp.1.2.1,by rw [jY];exact bp.1.2.2⟩,by rw [jY];exact bp.2⟩,fun hd=>?_⟩
      · rw [jY] at hj
        rw [plusL_get hj]
        have hj2:j < (t.qN[c.toNat]!).length:=by have:=bp.2;have:=bc.2;omega
        have a1:=bp.1.1 j hj
        have a2:=bc.1.1 j hj2
        have a3:=hf.1 _ hk j hj
        have a4:=hf.1 c.toNat qf j hj2
        omega
      · rw [hp.2.2] at hd;cases hd
    · rw [if_neg g2]
      exact ht.2.2.2.2 k hk
end
open Classical in
noncomputable def pnV (s:qG) (t:qR) (c:Int):Int:=if cellCodeOf s t c=0 then xn s t c else 0
open Classical in
noncomputable def kidsV (s:qG) (t:qR) (c:Int):yLI:=if cellCodeOf s t c=0 then kidsTo s t c s.qA.length else []
structure CanAdd (a b:yLI):Prop where
  one:BagAny a
  two:BagAny b
  len:a.length=b.length
  sum:BagAny (y9 a b 1)
structure TreeAt (s:qG) (t:qR) (c:Int):Prop where
  code:(meltRes s t c).2=0
  cc:cellCodeOf s t c=0
  ok:zX s∧xQ s (meltRes s t c).1
  dead:(meltRes s t c).1.qJ[c.toNat]! =false
  par:0≤pnV s t c∧pnV s t c < s.qA.length
  kids:∀ i,i < (kidsV s t c).length→cellCodeOf s (meltRes s t c).1 ((kidsV s t c)[i]!)=0∧pnV s (meltRes s t c).1 ((kidsV s t c)[i]!)=pnV s t c
  few:(kidsV s t c).length≤6
  total:allTo (meltRes s t c).1 s.qA.length=allTo t s.qA.length
  bag:BagAny (allTo t s.qA.length)
  add:CanAdd (t.qN[(pnV s t c).toNat]!) (t.qN[c.toNat]!)
  sum:y9 (t.qN[(pnV s t c).toNat]!) (t.qN[c.toNat]!) 1=(meltRes s t c).1.qN[(pnV s t c).toNat]!
end
section
open Go.RowKit
set_option linter.unusedVariables false
section
variable {W0 w : World} {ps : List Prv} {Γ : List Fact}
theorem own_at (H:St W0 w ps Γ) (i:Nat) {v:Value} {e:TypeId} {m:Nat} {z:yLI} (hq:ps[i]? =some (.row v e 1 m (z.map (Value.int .i64)))):
    ∃ G,OwnAt e w G v z∧(∀ x∈G,jo ps i=some x)∧jD w G∧G.Nodup:=by
  have ho:=(H.has _ (List.mem_of_getElem? hq):w.ownsRow W0.heap.size e 1 v m (z.map (Value.int .i64)))
  have hm:m=z.length:=by have:=ho.1;simp at this;omega
  subst hm
  rcases ho.2 with ⟨rfl,h0⟩ | ⟨g,cap,cur,rfl,hb,hg,hnc,hcm,hcs,htake⟩
  · exact ⟨[],Or.inl ⟨rfl,List.eq_nil_of_length_eq_zero h0,rfl⟩,by simp,jD.nil _,by simp⟩
  · refine ⟨[g],Or.inr ⟨g,cap,cur,rfl,rfl,hg,hnc,hcm,by omega,by rw [Nat.mul_one] at htake;exact htake⟩,fun x hx=>?_,fun x hx=>?_,by simp⟩
    · obtain rfl:=List.mem_singleton.1 hx
      simp [jo,hq,Prv.blk,Value.ownBlock]
    · obtain rfl:=List.mem_singleton.1 hx
      exact ⟨_,_,hg⟩
theorem dead_at {i:Nat} {p:Prv} (hq:ps[i]? =some p):∀ (b' i' :Nat),jo (ps.set i (.row (.slice none 0 0) 0 1 0 [])) i' =some b' →i' ≠i∧jo ps i' =some b' :=by
  intro b' i' h
  unfold jo at h ⊢
  by_cases hi:i' =i
  · subst hi
    rw [set_at hq] at h
    simp [Prv.blk,Value.ownBlock] at h
  · rw [List.getElem?_set_ne (Ne.symm hi)] at h
    exact ⟨hi,h⟩
theorem St.snocI {e:TypeId} (H:St W0 w ps Γ) (i:Nat) {v:Value} {m:Nat} {z:yLI} (hq:ps[i]? =some (.row v e 1 m (z.map (Value.int .i64)))) (j:Nat) {F:yLN} {xs:List Value} {l:List (OwnI e)} (hf:Γ[j]? =some (xB true F xs l))
    {L:List yLN} (N:Fresh W0.heap.size (F :: L)) (ha:∀ K∈L,∀ b∈K,∀ i,jo ps i≠some b):
    ∃ F',Fresh W0.heap.size (F' :: L)∧St W0 w (ps.set i (.row (.slice none 0 0) 0 1 0 [])) (xB true F' (xs++[v]) (l++[⟨z⟩]) :: Γ):=by
  have hF:=(H.facts _ (List.mem_of_getElem? hf)).2
  obtain ⟨G,hG,hGb,hGf,hgn⟩:=own_at H i hq
  have hGF:∀ x∈G,x∉F:=fun x hx h=>(hF x h).2 i (hGb x hx)
  have hGL:∀ K∈L,∀ x∈K,x∉G:=fun K hK x hx h=>ha K hK x hx i (hGb x h)
  have hge:∀ x∈G,W0.heap.size≤x:=fun x hx=>(Qa H (hGb x hx)).1
  have hset:=dead_at hq
  refine ⟨F++G,⟨fun K hK=>?_,fun K hK x hx=>?_,?_⟩,?_⟩
  · rcases List.mem_cons.1 hK with rfl | h
    · exact List.nodup_append.2 ⟨N.nd F qm,hgn,fun x hx y hy e=>hGF y hy (e▸hx)⟩
    · exact N.nd K (List.mem_cons_of_mem _ h)
  · rcases List.mem_cons.1 hK with rfl | h
    · rcases List.mem_append.1 hx with h | h
      · exact N.ge F qm x h
      · exact hge x h
    · exact N.ge K (List.mem_cons_of_mem _ h) x hx
  · have hd:=List.pairwise_cons.1 N.dj
    refine List.pairwise_cons.2 ⟨fun K hK x hx=>?_,hd.2⟩
    rcases List.mem_append.1 hx with h | h
    · exact hd.1 K hK x h
    · exact fun hxK=>hGL K hK x hxK h
  · refine (H.dead i hq).add _ ⟨jZ (H.get j hf).1 (reps_one (show qW.rep w G [v] (⟨z⟩:OwnI e) from ⟨v,rfl,hG⟩)),fun _ x hx=>?_⟩ fun x hx=>?_
    · rcases List.mem_append.1 hx with h | h
      · exact (H.get j hf).2 rfl x h
      · exact hGf x h
    · rcases List.mem_append.1 hx with h | h
      · exact ⟨(hF x h).1,fun i' hi' =>(hF x h).2 i' (hset x i' hi').2⟩
      · exact ⟨(Qa H (hGb x h)).2,fun i' hi' =>(hset x i' hi').1 (H.dist i' i x (hset x i' hi').2 (hGb x h))⟩
theorem St.closeI {e:TypeId} (H:St W0 w ps Γ) (i:Nat) {v:Value} {m:Nat} {z:yLI} (hq:ps[i]? =some (.row v e 1 m (z.map (Value.int .i64)))) (j:Nat) {F:yLN} {xs:List Value} {l:List (OwnI e)} {c:Nat} (hf:Γ[j]? =some (xB true F (xs.set c (.slice none 0 0)) l))
    {L:List yLN} (N:Fresh W0.heap.size (F :: L)) (ha:∀ K∈L,∀ b∈K,∀ i,jo ps i≠some b) (h2:c < xs.length):
    ∃ F',Fresh W0.heap.size (F' :: L)∧St W0 w (ps.set i (.row (.slice none 0 0) 0 1 0 [])) (xB true F' (xs.set c v) (l.set c ⟨z⟩) :: Γ):=by
  have hF:=(H.facts _ (List.mem_of_getElem? hf)).2
  obtain ⟨G,hG,hGb,hGf,hgn⟩:=own_at H i hq
  have hset:=dead_at hq
  have hll:(xs.set c (.slice none 0 0)).length=l.length * 1:=reps_len (H.get j hf).1
  rw [List.length_set] at hll
  obtain ⟨F',hr,hs1,hs2⟩:=reps_set (H.get j hf).1 (show qW.rep w G [v] (⟨z⟩:OwnI e) from ⟨v,rfl,hG⟩) c qf
  have e1:(xs.set c (.slice none 0 0)).take (c * qW.size (OwnI e))++[v]++(xs.set c (.slice none 0 0)).drop (c * qW.size (OwnI e)+[v].length)=xs.set c v:=by
    show (xs.set c (.slice none 0 0)).take (c * 1)++[v]++(xs.set c (.slice none 0 0)).drop (c * 1+1)=xs.set c v
    rw [Nat.mul_one,List.take_set_of_le (Nat.le_refl _),List.drop_set_of_lt qf,List.set_eq_take_append_cons_drop,if_pos qf]
    simp
  rw [e1] at hr
  have hGF:∀ x∈G,x∉F:=fun x hx h=>(hF x h).2 i (hGb x hx)
  have hGL:∀ K∈L,∀ x∈K,x∉G:=fun K hK x hx h=>ha K hK x hx i (hGb x h)
  have hge:∀ x∈G,W0.heap.size≤x:=fun x hx=>(Qa H (hGb x hx)).1
  refine ⟨F',⟨fun K hK=>?_,fun K hK x hx=>?_,?_⟩,?_⟩
  · rcases List.mem_cons.1 hK with rfl | h
    · exact hs2 (N.nd F qm) hgn fun x hx h=>hGF x h hx
    · exact N.nd K (List.mem_cons_of_mem _ h)
  · rcases List.mem_cons.1 hK with rfl | h
    · rcases hs1 x hx with h | h
      · exact N.ge F qm x h
      · exact hge x h
    · exact N.ge K (List.mem_cons_of_mem _ h) x hx
  · have hd:=List.pairwise_cons.1 N.dj
    refine List.pairwise_cons.2 ⟨fun K hK x hx=>?_,hd.2⟩
    rcases hs1 x hx with h | h
    · exact hd.1 K hK x h
    · exact fun hxK=>hGL K hK x hxK h
  · refine (H.dead i hq).add _ ⟨hr,fun _ x hx=>?_⟩ fun x hx=>?_
    · rcases hs1 x hx with h | h
      · exact (H.get j hf).2 rfl x h
      · exact hGf x h
    · rcases hs1 x hx with h | h
      · exact ⟨(hF x h).1,fun i' hi' =>(hF x h).2 i' (hset x i' hi').2⟩
      · exact ⟨(Qa H (hGb x h)).2,fun i' hi' =>(hset x i' hi').1 (H.dist i' i x (hset x i' hi').2 (hGb x h))⟩
theorem inner_get {e:TypeId} (H:St W0 w ps Γ) (j:Nat) {F:yLN} {xs:List Value} {l:List (OwnI e)} (hf:Γ[j]? =some (xB true F xs l)) (c:Nat) (hc:c < l.length):
    ∃ G v,xs[c]? =some v∧OwnAt e w G v (l[c]!).l∧∀ x∈G,x∈F:=by
  obtain ⟨F1,Fk,F2,v1,cs,v2,hFe,hxe,hl1,hl2,⟨u,rfl,hu⟩,_,_⟩:=reps_get (H.get j hf).1 c hc
  have hl1' :v1.length=c:=by rw [hl1];exact Nat.mul_one _
  refine ⟨Fk,u,?_,by rw [getElem!_pos l c hc];exact hu,fun x hx=>by rw [hFe];simp [hx]⟩
  refine (congrArg (fun z:List Value=>z[c]?) hxe).trans ?_
  show (v1++[u]++v2)[c]? =_
  rw [List.append_assoc,List.getElem?_append_right qf]
  simp [hl1']
theorem St.innerHead {e:TypeId} (H:St W0 w ps Γ) (j:Nat) {F:yLN} {xs:List Value} {l:List (OwnI e)} (hf:Γ[j]? =some (xB true F xs l)) (c:Nat) (hc:c < l.length):∃ a m,xs[c]? =some (.slice a (l[c]!).l.length m):=by
  obtain ⟨G,v,h1,h2,_⟩:=inner_get H j hf c hc
  obtain ⟨a,m,rfl⟩:=h2.slice
  exact ⟨a,m,h1⟩
theorem St.innerAddr {e:TypeId} (H:St W0 w ps Γ) (j:Nat) {F:yLN} {xs:List Value} {l:List (OwnI e)} (hf:Γ[j]? =some (xB true F xs l)) (c:Nat) (hc:c < l.length) {a:yOA} {n m:Nat} (hx:xs[c]? =some (.slice a n m)) (h0:0 < (l[c]!).l.length):
    ∃ g,a=some ⟨g,0,none⟩:=by
  obtain ⟨G,v,h1,h2,_⟩:=inner_get H j hf c hc
  rw [hx] at h1
  obtain rfl:=Option.some.inj h1
  rcases h2 with ⟨_,h,_⟩ | ⟨g,cap,cur,h,_⟩
  · rw [h] at h0;simp at h0
  · simp only [Value.slice.injEq] at h
    exact ⟨g,h.1⟩
end
section
variable {P : Program} {Q : Exit → Act → World → Prop} {n : Nat} {ρ : Env} {W0 w : World} {ps : List Prv} {Γ : List Fact}
  {d:Nat} {ty:TypeId} {pos:String} {af:Array Edge} {K:Env→World→Prop}
theorem o_storeII {t e e2:TypeId} {x y:Operand} {b c' :Nat} {nn:Nat} {xs:List Value} (H:St W0 w ps Γ) (k:Nat) (hp:ps[k]? =some (.row (.slice (some ⟨b,0,none⟩) nn c') e2 1 nn xs)) (j:Nat) {F:yLN} {l:List (OwnI e)} (hf:Γ[j]? =some (xB true F xs l))
    {L:List yLN} (N:Fresh W0.heap.size (F :: L)) (ha:∀ K∈L,∀ b∈K,∀ i,jo ps i≠some b) (Γ' :List Fact) (hΓ:∀ f∈Γ',f∈Γ∧∀ x∈f.F,x∉F)
    (c:Nat) (hc:c < nn) {g m m' :Nat} (hx:xs[c]? =some (.slice (some ⟨g,0,none⟩) m m')) {iv:Int} {q:Nat} (u:Int) (hs:∀ w,(Go.sizeOf t).run P w=.ok 1 w)
    (hxp:ev n ρ x=.pointer (some ⟨g,0+iv.toNat * 1,none⟩)) (hy:ev n ρ y=.int .i64 u) (hq:iv.toNat=q) (h2:q < (l[c]!).l.length)
    (kk:∀ w' F',Fresh W0.heap.size (F' :: L)→St W0 w' ps (xB true F' xs (l.set c ⟨(l[c]!).l.set q u⟩) :: Γ')→K ρ w'):
    OW P Q ⟨none,.store t x y,ty,pos,af,none⟩ n ρ w K:=by
  have hxl:=H.rowLen k hp
  have hnl:nn=l.length:=H.rowCountO k hp j hf
  have hF:=(H.facts _ (List.mem_of_getElem? hf)).2
  obtain ⟨a,mm,F1,hcell,N1,H1⟩:=H.openI k hp j hf N (iv:=(c:Int)) c rfl hc Γ' hΓ
  have hcell' :w.cell? ⟨b,c,none⟩=some (.slice (some ⟨g,0,none⟩) m m'):=H.rowGet k hp hx
  have ec:(0:Nat)+((c:Int)).toNat * 1=c:=by omega
  rw [ec,hcell'] at hcell
  simp only [Option.some.injEq,Value.slice.injEq] at hcell
  obtain ⟨rfl,rfl,rfl⟩:=hcell
  refine o_storeInt H1 0 rfl u hs hxp hy hq h2 fun w1 H2=>?_
  -- the blocks of the others are others
  obtain ⟨G,hG,hGb,_,_⟩:=own_at H2 0 rfl
  have hgG:G=[g]:=by
    rcases hG with ⟨h,_,_⟩ | ⟨g',cap,cur,h,h',_⟩
    · simp at h
    · simp only [Value.slice.injEq,Option.some.injEq,Addr.mk.injEq,and_true] at h
      rw [h',h.1]
  have hgF:g∈F:=by
    obtain ⟨G',v,h1,h3,h4⟩:=inner_get H j hf c qf
    rw [hx] at h1
    obtain rfl:=Option.some.inj h1
    rcases h3 with ⟨h,_,_⟩ | ⟨g',cap,cur,h,h',_⟩
    · simp at h
    · simp only [Value.slice.injEq,Option.some.injEq,Addr.mk.injEq,and_true] at h
      rw [h.1];exact h4 g' (by rw [h'];simp)
  have ha1:∀ K∈L,∀ x∈K,∀ i,jo ((.row (.slice (some ⟨g,0,none⟩) (l[c]!).l.length m') e 1 (l[c]!).l.length (((l[c]!).l.set q u).map (Value.int .i64))) :: ps) i≠some x:=by
    intro K hK x hx' i
    cases i with
    | zero=>
      intro h
      have h' :g=x:=by simpa [jo,Prv.blk,Value.ownBlock] using h
      subst h'
      exact (List.pairwise_cons.1 N.dj).1 K hK g hgF hx'
    | succ i=>exact ha K hK x hx' i
  obtain ⟨F2,N2,H3⟩:=H2.closeI 0 rfl 0 rfl N1 ha1 qf
  have e1:xs.set c (.slice (some ⟨g,0,none⟩) (l[c]!).l.length m')=xs:=by
    refine List.ext_getElem? fun i=>?_
    by_cases hi:c=i
    · subst hi;rw [List.getElem?_set_self qf,hx]
    · rw [List.getElem?_set_ne hi]
  have e2' :(l.set c ⟨[]⟩).set c (⟨(l[c]!).l.set q u⟩:OwnI e)=l.set c ⟨(l[c]!).l.set q u⟩:=by rw [List.set_set]
  rw [e1,e2'] at H3
  have H4:St W0 w1 ps (xB true F2 xs (l.set c ⟨(l[c]!).l.set q u⟩) :: Γ'):=by
    refine (H3.erases [0]).sub _ fun f hf' =>?_
    rcases List.mem_cons.1 hf' with rfl | h
    · exact List.mem_cons_self ..
    · exact List.mem_cons_of_mem _ (List.mem_cons_of_mem _ h)
  exact kk w1 F2 N2 H4
end
section
variable {B : Nat} {F : yLN} {L : List yLN}
theorem away_new (N:Fresh B (F :: L)) (i:Nat) {G:yLN} (h:L[i]? =some G):∀ x∈G,x∉F:=fun x hx hF=>(List.pairwise_cons.1 N.dj).1 G (List.mem_of_getElem? h) x hF hx
theorem kept {Γ:List Fact} (j:Nat) {f:Fact} (hf:Γ[j]? =some f) (h:∀ x∈f.F,x∉F):f∈Γ∧∀ x∈f.F,x∉F:=⟨List.mem_of_getElem? hf,h⟩
theorem keeps_cons {Γ Δ:List Fact} {f:Fact} (h:f∈Γ∧∀ x∈f.F,x∉F) (k:∀ f∈Δ,f∈Γ∧∀ x∈f.F,x∉F):∀ g∈f :: Δ,g∈Γ∧∀ x∈g.F,x∉F:=fun g hg=>by
  rcases List.mem_cons.1 hg with rfl | hg
  · exact h
  · exact k g hg
end
theorem St.rebase {W0 w:World} {ps:List Prv} {Γ:List Fact} (H:St W0 w ps Γ) (Δ:List Fact) (h:∀ f∈Δ,f.φ w∧∀ b∈f.F,b < w.heap.size):St w w [] Δ:=
  ⟨Below.refl _ _,by simp,by intro i j b hi;simp [jo] at hi,fun f hf=>⟨(h f hf).1,fun b hb=>⟨(h f hf).2 b hb,fun i=>by simp [jo]⟩⟩⟩
end
section

def jX (f:Nat→Int):Nat→Int
  | 0=>0
  | n+1=>jX f n+f n
theorem sumN_zero (n:Nat):jX (fun _=>0) n=0:=by
  induction n with
  | zero=>rfl
  | succ n ih=>rw [jX,ih];rfl
theorem Qz (f g:Nat→Int) (n:Nat):jX (fun c=>f c+g c) n=jX f n+jX g n:=by
  induction n with
  | zero=>rfl
  | succ n ih=>rw [jX,jX,jX,ih];omega
theorem needS_around {s:qG} {counts:yLI} (hs:zX s) (q:Nat):∀ k,k≤s.qB.length→needS s counts k (xN s) q=0
  | 0,_=>rfl
  | k+1,h=>by
    have hr:=(hs.rule (i:=k) qf).cell
    rw [needS,needS_around hs q k qf]
    unfold needF at'
    rw [if_neg qf];rfl
def PutsD (D:Int) (s:qG):Prop:=∀ i,i < s.qB.length→∀ q,q < zn s→((s.qB[i]!).xF)[q]! ≤D∧((s.qB[i]!).zI)[q]! ≤D∧∀ j,j < (s.qB[i]!).qL.length→(((s.qB[i]!).qL[j]!).jR)[q]! ≤D
theorem rest_get {s:qG} {t:qR} {counts:yLI} (hs:zX s) (ht:xQ s t) (hc:CntOk s counts) (h:IsCh s t counts) {p q:Nat} (hp:p < xN s) (hq:q < zn s):0≤base0 s t p q+needS s counts s.qB.length p q:=by
  have e:=(restR_ent hs ht hc s.qB.length (Nat.le_refl _)).eq p q hp hq
  have hl:=((restR_ent hs ht hc s.qB.length (Nat.le_refl _)).sh.2 p hp).1
  have hn:=h.2
  rw [hc.1] at hn
  have:=hn p (by rw [ht.2.1];exact hp) q (by rw [hl];exact hq)
  rw [e] at this
  unfold base0
  rw [if_pos hp]
  exact this
theorem at_bd {p c:Nat} {x B:Int} (h:0≤x∧x≤B):0≤at' p c x∧at' p c x≤B:=by
  unfold at'
  split <;> omega
theorem mul_bd {c m M D:Int} (hc:0≤c∧c≤M) (hm:0≤m∧m≤D):0≤c * m∧c * m≤M * D:=by
  refine ⟨Int.mul_nonneg hc.1 hm.1,?_⟩
  have h1:=Int.mul_le_mul_of_nonneg_left hm.2 hc.1
  have h2:=Int.mul_le_mul_of_nonneg_right hc.2 (show 0≤D by omega)
  omega
theorem putF_bd {s:qG} {t:qR} {M D c:Int} (hs:zX s) (hD:PutsD D s) {i:Nat} (hi:i < s.qB.length) (hc:0≤c∧c≤M) (p q:Nat) (hq:q < zn s):0≤putF s t (s.qB[i]!) c p q∧putF s t (s.qB[i]!) c p q≤5 * (M * D):=by
  have hr:=hs.rule hi
  obtain ⟨d1,d2,d3⟩:=hD i hi q hq
  have b1:=hr.2.2.2.2.2.2.2.1
  have b2:=hr.2.2.2.2.2.2.2.2.1
  have h1:=at_bd (p:=p) (c:=(s.qB[i]!).qF.toNat) (mul_bd hc ⟨(b1.get (k:=q) (by rw [b1.len];exact hq)).1,d1⟩)
  have h2:=at_bd (p:=p) (c:=outPl s t (s.qB[i]!)) (mul_bd hc ⟨(b2.get (k:=q) (by rw [b2.len];exact hq)).1,d2⟩)
  have hI:∀ j,j≤(s.qB[i]!).qL.length→0≤Xy (s.qB[i]!) c j p q∧Xy (s.qB[i]!) c j p q≤(j:Int) * (M * D):=by
    intro j
    induction j with
    | zero=>intro _;simp [Xy]
    | succ j ih=>
      intro hj
      have hio:=hr.2.2.2.2.2.2.2.2.2.2 j qf
      have b3:=hio.2.2.1
      have h3:=at_bd (p:=p) (c:=((s.qB[i]!).qL[j]!).qF.toNat) (mul_bd hc ⟨(b3.get (k:=q) (by rw [b3.len];exact hq)).1,d3 j qf⟩)
      have:=ih qf
      rw [Xy]
      have e:((j+1:Nat):Int) * (M * D)=(j:Int) * (M * D)+M * D:=by push_cast;rw [Int.add_mul,Int.one_mul]
      rw [e]
      omega
  have h4:=hI _ (Nat.le_refl _)
  have hl:=hr.2.2.2.1
  have hMD:0≤M * D:=by omega
  have h5:((s.qB[i]!).qL.length:Int) * (M * D)≤3 * (M * D):=Int.mul_le_mul_of_nonneg_right qf hMD
  unfold putF
  omega
theorem putS_bd {s:qG} {t:qR} {M D:Int} {counts:yLI} (hs:zX s) (hD:PutsD D s) (hc:∀ i,i < s.qB.length→0≤counts[i]! ∧counts[i]! ≤M) (p q:Nat) (hq:q < zn s):∀ k,k≤s.qB.length→0≤putS s t counts k p q∧putS s t counts k p q≤(k:Int) * (5 * (M * D))
  | 0,_=>by simp [putS]
  | k+1,h=>by
    have ih:=putS_bd (t:=t) hs hD hc p q hq k qf
    have:=putF_bd (t:=t) hs hD (i:=k) qf (hc k qf) p q hq
    rw [putS]
    have e:((k+1:Nat):Int) * (5 * (M * D))=(k:Int) * (5 * (M * D))+5 * (M * D):=by push_cast;rw [Int.add_mul,Int.one_mul]
    rw [e]
    omega
theorem tab2_line {n K:Nat} {f:Nat→Nat→Int} {p:Nat} (h:p < n):(tab2 n K f)[p]! =(List.range K).map (f p):=by
  rw [getElem!_pos _ _ (by rw [tab2_len];exact h)];simp [tab2]
theorem stepped_row {s:qG} {t:qR} {counts:yLI} {p:Nat} (h:p < xN s):(xA s t counts).qN[p]! =(List.range (zn s)).map (stepF s t counts p):=by
  have hl:=tab2_len (xN s+1) (zn s) (stepF s t counts)
  show ((tab2 (xN s+1) (zn s) (stepF s t counts)).take (xN s))[p]! =_
  rw [getElem!_pos _ _ (by rw [List.length_take,hl];omega),List.getElem_take,← getElem!_pos,tab2_line qf]
theorem map_range_get {K:Nat} {g:Nat→Int} {q:Nat} (h:q < K):((List.range K).map g)[q]! =g q:=by
  rw [getElem!_pos _ _ (by simpa using h)];simp
theorem stepped_around {s:qG} {t:qR} {counts:yLI}:(xA s t counts).qM=(List.range (zn s)).map (stepF s t counts (xN s)):=by
  show (tab2 (xN s+1) (zn s) (stepF s t counts))[xN s]! =_
  rw [tab2_line qf]

theorem appl_of {s:qG} {t:qR} {counts:yLI} (hc:CntOk s counts) (h:IsCh s t counts) {i:Nat} (hi:i < s.qB.length) (h0:counts[i]! ≠0):EnOk s t (s.qB[i]!):=by
  have hb:=hc.bd hi
  have:=h.1 i (by rw [hc.1];exact hi)
  unfold BadAt at this
  apply Classical.byContradiction
  intro hn
  exact this ⟨by omega,fun ha=>hn ha.1⟩
theorem dead_none {s:qG} {t:qR} {counts:yLI} (hs:zX s) (ht:xQ s t) (hc:CntOk s counts) (h:IsCh s t counts) {p:Nat} (hp:p < xN s) (hd:t.qJ[p]! =false) (q:Nat):
    ∀ k,k≤s.qB.length→needS s counts k p q=0∧putS s t counts k p q=0
  | 0,_=>⟨rfl,rfl⟩
  | k+1,hk=>by
    obtain ⟨i1,i2⟩:=dead_none hs ht hc h hp hd q k qf
    rw [needS,putS,i1,i2]
    by_cases h0:counts[k]! =0
    · rw [putF_zero s t _ h0]
      unfold needF
      rw [h0]
      refine ⟨?_,rfl⟩
      unfold at'
      split <;> simp
    · have he:=appl_of hc h (i:=k) qf h0
      have hr:=hs.rule (i:=k) qf
      have hcell:p≠(s.qB[k]!).qF.toNat:=fun e=>by
        subst e
        have h1:=he.1
        rw [hd] at h1;cases h1
      have hout:p≠outPl s t (s.qB[k]!):=by
        intro e
        unfold outPl at e
        split at e
        · omega
        · rename_i hne
          have hcc:=hr.1
          have:=Qc (t:=t) hs.1 ht.2.2.1 (show 0 < (s.qB[k]!).qF by have:=hcc.1;omega) hcc.2
          rw [← e,hd] at this
          exact absurd this.2.2 qj
      have hinto:∀ j,j≤(s.qB[k]!).qL.length→Xy (s.qB[k]!) (counts[k]!) j p q=0:=by
        intro j
        induction j with
        | zero=>intro _;rfl
        | succ j ih=>
          intro hj
          rw [Xy,ih qf]
          have ha:=(he.2.2.2.2 j qf).1
          unfold at'
          rw [if_neg (fun e=>by rw [e] at hd;rw [hd] at ha;cases ha)]
          rfl
      unfold needF putF at'
      rw [if_neg hcell,if_neg hcell,if_neg hout,hinto _ (Nat.le_refl _)]
      exact ⟨rfl,rfl⟩
theorem dead_zero {s:qG} {t:qR} (ht:xQ s t) {p q:Nat} (hp:p < xN s) (hd:t.qJ[p]! =false) (hq:q < zn s):base0 s t p q=0:=by
  have hb:=ht.2.2.2.2 p (by rw [ht.2.1];exact hp)
  have hl:=hb.1.len
  unfold base0
  rw [if_pos hp]
  have h0:=hb.1.get (k:=q) (by rw [hl];exact hq)
  apply Classical.byContradiction
  intro hn
  have hs0:Xc (t.qN[p]!)≤0:=hb.2 hd
  have hmono:∀ n,n≤(t.qN[p]!).length→0≤sumTo (t.qN[p]!) n∧(q < n→(t.qN[p]!)[q]! ≤sumTo (t.qN[p]!) n):=by
    intro n
    induction n with
    | zero=>intro _;exact ⟨by simp [sumTo],fun x=>by omega⟩
    | succ n ih=>
      intro hn
      have i:=ih qf
      have g:=(hb.1.get (k:=n) qf).1
      refine ⟨by simp only [sumTo];omega,fun x=>?_⟩
      simp only [sumTo]
      by_cases e:q=n
      · subst e;omega
      · have:=i.2 qf;omega
  have:=(hmono _ (Nat.le_refl _)).2 (by rw [hl];exact hq)
  unfold Xc at hs0
  omega

theorem sumN_le {f g:Nat→Int} {n:Nat} (h:∀ p,p < n→f p≤g p):jX f n≤jX g n:=by
  induction n with
  | zero=>exact Int.le_refl _
  | succ n ih=>rw [jX,jX];have:=ih fun p hp=>h p qf;have:=h n qf;omega
theorem sumN_const (v:Int) (n:Nat):jX (fun _=>v) n=n * v:=by
  induction n with
  | zero=>simp [jX]
  | succ n ih=>rw [jX,ih];push_cast;rw [Int.add_mul,Int.one_mul]
theorem colTo_sum (t:qR) (q:Nat):∀ n,colTo t q n=jX (fun p=>(t.qN[p]!)[q]!) n
  | 0=>rfl
  | n+1=>by rw [colTo,jX,colTo_sum t q n]
theorem col_two {t:qR} {q:Nat} (h0:∀ p,p < t.qN.length→0≤(t.qN[p]!)[q]!):∀ n,n≤t.qN.length→0≤colTo t q n∧(∀ a,a < n→(t.qN[a]!)[q]! ≤colTo t q n)∧∀ a b,a < b→b < n→(t.qN[a]!)[q]! +(t.qN[b]!)[q]! ≤colTo t q n
  | 0,_=>⟨by simp [colTo],fun a ha=>by omega,fun a b _ hb=>by omega⟩
  | n+1,hn=>by
    obtain ⟨i0,i1,i2⟩:=col_two h0 n qf
    have g:=h0 n qf
    rw [colTo]
    refine ⟨by omega,fun a ha=>?_,fun a b hab hb=>?_⟩
    · by_cases e:a=n
      · subst e;omega
      · have:=i1 a qf;omega
    · by_cases e:b=n
      · subst e
        have:=i1 a qf;omega
      · have:=i2 a b hab qf;omega
theorem y7.ok1000 {s:qG} {t:qR} {c:Int} (h:y7 s t c) (hf:∀ q,q < zn s→colTo t q (xN s)≤1000):xQ s (melted s t c):=by
  have hcn:xN s=s.qA.length:=rfl
  have hp:=h.par
  have hc:=h.cell
  have ht:=h.state
  have e1:(melted s t c).qJ.length=t.qJ.length:=by simp [melted]
  have e2:(melted s t c).qN.length=t.qN.length:=by simp [melted]
  refine ⟨by rw [e1];exact ht.1,by rw [e2];exact ht.2.1,by rw [h.alive',if_neg (by have:=h.pos;omega)];exact ht.2.2.1,ht.2.2.2.1,fun k hk=>?_⟩
  rw [e2] at hk
  rw [h.bags',h.alive']
  have hkk:=ht.2.1
  by_cases g1:c.toNat=k
  · rw [if_pos g1,if_pos g1]
    have hK:=h.frame.1
    refine ⟨⟨⟨fun j hj=>by rw [rep_get];omega,by simp;omega,by simp;omega⟩,by simp;omega⟩,fun _=>?_⟩
    have hz:∀ n,sumTo (List.replicate s.qQ.toNat 0) n=0:=by
      intro n
      induction n with
      | zero=>simp [sumTo]
      | succ n ih=>simp only [sumTo,ih,rep_get];omega
    unfold Xc
    rw [hz]
    omega
  · rw [if_neg g1,if_neg g1]
    by_cases g2:(xn s t c).toNat=k
    · rw [if_pos g2]
      subst g2
      have bp:=ht.bagLen hk
      have bc:=ht.bagLen (k:=c.toNat) qf
      refine ⟨⟨⟨fun j hj=>?_,by rw [jY];exact bp.1.2.1,by rw [jY];exact bp.1.2.2⟩,by rw [jY];exact bp.2⟩,fun hd=>?_⟩
      · rw [jY] at hj
        rw [plusL_get hj]
        have hj2:j < (t.qN[c.toNat]!).length:=by have:=bp.2;have:=bc.2;omega
        have hjk:j < zn s:=by rw [bp.len] at hj;exact hj
        have a1:=bp.1.1 j hj
        have a2:=bc.1.1 j hj2
        have a3:=hf j hjk
        have a4:=(col_two (t:=t) (q:=j) (fun p hp=>by
          have b:=ht.bagLen hp
          exact (b.get (k:=j) (by rw [b.len];exact hjk)).1) (xN s) (by rw [hkk];exact Nat.le_refl _)).2.2 (xn s t c).toNat c.toNat qf qf
        omega
      · rw [hp.2.2] at hd;cases hd
    · rw [if_neg g2]
      exact ht.2.2.2.2 k hk
def jT (s:qG) (c:Int):Prop:=∃ i,i < s.qB.length∧(s.qB[i]!).xR=true∧(s.qB[i]!).qF=c
def DeadOk (s:qG) (u:qR):Prop:=∀ c,c < s.qA.length→u.qJ[c]! =false→jT s (c:Int)
open Classical in
noncomputable def chain (s:qG):Nat→Int→yLI
  | 0,_=>[]
  | n+1,p=>if p < 0 then [] else p :: (if jT s p then chain s n (s.qA[p.toNat]!) else [])
theorem climb_chain {s:qG} {u:qR} (hs:zN s) (h0:u.qJ[0]! =true) (hd:DeadOk s u):∀ (n m:Nat) (p:Int),0≤p→p < n→p < m→p≤(s.qA.length:Int) - 1→climb s.qA u.qJ n p∈chain s m p
  | 0,m,p,h1,h2,h3,h4=>by omega
  | n+1,0,p,h1,h2,h3,h4=>by omega
  | n+1,m+1,p,h1,h2,h3,h4=>by
    rw [chain,if_neg qf,climb]
    by_cases ha:0≤p∧u.qJ[p.toNat]! =false
    · rw [if_pos ha]
      have hx:0 < p:=by
        rcases Int.lt_or_eq_of_le h1 with h | h
        · exact h
        · rw [← h] at ha;simp [h0] at ha
      have hu:=hs.up hx h4
      have hm:jT s p:=by
        have:=hd p.toNat qf ha.2
        rwa [show ((p.toNat:Nat):Int)=p by omega] at this
      rw [if_pos hm]
      exact List.mem_cons_of_mem _ (climb_chain hs h0 hd n m _ hu.1 qf qf qf)
    · rw [if_neg ha]
      exact List.mem_cons_self ..
theorem parent_chain {s:qG} {u:qR} (hs:zN s) (hu:xQ s u) (hd:DeadOk s u) {c:Int} (hc:y8 s c) (h0:0 < c):xn s u c∈chain s s.qA.length (s.qA[c.toNat]!):=by
  have h:=hs.up h0 hc.2
  exact climb_chain hs hu.2.2.1 hd _ _ _ h.1 qf qf qf
theorem meltDown_dead {s:qG} {counts:yLI} {u:qR} (hl:u.qJ.length=s.qA.length) (hd:DeadOk s u):∀ j,j+1≤s.qA.length→DeadOk s (xC s counts u j)∧(xC s counts u j).qJ.length=s.qA.length
  | 0,_=>⟨hd,hl⟩
  | j+1,hj=>by
    obtain ⟨ih,il⟩:=meltDown_dead (counts:=counts) hl hd j qf
    by_cases hm:Melts s counts ((xN s:Int) - 1 - j)
    · rw [meltDown_yes hm rfl]
      have hn:xN s=s.qA.length:=rfl
      refine ⟨fun c hc ha=>?_,by simp [melted,il]⟩
      have e:(melted s (xC s counts u j) ((xN s:Int) - 1 - j)).qJ[c]! =if ((xN s:Int) - 1 - j).toNat=c then false else (xC s counts u j).qJ[c]! :=get_set _ _ _ _ qf
      rw [e] at ha
      by_cases hcc:((xN s:Int) - 1 - j).toNat=c
      · obtain ⟨i,h1,_,h3,h4⟩:=hm
        exact ⟨i,h1,h3,by rw [h4];omega⟩
      · rw [if_neg hcc] at ha
        exact ih c hc ha
    · rw [meltDown_no hm rfl];exact ⟨ih,il⟩
end
section
open Go.RowKit Go.Shelf Go.Lib Go.Sort
set_option linter.unusedVariables false
def sortI (l:yLI):yLI:=l.mergeSort fun x y=>decide (x≤y)
theorem sortI_perm (l:yLI):(sortI l).Perm l:=List.mergeSort_perm _ _
theorem sortI_len (l:yLI):(sortI l).length=l.length:=(sortI_perm l).length_eq
section
variable {W0 w : World} {ps : List Prv} {Γ : List Fact}
theorem sw_blockI {α:Type} [Inhabited α] {enc:α→Value} {blk m:Nat} {d:Array α} {os:Array Obj} {k:Nat} (hk:k < w.heap.size) (hne:k≠blk):(grow (putRow enc (Sort.ahead w m) blk 0 d) os).heap[k]? =w.heap[k]? :=by
  unfold putRow mapBlock grow
  show ((Sort.ahead w m).heap.modify blk _++os)[k]? =_
  have hs:((Sort.ahead w m).heap.modify blk (onCells (putCells enc 0 d))).size=w.heap.size:=by rw [Array.size_modify];rfl
  rw [Array.getElem?_append_left (by rw [hs];exact hk),Array.getElem?_modify,if_neg (Ne.symm hne)]
  rfl
theorem sw_rowI {α:Type} [Inhabited α] {enc:α→Value} {blk m:Nat} {d:Array α} {os:Array Obj} {cur:Array Value} {e:TypeId} (h:w.heap[blk]? =some (.cells cur e (0,0))):(grow (putRow enc (Sort.ahead w m) blk 0 d) os).heap[blk]? =some (.cells (putCells enc 0 d cur) e (0,0)):=by
  have hk:blk < w.heap.size:=(Array.getElem?_eq_some_iff.1 h).1
  unfold putRow mapBlock grow
  show ((Sort.ahead w m).heap.modify blk _++os)[blk]? =_
  have hs:((Sort.ahead w m).heap.modify blk (onCells (putCells enc 0 d))).size=w.heap.size:=by rw [Array.size_modify];rfl
  rw [Array.getElem?_append_left (by rw [hs];exact hk),Array.getElem?_modify,if_pos rfl]
  show (w.heap[blk]?).map _=_
  rw [h]
  rfl
theorem sortRowS {P:Program} {ρ:Ren} (L:SlLaysN.n53 P ρ) (H:St W0 w ps Γ) (k:Nat) {b c:Nat} {e:TypeId} {nn:Nat} {l:yLI} (hp:ps[k]? =some (.row (.slice (some ⟨b,0,none⟩) nn c) e 1 nn (l.map (Value.int .i64)))) (hsz:l.length < 4611686018427387904):
    Calls P (ρ.f 53) #[.slice (some ⟨b,0,none⟩) nn c] w fun e' w' =>∃ v,e' =.returned v∧v=.tuple #[]∧
      St W0 w' (ps.set k (.row (.slice (some ⟨b,0,none⟩) nn c) e 1 nn ((sortI l).map (Value.int .i64)))) Γ:=by
  have ho:=(H.has _ (List.mem_of_getElem? hp):w.ownsRow W0.heap.size e 1 _ nn (l.map (Value.int .i64)))
  have hnn:nn=l.length:=by have:=ho.1;simp at this;omega
  subst hnn
  obtain ⟨hl,h | ⟨g',cap,cur,hv,hB,hg,hn,hm,hcs,ht⟩⟩:=ho
  · simp at h
  simp only [Value.slice.injEq,Option.some.injEq,Addr.mk.injEq,and_true] at hv
  obtain ⟨rfl,_,rfl⟩:=hv
  have hcx:∀ i,i < l.length→cur[i]? =some (.int .i64 (l[i]!)):=fun i hi=>by
    have h1:(l.map (Value.int .i64))[i]? =some (.int .i64 (l[i]!)):=by
      rw [List.getElem?_map,List.getElem?_eq_getElem hi,getElem!_pos l i hi];rfl
    rw [← ht,List.getElem?_take,if_pos qf] at h1
    simpa using h1
  have hH:Holds (Value.int .i64) w b 0 l.toArray:=fun i hi=>by
    have hi' :i < l.length:=by simpa using hi
    have e1:l.toArray[i]! =l[i]! :=by rw [getElem!_pos l.toArray i hi,getElem!_pos l i hi'];simp
    rw [e1,Nat.zero_add]
    constructor
    · rw [World.cell?,hg];exact hcx i hi'
    · rw [World.frozen?,hg];simp
  have hblk:b < w.heap.size:=(Array.getElem?_eq_some_iff.1 hg).1
  refine (AnyG.slices_Sort_int L b 0 c l w hH hblk hsz).mono fun e' w' ⟨he,n,os,hw⟩=>⟨_,he,rfl,?_⟩
  subst hw
  have sl:(sortI l).length=l.length:=sortI_len l
  have hown:(grow (putRow (Value.int .i64) (Sort.ahead w n) b 0 (sortI l).toArray) os).ownsRow W0.heap.size e 1 (.slice (some ⟨b,0,none⟩) l.length c) l.length ((sortI l).map (Value.int .i64)):=by
    refine ⟨by simp [sl],Or.inr ⟨b,c,putCells (Value.int .i64) 0 (sortI l).toArray cur,rfl,hB,sw_rowI hg,hn,hm,by unfold putCells;rw [Array.size_mapIdx];exact hcs,?_⟩⟩
    rw [Nat.mul_one]
    refine List.ext_getElem? fun q=>?_
    rw [List.getElem?_take]
    split
    · next hq=>
      rw [Array.getElem?_toList]
      unfold putCells
      rw [Array.getElem?_mapIdx,hcx q hq,List.getElem?_map,List.getElem?_eq_getElem qf]
      simp only [Option.map_some,Nat.zero_le,true_and,Nat.zero_add,List.size_toArray,sl,if_pos hq,Nat.sub_zero]
      rw [getElem!_pos (sortI l).toArray q qy]
      simp
    · next hq=>rw [List.getElem?_eq_none qy]
  have hsize:w.heap.size≤(grow (putRow (Value.int .i64) (Sort.ahead w n) b 0 (sortI l).toArray) os).heap.size:=by
    unfold putRow mapBlock grow
    show _≤((Sort.ahead w n).heap.modify b _++os).size
    rw [Array.size_append,Array.size_modify]
    exact Nat.le_add_right _ _
  exact H.change k hp (p' :=.row (.slice (some ⟨b,0,none⟩) l.length c) e 1 l.length ((sortI l).map (Value.int .i64))) rfl rfl rfl hsize (fun i hi hne=>sw_blockI hi (fun e2=>hne (by subst e2;rfl))) hown (Or.inl rfl)
theorem set_sameI {α:Type} {l:List α} {k:Nat} {x:α} (h:l[k]? =some x):l.set k x=l:=by
  refine List.ext_getElem? fun i=>?_
  by_cases e:k=i
  · subst e
    have hk:k < l.length:=(List.getElem?_eq_some_iff.1 h).1
    rw [List.getElem?_set_self hk,h]
  · rw [List.getElem?_set_ne e]
theorem sortRowI {P:Program} {ρ:Ren} (L:SlLaysN.n53 P ρ) (H:St W0 w ps Γ) (k:Nat) {a:yOA} {c:Nat} {e:TypeId} {nn:Nat} {l:yLI} (hp:ps[k]? =some (.row (.slice a nn c) e 1 nn (l.map (Value.int .i64)))) (hsz:l.length < 4611686018427387904):
    Calls P (ρ.f 53) #[.slice a nn c] w fun e' w' =>∃ v,e' =.returned v∧v=.tuple #[]∧
      St W0 w' (ps.set k (.row (.slice a nn c) e 1 nn ((sortI l).map (Value.int .i64)))) Γ:=by
  have ho:=(H.has _ (List.mem_of_getElem? hp):w.ownsRow W0.heap.size e 1 _ nn (l.map (Value.int .i64)))
  have hnn:nn=l.length:=by have:=ho.1;simp at this;omega
  subst hnn
  by_cases h0:l.length=0
  · obtain rfl:=List.eq_nil_of_length_eq_zero h0
    refine (AnyG.slices_Sort_int_none L a c w).mono fun e' w' ⟨he,hw⟩=>⟨_,he,rfl,?_⟩
    subst hw
    have:sortI []=[]:=by simp [sortI]
    rw [this,set_sameI hp]
    exact H
  · obtain ⟨hl,⟨h,_⟩ | ⟨g',cap,cur,hv,_⟩⟩:=ho
    · simp only [Value.slice.injEq] at h
      exact absurd h.2.1 h0
    · simp only [Value.slice.injEq] at hv
      obtain ⟨rfl,_,_⟩:=hv
      exact sortRowS L H k hp hsz
end
end
section

theorem chain_end {s:qG} {n:Nat} {p:Int} (h:p < 0):chain s n p=[]:=by
  cases n with
  | zero=>rfl
  | succ n=>rw [chain,if_pos h]
theorem chain_go {s:qG} {n:Nat} {p:Int} (hn:0 < n) (h:¬ p < 0) (hm:jT s p):chain s n p=p :: chain s (n - 1) (s.qA[p.toNat]!):=by
  obtain ⟨m,rfl⟩:∃ m,n=m+1:=⟨n - 1,by omega⟩
  rw [chain,if_neg h,if_pos hm];rfl
theorem chain_stop {s:qG} {n:Nat} {p:Int} (hn:0 < n) (h:¬ p < 0) (hm:¬ jT s p):chain s n p=[p]:=by
  obtain ⟨m,rfl⟩:∃ m,n=m+1:=⟨n - 1,by omega⟩
  rw [chain,if_neg h,if_neg hm]
noncomputable def yK (s:qG) (c:Int):yLI:=sortI (chain s s.qA.length (s.qA[c.toNat]!))
theorem mem_poss {s:qG} {c x:Int}:x∈yK s c↔x∈chain s s.qA.length (s.qA[c.toNat]!):=(sortI_perm _).mem_iff
theorem jP {s:qG} {c:Int} {i:Nat} (h:∀ j,j < i→¬ ((s.qB[j]!).xR=true∧(s.qB[j]!).qF=c)) (h1:¬ ((s.qB[i]!).xR=true∧(s.qB[i]!).qF=c)):∀ j,j < i+1→¬ ((s.qB[j]!).xR=true∧(s.qB[j]!).qF=c):=fun j hj=>by
  by_cases e:j=i
  · rw [e];exact h1
  · exact h j qf
def FullOk (parts:yLL) (rest:yLI):Prop:=∀ i,i < parts.length→within (parts[i]!) rest=false
def FullTo (parts:yLL) (rest:yLI) (k:Nat):Prop:=∀ i,i < k→within (parts[i]!) rest=false
theorem FullTo.succ {parts:yLL} {rest:yLI} {k:Nat} (h:FullTo parts rest k) (h1:within (parts[k]!) rest=false):FullTo parts rest (k+1):=fun j hj=>by
  by_cases e:j=k
  · subst e;exact h1
  · exact h j qf
open Classical in
noncomputable def packs (parts:yLL):Nat→Nat→yLI→yLL
  | 0,_,rest=>if FullOk parts rest then [[]] else []
  | f+1,k,rest=>(List.range ((timesL (parts[k]!) rest).toNat+1)).flatMap fun (n:Nat)=>(packs parts f (k+1) (y9 rest (parts[k]!) (-(n:Int)))).map ((n:Int) :: ·)
open Classical in
noncomputable def allRes (b:yLI) (parts:yLL):yLL×Int:=
  if Xc b > 16 then ([],3) else if (packs parts parts.length 0 b).length > 2000 then ([],3) else (packs parts parts.length 0 b,0)
def ahead (a b:yLI):Prop:=∃ i,i < a.length∧(∀ j,j < i→a[j]! =b[j]!)∧a[i]! < b[i]!
def SameTo (a b:yLI) (k:Nat):Prop:=∀ j,j < k→a[j]! =b[j]!
theorem SameTo.succ {a b:yLI} {k:Nat} (h:SameTo a b k) (h1:a[k]! =b[k]!):SameTo a b (k+1):=fun j hj=>by
  by_cases e:j=k
  · subst e;exact h1
  · exact h j qf
theorem ahead_same {a b:yLI} (h:SameTo a b a.length):¬ ahead a b:=by
  rintro ⟨i,hi,_,hl⟩
  rw [h i hi] at hl;omega
theorem ahead_irr (a:yLI):¬ ahead a a:=ahead_same fun _ _=>rfl
theorem ahead_trans {a b c:yLI} (hab:a.length=b.length) (h1:ahead a b) (h2:ahead b c):ahead a c:=by
  obtain ⟨i,hi,hs,hl⟩:=h1
  obtain ⟨k,hk,ht,hm⟩:=h2
  rcases Nat.lt_or_ge i k with h | h
  · exact ⟨i,hi,fun j hj=>(hs j hj).trans (ht j qf),by rw [← ht i h];exact hl⟩
  · rcases Nat.lt_or_eq_of_le h with h' | h'
    · exact ⟨k,by omega,fun j hj=>(hs j qf).trans (ht j hj),by rw [hs k h'];exact hm⟩
    · subst h'
      exact ⟨k,hi,fun j hj=>(hs j hj).trans (ht j hj),by omega⟩
def swapAt (l:yLL) (k:Nat):yLL:=(l.set k (l[k - 1]!)).set (k - 1) (l[k]!)
theorem swap_get {l:yLL} {k p:Nat} (hk:0 < k) (hl:k < l.length):(swapAt l k)[p]! =if p=k - 1 then l[k]! else if p=k then l[k - 1]! else l[p]! :=by
  unfold swapAt
  rw [getset (by rw [List.length_set];omega),getset hl]
def InsTo (l:yLL) (i k:Nat):Prop:=∀ a b,a < b→b≤i→b≠k→¬ ahead (l[b]!) (l[a]!)
theorem InsTo.start {l:yLL} {i:Nat} (h:∀ a b,a < b→b < i→¬ ahead (l[b]!) (l[a]!)):InsTo l i i:=fun a b hab hb hne=>h a b hab qf
theorem InsTo.down {l:yLL} {i k n:Nat} (h:InsTo l i k) (hn:∀ j,j < l.length→(l[j]!).length=n) (hk:0 < k) (hki:k≤i) (hi:i < l.length) (h1:ahead (l[k]!) (l[k - 1]!)):InsTo (swapAt l k) i (k - 1):=by
  intro a b hab hb hne
  have hlk:=hn k qf
  have hlk1:=hn (k - 1) qf
  rw [swap_get hk qf,swap_get hk qf,if_neg hne]
  by_cases hbk:b=k
  · subst hbk
    rw [if_pos rfl]
    by_cases ha:a=b - 1
    · rw [if_pos ha]
      intro h2
      exact ahead_irr _ (ahead_trans qf h1 h2)
    · rw [if_neg ha,if_neg qf]
      exact h a (b - 1) qf qf qf
  · rw [if_neg hbk]
    by_cases ha:a=k - 1
    · rw [if_pos ha];exact h k b qf hb hbk
    · rw [if_neg ha]
      by_cases hak:a=k
      · rw [if_pos hak];exact h (k - 1) b qf hb hbk
      · rw [if_neg hak];exact h a b hab hb hbk
def PartsOk (K:Nat) (parts:yLL):Prop:=∀ i,i < parts.length→(parts[i]!).length=K∧(∀ q,q < K→0≤(parts[i]!)[q]! ∧(parts[i]!)[q]! ≤1000)∧∃ j,j < K∧0 < (parts[i]!)[j]!
def RestOk (K:Nat) (rest:yLI):Prop:=rest.length=K∧∀ q,q < K→0≤rest[q]! ∧rest[q]! ≤1000
def PackOk (parts:yLL) (rest:yLI):Prop:=∃ K,K≤8∧PartsOk K parts∧RestOk K rest∧parts.length≤8

theorem times_bd {K:Nat} {parts:yLL} {rest:yLI} (hP:PartsOk K parts) (hR:RestOk K rest) {k:Nat} (hk:k < parts.length):0≤timesL (parts[k]!) rest∧timesL (parts[k]!) rest≤1000:=
  timesTo_bd (fun q hq=>(hR.2 q (by have:=(hP k hk).1;omega)).1) _ (Nat.le_refl _)
theorem take_get {K:Nat} {parts:yLL} {rest:yLI} (hP:PartsOk K parts) (hR:RestOk K rest) {k:Nat} (hk:k < parts.length) {n:Int} (h0:0≤n) (h1:n≤timesL (parts[k]!) rest) {q:Nat} (hq:q < K):
    0≤rest[q]! + -n * (parts[k]!)[q]! ∧rest[q]! + -n * (parts[k]!)[q]! ≤rest[q]! :=by
  obtain ⟨hl,hb,_⟩:=hP k hk
  have a:=timesL_left (l:=parts[k]!) (m:=rest) (fun j hj=>(hb j qf).1) (fun j hj=>(hR.2 j qf).1) (k:=q) qf
  have b:=Int.mul_le_mul_of_nonneg_right h1 (hb q hq).1
  have c:=Int.mul_nonneg h0 (hb q hq).1
  have d: -n * (parts[k]!)[q]! = -(n * (parts[k]!)[q]!):=Int.neg_mul ..
  have e: -(timesL (parts[k]!) rest) * (parts[k]!)[q]! = -(timesL (parts[k]!) rest * (parts[k]!)[q]!):=Int.neg_mul ..
  omega
theorem RestOk.take {K:Nat} {parts:yLL} {rest:yLI} (hP:PartsOk K parts) (hR:RestOk K rest) {k:Nat} (hk:k < parts.length) {n:Int} (h0:0≤n) (h1:n≤timesL (parts[k]!) rest):RestOk K (y9 rest (parts[k]!) (-n)):=by
  refine ⟨by rw [jY];exact hR.1,fun q hq=>?_⟩
  rw [plus_get (by have:=hR.1;omega)]
  have:=take_get hP hR hk h0 h1 hq
  have:=hR.2 q hq
  omega
theorem PackOk.times {parts:yLL} {rest:yLI} (h:PackOk parts rest) {k:Nat} (hk:k < parts.length):
    (parts[k]!).length≤rest.length∧(∀ q,q < (parts[k]!).length→0≤rest[q]! ∧rest[q]! ≤1000)∧(∃ j,j < (parts[k]!).length∧0 < (parts[k]!)[j]!)∧rest.length≤8∧0≤timesL (parts[k]!) rest∧timesL (parts[k]!) rest≤1000:=by
  obtain ⟨K,hK,hP,hR,hn⟩:=h
  obtain ⟨hl,hb,hj⟩:=hP k hk
  have ht:=times_bd hP hR hk
  refine ⟨by have:=hR.1;omega,fun q hq=>hR.2 q qf,by rw [hl];exact hj,by have:=hR.1;omega,ht⟩
theorem PackOk.plus {parts:yLL} {rest:yLI} (h:PackOk parts rest) {k:Nat} (hk:k < parts.length) {n:Int} (h0:0≤n) (h1:n≤timesL (parts[k]!) rest):
    rest.length≤(parts[k]!).length∧Mid rest∧SmallT (parts[k]!) (-n)∧PackOk parts (y9 rest (parts[k]!) (-n)):=by
  obtain ⟨K,hK,hP,hR,hn⟩:=h
  obtain ⟨hl,hb,hj⟩:=hP k hk
  have ht:=times_bd hP hR hk
  refine ⟨by have:=hR.1;omega,⟨by have:=hR.1;omega,fun q hq=>by have:=hR.2 q (by have:=hR.1;omega);omega⟩,fun q hq=>?_,K,hK,hP,hR.take hP hk h0 h1,hn⟩
  have a:=hb q qf
  have b:=Int.mul_nonneg h0 a.1
  have c:=Int.mul_le_mul (show n≤1000 by omega) a.2 a.1 qf
  have d: -n * (parts[k]!)[q]! = -(n * (parts[k]!)[q]!):=Int.neg_mul ..
  omega
theorem PackOk.small {parts:yLL} {rest:yLI} (h:PackOk parts rest):rest.length≤8∧parts.length≤8:=by
  obtain ⟨K,hK,_,hR,hn⟩:=h
  exact ⟨by have:=hR.1;omega,hn⟩
def Few (K:Nat) (rest:yLI):Prop:=∀ q,q < K→rest[q]! ≤16
theorem Few.take {K:Nat} {parts:yLL} {rest:yLI} (hF:Few K rest) (hP:PartsOk K parts) (hR:RestOk K rest) {k:Nat} (hk:k < parts.length) {n:Int} (h0:0≤n) (h1:n≤timesL (parts[k]!) rest):Few K (y9 rest (parts[k]!) (-n)):=fun q hq=>by
  rw [plus_get (by have:=hR.1;omega)]
  have:=take_get hP hR hk h0 h1 hq
  have:=hF q hq
  omega
noncomputable def cellT (s:qG) (t:qR) (k c:Nat):yLI:=(applL s t k).filter fun x=>decide ((s.qB[x.toNat]!).qF=(c:Int))
def needsOf (s:qG) (l:yLI):yLL:=l.map fun x=>(s.qB[x.toNat]!).xu
noncomputable def cellR (s:qG) (t:qR) (c:Nat):yLI:=cellT s t s.qB.length c
noncomputable def cellP (s:qG) (t:qR) (c:Nat):yLL×Int:=allRes (t.qN[c]!) (needsOf s (cellR s t c))
def FewTo (s:qG) (t:qR) (k:Nat):Prop:=∀ c,c < k→(cellR s t c).length=0∨¬ Xc (t.qN[c]!) > 16
theorem FewTo.succ {s:qG} {t:qR} {k:Nat} (h:FewTo s t k) (h1:(cellR s t k).length=0∨¬ Xc (t.qN[k]!) > 16):FewTo s t (k+1):=fun j hj=>by
  by_cases e:j=k
  · subst e;exact h1
  · exact h j qf
def GoodP (s:qG) (t:qR) (k:Nat):Prop:=∀ c,c < k→(cellR s t c).length=0∨(cellP s t c).2=0
theorem GoodP.succ {s:qG} {t:qR} {k:Nat} (h:GoodP s t k) (h1:(cellR s t k).length=0∨(cellP s t k).2=0):GoodP s t (k+1):=fun j hj=>by
  by_cases e:j=k
  · subst e;exact h1
  · exact h j qf
def setTo (o r x:yLI):Nat→yLI
  | 0=>o
  | k+1=>(setTo o r x k).set (r[k]!).toNat (x[k]!)
def setAll (o r x:yLI):yLI:=setTo o r x r.length
where
  drop_cons' {l:yLL} {i:Nat} (h:i < l.length):l.drop i=l[i]! :: l.drop (i+1):=by
    rw [getElem!_pos l i h];exact (List.drop_eq_getElem_cons h)
def chgF (s:qG) (t:qR) (i p q:Nat):Int:=at' p (s.qB[i]!).qF.toNat (-(((s.qB[i]!).xu)[q]!))+putF s t (s.qB[i]!) 1 p q
def chgS (s:qG) (t:qR) (counts:yLI):Nat→Nat→Nat→Int
  | 0,_,_=>0
  | i+1,p,q=>chgS s t counts i p q+counts[i]! * chgF s t i p q
theorem at_lin (p c:Nat) (m x:Int):at' p c (m * x)=m * at' p c (1 * x):=by
  unfold at'
  split
  · rw [Int.one_mul]
  · rw [Int.mul_zero]
theorem into_lin (r:zK) (m:Int) (p q:Nat):∀ j,Xy r m j p q=m * Xy r 1 j p q
  | 0=>by simp [Xy]
  | j+1=>by rw [Xy,Xy,into_lin r m p q j,at_lin p _ m,Int.mul_add]
theorem putF_lin (s:qG) (t:qR) (r:zK) (m:Int) (p q:Nat):putF s t r m p q=m * putF s t r 1 p q:=by
  unfold putF
  rw [into_lin r m,at_lin p _ m (r.xF[q]!),at_lin p _ m (r.zI[q]!),Int.mul_add,Int.mul_add]
theorem all_chg (s:qG) (t:qR) (counts:yLI) (p q:Nat):∀ k,allS s t counts k p q=chgS s t counts k p q
  | 0=>rfl
  | k+1=>by
    rw [allS,chgS,all_chg s t counts p q k,putF_lin s t _ (counts[k]!)]
    unfold chgF needF
    have e:at' p (s.qB[k]!).qF.toNat (-(counts[k]!) * ((s.qB[k]!).xu)[q]!)=counts[k]! * at' p (s.qB[k]!).qF.toNat (-(((s.qB[k]!).xu)[q]!)):=by
      unfold at'
      split
      · rw [Int.neg_mul,Int.mul_neg]
      · rw [Int.mul_zero]
    rw [e,Int.mul_add]
    omega
theorem step_due (s:qG) (t:qR) (counts:yLI) (p q:Nat):stepF s t counts p q=base0 s t p q+chgS s t counts s.qB.length p q:=by
  rw [stepF,all_chg]
def jS (b v:yLI):Int:=jX (fun k=>b[k]! * v[k]!) b.length
theorem sumTo_tab (g:Nat→Int) (n:Nat):∀ k,k≤n→sumTo (tabTo g n) k=jX g k
  | 0,_=>rfl
  | k+1,h=>by
    have e:(tabTo g n)[k]! =g k:=by rw [getElem!_pos _ k (by rw [tabTo_len];omega)];simp [tabTo]
    simp only [sumTo,jX]
    rw [sumTo_tab g n k qf,e]
theorem dot_sum (b v:yLI):Xc (tabTo (fun k=>b[k]! * v[k]!) b.length)=jS b v:=by
  unfold Xc jS
  rw [tabTo_len,sumTo_tab _ _ _ (Nat.le_refl _)]
def yj (r:zK) (w:yLL) (j:Nat):Int:=jS r.xF (w[r.qF.toNat]!) - jS r.xu (w[r.qF.toNat]!)+jX (fun k=>jS (r.qL[k]!).jR (w[(r.qL[k]!).qF.toNat]!)) j
def gain (r:zK) (w:yLL) (p:Int):Int:=yj r w r.qL.length+jS r.zI (w[p.toNat]!)
def wtTo (t:qR) (w:yLL) (k:Nat):Int:=jS t.qM (w[t.qN.length]!)+jX (fun c=>jS (t.qN[c]!) (w[c]!)) k
def weight (t:qR) (w:yLL):Int:=wtTo t w t.qN.length
structure WtDr (kk:Int) (n:Nat) (w:yLL):Prop where
  len:w.length=n+1
  row:∀ c,c < w.length→(w[c]!).length=kk.toNat∧∀ k,k < (w[c]!).length→(0≤(w[c]!)[k]! ∧(w[c]!)[k]! ≤5)∧((w[c]!)[k]! =0→c=0∧k=0)
abbrev WtOk (s:qG) (w:yLL):Prop:=WtDr s.qQ s.qA.length w
noncomputable def places (s:qG) (c:Int):yLI:=if c=0 then [(s.qA.length:Int)] else chain s s.qA.length (s.qA[c.toNat]!)
def GainNeg (s:qG) (w:yLL) (i:Nat):Prop:=∀ p∈places s (s.qB[i]!).qF,gain (s.qB[i]!) w p < 0
def MeltGe (s:qG) (w:yLL) (c:Int):Prop:=jT s c→∀ p∈chain s s.qA.length (s.qA[c.toNat]!),Xm (w[p.toNat]!) (w[c.toNat]!) (w[p.toNat]!).length
def GainsTo (s:qG) (w:yLL) (k:Nat):Prop:=∀ i,i < k→GainNeg s w i
def MeltsGe (s:qG) (w:yLL) (k:Nat):Prop:=∀ c:Nat,c < k→MeltGe s w (c:Int)
def Falls (s:qG) (w:yLL):Prop:=GainsTo s w s.qB.length∧MeltsGe s w s.qA.length
theorem GainsTo.zero (s:qG) (w:yLL):GainsTo s w 0:=fun i hi=>by omega
theorem GainsTo.succ {s:qG} {w:yLL} {k:Nat} (h:GainsTo s w k) (h1:GainNeg s w k):GainsTo s w (k+1):=fun i hi=>by
  by_cases e:i=k
  · subst e;exact h1
  · exact h i qf
theorem MeltsGe.succ {s:qG} {w:yLL} {k:Nat} (h:MeltsGe s w k) (h1:MeltGe s w (k:Int)):MeltsGe s w (k+1):=fun c hc=>by
  by_cases e:c=k
  · subst e;exact h1
  · exact h c qf
open Classical in
noncomputable def bndV (s:qG) (t:qR) (w:yLL):Int:=if Falls s w then weight t w else 0
open Classical in
noncomputable def bndC (s:qG) (w:yLL):Int:=if Falls s w then 0 else 8

def putL (n:Int):yLI→yLI
  | []=>[n]
  | x :: l=>if x < n then x :: putL n l else if x=n then x :: l else n :: x :: l
theorem mem_putL {n x:Int}:∀ {l:yLI},x∈putL n l↔x=n∨x∈l
  | []=>by simp [putL]
  | y :: l=>by
    rw [putL]
    split
    · rw [List.mem_cons,mem_putL,List.mem_cons]
      constructor
      · rintro (h | h | h)
        · exact .inr (.inl h)
        · exact .inl h
        · exact .inr (.inr h)
      · rintro (h | h | h)
        · exact .inr (.inl h)
        · exact .inl h
        · exact .inr (.inr h)
    · split
      · rename_i e
        subst e
        rw [List.mem_cons]
        constructor
        · exact .inr
        · rintro (h | h)
          · exact .inl h
          · exact h
      · rw [List.mem_cons]
theorem putL_len (n:Int):∀ l:yLI,(putL n l).length≤l.length+1
  | []=>by simp [putL]
  | x :: l=>by
    rw [putL]
    have:=putL_len n l
    split
    · simp only [List.length_cons];omega
    · split <;> simp
def PutTo (n:Int) (l out:yLI) (done:Bool) (i:Nat):Prop:=out.length≤i+(if done=true then 1 else 0)∧(if done=true then out++l.drop i else out++putL n (l.drop i))=putL n l
theorem drop_at {l:yLI} {i:Nat} (h:i < l.length):l.drop i=l[i]! :: l.drop (i+1):=by
  rw [getElem!_pos l i h];exact List.drop_eq_getElem_cons h
theorem PutTo.zero (n:Int) (l:yLI):PutTo n l [] false 0:=⟨by simp,by simp⟩
theorem PutTo.on {n:Int} {l out:yLI} {done:Bool} {i:Nat} (h:PutTo n l out done i) (hd:done=true) (hi:i < l.length):PutTo n l (out++[l[i]!]) done (i+1):=by
  subst hd
  have h1:=h.1
  have h2:=h.2
  rw [if_pos rfl] at h1 h2
  refine ⟨by rw [if_pos rfl];simp;omega,?_⟩
  rw [if_pos rfl,← h2,drop_at hi,List.append_assoc];rfl
theorem PutTo.less {n:Int} {l out:yLI} {done:Bool} {i:Nat} (h:PutTo n l out done i) (hd:done=false) (hi:i < l.length) (h3:¬ l[i]! ≥n):PutTo n l (out++[l[i]!]) done (i+1):=by
  subst hd
  have h1:=h.1
  have h2:=h.2
  rw [if_neg qj] at h1 h2
  refine ⟨by rw [if_neg qj];simp;omega,?_⟩
  rw [if_neg qj,← h2,drop_at hi,putL,if_pos qf,List.append_assoc];rfl
theorem PutTo.same {n:Int} {l out:yLI} {done:Bool} {i:Nat} (h:PutTo n l out done i) (hd:done=false) (hi:i < l.length) (h3:l[i]! ≥n) (h4:¬ l[i]! > n):PutTo n l (out++[l[i]!]) true (i+1):=by
  subst hd
  have h1:=h.1
  have h2:=h.2
  rw [if_neg qj] at h1 h2
  refine ⟨by rw [if_pos rfl];simp;omega,?_⟩
  rw [if_pos rfl,← h2,drop_at hi,putL,if_neg qf,if_pos qf,List.append_assoc];rfl
theorem PutTo.more {n:Int} {l out:yLI} {done:Bool} {i:Nat} (h:PutTo n l out done i) (hd:done=false) (hi:i < l.length) (h4:l[i]! > n):PutTo n l (out++[n]++[l[i]!]) true (i+1):=by
  subst hd
  have h1:=h.1
  have h2:=h.2
  rw [if_neg qj] at h1 h2
  refine ⟨by rw [if_pos rfl];simp;omega,?_⟩
  rw [if_pos rfl,← h2,drop_at hi,putL,if_neg qf,if_neg qf,List.append_assoc,List.append_assoc];rfl
theorem PutTo.bd {n:Int} {l out:yLI} {done:Bool} {i:Nat} (h:PutTo n l out done i):out.length≤i+1:=by
  have:=h.1
  split at this <;> omega
theorem PutTo.yes {n:Int} {l out:yLI} {done:Bool} {i:Nat} (h:PutTo n l out done i) (hd:done=true) (hi:i=l.length):out=putL n l:=by
  subst hd
  have h2:=h.2
  rw [if_pos rfl,hi,List.drop_length,List.append_nil] at h2
  exact h2
theorem PutTo.no {n:Int} {l out:yLI} {done:Bool} {i:Nat} (h:PutTo n l out done i) (hd:done=false) (hi:i=l.length):out++[n]=putL n l:=by
  subst hd
  have h2:=h.2
  rw [if_neg qj,hi,List.drop_length,putL] at h2
  exact h2

open Classical in
noncomputable def parGo (s:qG):Nat→Int→yLI→yLI
  | 0,_,out=>out
  | n+1,p,out=>if 0 < p∧jT s p then parGo s n (s.qA[p.toNat]!) (putL (s.qA[p.toNat]!) out) else out
theorem parGo_go {s:qG} {n:Nat} {p:Int} {out:yLI} (hn:0 < n) (h:0 < p) (hm:jT s p):parGo s n p out=parGo s (n - 1) (s.qA[p.toNat]!) (putL (s.qA[p.toNat]!) out):=by
  obtain ⟨m,rfl⟩:∃ m,n=m+1:=⟨n - 1,by omega⟩
  rw [parGo,if_pos ⟨h,hm⟩];rfl
theorem parGo_end {s:qG} {n:Nat} {p:Int} {out:yLI} (h:¬ (0 < p∧jT s p)):parGo s n p out=out:=by
  cases n with
  | zero=>rfl
  | succ n=>rw [parGo,if_neg h]
noncomputable def parS (s:qG) (c:Int):yLI:=if c=0 then [] else parGo s s.qA.length (s.qA[c.toNat]!) (putL (s.qA[c.toNat]!) [])
open Classical in
theorem mem_parGo {s:qG} (hs:zN s) {x:Int}:∀ (n:Nat) (p:Int) (out:yLI),0≤p→p < n→p≤(s.qA.length:Int) - 1→p∈out→(x∈parGo s n p out↔x∈out∨x∈chain s n p)
  | 0,p,out,h1,h2,h3,h4=>by omega
  | n+1,p,out,h1,h2,h3,h4=>by
    rw [chain,if_neg (show ¬ p < 0 by omega),parGo]
    by_cases hc:0 < p∧jT s p
    · have hu:=hs.up hc.1 h3
      rw [if_pos hc,if_pos hc.2,mem_parGo hs n _ _ hu.1 qf qf (mem_putL.2 (.inl rfl)),mem_putL,List.mem_cons]
      have hin:s.qA[p.toNat]! ∈chain s n (s.qA[p.toNat]!):=by
        obtain ⟨m,rfl⟩:∃ m,n=m+1:=⟨n - 1,by omega⟩
        rw [chain,if_neg qf]
        exact List.mem_cons_self ..
      constructor
      · rintro ((h | h) | h)
        · exact .inr (.inr (by rw [h];exact hin))
        · exact .inl h
        · exact .inr (.inr h)
      · rintro (h | h | h)
        · exact .inl (.inr h)
        · exact .inl (.inr (by rw [h];exact h4))
        · exact .inr h
    · rw [if_neg hc]
      have e:(if jT s p then chain s n (s.qA[p.toNat]!) else [])=[]:=by
        by_cases hm:jT s p
        · have hp:p=0:=by
            rcases Int.lt_or_eq_of_le h1 with h | h
            · exact absurd ⟨h,hm⟩ hc
            · exact h.symm
          subst hp
          rw [if_pos hm,show s.qA[(0:Int).toNat]! = -1 from hs.2.2.1]
          exact chain_end qf
        · rw [if_neg hm]
      rw [e,List.mem_singleton]
      constructor
      · exact .inl
      · rintro (h | h)
        · exact h
        · rw [h];exact h4
theorem mem_parS {s:qG} (hs:zN s) {c x:Int} (hc:y8 s c):x∈parS s c↔x∈chain s s.qA.length (s.qA[c.toNat]!):=by
  unfold parS
  by_cases h:c=0
  · subst h
    rw [if_pos rfl,show s.qA[(0:Int).toNat]! = -1 from hs.2.2.1,chain_end qf]
  · have hu:=hs.up (show 0 < c by have:=hc.1;omega) hc.2
    rw [if_neg h,mem_parGo hs _ _ _ hu.1 (by have:=hc.2;omega) (by have:=hc.2;omega) (mem_putL.2 (.inl rfl)),mem_putL]
    constructor
    · rintro ((h | h) | h)
      · rw [h]
        obtain ⟨m,e⟩:∃ m,s.qA.length=m+1:=⟨s.qA.length - 1,by have:=hs.2.1;omega⟩
        rw [e,chain,if_neg qf]
        exact List.mem_cons_self ..
      · simp at h
      · exact h
    · exact .inr

noncomputable def zS (s:qG) (c:Int):yLI:=if c=0 then [(s.qA.length:Int)] else parS s c
noncomputable def zJ (s:qG) (c:Int):yLI:=if c=0 then [(s.qA.length:Int)] else yK s c
theorem mem_placeS {s:qG} (hs:zN s) {c x:Int} (hc:y8 s c):x∈zS s c↔x∈places s c:=by
  unfold zS places
  split
  · exact Iff.rfl
  · exact mem_parS hs hc
theorem mem_placeI {s:qG} {c x:Int}:x∈zJ s c↔x∈places s c:=by
  unfold zJ places
  split
  · exact Iff.rfl
  · exact mem_poss
def vU (r:zK) (w:yLL) (l:yLI):yLI:=l.map (gain r w)
def NegTo (l:yLI) (k:Nat):Prop:=∀ j,j < k→l[j]! < 0
theorem NegTo.succ {l:yLI} {k:Nat} (h:NegTo l k) (h1:l[k]! < 0):NegTo l (k+1):=fun j hj=>by
  by_cases e:j=k
  · subst e;exact h1
  · exact h j qf
theorem neg_iff {r:zK} {w:yLL} {l m:yLI} (hm:∀ x,x∈l↔x∈m):NegTo (vU r w l) (vU r w l).length↔∀ p∈m,gain r w p < 0:=by
  constructor
  · intro h p hp
    obtain ⟨k,hk,e⟩:=List.mem_iff_getElem.1 ((hm p).2 hp)
    have:=h k (by simpa [vU] using hk)
    rw [getElem!_pos _ k (by simpa [vU] using hk)] at this
    simpa [vU,e] using this
  · intro h j hj
    have hj' :j < l.length:=by simpa [vU] using hj
    rw [getElem!_pos _ j hj]
    simp only [vU,List.getElem_map]
    exact h _ ((hm _).1 (List.getElem_mem hj'))

structure WtTo (kk:Int) (n:Nat) (w:yLL):Prop where
  len:w.length=n
  row:∀ c,c < w.length→(w[c]!).length=kk.toNat∧∀ k,k < (w[c]!).length→(0≤(w[c]!)[k]! ∧(w[c]!)[k]! ≤5)∧((w[c]!)[k]! =0→c=0∧k=0)
theorem WtTo.dr {kk:Int} {n m:Nat} {w:yLL} (h:WtTo kk m w) (e:m=n+1):WtDr kk n w:=⟨h.len.trans e,h.row⟩
theorem WtTo.nil (kk:Int):WtTo kk 0 []:=⟨rfl,fun c hc=>by simp at hc⟩
def RowTo (l:yLI):Prop:=∀ j,j < l.length→1≤l[j]! ∧l[j]! ≤5
theorem RowTo.nil:RowTo []:=fun j hj=>by simp at hj
theorem RowTo.snoc {l:yLI} {v:Int} (h:RowTo l) (hv:1≤v∧v≤5):RowTo (l++[v]):=fun j hj=>by
  rw [Xn]
  by_cases e:j < l.length
  · rw [if_pos e];exact h j e
  · rw [if_neg e,if_pos (by simp at hj;omega)];exact hv
theorem WtTo.snoc {kk:Int} {n:Nat} {w:yLL} {z:yLI} (h:WtTo kk n w) (hl:z.length=kk.toNat) (hz:RowTo z):WtTo kk (n+1) (w++[z]):=by
  refine ⟨by simp [h.len],fun c hc=>?_⟩
  rw [Xn]
  by_cases e:c < w.length
  · rw [if_pos e];exact h.row c e
  · rw [if_neg e,if_pos (by simp at hc;omega)]
    exact ⟨hl,fun k hk=>by have:=hz k hk;omega⟩
theorem WtTo.put {kk:Int} {n:Nat} {w:yLL} {v:Int} (h:WtTo kk n w) (hn:0 < w.length) (hk:0 < (w[0]!).length) (hv:0≤v∧v≤5):WtTo kk n (w.set 0 ((w[0]!).set 0 v)):=by
  refine ⟨by rw [List.length_set];exact h.len,fun c hc=>?_⟩
  rw [List.length_set] at hc
  rw [getset hn]
  by_cases e:c=0
  · subst e
    rw [if_pos rfl,List.length_set]
    refine ⟨(h.row 0 hn).1,fun k hk' =>?_⟩
    rw [getset hk]
    by_cases e:k=0
    · subst e;rw [if_pos rfl];exact ⟨by omega,fun _=>⟨rfl,rfl⟩⟩
    · rw [if_neg e];exact (h.row 0 hn).2 k hk'
  · rw [if_neg e];exact h.row c hc

def SmallD (b v:yLI):Prop:=(b.length≤v.length∧b.length≤8)∧∀ k,k < b.length→0≤b[k]! * v[k]! ∧b[k]! * v[k]! ≤5000
theorem dotTo_bd {b v:yLI} (h:SmallD b v):∀ k,k≤b.length→0≤jX (fun k=>b[k]! * v[k]!) k∧jX (fun k=>b[k]! * v[k]!) k≤5000 * k
  | 0,_=>by simp [jX]
  | k+1,hk=>by
    have:=dotTo_bd h k qf
    have:=h.2 k qf
    rw [jX]
    omega
theorem vT {b v:yLI} (h:SmallD b v):0≤jS b v∧jS b v≤40000:=by
  have:=dotTo_bd h b.length (Nat.le_refl _)
  have:=h.1.2
  unfold jS
  omega
theorem SmallD.small {b v:yLI} (h:SmallD b v):Small (tabTo (fun k=>b[k]! * v[k]!) b.length):=by
  refine ⟨by rw [tabTo_len];have:=h.1.2;omega,fun k hk=>?_⟩
  rw [tabTo_len] at hk
  have e:(tabTo (fun k=>b[k]! * v[k]!) b.length)[k]! =b[k]! * v[k]! :=by rw [getElem!_pos _ k (by rw [tabTo_len];exact hk)];simp [tabTo]
  rw [e]
  have:=h.2 k hk
  omega
theorem smallD {s:qG} {w:yLL} {b:yLI} {c:Nat} (hs:zX s) (hw:WtOk s w) (hb:zy s.qQ b) (hc:c < w.length):SmallD b (w[c]!):=by
  have hK:=hs.1.1
  obtain ⟨h1,h2⟩:=hw.row c hc
  have hl:=hb.2
  refine ⟨⟨by omega,by omega⟩,fun k hk=>?_⟩
  have a:=hb.get hk
  have v:=(h2 k qf).1
  refine ⟨Int.mul_nonneg a.1 v.1,?_⟩
  have m1:=Int.mul_le_mul_of_nonneg_left v.2 a.1
  omega
theorem ownTo_0 (r:zK) (w:yLL):jS r.xF (w[r.qF.toNat]!) - jS r.xu (w[r.qF.toNat]!)=yj r w 0:=by unfold yj;rw [jX];omega
theorem ownTo_succ (r:zK) (w:yLL) (j:Nat):yj r w j+jS (r.qL[j]!).jR (w[(r.qL[j]!).qF.toNat]!)=yj r w (j+1):=by unfold yj;rw [jX];omega
structure GainAt (s:qG) (r:zK) (w:yLL):Prop where
  cell:0≤r.qF∧r.qF.toNat < w.length∧r.qF≤(s.qA.length:Int) - 1
  few:r.qL.length≤3
  here:SmallD r.xF (w[r.qF.toNat]!)
  need:SmallD r.xu (w[r.qF.toNat]!)
  out:∀ p,p < w.length→SmallD r.zI (w[p]!)
  into:∀ j,j < r.qL.length→(0≤(r.qL[j]!).qF∧(r.qL[j]!).qF.toNat < w.length)∧SmallD (r.qL[j]!).jR (w[(r.qL[j]!).qF.toNat]!)
theorem gainAt {s:qG} {r:zK} {w:yLL} (hs:zX s) (hw:WtOk s w) (h:RuleOk s r):GainAt s r w:=by
  have hl:=hw.len
  have hc:=h.1
  refine ⟨⟨hc.1,by have:=hc.2;omega,hc.2⟩,h.2.2.2.1,smallD hs hw h.2.2.2.2.2.2.2.1 (by have:=hc.2;omega),smallD hs hw h.2.2.2.2.1 (by have:=hc.2;omega),fun p hp=>smallD hs hw h.2.2.2.2.2.2.2.2.1 hp,fun j hj=>?_⟩
  have hi:=h.2.2.2.2.2.2.2.2.2.2 j hj
  have h1:=hi.1
  exact ⟨⟨h1.1,by have:=h1.2;omega⟩,smallD hs hw hi.2.2.1 (by have:=h1.2;omega)⟩
theorem GainAt.bd {s:qG} {r:zK} {w:yLL} (h:GainAt s r w):∀ j,j≤r.qL.length→ -40000≤yj r w j∧yj r w j≤40000+40000 * j
  | 0,_=>by
    have:=vT h.here
    have:=vT h.need
    rw [← ownTo_0];omega
  | j+1,hj=>by
    have:=GainAt.bd h j qf
    have:=vT (h.into j qf).2
    rw [← ownTo_succ];omega
theorem gains_snoc {r:zK} {w:yLL} {l:yLI} {k:Nat} {x:Int} (hk:k < l.length) (hx:x=yj r w r.qL.length+jS r.zI (w[(l[k]!).toNat]!)):vU r w (l.take k)++[x]=vU r w (l.take (k+1)):=by
  rw [← take_snoc hk]
  simp [vU,gain,hx]
theorem gains_len (r:zK) (w:yLL) (l:yLI):(vU r w l).length=l.length:=by simp [vU]
theorem wt_0 (t:qR) (w:yLL):jS t.qM (w[t.qN.length]!)=wtTo t w 0:=by unfold wtTo;rw [jX];omega
theorem wt_succ (t:qR) (w:yLL) (k:Nat):wtTo t w k+jS (t.qN[k]!) (w[k]!)=wtTo t w (k+1):=by unfold wtTo;rw [jX];omega
theorem wt_small {s:qG} {t:qR} {w:yLL} (hs:zX s) (hw:WtOk s w) (ht:xQ s t):SmallD t.qM (w[t.qN.length]!)∧∀ k,k < t.qN.length→SmallD (t.qN[k]!) (w[k]!):=by
  have hl:=hw.len
  have hb:=ht.2.1
  exact ⟨smallD hs hw ht.2.2.2.1 qf,fun k hk=>smallD hs hw (ht.2.2.2.2 k hk).1 qf⟩
theorem chain_in {s:qG} (hs:zN s):∀ (n:Nat) (p x:Int),-1≤p→p≤(s.qA.length:Int) - 1→x∈chain s n p→y8 s x
  | 0,p,x,_,_,h=>by simp [chain] at h
  | n+1,p,x,h1,h2,h=>by
    rw [chain] at h
    split at h
    · simp at h
    · rename_i hp
      rcases List.mem_cons.1 h with e | h
      · rw [e];exact ⟨by omega,h2⟩
      · split at h
        · have hu:=hs.step (c:=p) qf h2
          exact chain_in hs n _ x qf qf h
        · simp at h
theorem places_in {s:qG} (hs:zN s) {c x:Int} (hc:y8 s c) (h:x∈places s c):0≤x∧x≤(s.qA.length:Int):=by
  unfold places at h
  split at h
  · rw [List.mem_singleton.1 h];omega
  · have hu:=hs.step hc.1 hc.2
    have:=chain_in hs _ _ x qf qf h
    have h1:=this.1
    have h2:=this.2
    omega
theorem placeS_at {s:qG} (hs:zN s) {c:Int} (hc:y8 s c) {k:Nat} (hk:k < (zS s c).length):0≤(zS s c)[k]! ∧(zS s c)[k]! ≤(s.qA.length:Int):=by
  refine places_in hs hc ((mem_placeS hs hc).1 ?_)
  rw [getElem!_pos _ k hk];exact List.getElem_mem hk
theorem placeI_at {s:qG} (hs:zN s) {c:Int} (hc:y8 s c) {k:Nat} (hk:k < (zJ s c).length):0≤(zJ s c)[k]! ∧(zJ s c)[k]! ≤(s.qA.length:Int):=by
  refine places_in hs hc (mem_placeI.1 ?_)
  rw [getElem!_pos _ k hk];exact List.getElem_mem hk

structure WtSt (t:qR) (w:yLL):Prop where
  len:t.qN.length < w.length
  few:t.qN.length≤6
  around:SmallD t.qM (w[t.qN.length]!)
  bags:∀ k,k < t.qN.length→SmallD (t.qN[k]!) (w[k]!)
theorem wtSt {s:qG} {t:qR} {w:yLL} (hs:zX s) (hw:WtOk s w) (ht:xQ s t):WtSt t w:=by
  have h1:=wt_small hs hw ht
  have h2:=hs.1.2.1
  have h3:=ht.2.1
  have h4:=hw.len
  exact ⟨by omega,by omega,h1.1,h1.2⟩
theorem WtSt.bd {t:qR} {w:yLL} (h:WtSt t w):∀ k,k≤t.qN.length→0≤wtTo t w k∧wtTo t w k≤40000+40000 * k
  | 0,_=>by
    have:=vT h.around
    rw [← wt_0];omega
  | k+1,hk=>by
    have:=WtSt.bd h k qf
    have:=vT (h.bags k qf)
    rw [← wt_succ];omega
theorem wt_in {s:qG} {w:yLL} (hw:WtOk s w) {c:Nat} (hc:c < w.length):(w[c]!).length=s.qQ.toNat∧∀ k,k < (w[c]!).length→0≤(w[c]!)[k]! ∧(w[c]!)[k]! ≤5:=⟨(hw.row c hc).1,fun k hk=>((hw.row c hc).2 k hk).1⟩
theorem any_wt {l:yLI} (h:∀ k,k < l.length→0≤l[k]! ∧l[k]! ≤5):¬ anyTo (fun k=> !inR (l[k]!) (-1000) 1000) l.length=true:=fun h1=>by
  obtain ⟨k,hk,e⟩:=anyTo_iff.1 h1
  have:=h k hk
  rw [yQ.2 ⟨by omega,by omega⟩] at e
  cases e
theorem parS_z {s:qG} {c:Int} (h:c=0):parS s c=[]:=if_pos h
theorem parS_1 {s:qG} {c:Int} (h:c≠0):parS s c=parGo s s.qA.length (s.qA[c.toNat]!) (putL (s.qA[c.toNat]!) []):=if_neg h
theorem placeS_0 {s:qG} {c:Int} (h:c=0):zS s c=[(s.qA.length:Int)]:=if_pos h
theorem placeS_1 {s:qG} {c:Int} (h:c≠0):zS s c=parS s c:=if_neg h
theorem placeI_0 {s:qG} {c:Int} (h:c=0):zJ s c=[(s.qA.length:Int)]:=if_pos h
theorem placeI_1 {s:qG} {c:Int} (h:c≠0):zJ s c=yK s c:=if_neg h
theorem take_all {α:Type} {l:List α} {k:Nat} (h:l.length≤k):l.take k=l:=List.take_of_length_le h
theorem mayMelt_skin {s:qG} (hs:zX s):¬ jT s 0:=fun ⟨i,hi,h1,h2⟩=>(hs.rule hi).2.2.1 ⟨h1,h2⟩
theorem meltsGe_1 {s:qG} (hs:zX s) (w:yLL):MeltsGe s w 1:=fun c hc h=>by
  obtain rfl:c=0:=by omega
  exact absurd h (mayMelt_skin hs)
def GeTo (w:yLL) (l:yLI) (c:Int) (k:Nat):Prop:=∀ j,j < k→Xm (w[(l[j]!).toNat]!) (w[c.toNat]!) (w[(l[j]!).toNat]!).length
theorem GeTo.succ {w:yLL} {l:yLI} {c:Int} {k:Nat} (h:GeTo w l c k) (h1:within (w[(l[k]!).toNat]!) (w[c.toNat]!)=true):GeTo w l c (k+1):=fun j hj=>by
  by_cases e:j=k
  · subst e;exact within_iff.1 h1
  · exact h j qf
theorem ge_iff {s:qG} {w:yLL} {l:yLI} {c:Int} (hl:∀ x,x∈l↔x∈chain s s.qA.length (s.qA[c.toNat]!)):(jT s c→GeTo w l c l.length)↔MeltGe s w c:=by
  constructor
  · intro h hm p hp
    obtain ⟨k,hk,e⟩:=List.mem_iff_getElem.1 ((hl p).2 hp)
    have:=h hm k hk
    rw [getElem!_pos l k hk,e] at this
    exact this
  · intro h hm j hj
    refine h hm _ ((hl _).1 ?_)
    rw [getElem!_pos l j hj];exact List.getElem_mem hj
theorem ge_no {s:qG} {w:yLL} {l:yLI} {c:Nat} {k:Nat} (hc:c < s.qA.length) (hl:∀ x,x∈l↔x∈chain s s.qA.length (s.qA[c]!)) (hk:k < l.length) (hm:jT s (c:Int)) (h1:within (w[(l[k]!).toNat]!) (w[c]!)=false):¬ Falls s w:=fun h=>by
  have:=h.2 c hc hm (l[k]!) ((hl _).1 (by rw [getElem!_pos l k hk];exact List.getElem_mem hk))
  have h2:=within_iff.2 this
  rw [Int.toNat_natCast,h1] at h2
  cases h2
theorem neg_no {s:qG} {w:yLL} {l:yLI} {i k:Nat} (hi:i < s.qB.length) (hl:∀ x,x∈l↔x∈places s (s.qB[i]!).qF) (hk:k < (vU (s.qB[i]!) w l).length) (h1:¬ (vU (s.qB[i]!) w l)[k]! < 0):¬ Falls s w:=fun h=>h1 ((neg_iff hl).2 (h.1 i hi) k hk)
theorem parS_in {s:qG} (hs:zN s) {c:Int} (hc:y8 s c) {k:Nat} (hk:k < (parS s c).length):y8 s ((parS s c)[k]!):=by
  have h2:=hc.2
  have hu:=hs.step hc.1 hc.2
  refine chain_in hs s.qA.length (s.qA[c.toNat]!) _ hu.1 qf ((mem_parS hs hc).1 ?_)
  rw [getElem!_pos _ k hk];exact List.getElem_mem hk
theorem poss_in {s:qG} (hs:zN s) {c:Int} (hc:y8 s c) {k:Nat} (hk:k < (yK s c).length):y8 s ((yK s c)[k]!):=by
  have h2:=hc.2
  have hu:=hs.step hc.1 hc.2
  refine chain_in hs s.qA.length (s.qA[c.toNat]!) _ hu.1 qf (mem_poss.1 ?_)
  rw [getElem!_pos _ k hk];exact List.getElem_mem hk
theorem bnd_yes {s:qG} {t:qR} {w:yLL} (h:Falls s w):bndV s t w=weight t w∧bndC s w=0:=⟨if_pos h,if_pos h⟩
theorem bnd_no {s:qG} {t:qR} {w:yLL} (h:¬ Falls s w):bndV s t w=0∧bndC s w=8:=⟨if_neg h,if_neg h⟩
theorem bnd_iff {s:qG} {w:yLL} (h:bndC s w=0):Falls s w:=Classical.byContradiction fun hn=>by
  rw [bndC,if_neg hn] at h;cases h
theorem parGo_len {s:qG}:∀ (n:Nat) (p:Int) (out:yLI),(parGo s n p out).length≤out.length+n
  | 0,p,out=>Nat.le_refl _
  | n+1,p,out=>by
    rw [parGo]
    split
    · have:=parGo_len (s:=s) n (s.qA[p.toNat]!) (putL (s.qA[p.toNat]!) out)
      have:=putL_len (s.qA[p.toNat]!) out
      omega
    · omega
theorem chain_len {s:qG}:∀ (n:Nat) (p:Int),(chain s n p).length≤n
  | 0,p=>Nat.le_refl _
  | n+1,p=>by
    rw [chain]
    split
    · exact Nat.zero_le _
    · split
      · have:=chain_len (s:=s) n (s.qA[p.toNat]!)
        simp only [List.length_cons];omega
      · simp
theorem parS_len {s:qG} (hs:zN s) (c:Int):(parS s c).length≤7:=by
  have:=hs.2.1
  unfold parS
  split
  · simp
  · have:=parGo_len (s:=s) s.qA.length (s.qA[c.toNat]!) (putL (s.qA[c.toNat]!) [])
    have h2:=putL_len (s.qA[c.toNat]!) []
    rw [List.length_nil] at h2
    omega
theorem possL_len {s:qG} (hs:zN s) (c:Int):(yK s c).length≤7:=by
  have:=hs.2.1
  have h1:=chain_len (s:=s) s.qA.length (s.qA[c.toNat]!)
  have h2:=(sortI_perm (chain s s.qA.length (s.qA[c.toNat]!))).length_eq
  unfold yK
  omega
theorem placeS_len {s:qG} (hs:zN s) (c:Int):(zS s c).length≤7:=by
  unfold zS
  split
  · simp
  · exact parS_len hs c
theorem placeI_len {s:qG} (hs:zN s) (c:Int):(zJ s c).length≤7:=by
  unfold zJ
  split
  · simp
  · exact possL_len hs c
theorem GeTo.go {w:yLL} {l:yLI} {c:Int} {k:Nat} (h:GeTo w l c k) {n:Nat} (hn:(w[(l[k]!).toNat]!).length=n) (h1:Xm (w[(l[k]!).toNat]!) (w[c.toNat]!) n):GeTo w l c (k+1):=fun j hj=>by
  by_cases e:j=k
  · subst e;rw [hn];exact h1
  · exact h j qf
theorem ge_no2 {s:qG} {w:yLL} {l:yLI} {c k j:Nat} (hc:c < s.qA.length) (hl:∀ x,x∈l↔x∈chain s s.qA.length (s.qA[c]!)) (hk:k < l.length) (hm:jT s (c:Int)) (hj:j < (w[(l[k]!).toNat]!).length) (h1:¬ (w[c]!)[j]! ≥(w[(l[k]!).toNat]!)[j]!):¬ Falls s w:=fun h=>by
  have:=h.2 c hc hm (l[k]!) ((hl _).1 (by rw [getElem!_pos l k hk];exact List.getElem_mem hk)) j hj
  rw [Int.toNat_natCast] at this
  exact h1 this
end
section
open Go.RowKit
set_option linter.unusedVariables false
set_option linter.unusedSimpArgs false
section
variable {P : Program} {ops : Array Oper} {Q : Exit → Act → World → Prop} {n : Nat} {ρ : Env} {W0 w : World} {rest : List Oper} {ps : List Prv} {Γ : List Fact}
variable {P : Program} {n : Nat} {ρ : Env} {W0 w : World} {ps : List Prv} {Γ : List Fact}
theorem retCCT {fn:Func} {R:Ending→World→Prop} {t u z T U b c:Nat} {cs ds:List Value} {tb tc:TypeId} (H:St W0 w ps Γ) (i:Nat) (hp:ps[i]? =some (.box b cs tb)) (j:Nat) (hq:ps[j]? =some (.box c ds tc)) (x:Value) (hr:fn.results=#[.cell t T,.cell u U,.tmp z])
    (ha:∀ w,(isAgg T).run P w=.ok true w) (hs:∀ w,(Go.sizeOf T).run P w=.ok cs.length w) (ha' :∀ w,(isAgg U).run P w=.ok true w) (hs' :∀ w,(Go.sizeOf U).run P w=.ok ds.length w)
    (hv:ev n ρ (.tmp t)=.pointer (some ⟨b,0,none⟩)) (hx:ev n ρ (.tmp u)=.pointer (some ⟨c,0,none⟩)) (hz:ev n ρ (.tmp z)=x) (h:R (.returned (.tuple #[.agg cs.toArray,.agg ds.toArray,x])) w):bodyPost P fn R .ret (mk n ρ) w:=by
  have hl:=run_loadCells_list (P:=P) w ⟨b,0,none⟩ cs (fun j v hv=>by rw [Addr.add_mid];exact H.cells i hp j v hv)
  have hl' :=run_loadCells_list (P:=P) w ⟨c,0,none⟩ ds (fun k v hv=>by rw [Addr.add_mid];exact H.cells j hq k v hv)
  have e:=congrFun (Qx n ρ) (.tmp t)
  have e' :=congrFun (Qx n ρ) (.tmp u)
  have e'' :=congrFun (Qx n ρ) (.tmp z)
  simp only [Act.eval,Array.getD_eq_getD_getElem?] at e e' e''
  rw [hv] at e
  rw [hx] at e'
  rw [hz] at e''
  exact bodyPost_ret (v:=.tuple #[.agg cs.toArray,.agg ds.toArray,x]) (by simp [results,hr,e,e',e'',asAddr,loadVar,ha,hs,hl,ha',hs',hl']) rfl h
end
section
variable {W0 w : World} {ps : List Prv} {Γ : List Fact}
theorem St.snocA {e:TypeId} (H:St W0 w ps Γ) (i:Nat) {v:Value} {m:Nat} {z:yLI} (hq:ps[i]? =some (.row v e 1 m (z.map (Value.int .i64)))) (j:Nat) {F:yLN} {xs:List Value} {l:List (OwnI e)} (hf:Γ[j]? =some (xB true F xs l))
    {L:List yLN} (N:Fresh W0.heap.size (F :: L)) (ha:∀ K∈L,∀ b∈K,∀ i,jo ps i≠some b):
    ∃ F',(∀ x∈F',x∈F∨jo ps i=some x)∧Fresh W0.heap.size (F' :: L)∧St W0 w (ps.set i (.row (.slice none 0 0) 0 1 0 [])) (xB true F' (xs++[v]) (l++[⟨z⟩]) :: Γ):=by
  have hF:=(H.facts _ (List.mem_of_getElem? hf)).2
  obtain ⟨G,hG,hGb,hGf,hgn⟩:=own_at H i hq
  have hGF:∀ x∈G,x∉F:=fun x hx h=>(hF x h).2 i (hGb x hx)
  have hGL:∀ K∈L,∀ x∈K,x∉G:=fun K hK x hx h=>ha K hK x hx i (hGb x h)
  have hge:∀ x∈G,W0.heap.size≤x:=fun x hx=>(Qa H (hGb x hx)).1
  have hset:=dead_at hq
  refine ⟨F++G,fun x hx=>(List.mem_append.1 hx).imp id (hGb x),⟨fun K hK=>?_,fun K hK x hx=>?_,?_⟩,?_⟩
  · rcases List.mem_cons.1 hK with rfl | h
    · exact List.nodup_append.2 ⟨N.nd F qm,hgn,fun x hx y hy e=>hGF y hy (e▸hx)⟩
    · exact N.nd K (List.mem_cons_of_mem _ h)
  · rcases List.mem_cons.1 hK with rfl | h
    · rcases List.mem_append.1 hx with h | h
      · exact N.ge F qm x h
      · exact hge x h
    · exact N.ge K (List.mem_cons_of_mem _ h) x hx
  · have hd:=List.pairwise_cons.1 N.dj
    refine List.pairwise_cons.2 ⟨fun K hK x hx=>?_,hd.2⟩
    rcases List.mem_append.1 hx with h | h
    · exact hd.1 K hK x h
    · exact fun hxK=>hGL K hK x hxK h
  · refine (H.dead i hq).add _ ⟨jZ (H.get j hf).1 (reps_one (show qW.rep w G [v] (⟨z⟩:OwnI e) from ⟨v,rfl,hG⟩)),fun _ x hx=>?_⟩ fun x hx=>?_
    · rcases List.mem_append.1 hx with h | h
      · exact (H.get j hf).2 rfl x h
      · exact hGf x h
    · rcases List.mem_append.1 hx with h | h
      · exact ⟨(hF x h).1,fun i' hi' =>(hF x h).2 i' (hset x i' hi').2⟩
      · exact ⟨(Qa H (hGb x h)).2,fun i' hi' =>(hset x i' hi').1 (H.dist i' i x (hset x i' hi').2 (hGb x h))⟩
theorem St.partA {β:Type} [qW β] (H:St W0 w ps Γ) (j:Nat) {fr:Bool} {F:yLN} {X:List Value} {l:List zK} (hf:Γ[j]? =some (xB fr F X l)) (m:Nat) {fr' :Bool} {G:yLN} {v:Value} {z:β} (hg:Γ[m]? =some (isF fr' G v z))
    {iv:Int} (i:Nat) (hi:iv.toNat=i) (h1:i < l.length) (q:Nat) (hq:q < 9) (f:zK) (hr:∀ Fk ck,qW.rep w Fk ck (l[i]!)→∃ F',qW.rep w F' (ck.set q v) f∧∀ b∈F',b∈Fk∨b∈G):
    ∃ F',(∀ x∈F',x∈F∨x∈G)∧St W0 w ps (xB false F' (X.set (0+iv.toNat * 9+q) v) (l.set i f) :: Γ):=by
  subst hi
  obtain ⟨F',h2,h3⟩:=reps_part (α:=zK) iv.toNat q h1 hq hr (H.get j hf).1
  refine ⟨F',h3,H.add _ ⟨by rw [Nat.zero_add];exact h2,by simp⟩ fun b hb=>?_⟩
  rcases h3 b hb with h | h
  · exact (H.facts _ (List.mem_of_getElem? hf)).2 b h
  · exact (H.facts _ (List.mem_of_getElem? hg)).2 b h
theorem St.partA_5 (H:St W0 w ps Γ) (j:Nat) {fr:Bool} {F:yLN} {X:List Value} {l:List zK} (hf:Γ[j]? =some (xB fr F X l)) (m:Nat) {fr' :Bool} {G:yLN} {v:Value} {z:yLI} (hg:Γ[m]? =some (isF fr' G v z)) {iv:Int} (i:Nat) (hi:iv.toNat=i) (h1:i < l.length):
    ∃ F',(∀ x∈F',x∈F∨x∈G)∧St W0 w ps (xB false F' (X.set (0+iv.toNat * 9+5) v) (l.set i { l[i]! with xF:=z }) :: Γ):=by
  refine H.partA j hf m hg i hi h1 5 qj _ fun Fk ck hk=>?_
  obtain ⟨v1,v2,v3,v4,v5,v6,F1,F2,F3,F4,F5,F6,rfl,rfl,k1,k2,k3,k4,k5,k6⟩:=hk
  refine ⟨_,⟨v1,v2,v3,v,v5,v6,F1,F2,F3,G,F5,F6,rfl,rfl,k1,k2,k3,(H.get m hg).1,k5,k6⟩,fun b hb=>?_⟩
  simp only [List.mem_append] at hb
  rcases hb with ((((hb | hb) | hb) | hb) | hb) | hb <;> simp [hb]
theorem St.partA_6 (H:St W0 w ps Γ) (j:Nat) {fr:Bool} {F:yLN} {X:List Value} {l:List zK} (hf:Γ[j]? =some (xB fr F X l)) (m:Nat) {fr' :Bool} {G:yLN} {v:Value} {z:yLI} (hg:Γ[m]? =some (isF fr' G v z)) {iv:Int} (i:Nat) (hi:iv.toNat=i) (h1:i < l.length):
    ∃ F',(∀ x∈F',x∈F∨x∈G)∧St W0 w ps (xB false F' (X.set (0+iv.toNat * 9+6) v) (l.set i { l[i]! with zI:=z }) :: Γ):=by
  refine H.partA j hf m hg i hi h1 6 qj _ fun Fk ck hk=>?_
  obtain ⟨v1,v2,v3,v4,v5,v6,F1,F2,F3,F4,F5,F6,rfl,rfl,k1,k2,k3,k4,k5,k6⟩:=hk
  refine ⟨_,⟨v1,v2,v3,v4,v,v6,F1,F2,F3,F4,G,F6,rfl,rfl,k1,k2,k3,k4,(H.get m hg).1,k6⟩,fun b hb=>?_⟩
  simp only [List.mem_append] at hb
  rcases hb with ((((hb | hb) | hb) | hb) | hb) | hb <;> simp [hb]
theorem St.partA_7 (H:St W0 w ps Γ) (j:Nat) {fr:Bool} {F:yLN} {X:List Value} {l:List zK} (hf:Γ[j]? =some (xB fr F X l)) (m:Nat) {fr' :Bool} {G:yLN} {v:Value} {z:List y5} (hg:Γ[m]? =some (isF fr' G v z)) {iv:Int} (i:Nat) (hi:iv.toNat=i) (h1:i < l.length):
    ∃ F',(∀ x∈F',x∈F∨x∈G)∧St W0 w ps (xB false F' (X.set (0+iv.toNat * 9+7) v) (l.set i { l[i]! with qL:=z }) :: Γ):=by
  refine H.partA j hf m hg i hi h1 7 qj _ fun Fk ck hk=>?_
  obtain ⟨v1,v2,v3,v4,v5,v6,F1,F2,F3,F4,F5,F6,rfl,rfl,k1,k2,k3,k4,k5,k6⟩:=hk
  refine ⟨_,⟨v1,v2,v3,v4,v5,v,F1,F2,F3,F4,F5,G,rfl,rfl,k1,k2,k3,k4,k5,(H.get m hg).1⟩,fun b hb=>?_⟩
  simp only [List.mem_append] at hb
  rcases hb with ((((hb | hb) | hb) | hb) | hb) | hb <;> simp [hb]
theorem mem_behind {Γ Δ:List Fact} (m:Nat) (e:Δ.drop m=Γ) {f:Fact} (hf:f∈Γ):f∈Δ:=List.mem_of_mem_drop (i:=m) (by rw [e];exact hf)
theorem keeps_behind {Γ Δ:List Fact} {F:yLN} (m:Nat) (e:Δ.drop m=Γ) (h:∀ f∈Γ,∀ x∈F,x∉f.F):∀ f∈Γ,f∈Δ∧∀ x∈f.F,x∉F:=fun f hf=>⟨mem_behind m e hf,fun x hx hF=>h f hf x hF hx⟩
theorem Fresh.apart2 {B:Nat} {F G:yLN} {L:List yLN} (N:Fresh B (F :: G :: L)):∀ x∈F,x∉G:=fun x hx=>(List.pairwise_cons.1 N.dj).1 G qm x hx

end
end
section

theorem jB {f g:Nat→Int}:∀ {n:Nat},(∀ p,p < n→f p=g p)→jX f n=jX g n
  | 0,_=>rfl
  | n+1,h=>by rw [jX,jX,jB fun p hp=>h p qf,h n qf]
theorem sumN_atF (c:Nat) (x:Int) (f:Nat→Int):∀ n,jX (fun p=>at' p c x * f p) n=if c < n then x * f c else 0
  | 0=>by rw [if_neg qf];rfl
  | n+1=>by
    rw [jX,sumN_atF c x f n]
    unfold at'
    by_cases e:n=c
    · subst e;rw [if_neg qf,if_pos rfl,if_pos qf];omega
    · rw [if_neg e,Int.zero_mul]
      by_cases h:c < n
      · rw [if_pos h,if_pos qf];omega
      · rw [if_neg h,if_neg qf];rfl
theorem sumN_swap (f:Nat→Nat→Int) (n:Nat):∀ m,jX (fun p=>jX (fun q=>f p q) m) n=jX (fun q=>jX (fun p=>f p q) n) m
  | 0=>by simp only [jX];exact sumN_zero n
  | m+1=>by
    rw [jX,← sumN_swap f n m,← Qz]
    exact jB fun p _=>rfl
theorem sumN_ge {f:Nat→Int}:∀ {n:Nat},(∀ p,p < n→0≤f p)→0≤jX f n∧∀ c,c < n→f c≤jX f n
  | 0,_=>⟨Int.le_refl _,fun c hc=>by omega⟩
  | n+1,h=>by
    obtain ⟨i1,i2⟩:=sumN_ge (n:=n) fun p hp=>h p qf
    have:=h n qf
    rw [jX]
    refine ⟨by omega,fun c hc=>?_⟩
    by_cases e:c=n
    · subst e;omega
    · have:=i2 c qf;omega
def wF (s:qG) (t:qR) (v:Nat→Nat→Int):Int:=jX (fun p=>jX (fun q=>base0 s t p q * v p q) (zn s)) (xN s+1)
def v1 (w:yLL) (p q:Nat):Int:=(w[p]!)[q]!
def v2 (w:yLL) (p q:Nat):Int:=max 1 ((w[p]!)[q]!)
theorem wF_weight {s:qG} {t:qR} {w:yLL} (ht:xQ s t):wF s t (v1 w)=weight t w:=by
  have hb:=ht.2.1
  have ha:=ht.around.1
  unfold wF weight wtTo
  rw [jX,hb]
  have e1:jX (fun p=>jX (fun q=>base0 s t p q * v1 w p q) (zn s)) (xN s)=jX (fun c=>jS (t.qN[c]!) (w[c]!)) (xN s):=jB fun p hp=>by
    unfold jS
    rw [(ht.shape.2 p hp).1]
    exact jB fun q hq=>by unfold base0 v1;rw [if_pos hp]
  have e2:jX (fun q=>base0 s t (xN s) q * v1 w (xN s) q) (zn s)=jS t.qM (w[xN s]!):=by
    unfold jS
    rw [ha]
    exact jB fun q hq=>by unfold base0 v1;rw [if_neg qf]
  rw [e1,e2]
  exact Int.add_comm _ _
def gnF (s:qG) (t:qR) (i:Nat) (v:Nat→Nat→Int):Int:=jX (fun p=>jX (fun q=>chgF s t i p q * v p q) (zn s)) (xN s+1)
theorem into_sum {s:qG} {r:zK} {n q:Nat} {v:Nat→Nat→Int}:∀ j,(∀ k,k < j→(r.qL[k]!).qF.toNat < n)→jX (fun p=>Xy r 1 j p q * v p q) n=jX (fun k=>((r.qL[k]!).jR)[q]! * v (r.qL[k]!).qF.toNat q) j
  | 0,_=>by
    have:jX (fun p=>Xy r 1 0 p q * v p q) n=jX (fun _=>0) n:=jB fun p _=>by simp [Xy]
    rw [this,sumN_zero];rfl
  | j+1,h=>by
    have e:jX (fun p=>Xy r 1 (j+1) p q * v p q) n=jX (fun p=>Xy r 1 j p q * v p q+at' p (r.qL[j]!).qF.toNat (1 * ((r.qL[j]!).jR)[q]!) * v p q) n:=jB fun p _=>by rw [Xy,Int.add_mul]
    rw [e,Qz,into_sum (s:=s) j fun k hk=>h k qf,sumN_atF _ _ (fun p=>v p q),if_pos (h j qf),Int.one_mul]
    rfl
theorem outPl_lt {s:qG} {t:qR} (hs:zX s) (ht:xQ s t) {i:Nat} (hi:i < s.qB.length):outPl s t (s.qB[i]!) < xN s+1:=by
  have hr:=hs.rule hi
  unfold outPl
  split
  · omega
  · have hc:=hr.1
    have hcn:xN s=s.qA.length:=rfl
    have:=Qc (t:=t) hs.1 ht.2.2.1 (show 0 < (s.qB[i]!).qF by have:=hc.1;omega) hc.2
    have:=hc.2
    omega
theorem gnF_eq {s:qG} {t:qR} (hs:zX s) (ht:xQ s t) {i:Nat} (hi:i < s.qB.length) (v:Nat→Nat→Int):
    gnF s t i v=jX (fun q=>(s.qB[i]!).xF[q]! * v (s.qB[i]!).qF.toNat q - (s.qB[i]!).xu[q]! * v (s.qB[i]!).qF.toNat q+jX (fun k=>(((s.qB[i]!).qL[k]!).jR)[q]! * v ((s.qB[i]!).qL[k]!).qF.toNat q) (s.qB[i]!).qL.length+(s.qB[i]!).zI[q]! * v (outPl s t (s.qB[i]!)) q) (zn s):=by
  have hr:=hs.rule hi
  have hc:=hr.cell
  unfold gnF
  rw [sumN_swap]
  refine jB fun q _=>?_
  have e:jX (fun p=>chgF s t i p q * v p q) (xN s+1)=jX (fun p=>at' p (s.qB[i]!).qF.toNat (-((s.qB[i]!).xu[q]!)) * v p q+(at' p (s.qB[i]!).qF.toNat (1 * (s.qB[i]!).xF[q]!) * v p q+at' p (outPl s t (s.qB[i]!)) (1 * (s.qB[i]!).zI[q]!) * v p q+Xy (s.qB[i]!) 1 (s.qB[i]!).qL.length p q * v p q)) (xN s+1):=jB fun p _=>by
    rw [chgF,putF,Int.add_mul,Int.add_mul,Int.add_mul]
  have hin:∀ k,k < (s.qB[i]!).qL.length→((s.qB[i]!).qL[k]!).qF.toNat < xN s+1:=fun k hk=>by
    have:=(hr.2.2.2.2.2.2.2.2.2.2 k hk).1
    have hcn:xN s=s.qA.length:=rfl
    have h1:=this.1
    have h2:=this.2
    omega
  rw [e,Qz,Qz,Qz,sumN_atF _ _ (fun p=>v p q),sumN_atF _ _ (fun p=>v p q),sumN_atF _ _ (fun p=>v p q),into_sum (s:=s) _ hin,if_pos qf,if_pos (outPl_lt hs ht hi),if_pos qf,Int.one_mul,Int.one_mul,Int.neg_mul]
  omega
theorem sumN_sub (f g:Nat→Int) (n:Nat):jX (fun c=>f c - g c) n=jX f n - jX g n:=by
  induction n with
  | zero=>rfl
  | succ n ih=>rw [jX,jX,jX,ih];omega
theorem dot_len {s:qG} {b v:yLI} (hb:zy s.qQ b):jX (fun q=>b[q]! * v[q]!) (zn s)=jS b v:=by unfold jS;rw [hb.len]
theorem rule_gain {s:qG} {t:qR} (hs:zX s) (ht:xQ s t) {i:Nat} (hi:i < s.qB.length) (w:yLL):gnF s t i (v1 w)=gain (s.qB[i]!) w (outPl s t (s.qB[i]!):Int):=by
  have hr:=hs.rule hi
  have b1:=hr.2.2.2.2.1
  have b2:=hr.2.2.2.2.2.2.2.1
  have b3:=hr.2.2.2.2.2.2.2.2.1
  rw [gnF_eq hs ht hi,Qz,Qz,sumN_sub]
  unfold v1
  rw [dot_len b2,dot_len b1,dot_len b3,← sumN_swap,gain,yj,Int.toNat_natCast]
  have e:jX (fun p=>jX (fun q=>(((s.qB[i]!).qL[p]!).jR)[q]! * (w[((s.qB[i]!).qL[p]!).qF.toNat]!)[q]!) (zn s)) (s.qB[i]!).qL.length=jX (fun k=>jS ((s.qB[i]!).qL[k]!).jR (w[((s.qB[i]!).qL[k]!).qF.toNat]!)) (s.qB[i]!).qL.length:=jB fun k hk=>dot_len (hr.2.2.2.2.2.2.2.2.2.2 k hk).2.2.1
  rw [e]
theorem out_place {s:qG} {t:qR} (hs:zX s) (ht:xQ s t) (hd:DeadOk s t) {i:Nat} (hi:i < s.qB.length):((outPl s t (s.qB[i]!):Nat):Int)∈places s (s.qB[i]!).qF:=by
  have hc:=(hs.rule hi).1
  unfold places outPl
  by_cases h:(s.qB[i]!).qF=0
  · rw [if_pos h,if_pos h];exact List.mem_singleton.2 rfl
  · rw [if_neg h,if_neg h]
    have h0:0 < (s.qB[i]!).qF:=by have:=hc.1;omega
    have:=Qc (t:=t) hs.1 ht.2.2.1 h0 hc.2
    rw [show (((xn s t (s.qB[i]!).qF).toNat:Nat):Int)=xn s t (s.qB[i]!).qF by omega]
    exact parent_chain hs.1 ht hd hc h0

theorem chgS_single (s:qG) (t:qR) {i:Nat} (hi:i < s.qB.length) (p q:Nat):∀ m,m≤s.qB.length→chgS s t (single s i) m p q=if i < m then chgF s t i p q else 0
  | 0,_=>by rw [if_neg qf];rfl
  | m+1,h=>by
    rw [chgS,chgS_single s t hi p q m qf,single_get hi qf]
    by_cases e:m=i
    · subst e;rw [if_neg qf,if_pos rfl,if_pos qf];omega
    · rw [if_neg e,Int.zero_mul]
      by_cases h1:i < m
      · rw [if_pos h1,if_pos qf];omega
      · rw [if_neg h1,if_neg qf];rfl
theorem stepF_single (s:qG) (t:qR) {i:Nat} (hi:i < s.qB.length) (p q:Nat):stepF s t (single s i) p q=base0 s t p q+chgF s t i p q:=by
  rw [step_due,chgS_single s t hi p q _ (Nat.le_refl _),if_pos hi]
theorem base_stepped {s:qG} {t:qR} {x:yLI} {p q:Nat} (hp:p≤xN s) (hq:q < zn s):base0 s (xA s t x) p q=stepF s t x p q:=by
  unfold base0
  by_cases h:p < xN s
  · rw [if_pos h,stepped_row h,map_range_get hq]
  · obtain rfl:p=xN s:=by omega
    rw [if_neg h,stepped_around,map_range_get hq]
theorem wF_stepped (s:qG) (t:qR) {i:Nat} (hi:i < s.qB.length) (v:Nat→Nat→Int):wF s (xA s t (single s i)) v=wF s t v+gnF s t i v:=by
  unfold wF gnF
  rw [← Qz]
  refine jB fun p hp=>?_
  rw [← Qz]
  exact jB fun q hq=>by rw [base_stepped qf hq,stepF_single s t hi,Int.add_mul]
theorem step_nonneg {s:qG} {t:qR} {counts:yLI} (hs:zX s) (ht:xQ s t) (hc:CntOk s counts) (h:IsCh s t counts) (hD:PutsD 2 s) {p q:Nat} (hp:p≤xN s) (hq:q < zn s):0≤stepF s t counts p q:=by
  have h1:=putS_bd (t:=t) hs hD (fun i hi=>hc.bd hi) p q hq s.qB.length (Nat.le_refl _)
  have h4:0≤base0 s t p q+needS s counts s.qB.length p q:=by
    by_cases e:p < xN s
    · exact rest_get hs ht hc h e hq
    · obtain rfl:p=xN s:=by omega
      rw [needS_around hs q _ (Nat.le_refl _)]
      unfold base0
      rw [if_neg qf]
      have:=ht.around.2 q hq
      omega
  rw [stepF,allS_eq]
  omega
theorem stepped_ok' {s:qG} {t:qR} {counts:yLI} (hs:zX s) (ht:xQ s t) (hc:CntOk s counts) (h:IsCh s t counts) (hB:∀ p q,p≤xN s→q < zn s→0≤stepF s t counts p q∧stepF s t counts p q≤1000):xQ s (xA s t counts):=by
  have hK:=hs.1.1
  have hkn:zn s=s.qQ.toNat:=rfl
  have hbag:∀ p,p≤xN s→zy s.qQ ((List.range (zn s)).map (stepF s t counts p)):=fun p hp=>by
    refine ⟨⟨fun j hj=>?_,by simp;omega,by simp;omega⟩,by simp;omega⟩
    have hj' :j < zn s:=by simpa using hj
    rw [map_range_get hj']
    exact hB p j hp hj'
  have hl:(xA s t counts).qN.length=xN s:=by
    show ((tab2 _ _ _).take _).length=_
    rw [List.length_take,tab2_len];omega
  refine ⟨ht.1,hl,ht.2.2.1,by rw [stepped_around];exact hbag _ (Nat.le_refl _),fun p hp=>?_⟩
  rw [hl] at hp
  rw [stepped_row hp]
  refine ⟨hbag p qf,fun hd=>?_⟩
  have hd' :t.qJ[p]! =false:=hd
  have hz:∀ n,sumTo ((List.range (zn s)).map (stepF s t counts p)) n≤0:=by
    intro n
    induction n with
    | zero=>simp [sumTo]
    | succ n ih=>
      simp only [sumTo]
      by_cases e:n < zn s
      · rw [map_range_get e]
        obtain ⟨z1,z2⟩:=dead_none hs ht hc h hp hd' n s.qB.length (Nat.le_refl _)
        rw [stepF,allS_eq,z1,z2,dead_zero ht hp hd' e]
        omega
      · rw [getElem!_neg _ _ (by simpa using e)]
        show _+(0:Int)≤0
        omega
  exact hz _
theorem melted_wF {s:qG} {t:qR} {c:Int} (h:y7 s t c) {v:Nat→Nat→Int} (hv:∀ q,q < zn s→v (xn s t c).toNat q≤v c.toNat q):wF s (melted s t c) v≤wF s t v:=by
  have hp:=h.par
  have hc:=h.cell
  have hcn:xN s=s.qA.length:=rfl
  have hkn:zn s=s.qQ.toNat:=rfl
  have hc1:=hc.2
  have hb:∀ p q,p≤xN s→q < zn s→base0 s (melted s t c) p q=base0 s t p q+(at' p (xn s t c).toNat ((t.qN[c.toNat]!)[q]!)+at' p c.toNat (-((t.qN[c.toNat]!)[q]!))):=fun p q hp' hq=>by
    unfold base0 at'
    by_cases e:p < xN s
    · rw [if_pos e,if_pos e,h.bags']
      by_cases e1:c.toNat=p
      · subst e1
        rw [if_pos rfl,rep_get,if_neg qf,if_pos rfl];omega
      · rw [if_neg e1,if_neg (show ¬ p=c.toNat by omega)]
        by_cases e2:(xn s t c).toNat=p
        · subst e2
          rw [if_pos rfl,if_pos rfl,plusL_get (by rw [h.lens qf];exact hq)];omega
        · rw [if_neg e2,if_neg qf];omega
    · rw [if_neg e,if_neg e,if_neg qf,if_neg qf]
      show t.qM[q]! =_
      omega
  have e:wF s (melted s t c) v=wF s t v+jX (fun q=>(t.qN[c.toNat]!)[q]! * v (xn s t c).toNat q+ -((t.qN[c.toNat]!)[q]!) * v c.toNat q) (zn s):=by
    unfold wF
    have e1:jX (fun p=>jX (fun q=>base0 s (melted s t c) p q * v p q) (zn s)) (xN s+1)=jX (fun p=>jX (fun q=>base0 s t p q * v p q) (zn s)+jX (fun q=>at' p (xn s t c).toNat ((t.qN[c.toNat]!)[q]!) * v p q+at' p c.toNat (-((t.qN[c.toNat]!)[q]!)) * v p q) (zn s)) (xN s+1):=jB fun p hp' =>by
      rw [← Qz]
      exact jB fun q hq=>by rw [hb p q qf hq,Int.add_mul,Int.add_mul]
    rw [e1,Qz]
    congr 1
    rw [sumN_swap]
    refine jB fun q _=>?_
    rw [Qz,sumN_atF _ _ (fun p=>v p q),sumN_atF _ _ (fun p=>v p q),if_pos qf,if_pos qf]
  rw [e]
  have:jX (fun q=>(t.qN[c.toNat]!)[q]! * v (xn s t c).toNat q+ -((t.qN[c.toNat]!)[q]!) * v c.toNat q) (zn s)≤jX (fun _=>0) (zn s):=sumN_le fun q hq=>by
    have h0:=(h.state.shape.2 c.toNat qf).2 q hq
    have hbag:=(h.state.2.2.2.2 c.toNat (by rw [h.state.2.1];omega)).1
    have h1:=(hbag.get (k:=q) (by rw [hbag.len];exact hq)).1
    have h2:=Int.mul_le_mul_of_nonneg_left (hv q hq) h1
    rw [Int.neg_mul]
    omega
  rw [sumN_zero] at this
  omega
theorem down_falls {s:qG} {t:qR} {counts:yLI} (hs:zX s) (hc:CntOk s counts) (h:IsCh s t counts) (hd:DeadOk s t) (h0:xQ s (xA s t counts)) (hq0:∀ q,q < zn s→colTo (xA s t counts) q (xN s)≤1000):∀ j,j+1≤xN s→
    xQ s (xC s counts (xA s t counts) j)∧DeadOk s (xC s counts (xA s t counts) j)∧(∀ q,q < zn s→colTo (xC s counts (xA s t counts) j) q (xN s)≤1000)∧(∀ c,c+j < xN s→(xC s counts (xA s t counts) j).qJ[c]! =t.qJ[c]!)∧
    ∀ v:Nat→Nat→Int,(∀ c,jT s c→∀ p∈chain s s.qA.length (s.qA[c.toNat]!),∀ q,q < zn s→v p.toNat q≤v c.toNat q)→wF s (xC s counts (xA s t counts) j) v≤wF s (xA s t counts) v
  | 0,_=>⟨h0,hd,hq0,fun c _=>rfl,fun v _=>Int.le_refl _⟩
  | j+1,hj=>by
    obtain ⟨i1,i4,i2,i3,i5⟩:=down_falls hs hc h hd h0 hq0 j qf
    have hdd:=(meltDown_dead (counts:=counts) (u:=xA s t counts) h0.1 hd (j+1) hj).1
    by_cases hm:Melts s counts ((xN s:Int) - 1 - j)
    · rw [meltDown_yes hm rfl] at hdd ⊢
      obtain ⟨i,hi,hp,h2,h3⟩:=hm
      have he:=appl_of hc h hi qf
      have hcn:xN s=s.qA.length:=rfl
      have ha:t.qJ[((xN s:Int) - 1 - j).toNat]! =true:=by rw [← h3];exact he.1
      have cm:y7 s (xC s counts (xA s t counts) j) ((xN s:Int) - 1 - j):=⟨hs.1,i1,⟨by omega,by omega⟩,by omega,by rw [i3 _ qf];exact ha⟩
      refine ⟨cm.ok1000 i2,hdd,fun q hq=>?_,fun c hcc=>?_,fun v hv=>?_⟩
      · have hpar:=cm.par
        rw [cm.col hq,if_pos qf,if_pos qf]
        have:=i2 q hq
        omega
      · rw [cm.alive',if_neg qf]
        exact i3 c qf
      · exact Int.le_trans (melted_wF cm fun q hq=>hv _ ⟨i,hi,h2,h3⟩ _ (parent_chain hs.1 i1 i4 cm.cell cm.pos) q hq) (i5 v hv)
    · rw [meltDown_no hm rfl] at hdd ⊢
      exact ⟨i1,i4,i2,fun c hcc=>i3 c qf,i5⟩
theorem chg_skin {s:qG} {t:qR} (hs:zX s) (hD:PutsD 2 s) {i:Nat} (hi:i < s.qB.length) (hq:0 < zn s):chgF s t i 0 0≤4:=by
  have hr:=hs.rule hi
  obtain ⟨d1,d2,_⟩:=hD i hi 0 hq
  have b0:=(hr.2.2.2.2.1.get (k:=0) (by rw [hr.2.2.2.2.1.len];exact hq)).1
  have hI:∀ j,j≤(s.qB[i]!).qL.length→Xy (s.qB[i]!) 1 j 0 0=0:=by
    intro j
    induction j with
    | zero=>intro _;rfl
    | succ j ih=>
      intro hj
      have hl:=(hr.2.2.2.2.2.2.2.2.2.2 j qf).2.1
      have:=(lies_iff.1 hl).1
      rw [Xy,ih qf,at',if_neg qf];rfl
  rw [chgF,putF,hI _ (Nat.le_refl _)]
  unfold at'
  split <;> split <;> omega
theorem gnF_v2 {s:qG} {t:qR} {w:yLL} (hs:zX s) (hw:WtOk s w) (hD:PutsD 2 s) {i:Nat} (hi:i < s.qB.length):gnF s t i (v2 w)≤gnF s t i (v1 w)+4:=by
  have hK:=hs.1.1
  have hkn:zn s=s.qQ.toNat:=rfl
  have hcn:xN s=s.qA.length:=rfl
  have e:jX (fun p=>jX (fun q=>at' p 0 (at' q 0 4)) (zn s)) (xN s+1)=4:=by
    have e1:jX (fun p=>jX (fun q=>at' p 0 (at' q 0 4)) (zn s)) (xN s+1)=jX (fun p=>at' p 0 4 * 1) (xN s+1):=jB fun p _=>by
      unfold at'
      by_cases h:p=0
      · have:=sumN_atF 0 4 (fun _=>1) (zn s)
        unfold at' at this
        simp only [if_pos h]
        rw [if_pos qf] at this
        simpa using this
      · simp only [if_neg h]
        rw [sumN_zero];rfl
    rw [e1,sumN_atF 0 4 (fun _=>1),if_pos qf];rfl
  unfold gnF
  rw [← e,← Qz]
  refine sumN_le fun p hp=>?_
  rw [← Qz]
  refine sumN_le fun q hq=>?_
  have hrow:=hw.row p (by rw [hw.len];omega)
  obtain ⟨⟨h0,_⟩,h1⟩:=hrow.2 q (by rw [hrow.1];exact hq)
  have hv:v2 w p q=max 1 (v1 w p q):=rfl
  have hv1:v1 w p q=(w[p]!)[q]! :=rfl
  by_cases hz:(w[p]!)[q]! =0
  · obtain ⟨rfl,rfl⟩:=h1 hz
    have:=chg_skin (t:=t) hs hD hi hq
    rw [hv,hv1,hz,show max 1 (0:Int)=1 by decide,Int.mul_one,Int.mul_zero]
    unfold at'
    rw [if_pos rfl,if_pos rfl]
    omega
  · rw [hv,show max 1 (v1 w p q)=v1 w p q by rw [hv1];omega]
    have:0≤at' p 0 (at' q 0 4):=by unfold at';split <;> (try split) <;> omega
    omega
theorem base_nonneg {s:qG} {t:qR} (ht:xQ s t) {p q:Nat} (hp:p≤xN s) (hq:q < zn s):0≤base0 s t p q:=by
  unfold base0
  split
  · rename_i h
    have hbag:=(ht.2.2.2.2 p (by rw [ht.2.1];exact h)).1
    exact (hbag.get (k:=q) (by rw [hbag.len];exact hq)).1
  · exact (ht.around.2 q hq).1
theorem v2_pos (w:yLL) (p q:Nat):1≤v2 w p q:=by unfold v2;omega
theorem heavy {s:qG} {f:Nat→Nat→Int} {w:yLL} (h:∀ p q,p≤xN s→q < zn s→0≤f p q):∀ p q,p≤xN s→q < zn s→f p q≤f p q * v2 w p q∧f p q * v2 w p q≤jX (fun q=>f p q * v2 w p q) (zn s)∧jX (fun q=>f p q * v2 w p q) (zn s)≤jX (fun p=>jX (fun q=>f p q * v2 w p q) (zn s)) (xN s+1):=fun p q hp hq=>by
  have h1:∀ p q,p≤xN s→q < zn s→0≤f p q * v2 w p q:=fun p q hp hq=>Int.mul_nonneg (h p q hp hq) (by have:=v2_pos w p q;omega)
  have h2:=Int.mul_le_mul_of_nonneg_left (v2_pos w p q) (h p q hp hq)
  rw [Int.mul_one] at h2
  exact ⟨h2,(sumN_ge fun q hq=>h1 p q hp hq).2 q hq,(sumN_ge (n:=xN s+1) fun p hp=>(sumN_ge fun q hq=>h1 p q qf hq).1).2 p qf⟩
theorem fall_step {s:qG} {t:qR} {w:yLL} (hs:zX s) (hw:WtOk s w) (hf:Falls s w) (hD:PutsD 2 s) (ht:xQ s t) (hd:DeadOk s t) {i:Nat} (hi:i < s.qB.length) (ha:Appl s t i) (hb:wF s t (v2 w)≤990):
    (zk s t (i:Int)).2=0∧xQ s (zk s t (i:Int)).1∧DeadOk s (zk s t (i:Int)).1∧weight (zk s t (i:Int)).1 w < weight t w∧wF s (zk s t (i:Int)).1 (v2 w)≤wF s t (v2 w)+3:=by
  have hn:=hs.1.2.1
  have hcn:xN s=s.qA.length:=rfl
  have hkn:zn s=s.qQ.toNat:=rfl
  have hc:=single_cnt (s:=s) hi
  have hch:=(single_isCh hs ht hi).2 ha
  have g1:gnF s t i (v1 w) < 0:=by rw [rule_gain hs ht hi];exact hf.1 i hi _ (out_place hs ht hd hi)
  have g2:=gnF_v2 (t:=t) hs hw hD hi
  have e1:=wF_stepped s t hi (v1 w)
  have e2:=wF_stepped s t hi (v2 w)
  have nn:∀ p q,p≤xN s→q < zn s→0≤stepF s t (single s i) p q:=fun p q hp hq=>step_nonneg hs ht hc hch hD hp hq
  have hsum:jX (fun p=>jX (fun q=>stepF s t (single s i) p q * v2 w p q) (zn s)) (xN s+1)=wF s (xA s t (single s i)) (v2 w):=by
    unfold wF
    exact jB fun p hp=>jB fun q hq=>by rw [base_stepped qf hq]
  have hv:=heavy (s:=s) (w:=w) nn
  have so:xQ s (xA s t (single s i)):=stepped_ok' hs ht hc hch fun p q hp hq=>by
    obtain ⟨a1,a2,a3⟩:=hv p q hp hq
    have:=nn p q hp hq
    rw [hsum] at a3
    omega
  have hcol:∀ q,q < zn s→colTo (xA s t (single s i)) q (xN s)≤1000:=fun q hq=>by
    rw [colTo_sum]
    have c1:jX (fun p=>((xA s t (single s i)).qN[p]!)[q]!) (xN s)≤jX (fun p=>jX (fun q=>stepF s t (single s i) p q * v2 w p q) (zn s)) (xN s):=sumN_le fun p hp=>by
      rw [stepped_row hp,map_range_get hq]
      obtain ⟨a1,a2,_⟩:=hv p q qf hq
      omega
    have c2:jX (fun p=>jX (fun q=>stepF s t (single s i) p q * v2 w p q) (zn s)) (xN s)≤jX (fun p=>jX (fun q=>stepF s t (single s i) p q * v2 w p q) (zn s)) (xN s+1):=by
      rw [jX]
      obtain ⟨a1,a2,_⟩:=hv (xN s) q (Nat.le_refl _) hq
      have:=nn (xN s) q (Nat.le_refl _) hq
      omega
    omega
  obtain ⟨f1,f2,_,_,f5⟩:=down_falls hs hc hch hd so hcol (xN s - 1) qf
  have er:zk s t (i:Int)=(xC s (single s i) (xA s t (single s i)) (xN s - 1),0):=by
    rw [one_0 ⟨hs,ht⟩ qf,Int.toNat_natCast,stepBy_yes hch]
    unfold stepRes
    rw [told_yes f1]
  rw [er]
  have m1:∀ c,jT s c→∀ p∈chain s s.qA.length (s.qA[c.toNat]!),∀ q,q < zn s→v1 w p.toNat q≤v1 w c.toNat q:=fun c hm p hp q hq=>by
    obtain ⟨k,hk,h1,h2⟩:=hm
    have hcc:=(hs.rule hk).1
    rw [h2] at hcc
    have hc0:=hcc.1
    have hge:=hf.2 c.toNat (by have:=hcc.2;omega) (by rw [show ((c.toNat:Nat):Int)=c by omega];exact ⟨k,hk,h1,h2⟩) p (by rw [show ((c.toNat:Nat):Int)=c by omega];exact hp)
    rw [show (((c.toNat:Nat):Int)).toNat=c.toNat by omega] at hge
    by_cases hlt:p.toNat < w.length
    · exact hge q (by rw [(hw.row _ hlt).1];exact hq)
    · have e0:v1 w p.toNat q=0:=by unfold v1;rw [getElem!_neg w _ hlt];rfl
      rw [e0]
      have hrow:=hw.row c.toNat (by rw [hw.len];have:=hcc.2;omega)
      exact (hrow.2 q (by rw [hrow.1];exact hq)).1.1
  have m2:∀ c,jT s c→∀ p∈chain s s.qA.length (s.qA[c.toNat]!),∀ q,q < zn s→v2 w p.toNat q≤v2 w c.toNat q:=fun c hm p hp q hq=>by
    have:=m1 c hm p hp q hq
    unfold v1 at this
    unfold v2
    omega
  have w1:=f5 _ m1
  have w2:=f5 _ m2
  refine ⟨rfl,f1,f2,?_,?_⟩
  · show weight _ w < _
    rw [← wF_weight f1,← wF_weight ht]
    omega
  · show wF s (xC s (single s i) (xA s t (single s i)) (xN s - 1)) (v2 w)≤_
    omega
theorem weight_bd {s:qG} {t:qR} {w:yLL} (hw:WtOk s w) (ht:xQ s t):0≤weight t w∧weight t w≤wF s t (v2 w):=by
  have hcn:xN s=s.qA.length:=rfl
  have hkn:zn s=s.qQ.toNat:=rfl
  have hx:∀ p q,p < xN s+1→q < zn s→0≤base0 s t p q * v1 w p q∧base0 s t p q * v1 w p q≤base0 s t p q * v2 w p q:=fun p q hp hq=>by
    have hrow:=hw.row p (by rw [hw.len];omega)
    have h0:=(hrow.2 q (by rw [hrow.1];exact hq)).1.1
    have hb:=base_nonneg ht (p:=p) qf hq
    exact ⟨Int.mul_nonneg hb h0,Int.mul_le_mul_of_nonneg_left (show v1 w p q≤v2 w p q by unfold v1 v2;omega) hb⟩
  rw [← wF_weight ht]
  exact ⟨(sumN_ge fun p hp=>(sumN_ge fun q hq=>(hx p q hp hq).1).1).1,sumN_le fun p hp=>sumN_le fun q hq=>(hx p q hp hq).2⟩
structure FallAt (s:qG) (w:yLL) (W n:Int) (u:qR):Prop where
  st:xQ s u
  dead:DeadOk s u
  less:weight u w≤W - n
  top:W≤240
  much:wF s u (v2 w)≤240+3 * n
theorem FallAt.le {s:qG} {w:yLL} {W n:Int} {u:qR} (h:FallAt s w W n u) (hw:WtOk s w):n≤W:=by
  have:=(weight_bd hw h.st).1
  have:=h.less
  omega
theorem FallAt.go {s:qG} {w:yLL} {W n:Int} {u:qR} (h:FallAt s w W n u) (hs:zX s) (hw:WtOk s w) (hf:Falls s w) (hD:PutsD 2 s) {k:Nat} (hk:k < (appls s u).length):
    (zk s u ((appls s u)[k]!)).2=0∧FallAt s w W (n+1) (zk s u ((appls s u)[k]!)).1∧weight (zk s u ((appls s u)[k]!)).1 w < weight u w:=by
  obtain ⟨h0,h1,h2⟩:=appls_single hk
  have hle:=h.le hw
  have hm:=h.much
  have ht:=h.top
  obtain ⟨a1,a2,a3,a4,a5⟩:=fall_step hs hw hf hD h.st h.dead h1 h2 qf
  rw [show ((((appls s u)[k]!).toNat:Nat):Int)=(appls s u)[k]! by omega] at a1 a2 a3 a4 a5
  have hl:=h.less
  exact ⟨a1,⟨a2,a3,by omega,ht,by omega⟩,a4⟩
theorem fallAt_0 {kk:Int} {par:yLI} {rules:List zK} {alive:List Bool} {bags w:yLL} {around:yLI} (hs:SysDr kk par rules) (ht:StDr kk par.length 4 alive bags around) (hw:WtDr kk par.length w)
    (hd:DeadOk ⟨kk,par,rules⟩ ⟨alive,bags,around⟩):FallAt ⟨kk,par,rules⟩ w (weight ⟨alive,bags,around⟩ w) 0 ⟨alive,bags,around⟩:=by
  have hst:=ht.ok hs qf
  have hk:=hs.kinds
  have hc:=hs.cells
  have hcn:xN ⟨kk,par,rules⟩=par.length:=rfl
  have hkn:zn ⟨kk,par,rules⟩=kk.toNat:=rfl
  have hx:wF ⟨kk,par,rules⟩ ⟨alive,bags,around⟩ (v2 w)≤jX (fun _=>jX (fun _=>20) (zn ⟨kk,par,rules⟩)) (xN ⟨kk,par,rules⟩+1):=sumN_le fun p hp=>sumN_le fun q hq=>by
    have hrow:=hw.row p (by rw [hw.len];omega)
    have h0:=(hrow.2 q (by rw [hrow.1];exact hq)).1
    have hb:=base_nonneg hst (p:=p) qf hq
    have hb4:base0 ⟨kk,par,rules⟩ ⟨alive,bags,around⟩ p q≤4:=by
      unfold base0
      by_cases e:p < xN ⟨kk,par,rules⟩
      · rw [if_pos e]
        have hbag:=(ht.bags p (by rw [ht.lb];omega)).1
        exact (hbag.2 q (by rw [hbag.1];exact hq)).2
      · rw [if_neg e]
        have:=(ht.around.2 q (by rw [ht.around.1];exact hq)).2
        show around[q]! ≤4
        omega
    have hv:v2 w p q≤5:=by unfold v2;omega
    have m1:=Int.mul_le_mul_of_nonneg_left hv hb
    omega
  rw [sumN_const,sumN_const] at hx
  have h3:((zn ⟨kk,par,rules⟩:Nat):Int) * 20≤60:=by omega
  have h4:((xN ⟨kk,par,rules⟩+1:Nat):Int)≤4:=by omega
  have h5:=Int.mul_le_mul_of_nonneg_left h3 (show 0≤((xN ⟨kk,par,rules⟩+1:Nat):Int) by omega)
  have hwd:=weight_bd (s:=⟨kk,par,rules⟩) hw hst
  exact ⟨hst,hd,by omega,by omega,by omega⟩
theorem putsD_of {kk:Int} {par:yLI} {rules:List zK} (hs:SysDr kk par rules):PutsD 2 ⟨kk,par,rules⟩:=fun i hi q hq=>by
  have hq' :q < kk.toNat:=hq
  have r:=hs.rules i hi
  refine ⟨(r.here.2 q (by rw [r.here.1];exact hq')).2,(r.out.2 q (by rw [r.out.1];exact hq')).2,fun j hj=>?_⟩
  have hb:=(r.into j hj).2.2.1
  have:=(hb.2 q (by rw [hb.1];exact hq')).2
  show ((rules[i]!).qL[j]!).jR[q]! ≤2
  omega
def yE (s:qG) (t:qR) (c i:Nat):Prop:=t.qJ[c]! =true∨∃ j,j < i∧(s.qB[j]!).xR=true∧(s.qB[j]!).qF=(c:Int)
theorem sound_0 (s:qG) (t:qR) (c:Nat):t.qJ[c]! =dec (yE s t c 0):=by
  cases h:t.qJ[c]! with
  | true=>exact (jL (.inl h)).symm
  | false=>exact (qZ (fun x=>x.elim (fun e=>by rw [h] at e;cases e) fun ⟨j,hj,_⟩=>by omega)).symm
theorem yE.up {s:qG} {t:qR} {c i:Nat}:yE s t c (i+1)↔yE s t c i∨((s.qB[i]!).xR=true∧(s.qB[i]!).qF=(c:Int)):=by
  constructor
  · rintro (h | ⟨j,hj,h⟩)
    · exact .inl (.inl h)
    · by_cases e:j=i
      · subst e;exact .inr h
      · exact .inl (.inr ⟨j,by omega,h⟩)
  · rintro ((h | ⟨j,hj,h⟩) | h)
    · exact .inl h
    · exact .inr ⟨j,by omega,h⟩
    · exact .inr ⟨i,by omega,h⟩
theorem sound_on {s:qG} {t:qR} {c i:Nat} (h:dec (yE s t c i)=true):true=dec (yE s t c (i+1)):=(jL (yE.up.2 (.inl (jJ h)))).symm
theorem sound_a {s:qG} {t:qR} {c i:Nat} (h:dec (yE s t c i)=false) (h1:(s.qB[i]!).xR=false):false=dec (yE s t c (i+1)):=(qZ (fun x=>(yE.up.1 x).elim (zo h) fun y=>by rw [h1] at y;cases y.1)).symm
theorem sound_b {s:qG} {t:qR} {c i:Nat} (h:dec (yE s t c i)=false) (h1:(s.qB[i]!).xR=true):decide ((s.qB[i]!).qF=(c:Int))=dec (yE s t c (i+1)):=dec_eq ⟨fun e=>yE.up.2 (.inr ⟨h1,of_decide_eq_true e⟩),fun x=>(yE.up.1 x).elim (fun y=>absurd y (zo h)) fun y=>decide_eq_true y.2⟩
theorem dead_of {s:qG} {t:qR} {n:Nat} (hn:n=s.qA.length) (h:∀ c,c < n→yE s t c s.qB.length):DeadOk s t:=fun c hc ha=>(h c qf).elim (fun e=>by rw [ha] at e;cases e) fun ⟨j,hj,h1⟩=>⟨j,hj,h1⟩
theorem dead_no {s:qG} {t:qR} {c i:Nat} (hc:c < s.qA.length) (hi:i=s.qB.length) (h:dec (yE s t c i)=false):¬ DeadOk s t:=fun hd=>by
  subst hi
  refine zo h ?_
  cases ha:t.qJ[c]! with
  | true=>exact .inl ha
  | false=>exact .inr (hd c hc ha)
end
section
open Go.Proofs.Tryz
open Go.RowKit
set_option linter.unusedVariables false
set_option linter.unusedSimpArgs false
set_option maxRecDepth 100000
set_option maxHeartbeats 4000000
variable {cl bs os qC qH : Nat}
theorem l01Bag_ok (w:World) (l:yLI) {al:yOA} {Fl:yLN} (hl:qW.rep w Fl [.slice al l.length cl] l):Calls Tryz.prog 99 #[.slice al l.length cl] w (Ret (fun v w' =>v=.bool (dec (BagAny l))) w):=by
 refine en func99 ntmps99 ?_
 have H:=(St.start w).arg hl
 have nhl:=qU hl
 clear hl
 refine zcr (sp (.bool false) (zjcc (sp (yI 0) (zjn (xg ?_)))))
 refine zH (fun m' ρ w1=>∃ (xU:Env) (k:Nat),ρ=upd (upd xU 0 (.slice al l.length cl)) 3 (yI k)∧(k≤l.length)∧(Counts l k)∧m' =l.length - k∧St w w1 [] [sF false Fl al cl l]) (l.length - 0) ⟨_,0,uE2,qf,(by exact Counts.zero l),rfl,H⟩ ?_
 clear H
 rintro m' ρ w2 ⟨xU,k,rfl,i0,i1,rfl,H⟩
 refine zcc (sps [yI k,.slice al l.length cl] (oN rfl (sp (.bool (decide ((k:Int) < l.length))) (zjn (cD rfl (fun h3=>?_) (fun h3=>?_))))))
 ·skip
  refine xh (t_n (x8 (xg (zcr (sps [.slice al l.length cl,yI k] ?_)))))
  obtain ⟨b4,o5,rfl⟩:=H.addr 0 rfl qf
  refine oI rfl rfl (oL rfl (H.ji 0 rfl k qf qf) (sw (oq (l00In_ok w2 (l[k]!) 0 1000) H fun w6 H=>sp (.bool (!(inR (l[k]!) 0 1000))) (zjn (xI (!(inR (l[k]!) 0 1000)) rfl (fun h8=>?_) (fun h8=>?_))))))
  ·skip
   replace h8:=xw h8
   replace h8:=Qy h8
   refine zcr (sp (.bool false) (zjr (zr5 (ret1 (.bool false) rfl rfl ⟨_,rfl,?_,H.base⟩))))
   rw [qZ (fun h=>‹¬ (0≤l[k]! ∧l[k]! ≤1000)› (h.1 k qf))]
  replace h8:=xf h8
  replace h8:=yQ.1 h8
  refine xh (b_n (t_n (xZ (sp (yI k) (sw (zB k 1 rfl rfl qf (sp (yI (k+1)) (zi (xq (m' :=l.length - (k+1)) qf ⟨_,k+1,uE2,?_,?_,rfl,H⟩)))))))))
  · omega
  · exact i1.succ ‹_›
 refine zx4 (zcr (sp (.slice al l.length cl) (oN rfl (sw (oq (l00In_ok w2 l.length 1 8) H fun w9 H=>sp (.bool (inR l.length 1 8)) (zjr (ret1 (.bool (inR l.length 1 8)) rfl rfl ⟨_,rfl,?_,H.base⟩)))))))
 obtain rfl:k=l.length:=by omega
 refine congrArg Value.bool (dec_eq ?_)
 rw [yQ]
 exact ⟨fun h=>⟨i1,by omega,by omega⟩,fun h=>by have:=h.2;omega⟩

theorem yU (w:World) (s:qG) (b:yLI) {qE:yOA} {qV:yLN} {qI:yOA} {xx:yLN} {ab:yOA} {cb:Nat} {Fb:yLN} (hs:jy w bs os (yS s qE qC qI qH)) (qP:qW.rep w qV [.slice qE s.qA.length qC] s.qA) (xm:qW.rep w xx [.slice qI s.qB.length qH] s.qB) (hb:qW.rep w Fb [.slice ab b.length cb] b):Calls Tryz.prog 79 #[pp bs os,.slice ab b.length cb] w (Ret (fun v w' =>v=.bool (dec (zy s.qQ b))) w):=by
 refine en func79 ntmps79 ?_
 have H:=((((St.start w).arg hb).arg xm).arg qP).argAt hs
 have zt:=qU qP
 have vF:=qU xm
 have nhb:=qU hb
 clear hs qP xm hb
 refine zcr (sp (.bool false) (zjc (sp (.slice ab b.length cb) (sw (oq (l01Bag_ok _ b (H.get 3 rfl).1) H fun w1 H=>sp (.bool (dec (BagAny b))) ?_)))))
 cases h3:(dec (BagAny b))
 ·skip
  replace h3:=zo h3
  refine xO [8,9,10,11,12,13,14] (sps [.bool false,.bool false] (zjr (ret1 (.bool false) rfl rfl ⟨_,rfl,?_,H.base⟩)))
  rw [qZ (fun h=>‹¬ BagAny b› h.1)]
 replace h3:=jJ h3
 refine qO 7 rfl rfl (sp (.slice ab b.length cb) (qO 7 rfl rfl (oN rfl (qO 7 rfl rfl (sp (pp bs os) (qO 7 rfl rfl (sp (pp bs os) (qO 7 rfl rfl (oF rfl (qO 7 rfl rfl (oL rfl (H.zh 0 rfl 0 rfl) (qO 7 rfl rfl (sps [.bool ((b.length:Int) == s.qQ),.bool ((b.length:Int) == s.qQ),.bool ((b.length:Int) == s.qQ)] (zjr (ret1 (.bool ((b.length:Int) == s.qQ)) rfl rfl ⟨_,rfl,(congrArg Value.bool (dec_eq ?_)),H.base⟩)))))))))))))))
 rw [beq_iff_eq]
 exact ⟨fun h=>⟨‹_›,h⟩,fun h=>h.2⟩

theorem l02Frame_ok (w:World) (s:qG) {qE:yOA} {qV:yLN} {qI:yOA} {xx:yLN} (hs:jy w bs os (yS s qE qC qI qH)) (qP:qW.rep w qV [.slice qE s.qA.length qC] s.qA) (xm:qW.rep w xx [.slice qI s.qB.length qH] s.qB):Calls Tryz.prog 77 #[pp bs os] w (Ret (fun v w' =>v=.bool (dec (zN s))) w):=by
 refine en func77 ntmps77 ?_
 have H:=(((St.start w).arg xm).arg qP).argAt hs
 have zt:=qU qP
 have vF:=qU xm
 clear hs qP xm
 refine zcr (sp (.bool false) (zjcc (sps [pp bs os,pp bs os] (oF rfl (oL rfl (H.zh 0 rfl 0 rfl) (sw (oq (l00In_ok w s.qQ 1 8) H fun w1 H=>sps [.bool (!(inR s.qQ 1 8)),.bool (!(inR s.qQ 1 8))] ?_)))))))
 cases h3:(!(inR s.qQ 1 8))
 ·skip
  replace h3:=xf h3
  replace h3:=yQ.1 h3
  refine qO 10 rfl rfl (sp (pp bs os) (qO 10 rfl rfl (sp (pp bs os) (qO 10 rfl rfl (oF rfl (qO 10 rfl rfl (oL rfl (H.zh 0 rfl 1 rfl) (qO 10 rfl rfl (oN rfl (qO 10 rfl rfl (sw (oq (l00In_ok w1 s.qA.length 1 6) H fun w4 H=>qO 10 rfl rfl (sps [.bool (!(inR s.qA.length 1 6)),.bool (!(inR s.qA.length 1 6)),.bool (!(inR s.qA.length 1 6))] ?_)))))))))))))
  cases h6:(!(inR s.qA.length 1 6))
  ·skip
   replace h6:=xf h6
   replace h6:=yQ.1 h6
   refine qO 19 rfl rfl (sp (pp bs os) (qO 19 rfl rfl (sp (pp bs os) (qO 19 rfl rfl (oF rfl (qO 19 rfl rfl (oL rfl (H.zh 0 rfl 1 rfl) (qO 19 rfl rfl ?_))))))))
   obtain ⟨b7,o8,rfl⟩:=H.addr 1 rfl qf
   refine oI rfl rfl (qO 19 rfl rfl (oL rfl (H.ji 1 rfl 0 qf qf) (qO 19 rfl rfl (sps [.bool ((s.qA[0]! :Int) != (-1)),.bool ((s.qA[0]! :Int) != (-1))] (zjn (xI ((s.qA[0]! :Int) != (-1)) rfl (fun h9=>?_) (fun h9=>?_)))))))
   ·skip
    replace h9:=bne_iff_ne.1 h9
    refine zcr (sp (.bool false) (zjr (t_r (ret1 (.bool false) rfl rfl ⟨_,rfl,?_,H.base⟩))))
    rw [qZ (fun h=>by obtain ⟨h1,h2,h3,h4⟩:=h;first | omega | (have:=h4 k qf qf;omega))]
   replace h9:=vW h9
   refine xh (t_n (zcc (sp (yI 1) (zjn (xg ?_)))))
   refine zH (fun m' ρ w10=>∃ (xU:Env) (k:Nat),ρ=upd (upd xU 0 (pp bs os)) 3 (yI k)∧(k≤s.qA.length)∧(1≤k)∧(FrameTo s k)∧m' =s.qA.length - k∧St w w10 [] [atF bs os [yI s.qQ,.slice (aa b7 o8) s.qA.length qC,.slice qI s.qB.length qH],sF false qV (aa b7 o8) qC s.qA,sF false xx qI qH s.qB]) (s.qA.length - 1) ⟨_,1,uE2,qf,qf,(by exact FrameTo.one s),rfl,H⟩ ?_
   clear H
   rintro m' ρ w11 ⟨xU,k,rfl,i0,i2,i1,rfl,H⟩
   refine zcc (sps [yI k,pp bs os,pp bs os] (oF rfl (oL rfl (H.zh 0 rfl 1 rfl) (oN rfl (sp (.bool (decide ((k:Int) < s.qA.length))) (zjn (cD rfl (fun h12=>?_) (fun h12=>?_))))))))
   ·skip
    refine xh (t_n (x8 (xg (zcr (sps [pp bs os,pp bs os] (oF rfl (oL rfl (H.zh 0 rfl 1 rfl) (sp (yI k) (oI rfl rfl (oL rfl (H.ji 1 rfl k qf qf) (sp (yI k) (sw (o_sub k 1 rfl rfl qf (sw (oq (l00In_ok w11 (s.qA[k]!) 0 (k - 1)) H fun w13 H=>sp (.bool (!(inR (s.qA[k]!) 0 (k - 1)))) (zjn (xI (!(inR (s.qA[k]!) 0 (k - 1))) rfl (fun h15=>?_) (fun h15=>?_))))))))))))))))))
    ·skip
     replace h15:=xw h15
     replace h15:=Qy h15
     refine zcr (sp (.bool false) (zjr (zr5 (ret1 (.bool false) rfl rfl ⟨_,rfl,?_,H.base⟩))))
     rw [qZ (fun h=>by obtain ⟨h1,h2,h3,h4⟩:=h;first | omega | (have:=h4 k qf qf;omega))]
    replace h15:=xf h15
    replace h15:=yQ.1 h15
    refine xh (b_n (t_n (xZ (sp (yI k) (sw (zB k 1 rfl rfl qf (sp (yI (k+1)) (zi (xq (m' :=s.qA.length - (k+1)) qf ⟨_,k+1,uE2,?_,?_,?_,rfl,H⟩)))))))))
    · omega
    · omega
    · exact i1.succ ‹_›
   refine zx4 (zcr (sp (.bool true) (zjr (ret1 (.bool true) rfl rfl ⟨_,rfl,?_,H.base⟩))))
   obtain rfl:k=s.qA.length:=by omega
   rw [jL ⟨by omega,by omega,by omega,i1⟩]
  replace h6:=xw h6
  replace h6:=Qy h6
  refine xO [20,21,22,23,24,25,26] (sp (.bool true) (zjn (xI true rfl (fun _=>zcr (sp (.bool false) (zjr (t_r (ret1 (.bool false) rfl rfl ⟨_,rfl,?_,H.base⟩))))) (fun h=>absurd h qj))))
  rw [qZ (fun h=>by obtain ⟨h1,h2,h3,h4⟩:=h;first | omega | (have:=h4 k qf qf;omega))]
 replace h3:=xw h3
 replace h3:=Qy h3
 refine xO [11,12,13,14,15,16,17] (sps [.bool true,.bool true] (xO [20,21,22,23,24,25,26] (sp (.bool true) (zjn (xI true rfl (fun _=>zcr (sp (.bool false) (zjr (t_r (ret1 (.bool false) rfl rfl ⟨_,rfl,?_,H.base⟩))))) (fun h=>absurd h qj))))))
 rw [qZ (fun h=>by obtain ⟨h1,h2,h3,h4⟩:=h;first | omega | (have:=h4 k qf qf;omega))]

theorem l02In_ok (w:World) (s:qG) (c:Int) (other:Int) {qE:yOA} {qV:yLN} {qI:yOA} {xx:yLN} (hs:jy w bs os (yS s qE qC qI qH)) (qP:qW.rep w qV [.slice qE s.qA.length qC] s.qA) (xm:qW.rep w xx [.slice qI s.qB.length qH] s.qB) (p0:zN s) (p1:y8 s c):Calls Tryz.prog 93 #[pp bs os,yI c,yI other] w (Ret (fun v w' =>v=.bool (dec (Lies s.qA other c))) w):=by
 refine en func93 ntmps93 ?_
 have H:=(((St.start w).arg xm).arg qP).argAt hs
 have zt:=qU qP
 have vF:=qU xm
 clear hs qP xm
 refine zcr (sp (.bool false) (zjn (x8 (xg ?_))))
 refine zH (fun m' ρ w1=>∃ (xU:Env) (y:Int),ρ=upd (upd (upd xU 0 (pp bs os)) 1 (yI y)) 2 (yI other)∧(0≤y∧y≤(s.qA.length:Int) - 1)∧(Lies s.qA other c↔Lies s.qA other y)∧m' =y.toNat∧St w w1 [] [atF bs os (yS s qE qC qI qH),sF false qV qE qC s.qA,sF false xx qI qH s.qB]) (c.toNat) ⟨_,c,uE3,(by exact p1),(by exact Iff.rfl),rfl,H⟩ ?_
 clear H
 rintro m' ρ w2 ⟨xU,y,rfl,i0,i1,rfl,H⟩
 have up:=fun h=>p0.up (c:=y) h i0.2
 refine zcc (sps [yI y,.bool (decide ((y:Int) > 0))] (zjn (cD rfl (fun h3=>?_) (fun h3=>?_))))
 ·skip
  refine xh (t_n (xg (zcr (sps [pp bs os,pp bs os] (oF rfl (oL rfl (H.zh 0 rfl 1 rfl) (sp (yI y) ?_)))))))
  obtain ⟨b4,o5,rfl⟩:=H.addr 1 rfl qf
  refine oI rfl rfl (oL rfl (H.ji 1 rfl y qf qf) (sp (yI (s.qA[y.toNat]!)) (zjc (sps [yI (s.qA[y.toNat]!),yI other,.bool ((s.qA[y.toNat]! :Int) == other)] (zjn (cE rfl (fun h6=>?_) (fun h6=>?_)))))))
  ·skip
   refine zcr (sp (.bool true) (zjr (b_r (t_r (b_r (t_r (ret1 (.bool true) rfl rfl ⟨_,rfl,?_,H.base⟩)))))))
   rw [jL (i1.2 (.here qf ‹_›))]
  refine xh (b_n ?_)
  have up1:=up qf
  refine xq (m' :=(s.qA[y.toNat]!).toNat) qf ⟨_,(s.qA[y.toNat]!),uE3,?_,?_,rfl,H⟩
  · have:=up qf;omega
  · exact i1.trans (lies_iff.trans ⟨fun h=>h.2.resolve_left ‹_›,fun h=>⟨by omega,.inr h⟩⟩)
 refine zx4 (zcr (sp (.bool false) (zjr (ret1 (.bool false) rfl rfl ⟨_,rfl,?_,H.base⟩))))
 rw [qZ (fun h=>by have:=(lies_iff.1 (i1.1 h)).1;omega)]

theorem l02Rule_ok (w:World) (s:qG) (r:zK) {qE:yOA} {qV:yLN} {qI:yOA} {xx:yLN} {br or:Nat} {vk:yOA} {zY:Nat} {yL:yLN} {vC:yOA} {vg:Nat} {yP:yLN} {vw:yOA} {zZ:Nat} {yM:yLN} {vz:yOA} {ve:Nat} {yO:yLN} {jO:yOA} {jM:Nat} {Xz:yLN} {zV:yOA} {zT:Nat} {Qh:yLN} (hs:jy w bs os (yS s qE qC qI qH)) (qP:qW.rep w qV [.slice qE s.qA.length qC] s.qA) (xm:qW.rep w xx [.slice qI s.qB.length qH] s.qB) (hr:jy w br or [yI r.qF,yI r.zM,.slice vk r.xu.length zY,.slice vC r.xM.length vg,.slice vw r.xK.length zZ,.slice vz r.xF.length ve,.slice jO r.zI.length jM,.slice zV r.qL.length zT,.bool r.xR]) (hrNeed:qW.rep w yL [.slice vk r.xu.length zY] r.xu) (hrHave:qW.rep w yP [.slice vC r.xM.length vg] r.xM) (hrLack:qW.rep w yM [.slice vw r.xK.length zZ] r.xK) (hrHere:qW.rep w yO [.slice vz r.xF.length ve] r.xF) (hrOut:qW.rep w Xz [.slice jO r.zI.length jM] r.zI) (hrInto:qW.rep w Qh [.slice zV r.qL.length zT] r.qL) (p0:zN s):Calls Tryz.prog 78 #[pp bs os,pp br or] w (Ret (fun v w' =>v=.bool (dec (RuleOk s r))) w):=by
 refine en func78 ntmps78 ?_
 have H:=((((((((((St.start w).arg hrInto).arg hrOut).arg hrHere).arg hrLack).arg hrHave).arg hrNeed).argAt hr).arg xm).arg qP).argAt hs
 have zt:=qU qP
 have vF:=qU xm
 have nhrNeed:=qU hrNeed
 have nhrHave:=qU hrHave
 have nhrLack:=qU hrLack
 have nhrHere:=qU hrHere
 have nhrOut:=qU hrOut
 have nhrInto:=qU hrInto
 clear hs qP xm hr hrNeed hrHave hrLack hrHere hrOut hrInto
 refine zcr (sp (.bool false) (zjn (x8 (x8 ?_))))
 refine yf rfl H fun H=>rtp 0 (pp br or) H ?_
 refine rtp 1 (pp br or) H ?_
 refine tF 2 rfl rfl H ?_
 refine tL 3 rfl rfl (fun _ h=>h.zh 3 rfl 0 rfl) H ?_
 refine rtp 4 (pp bs os) H ?_
 refine rtp 5 (pp bs os) H ?_
 refine tF 6 rfl rfl H ?_
 refine tL 7 rfl rfl (fun _ h=>h.zh 0 rfl 1 rfl) H ?_
 refine tN 8 rfl rfl H ?_
 refine rt 9 (yI (s.qA.length - 1)) (y_sub s.qA.length 1 rfl rfl qf) H ?_
 refine ro 10 rfl (oq (l00In_ok w.drew r.qF 0 (s.qA.length - 1)) H fun w2 H=>⟨H,(rtp 11 (.bool (!(inR r.qF 0 (s.qA.length - 1)))) H ?_)⟩)
 refine rtp 12 (.bool (!(inR r.qF 0 (s.qA.length - 1)))) H ?_
 cases h4:(!(inR r.qF 0 (s.qA.length - 1)))
 ·skip
  replace h4:=xf h4
  replace h4:=yQ.1 h4
  refine rgp 13 (pp br or) 19 H ?_
  refine rgp 14 (pp br or) 19 H ?_
  refine gF 15 rfl rfl H ?_
  refine gL 16 rfl rfl (fun _ h=>h.zh 3 rfl 1 rfl) H ?_
  refine jd [17] qh qm (r_opG rfl (e:=19) rfl rfl (oq (l00In_ok w2 r.zM 0 9) H fun w5 H=>⟨H,(rgp 18 (.bool (!(inR r.zM 0 9))) 19 H ?_)⟩) je)
  refine rtp 19 (.bool (!(inR r.zM 0 9))) H ?_
  refine rtp 20 (.bool (!(inR r.zM 0 9))) H ?_
  cases h7:(!(inR r.zM 0 9))
  ·skip
   replace h7:=xf h7
   replace h7:=yQ.1 h7
   refine rgp 21 (pp br or) 27 H ?_
   refine rgp 22 (pp br or) 27 H ?_
   refine gF 23 rfl rfl H ?_
   refine gL 24 rfl rfl (fun _ h=>h.zh 3 rfl 8 rfl) H ?_
   refine rgp 25 (.bool r.xR) 27 H ?_
   cases h8:(r.xR)
   ·skip
    rw [h8] at H
    refine zD [26,27,28,29,30] 5 (H) (rgp 31 (.bool false) 27 H ?_)
    refine rtp 32 (.bool false) H ?_
    refine rtp 33 (.bool false) H ?_
    refine rgp 34 (pp br or) 40 H ?_
    refine rgp 35 (pp br or) 40 H ?_
    refine gF 36 rfl rfl H ?_
    refine gL 37 rfl rfl (fun _ h=>h.zh 3 rfl 7 rfl) H ?_
    refine gN 38 rfl rfl H ?_
    refine rgp 39 (.bool (decide ((r.qL.length:Int) > 3))) 40 H ?_
    refine rtp 40 (.bool (decide ((r.qL.length:Int) > 3))) H ?_
    refine xH qh (t_n (cD rfl (fun h9=>?_) (fun h9=>?_)))
    ·skip
     refine zcr (sp (.bool false) (zjr (t_r (ret1 (.bool false) rfl rfl ⟨_,rfl,?_,H.base⟩))))
     rw [qZ (fun h=>by obtain ⟨h1,h2,h3,h4,h5,h6,h7,h8,h9,h10,h11⟩:=h;first | contradiction | omega | exact h3 ⟨‹_›,‹_›⟩ | (obtain ⟨q1,q2,q3,q4,q5⟩:=h11 k qf;first | contradiction | omega | (have:=q5 qf;omega)))]
    refine xh (t_n (zcc (sps [pp bs os,pp br or,pp br or] (oF rfl (oL rfl (H.zh 3 rfl 2 rfl) (sw (oq (yU _ s r.xu (qK (H.get 0 rfl) 0 3) (H.get 1 rfl).1 (H.get 2 rfl).1 (H.get 4 rfl).1) H fun w10 H=>sps [.bool (!(dec (zy s.qQ r.xu))),.bool (!(dec (zy s.qQ r.xu)))] ?_)))))))
    cases h12:(!(dec (zy s.qQ r.xu)))
    ·skip
     replace h12:=xf h12
     replace h12:=jJ h12
     refine qO 55 rfl rfl (sp (pp bs os) (qO 55 rfl rfl (sp (pp br or) (qO 55 rfl rfl (sp (pp br or) (qO 55 rfl rfl (oF rfl (qO 55 rfl rfl (oL rfl (H.zh 3 rfl 3 rfl) (qO 55 rfl rfl (sw (oq (yU _ s r.xM (qK (H.get 0 rfl) 0 3) (H.get 1 rfl).1 (H.get 2 rfl).1 (H.get 5 rfl).1) H fun w13 H=>qO 55 rfl rfl (sps [.bool (!(dec (zy s.qQ r.xM))),.bool (!(dec (zy s.qQ r.xM))),.bool (!(dec (zy s.qQ r.xM)))] ?_)))))))))))))
     cases h15:(!(dec (zy s.qQ r.xM)))
     ·skip
      replace h15:=xf h15
      replace h15:=jJ h15
      refine qO 64 rfl rfl (sp (pp bs os) (qO 64 rfl rfl (sp (pp br or) (qO 64 rfl rfl (sp (pp br or) (qO 64 rfl rfl (oF rfl (qO 64 rfl rfl (oL rfl (H.zh 3 rfl 4 rfl) (qO 64 rfl rfl (sw (oq (yU _ s r.xK (qK (H.get 0 rfl) 0 3) (H.get 1 rfl).1 (H.get 2 rfl).1 (H.get 6 rfl).1) H fun w16 H=>qO 64 rfl rfl (sps [.bool (!(dec (zy s.qQ r.xK))),.bool (!(dec (zy s.qQ r.xK))),.bool (!(dec (zy s.qQ r.xK)))] ?_)))))))))))))
      cases h18:(!(dec (zy s.qQ r.xK)))
      ·skip
       replace h18:=xf h18
       replace h18:=jJ h18
       refine qO 73 rfl rfl (sp (pp bs os) (qO 73 rfl rfl (sp (pp br or) (qO 73 rfl rfl (sp (pp br or) (qO 73 rfl rfl (oF rfl (qO 73 rfl rfl (oL rfl (H.zh 3 rfl 5 rfl) (qO 73 rfl rfl (sw (oq (yU _ s r.xF (qK (H.get 0 rfl) 0 3) (H.get 1 rfl).1 (H.get 2 rfl).1 (H.get 7 rfl).1) H fun w19 H=>qO 73 rfl rfl (sps [.bool (!(dec (zy s.qQ r.xF))),.bool (!(dec (zy s.qQ r.xF))),.bool (!(dec (zy s.qQ r.xF)))] ?_)))))))))))))
       cases h21:(!(dec (zy s.qQ r.xF)))
       ·skip
        replace h21:=xf h21
        replace h21:=jJ h21
        refine qO 82 rfl rfl (sp (pp bs os) (qO 82 rfl rfl (sp (pp br or) (qO 82 rfl rfl (sp (pp br or) (qO 82 rfl rfl (oF rfl (qO 82 rfl rfl (oL rfl (H.zh 3 rfl 6 rfl) (qO 82 rfl rfl (sw (oq (yU _ s r.zI (qK (H.get 0 rfl) 0 3) (H.get 1 rfl).1 (H.get 2 rfl).1 (H.get 8 rfl).1) H fun w22 H=>qO 82 rfl rfl (sps [.bool (!(dec (zy s.qQ r.zI))),.bool (!(dec (zy s.qQ r.zI))),.bool (!(dec (zy s.qQ r.zI)))] ?_)))))))))))))
        cases h24:(!(dec (zy s.qQ r.zI)))
        ·skip
         replace h24:=xf h24
         replace h24:=jJ h24
         refine qO 91 rfl rfl (sp (pp br or) (qO 91 rfl rfl (sp (pp br or) (qO 91 rfl rfl (oF rfl (qO 91 rfl rfl (oL rfl (H.zh 3 rfl 2 rfl) (qO 91 rfl rfl (sw (oq (l01Size_ok _ r.xu (H.get 4 rfl).1 (by first | assumption | exact vY ql | exact yY ql)) H fun w25 H=>qO 91 rfl rfl (sps [.bool ((Xc r.xu:Int) == 0),.bool ((Xc r.xu:Int) == 0)] (zjn (cE rfl (fun h27=>?_) (fun h27=>?_))))))))))))))
         ·skip
          refine zcr (sp (.bool false) (zjr (t_r (ret1 (.bool false) rfl rfl ⟨_,rfl,?_,H.base⟩))))
          rw [qZ (fun h=>by obtain ⟨h1,h2,h3,h4,h5,h6,h7,h8,h9,h10,h11⟩:=h;first | contradiction | omega | exact h3 ⟨‹_›,‹_›⟩ | (obtain ⟨q1,q2,q3,q4,q5⟩:=h11 k qf;first | contradiction | omega | (have:=q5 qf;omega)))]
         refine xh (t_n (zcc (sp (yI 0) (zjn (xg ?_)))))
         refine zH (fun m' ρ w28=>∃ (xU:Env) (k:Nat),ρ=upd (upd (upd xU 0 (pp bs os)) 1 (pp br or)) 5 (yI k)∧(k≤r.qL.length)∧(IntosTo s r k)∧m' =r.qL.length - k∧St w w28 [] [atF bs os (yS s qE qC qI qH),sF false qV qE qC s.qA,sF false xx qI qH s.qB,atF br or [yI r.qF,yI r.zM,.slice vk r.xu.length zY,.slice vC r.xM.length vg,.slice vw r.xK.length zZ,.slice vz r.xF.length ve,.slice jO r.zI.length jM,.slice zV r.qL.length zT,.bool false],sF false yL vk zY r.xu,sF false yP vC vg r.xM,sF false yM vw zZ r.xK,sF false yO vz ve r.xF,sF false Xz jO jM r.zI,sF false Qh zV zT r.qL]) (r.qL.length - 0) ⟨_,0,uE3,qf,qx,rfl,H⟩ ?_
         clear H
         rintro m' ρ w29 ⟨xU,k,rfl,i0,i1,rfl,H⟩
         refine zcc (sps [yI k,pp br or,pp br or] (oF rfl (oL rfl (H.zh 3 rfl 7 rfl) (oN rfl (sp (.bool (decide ((k:Int) < r.qL.length))) (zjn (cD rfl (fun h30=>?_) (fun h30=>?_))))))))
         ·skip
          refine xh (t_n (x8 (xg (zcr (sps [pp br or,pp br or] (oF rfl (oL rfl (H.zh 3 rfl 7 rfl) (sp (yI k) ?_))))))))
          obtain ⟨b31,o32,rfl⟩:=H.addr 9 rfl qf
          obtain ⟨ae33Bag,ce33Bag,Fe33Bag,H⟩:=H.yt 9 rfl k k qf qf qf
          refine oI rfl rfl (sp (pp b31 (o32+(k:Int).toNat * 2)) (zjn (x8 (x8 ?_))))
          refine yf rfl H fun H=>rtp 0 (pp b31 (o32+(k:Int).toNat * 2)) H ?_
          refine rtp 1 (pp b31 (o32+(k:Int).toNat * 2)) H ?_
          refine tF 2 rfl rfl H ?_
          refine tL 3 rfl rfl (fun _ h=>h.zh 1 rfl 0 rfl) H ?_
          refine rtp 4 (pp bs os) H ?_
          refine rtp 5 (pp bs os) H ?_
          refine tF 6 rfl rfl H ?_
          refine tL 7 rfl rfl (fun _ h=>h.zh 2 rfl 1 rfl) H ?_
          refine tN 8 rfl rfl H ?_
          refine rt 9 (yI (s.qA.length - 1)) (y_sub s.qA.length 1 rfl rfl qf) H ?_
          refine ro 10 rfl (oq (l00In_ok w29.drew ((r.qL[k]!).qF) 0 (s.qA.length - 1)) H fun w35 H=>⟨H,(rtp 11 (.bool (!(inR ((r.qL[k]!).qF) 0 (s.qA.length - 1)))) H ?_)⟩)
          refine rtp 12 (.bool (!(inR ((r.qL[k]!).qF) 0 (s.qA.length - 1)))) H ?_
          cases h37:(!(inR ((r.qL[k]!).qF) 0 (s.qA.length - 1)))
          ·skip
           replace h37:=xf h37
           replace h37:=yQ.1 h37
           refine rgp 13 (pp bs os) 126 H ?_
           refine rgp 14 (pp b31 (o32+(k:Int).toNat * 2)) 126 H ?_
           refine rgp 15 (pp b31 (o32+(k:Int).toNat * 2)) 126 H ?_
           refine gF 16 rfl rfl H ?_
           refine gL 17 rfl rfl (fun _ h=>h.zh 1 rfl 0 rfl) H ?_
           refine rgp 18 (pp br or) 126 H ?_
           refine rgp 19 (pp br or) 126 H ?_
           refine gF 20 rfl rfl H ?_
           refine gL 21 rfl rfl (fun _ h=>h.zh 5 rfl 0 rfl) H ?_
           refine jd [22] qh qm (r_opG rfl (e:=126) rfl rfl (oq (l02In_ok _ s ((r.qL[k]!).qF) r.qF (qK (H.get 2 rfl) 0 3) (H.get 3 rfl).1 (H.get 4 rfl).1 ql ql) H fun w38 H=>⟨H,(rgp 23 (.bool (!(dec (Lies s.qA r.qF ((r.qL[k]!).qF))))) 126 H ?_)⟩) je)
           refine rtp 24 (.bool (!(dec (Lies s.qA r.qF ((r.qL[k]!).qF))))) H ?_
           refine rtp 25 (.bool (!(dec (Lies s.qA r.qF ((r.qL[k]!).qF))))) H ?_
           cases h40:(!(dec (Lies s.qA r.qF ((r.qL[k]!).qF))))
           ·skip
            replace h40:=xf h40
            replace h40:=jJ h40
            refine rgp 26 (pp bs os) 139 H ?_
            refine rgp 27 (pp b31 (o32+(k:Int).toNat * 2)) 139 H ?_
            refine rgp 28 (pp b31 (o32+(k:Int).toNat * 2)) 139 H ?_
            refine gF 29 rfl rfl H ?_
            refine gL 30 rfl rfl (fun _ h=>h.zh 1 rfl 1 rfl) H ?_
            refine jd [31] qh qm (r_opG rfl (e:=139) rfl rfl (oq (yU _ s ((r.qL[k]!).jR) (qK (H.get 2 rfl) 0 3) (H.get 3 rfl).1 (H.get 4 rfl).1 (H.get 0 rfl).1) H fun w41 H=>⟨H,(rgp 32 (.bool (!(dec (zy s.qQ ((r.qL[k]!).jR))))) 139 H ?_)⟩) je)
            refine rtp 33 (.bool (!(dec (zy s.qQ ((r.qL[k]!).jR))))) H ?_
            refine rtp 34 (.bool (!(dec (zy s.qQ ((r.qL[k]!).jR))))) H ?_
            cases h43:(!(dec (zy s.qQ ((r.qL[k]!).jR))))
            ·skip
             replace h43:=xf h43
             replace h43:=jJ h43
             refine rgp 35 (pp b31 (o32+(k:Int).toNat * 2)) 148 H ?_
             refine rgp 36 (pp b31 (o32+(k:Int).toNat * 2)) 148 H ?_
             refine gF 37 rfl rfl H ?_
             refine gL 38 rfl rfl (fun _ h=>h.zh 1 rfl 1 rfl) H ?_
             refine jd [39] qh qm (r_opG rfl (e:=148) rfl rfl (oq (l01Size_ok _ ((r.qL[k]!).jR) (H.get 0 rfl).1 (by first | assumption | exact vY ql | exact yY ql)) H fun w44 H=>⟨H,(rgp 40 (.bool ((Xc ((r.qL[k]!).jR):Int) == 0)) 148 H ?_)⟩) je)
             refine rtp 41 (.bool ((Xc ((r.qL[k]!).jR):Int) == 0)) H ?_
             refine xH qh (t_n (cE rfl (fun h46=>?_) (fun h46=>?_)))
             ·skip
              refine zcr (sp (.bool false) (zjr (t_r (zr5 (ret1 (.bool false) rfl rfl ⟨_,rfl,?_,H.base⟩)))))
              rw [qZ (fun h=>by obtain ⟨h1,h2,h3,h4,h5,h6,h7,h8,h9,h10,h11⟩:=h;first | contradiction | omega | exact h3 ⟨‹_›,‹_›⟩ | (obtain ⟨q1,q2,q3,q4,q5⟩:=h11 k qf;first | contradiction | omega | (have:=q5 qf;omega)))]
             refine xh (t_n (x8 ?_))
             refine yf rfl H fun H=>rtp 0 (yI k) H ?_
             refine rtp 1 (.bool (decide ((k:Int) > 0))) H ?_
             refine rtp 2 (.bool (decide ((k:Int) > 0))) H ?_
             cases h48:(decide ((k:Int) > 0))
             ·skip
              replace h48:=of_decide_eq_false h48
              refine zD [3,4,5,6,7,8,9,10,11,12,13,14,15,16] 14 (H) (rtp 17 (.bool false) H ?_)
              refine xH qh (t_n (xI false rfl (fun h=>absurd h qj) (fun _=>xh (b_n (t_n (xZ (sp (yI k) (sw (zB k 1 rfl rfl qf (sp (yI (k+1)) (zi (xq (m' :=r.qL.length - (k+1)) qf ⟨_,k+1,uE3,?_,?_,rfl,H.sel _ (.refl _) _ qm⟩))))))))))))
              · omega
              · exact i1.succ ⟨‹_›,‹_›,‹_›,‹_›,fun hk=>by omega⟩
             replace h48:=of_decide_eq_true h48
             refine rgp 3 (pp br or) 158 H ?_
             refine rgp 4 (pp br or) 158 H ?_
             refine gF 5 rfl rfl H ?_
             refine gL 6 rfl rfl (fun _ h=>h.zh 5 rfl 7 rfl) H ?_
             refine rgp 7 (yI k) 158 H ?_
             refine rg 8 (yI (k - 1)) 158 (y_sub k 1 rfl rfl qf) H ?_
             obtain ⟨ae49Bag,ce49Bag,Fe49Bag,H⟩:=H.yt 11 rfl (k - 1) (k - 1) qf qf qf
             refine gI 9 rfl rfl rfl (H.sel _ (.refl _) _ (fun _ h=>List.mem_cons_of_mem _ (List.mem_cons_of_mem _ (h)))) ?_
             refine gF 10 rfl rfl (H.sel _ (.refl _) _ (fun _ h=>List.mem_cons_of_mem _ (List.mem_cons_of_mem _ (h)))) ?_
             refine rgp 12 (pp b31 (o32+(k:Int).toNat * 2)) 158 (H.sel _ (.refl _) _ (fun _ h=>List.mem_cons_of_mem _ (List.mem_cons_of_mem _ (h)))) ?_
             refine rgp 13 (pp b31 (o32+(k:Int).toNat * 2)) 158 (H.sel _ (.refl _) _ (fun _ h=>List.mem_cons_of_mem _ (List.mem_cons_of_mem _ (h)))) ?_
             refine gF 14 rfl rfl (H.sel _ (.refl _) _ (fun _ h=>List.mem_cons_of_mem _ (List.mem_cons_of_mem _ (h)))) ?_
             refine gL 15 rfl rfl (fun _ h=>h.zh 1 rfl 0 rfl) (H.sel _ (.refl _) _ (fun _ h=>List.mem_cons_of_mem _ (List.mem_cons_of_mem _ (h)))) ?_
             refine jd [11] qh qm (r_opG rfl (e:=158) rfl rfl (xX (yI ((r.qL[k - 1]!).qF)) isAgg2 rfl (H.zh 1 rfl 0 rfl) (⟨H.dF 2,(rgp 16 (.bool (decide (((r.qL[k - 1]!).qF:Int)≥((r.qL[k]!).qF)))) 158 (H.sel _ (.refl _) _ (fun _ h=>List.mem_cons_of_mem _ (List.mem_cons_of_mem _ (h)))) ?_)⟩)) je)
             refine rtp 17 (.bool (decide (((r.qL[k - 1]!).qF:Int)≥((r.qL[k]!).qF)))) (H.sel _ (.refl _) _ (fun _ h=>List.mem_cons_of_mem _ (List.mem_cons_of_mem _ (h)))) ?_
             refine xH qh (t_n (cD rfl (fun h50=>?_) (fun h50=>?_)))
             ·skip
              refine zcr (sp (.bool false) (zjr (zr5 (ret1 (.bool false) rfl rfl ⟨_,rfl,?_,H.base⟩))))
              rw [qZ (fun h=>by obtain ⟨h1,h2,h3,h4,h5,h6,h7,h8,h9,h10,h11⟩:=h;first | contradiction | omega | exact h3 ⟨‹_›,‹_›⟩ | (obtain ⟨q1,q2,q3,q4,q5⟩:=h11 k qf;first | contradiction | omega | (have:=q5 qf;omega)))]
             refine xh (b_n (t_n (xZ (sp (yI k) (sw (zB k 1 rfl rfl qf (sp (yI (k+1)) (zi (xq (m' :=r.qL.length - (k+1)) qf ⟨_,k+1,uE3,?_,?_,rfl,H.sel _ (.refl _) _ qm⟩)))))))))
             · omega
             · exact i1.succ ⟨‹_›,‹_›,‹_›,‹_›,fun hk=>by omega⟩
            replace h43:=xw h43
            replace h43:=zo h43
            refine zD [35,36,37,38,39,40] 6 (H) (rtp 41 (.bool true) H ?_)
            refine xH qh (t_n (xI true rfl (fun _=>zcr (sp (.bool false) (zjr (t_r (zr5 (ret1 (.bool false) rfl rfl ⟨_,rfl,?_,H.base⟩)))))) (fun h=>absurd h qj)))
            rw [qZ (fun h=>by obtain ⟨h1,h2,h3,h4,h5,h6,h7,h8,h9,h10,h11⟩:=h;first | contradiction | omega | exact h3 ⟨‹_›,‹_›⟩ | (obtain ⟨q1,q2,q3,q4,q5⟩:=h11 k qf;first | contradiction | omega | (have:=q5 qf;omega)))]
           replace h40:=xw h40
           replace h40:=zo h40
           refine zD [26,27,28,29,30,31,32] 7 (H) (rtp 33 (.bool true) H ?_)
           refine rtp 34 (.bool true) H ?_
           refine zD [35,36,37,38,39,40] 6 (H) (rtp 41 (.bool true) H ?_)
           refine xH qh (t_n (xI true rfl (fun _=>zcr (sp (.bool false) (zjr (t_r (zr5 (ret1 (.bool false) rfl rfl ⟨_,rfl,?_,H.base⟩)))))) (fun h=>absurd h qj)))
           rw [qZ (fun h=>by obtain ⟨h1,h2,h3,h4,h5,h6,h7,h8,h9,h10,h11⟩:=h;first | contradiction | omega | exact h3 ⟨‹_›,‹_›⟩ | (obtain ⟨q1,q2,q3,q4,q5⟩:=h11 k qf;first | contradiction | omega | (have:=q5 qf;omega)))]
          replace h37:=xw h37
          replace h37:=Qy h37
          refine zD [13,14,15,16,17,18,19,20,21,22,23] 11 (H) (rtp 24 (.bool true) H ?_)
          refine rtp 25 (.bool true) H ?_
          refine zD [26,27,28,29,30,31,32] 7 (H) (rtp 33 (.bool true) H ?_)
          refine rtp 34 (.bool true) H ?_
          refine zD [35,36,37,38,39,40] 6 (H) (rtp 41 (.bool true) H ?_)
          refine xH qh (t_n (xI true rfl (fun _=>zcr (sp (.bool false) (zjr (t_r (zr5 (ret1 (.bool false) rfl rfl ⟨_,rfl,?_,H.base⟩)))))) (fun h=>absurd h qj)))
          rw [qZ (fun h=>by obtain ⟨h1,h2,h3,h4,h5,h6,h7,h8,h9,h10,h11⟩:=h;first | contradiction | omega | exact h3 ⟨‹_›,‹_›⟩ | (obtain ⟨q1,q2,q3,q4,q5⟩:=h11 k qf;first | contradiction | omega | (have:=q5 qf;omega)))]
         refine zx4 (zcr (sp (.bool true) (zjr (ret1 (.bool true) rfl rfl ⟨_,rfl,?_,H.base⟩))))
         obtain rfl:k=r.qL.length:=by omega
         rw [jL ⟨by assumption,by omega,by simp_all,by omega,by assumption,by assumption,by assumption,by assumption,by assumption,by assumption,i1⟩]
        replace h24:=xw h24
        replace h24:=zo h24
        refine xO [92,93,94,95,96,97] (sp (.bool true) (zjn (xI true rfl (fun _=>zcr (sp (.bool false) (zjr (t_r (ret1 (.bool false) rfl rfl ⟨_,rfl,?_,H.base⟩))))) (fun h=>absurd h qj))))
        rw [qZ (fun h=>by obtain ⟨h1,h2,h3,h4,h5,h6,h7,h8,h9,h10,h11⟩:=h;first | contradiction | omega | exact h3 ⟨‹_›,‹_›⟩ | (obtain ⟨q1,q2,q3,q4,q5⟩:=h11 k qf;first | contradiction | omega | (have:=q5 qf;omega)))]
       replace h21:=xw h21
       replace h21:=zo h21
       refine xO [83,84,85,86,87,88,89] (sps [.bool true,.bool true] (xO [92,93,94,95,96,97] (sp (.bool true) (zjn (xI true rfl (fun _=>zcr (sp (.bool false) (zjr (t_r (ret1 (.bool false) rfl rfl ⟨_,rfl,?_,H.base⟩))))) (fun h=>absurd h qj))))))
       rw [qZ (fun h=>by obtain ⟨h1,h2,h3,h4,h5,h6,h7,h8,h9,h10,h11⟩:=h;first | contradiction | omega | exact h3 ⟨‹_›,‹_›⟩ | (obtain ⟨q1,q2,q3,q4,q5⟩:=h11 k qf;first | contradiction | omega | (have:=q5 qf;omega)))]
      replace h18:=xw h18
      replace h18:=zo h18
      refine xO [74,75,76,77,78,79,80] (sps [.bool true,.bool true] (xO [83,84,85,86,87,88,89] (sps [.bool true,.bool true] (xO [92,93,94,95,96,97] (sp (.bool true) (zjn (xI true rfl (fun _=>zcr (sp (.bool false) (zjr (t_r (ret1 (.bool false) rfl rfl ⟨_,rfl,?_,H.base⟩))))) (fun h=>absurd h qj))))))))
      rw [qZ (fun h=>by obtain ⟨h1,h2,h3,h4,h5,h6,h7,h8,h9,h10,h11⟩:=h;first | contradiction | omega | exact h3 ⟨‹_›,‹_›⟩ | (obtain ⟨q1,q2,q3,q4,q5⟩:=h11 k qf;first | contradiction | omega | (have:=q5 qf;omega)))]
     replace h15:=xw h15
     replace h15:=zo h15
     refine xO [65,66,67,68,69,70,71] (sps [.bool true,.bool true] (xO [74,75,76,77,78,79,80] (sps [.bool true,.bool true] (xO [83,84,85,86,87,88,89] (sps [.bool true,.bool true] (xO [92,93,94,95,96,97] (sp (.bool true) (zjn (xI true rfl (fun _=>zcr (sp (.bool false) (zjr (t_r (ret1 (.bool false) rfl rfl ⟨_,rfl,?_,H.base⟩))))) (fun h=>absurd h qj))))))))))
     rw [qZ (fun h=>by obtain ⟨h1,h2,h3,h4,h5,h6,h7,h8,h9,h10,h11⟩:=h;first | contradiction | omega | exact h3 ⟨‹_›,‹_›⟩ | (obtain ⟨q1,q2,q3,q4,q5⟩:=h11 k qf;first | contradiction | omega | (have:=q5 qf;omega)))]
    replace h12:=xw h12
    replace h12:=zo h12
    refine xO [56,57,58,59,60,61,62] (sps [.bool true,.bool true] (xO [65,66,67,68,69,70,71] (sps [.bool true,.bool true] (xO [74,75,76,77,78,79,80] (sps [.bool true,.bool true] (xO [83,84,85,86,87,88,89] (sps [.bool true,.bool true] (xO [92,93,94,95,96,97] (sp (.bool true) (zjn (xI true rfl (fun _=>zcr (sp (.bool false) (zjr (t_r (ret1 (.bool false) rfl rfl ⟨_,rfl,?_,H.base⟩))))) (fun h=>absurd h qj))))))))))))
    rw [qZ (fun h=>by obtain ⟨h1,h2,h3,h4,h5,h6,h7,h8,h9,h10,h11⟩:=h;first | contradiction | omega | exact h3 ⟨‹_›,‹_›⟩ | (obtain ⟨q1,q2,q3,q4,q5⟩:=h11 k qf;first | contradiction | omega | (have:=q5 qf;omega)))]
   rw [h8] at H
   refine rgp 26 (pp br or) 32 H ?_
   refine rgp 27 (pp br or) 32 H ?_
   refine gF 28 rfl rfl H ?_
   refine gL 29 rfl rfl (fun _ h=>h.zh 3 rfl 0 rfl) H ?_
   refine rgp 30 (.bool ((r.qF:Int) == 0)) 32 H ?_
   refine rgp 31 (.bool ((r.qF:Int) == 0)) 27 H ?_
   refine rtp 32 (.bool ((r.qF:Int) == 0)) H ?_
   refine rtp 33 (.bool ((r.qF:Int) == 0)) H ?_
   cases h51:((r.qF:Int) == 0)
   ·skip
    replace h51:=ne_of_beq_false h51
    refine rgp 34 (pp br or) 40 H ?_
    refine rgp 35 (pp br or) 40 H ?_
    refine gF 36 rfl rfl H ?_
    refine gL 37 rfl rfl (fun _ h=>h.zh 3 rfl 7 rfl) H ?_
    refine gN 38 rfl rfl H ?_
    refine rgp 39 (.bool (decide ((r.qL.length:Int) > 3))) 40 H ?_
    refine rtp 40 (.bool (decide ((r.qL.length:Int) > 3))) H ?_
    refine xH qh (t_n (cD rfl (fun h52=>?_) (fun h52=>?_)))
    ·skip
     refine zcr (sp (.bool false) (zjr (t_r (ret1 (.bool false) rfl rfl ⟨_,rfl,?_,H.base⟩))))
     rw [qZ (fun h=>by obtain ⟨h1,h2,h3,h4,h5,h6,h7,h8,h9,h10,h11⟩:=h;first | contradiction | omega | exact h3 ⟨‹_›,‹_›⟩ | (obtain ⟨q1,q2,q3,q4,q5⟩:=h11 k qf;first | contradiction | omega | (have:=q5 qf;omega)))]
    refine xh (t_n (zcc (sps [pp bs os,pp br or,pp br or] (oF rfl (oL rfl (H.zh 3 rfl 2 rfl) (sw (oq (yU _ s r.xu (qK (H.get 0 rfl) 0 3) (H.get 1 rfl).1 (H.get 2 rfl).1 (H.get 4 rfl).1) H fun w53 H=>sps [.bool (!(dec (zy s.qQ r.xu))),.bool (!(dec (zy s.qQ r.xu)))] ?_)))))))
    cases h55:(!(dec (zy s.qQ r.xu)))
    ·skip
     replace h55:=xf h55
     replace h55:=jJ h55
     refine qO 55 rfl rfl (sp (pp bs os) (qO 55 rfl rfl (sp (pp br or) (qO 55 rfl rfl (sp (pp br or) (qO 55 rfl rfl (oF rfl (qO 55 rfl rfl (oL rfl (H.zh 3 rfl 3 rfl) (qO 55 rfl rfl (sw (oq (yU _ s r.xM (qK (H.get 0 rfl) 0 3) (H.get 1 rfl).1 (H.get 2 rfl).1 (H.get 5 rfl).1) H fun w56 H=>qO 55 rfl rfl (sps [.bool (!(dec (zy s.qQ r.xM))),.bool (!(dec (zy s.qQ r.xM))),.bool (!(dec (zy s.qQ r.xM)))] ?_)))))))))))))
     cases h58:(!(dec (zy s.qQ r.xM)))
     ·skip
      replace h58:=xf h58
      replace h58:=jJ h58
      refine qO 64 rfl rfl (sp (pp bs os) (qO 64 rfl rfl (sp (pp br or) (qO 64 rfl rfl (sp (pp br or) (qO 64 rfl rfl (oF rfl (qO 64 rfl rfl (oL rfl (H.zh 3 rfl 4 rfl) (qO 64 rfl rfl (sw (oq (yU _ s r.xK (qK (H.get 0 rfl) 0 3) (H.get 1 rfl).1 (H.get 2 rfl).1 (H.get 6 rfl).1) H fun w59 H=>qO 64 rfl rfl (sps [.bool (!(dec (zy s.qQ r.xK))),.bool (!(dec (zy s.qQ r.xK))),.bool (!(dec (zy s.qQ r.xK)))] ?_)))))))))))))
      cases h61:(!(dec (zy s.qQ r.xK)))
      ·skip
       replace h61:=xf h61
       replace h61:=jJ h61
       refine qO 73 rfl rfl (sp (pp bs os) (qO 73 rfl rfl (sp (pp br or) (qO 73 rfl rfl (sp (pp br or) (qO 73 rfl rfl (oF rfl (qO 73 rfl rfl (oL rfl (H.zh 3 rfl 5 rfl) (qO 73 rfl rfl (sw (oq (yU _ s r.xF (qK (H.get 0 rfl) 0 3) (H.get 1 rfl).1 (H.get 2 rfl).1 (H.get 7 rfl).1) H fun w62 H=>qO 73 rfl rfl (sps [.bool (!(dec (zy s.qQ r.xF))),.bool (!(dec (zy s.qQ r.xF))),.bool (!(dec (zy s.qQ r.xF)))] ?_)))))))))))))
       cases h64:(!(dec (zy s.qQ r.xF)))
       ·skip
        replace h64:=xf h64
        replace h64:=jJ h64
        refine qO 82 rfl rfl (sp (pp bs os) (qO 82 rfl rfl (sp (pp br or) (qO 82 rfl rfl (sp (pp br or) (qO 82 rfl rfl (oF rfl (qO 82 rfl rfl (oL rfl (H.zh 3 rfl 6 rfl) (qO 82 rfl rfl (sw (oq (yU _ s r.zI (qK (H.get 0 rfl) 0 3) (H.get 1 rfl).1 (H.get 2 rfl).1 (H.get 8 rfl).1) H fun w65 H=>qO 82 rfl rfl (sps [.bool (!(dec (zy s.qQ r.zI))),.bool (!(dec (zy s.qQ r.zI))),.bool (!(dec (zy s.qQ r.zI)))] ?_)))))))))))))
        cases h67:(!(dec (zy s.qQ r.zI)))
        ·skip
         replace h67:=xf h67
         replace h67:=jJ h67
         refine qO 91 rfl rfl (sp (pp br or) (qO 91 rfl rfl (sp (pp br or) (qO 91 rfl rfl (oF rfl (qO 91 rfl rfl (oL rfl (H.zh 3 rfl 2 rfl) (qO 91 rfl rfl (sw (oq (l01Size_ok _ r.xu (H.get 4 rfl).1 (by first | assumption | exact vY ql | exact yY ql)) H fun w68 H=>qO 91 rfl rfl (sps [.bool ((Xc r.xu:Int) == 0),.bool ((Xc r.xu:Int) == 0)] (zjn (cE rfl (fun h70=>?_) (fun h70=>?_))))))))))))))
         ·skip
          refine zcr (sp (.bool false) (zjr (t_r (ret1 (.bool false) rfl rfl ⟨_,rfl,?_,H.base⟩))))
          rw [qZ (fun h=>by obtain ⟨h1,h2,h3,h4,h5,h6,h7,h8,h9,h10,h11⟩:=h;first | contradiction | omega | exact h3 ⟨‹_›,‹_›⟩ | (obtain ⟨q1,q2,q3,q4,q5⟩:=h11 k qf;first | contradiction | omega | (have:=q5 qf;omega)))]
         refine xh (t_n (zcc (sp (yI 0) (zjn (xg ?_)))))
         refine zH (fun m' ρ w71=>∃ (xU:Env) (k:Nat),ρ=upd (upd (upd xU 0 (pp bs os)) 1 (pp br or)) 5 (yI k)∧(k≤r.qL.length)∧(IntosTo s r k)∧m' =r.qL.length - k∧St w w71 [] [atF bs os (yS s qE qC qI qH),sF false qV qE qC s.qA,sF false xx qI qH s.qB,atF br or [yI r.qF,yI r.zM,.slice vk r.xu.length zY,.slice vC r.xM.length vg,.slice vw r.xK.length zZ,.slice vz r.xF.length ve,.slice jO r.zI.length jM,.slice zV r.qL.length zT,.bool true],sF false yL vk zY r.xu,sF false yP vC vg r.xM,sF false yM vw zZ r.xK,sF false yO vz ve r.xF,sF false Xz jO jM r.zI,sF false Qh zV zT r.qL]) (r.qL.length - 0) ⟨_,0,uE3,qf,qx,rfl,H⟩ ?_
         clear H
         rintro m' ρ w72 ⟨xU,k,rfl,i0,i1,rfl,H⟩
         refine zcc (sps [yI k,pp br or,pp br or] (oF rfl (oL rfl (H.zh 3 rfl 7 rfl) (oN rfl (sp (.bool (decide ((k:Int) < r.qL.length))) (zjn (cD rfl (fun h73=>?_) (fun h73=>?_))))))))
         ·skip
          refine xh (t_n (x8 (xg (zcr (sps [pp br or,pp br or] (oF rfl (oL rfl (H.zh 3 rfl 7 rfl) (sp (yI k) ?_))))))))
          obtain ⟨b74,o75,rfl⟩:=H.addr 9 rfl qf
          obtain ⟨ae76Bag,ce76Bag,Fe76Bag,H⟩:=H.yt 9 rfl k k qf qf qf
          refine oI rfl rfl (sp (pp b74 (o75+(k:Int).toNat * 2)) (zjn (x8 (x8 ?_))))
          refine yf rfl H fun H=>rtp 0 (pp b74 (o75+(k:Int).toNat * 2)) H ?_
          refine rtp 1 (pp b74 (o75+(k:Int).toNat * 2)) H ?_
          refine tF 2 rfl rfl H ?_
          refine tL 3 rfl rfl (fun _ h=>h.zh 1 rfl 0 rfl) H ?_
          refine rtp 4 (pp bs os) H ?_
          refine rtp 5 (pp bs os) H ?_
          refine tF 6 rfl rfl H ?_
          refine tL 7 rfl rfl (fun _ h=>h.zh 2 rfl 1 rfl) H ?_
          refine tN 8 rfl rfl H ?_
          refine rt 9 (yI (s.qA.length - 1)) (y_sub s.qA.length 1 rfl rfl qf) H ?_
          refine ro 10 rfl (oq (l00In_ok w72.drew ((r.qL[k]!).qF) 0 (s.qA.length - 1)) H fun w78 H=>⟨H,(rtp 11 (.bool (!(inR ((r.qL[k]!).qF) 0 (s.qA.length - 1)))) H ?_)⟩)
          refine rtp 12 (.bool (!(inR ((r.qL[k]!).qF) 0 (s.qA.length - 1)))) H ?_
          cases h80:(!(inR ((r.qL[k]!).qF) 0 (s.qA.length - 1)))
          ·skip
           replace h80:=xf h80
           replace h80:=yQ.1 h80
           refine rgp 13 (pp bs os) 126 H ?_
           refine rgp 14 (pp b74 (o75+(k:Int).toNat * 2)) 126 H ?_
           refine rgp 15 (pp b74 (o75+(k:Int).toNat * 2)) 126 H ?_
           refine gF 16 rfl rfl H ?_
           refine gL 17 rfl rfl (fun _ h=>h.zh 1 rfl 0 rfl) H ?_
           refine rgp 18 (pp br or) 126 H ?_
           refine rgp 19 (pp br or) 126 H ?_
           refine gF 20 rfl rfl H ?_
           refine gL 21 rfl rfl (fun _ h=>h.zh 5 rfl 0 rfl) H ?_
           refine jd [22] qh qm (r_opG rfl (e:=126) rfl rfl (oq (l02In_ok _ s ((r.qL[k]!).qF) r.qF (qK (H.get 2 rfl) 0 3) (H.get 3 rfl).1 (H.get 4 rfl).1 ql ql) H fun w81 H=>⟨H,(rgp 23 (.bool (!(dec (Lies s.qA r.qF ((r.qL[k]!).qF))))) 126 H ?_)⟩) je)
           refine rtp 24 (.bool (!(dec (Lies s.qA r.qF ((r.qL[k]!).qF))))) H ?_
           refine rtp 25 (.bool (!(dec (Lies s.qA r.qF ((r.qL[k]!).qF))))) H ?_
           cases h83:(!(dec (Lies s.qA r.qF ((r.qL[k]!).qF))))
           ·skip
            replace h83:=xf h83
            replace h83:=jJ h83
            refine rgp 26 (pp bs os) 139 H ?_
            refine rgp 27 (pp b74 (o75+(k:Int).toNat * 2)) 139 H ?_
            refine rgp 28 (pp b74 (o75+(k:Int).toNat * 2)) 139 H ?_
            refine gF 29 rfl rfl H ?_
            refine gL 30 rfl rfl (fun _ h=>h.zh 1 rfl 1 rfl) H ?_
            refine jd [31] qh qm (r_opG rfl (e:=139) rfl rfl (oq (yU _ s ((r.qL[k]!).jR) (qK (H.get 2 rfl) 0 3) (H.get 3 rfl).1 (H.get 4 rfl).1 (H.get 0 rfl).1) H fun w84 H=>⟨H,(rgp 32 (.bool (!(dec (zy s.qQ ((r.qL[k]!).jR))))) 139 H ?_)⟩) je)
            refine rtp 33 (.bool (!(dec (zy s.qQ ((r.qL[k]!).jR))))) H ?_
            refine rtp 34 (.bool (!(dec (zy s.qQ ((r.qL[k]!).jR))))) H ?_
            cases h86:(!(dec (zy s.qQ ((r.qL[k]!).jR))))
            ·skip
             replace h86:=xf h86
             replace h86:=jJ h86
             refine rgp 35 (pp b74 (o75+(k:Int).toNat * 2)) 148 H ?_
             refine rgp 36 (pp b74 (o75+(k:Int).toNat * 2)) 148 H ?_
             refine gF 37 rfl rfl H ?_
             refine gL 38 rfl rfl (fun _ h=>h.zh 1 rfl 1 rfl) H ?_
             refine jd [39] qh qm (r_opG rfl (e:=148) rfl rfl (oq (l01Size_ok _ ((r.qL[k]!).jR) (H.get 0 rfl).1 (by first | assumption | exact vY ql | exact yY ql)) H fun w87 H=>⟨H,(rgp 40 (.bool ((Xc ((r.qL[k]!).jR):Int) == 0)) 148 H ?_)⟩) je)
             refine rtp 41 (.bool ((Xc ((r.qL[k]!).jR):Int) == 0)) H ?_
             refine xH qh (t_n (cE rfl (fun h89=>?_) (fun h89=>?_)))
             ·skip
              refine zcr (sp (.bool false) (zjr (t_r (zr5 (ret1 (.bool false) rfl rfl ⟨_,rfl,?_,H.base⟩)))))
              rw [qZ (fun h=>by obtain ⟨h1,h2,h3,h4,h5,h6,h7,h8,h9,h10,h11⟩:=h;first | contradiction | omega | exact h3 ⟨‹_›,‹_›⟩ | (obtain ⟨q1,q2,q3,q4,q5⟩:=h11 k qf;first | contradiction | omega | (have:=q5 qf;omega)))]
             refine xh (t_n (x8 ?_))
             refine yf rfl H fun H=>rtp 0 (yI k) H ?_
             refine rtp 1 (.bool (decide ((k:Int) > 0))) H ?_
             refine rtp 2 (.bool (decide ((k:Int) > 0))) H ?_
             cases h91:(decide ((k:Int) > 0))
             ·skip
              replace h91:=of_decide_eq_false h91
              refine zD [3,4,5,6,7,8,9,10,11,12,13,14,15,16] 14 (H) (rtp 17 (.bool false) H ?_)
              refine xH qh (t_n (xI false rfl (fun h=>absurd h qj) (fun _=>xh (b_n (t_n (xZ (sp (yI k) (sw (zB k 1 rfl rfl qf (sp (yI (k+1)) (zi (xq (m' :=r.qL.length - (k+1)) qf ⟨_,k+1,uE3,?_,?_,rfl,H.sel _ (.refl _) _ qm⟩))))))))))))
              · omega
              · exact i1.succ ⟨‹_›,‹_›,‹_›,‹_›,fun hk=>by omega⟩
             replace h91:=of_decide_eq_true h91
             refine rgp 3 (pp br or) 158 H ?_
             refine rgp 4 (pp br or) 158 H ?_
             refine gF 5 rfl rfl H ?_
             refine gL 6 rfl rfl (fun _ h=>h.zh 5 rfl 7 rfl) H ?_
             refine rgp 7 (yI k) 158 H ?_
             refine rg 8 (yI (k - 1)) 158 (y_sub k 1 rfl rfl qf) H ?_
             obtain ⟨ae92Bag,ce92Bag,Fe92Bag,H⟩:=H.yt 11 rfl (k - 1) (k - 1) qf qf qf
             refine gI 9 rfl rfl rfl (H.sel _ (.refl _) _ (fun _ h=>List.mem_cons_of_mem _ (List.mem_cons_of_mem _ (h)))) ?_
             refine gF 10 rfl rfl (H.sel _ (.refl _) _ (fun _ h=>List.mem_cons_of_mem _ (List.mem_cons_of_mem _ (h)))) ?_
             refine rgp 12 (pp b74 (o75+(k:Int).toNat * 2)) 158 (H.sel _ (.refl _) _ (fun _ h=>List.mem_cons_of_mem _ (List.mem_cons_of_mem _ (h)))) ?_
             refine rgp 13 (pp b74 (o75+(k:Int).toNat * 2)) 158 (H.sel _ (.refl _) _ (fun _ h=>List.mem_cons_of_mem _ (List.mem_cons_of_mem _ (h)))) ?_
             refine gF 14 rfl rfl (H.sel _ (.refl _) _ (fun _ h=>List.mem_cons_of_mem _ (List.mem_cons_of_mem _ (h)))) ?_
             refine gL 15 rfl rfl (fun _ h=>h.zh 1 rfl 0 rfl) (H.sel _ (.refl _) _ (fun _ h=>List.mem_cons_of_mem _ (List.mem_cons_of_mem _ (h)))) ?_
             refine jd [11] qh qm (r_opG rfl (e:=158) rfl rfl (xX (yI ((r.qL[k - 1]!).qF)) isAgg2 rfl (H.zh 1 rfl 0 rfl) (⟨H.dF 2,(rgp 16 (.bool (decide (((r.qL[k - 1]!).qF:Int)≥((r.qL[k]!).qF)))) 158 (H.sel _ (.refl _) _ (fun _ h=>List.mem_cons_of_mem _ (List.mem_cons_of_mem _ (h)))) ?_)⟩)) je)
             refine rtp 17 (.bool (decide (((r.qL[k - 1]!).qF:Int)≥((r.qL[k]!).qF)))) (H.sel _ (.refl _) _ (fun _ h=>List.mem_cons_of_mem _ (List.mem_cons_of_mem _ (h)))) ?_
             refine xH qh (t_n (cD rfl (fun h93=>?_) (fun h93=>?_)))
             ·skip
              refine zcr (sp (.bool false) (zjr (zr5 (ret1 (.bool false) rfl rfl ⟨_,rfl,?_,H.base⟩))))
              rw [qZ (fun h=>by obtain ⟨h1,h2,h3,h4,h5,h6,h7,h8,h9,h10,h11⟩:=h;first | contradiction | omega | exact h3 ⟨‹_›,‹_›⟩ | (obtain ⟨q1,q2,q3,q4,q5⟩:=h11 k qf;first | contradiction | omega | (have:=q5 qf;omega)))]
             refine xh (b_n (t_n (xZ (sp (yI k) (sw (zB k 1 rfl rfl qf (sp (yI (k+1)) (zi (xq (m' :=r.qL.length - (k+1)) qf ⟨_,k+1,uE3,?_,?_,rfl,H.sel _ (.refl _) _ qm⟩)))))))))
             · omega
             · exact i1.succ ⟨‹_›,‹_›,‹_›,‹_›,fun hk=>by omega⟩
            replace h86:=xw h86
            replace h86:=zo h86
            refine zD [35,36,37,38,39,40] 6 (H) (rtp 41 (.bool true) H ?_)
            refine xH qh (t_n (xI true rfl (fun _=>zcr (sp (.bool false) (zjr (t_r (zr5 (ret1 (.bool false) rfl rfl ⟨_,rfl,?_,H.base⟩)))))) (fun h=>absurd h qj)))
            rw [qZ (fun h=>by obtain ⟨h1,h2,h3,h4,h5,h6,h7,h8,h9,h10,h11⟩:=h;first | contradiction | omega | exact h3 ⟨‹_›,‹_›⟩ | (obtain ⟨q1,q2,q3,q4,q5⟩:=h11 k qf;first | contradiction | omega | (have:=q5 qf;omega)))]
           replace h83:=xw h83
           replace h83:=zo h83
           refine zD [26,27,28,29,30,31,32] 7 (H) (rtp 33 (.bool true) H ?_)
           refine rtp 34 (.bool true) H ?_
           refine zD [35,36,37,38,39,40] 6 (H) (rtp 41 (.bool true) H ?_)
           refine xH qh (t_n (xI true rfl (fun _=>zcr (sp (.bool false) (zjr (t_r (zr5 (ret1 (.bool false) rfl rfl ⟨_,rfl,?_,H.base⟩)))))) (fun h=>absurd h qj)))
           rw [qZ (fun h=>by obtain ⟨h1,h2,h3,h4,h5,h6,h7,h8,h9,h10,h11⟩:=h;first | contradiction | omega | exact h3 ⟨‹_›,‹_›⟩ | (obtain ⟨q1,q2,q3,q4,q5⟩:=h11 k qf;first | contradiction | omega | (have:=q5 qf;omega)))]
          replace h80:=xw h80
          replace h80:=Qy h80
          refine zD [13,14,15,16,17,18,19,20,21,22,23] 11 (H) (rtp 24 (.bool true) H ?_)
          refine rtp 25 (.bool true) H ?_
          refine zD [26,27,28,29,30,31,32] 7 (H) (rtp 33 (.bool true) H ?_)
          refine rtp 34 (.bool true) H ?_
          refine zD [35,36,37,38,39,40] 6 (H) (rtp 41 (.bool true) H ?_)
          refine xH qh (t_n (xI true rfl (fun _=>zcr (sp (.bool false) (zjr (t_r (zr5 (ret1 (.bool false) rfl rfl ⟨_,rfl,?_,H.base⟩)))))) (fun h=>absurd h qj)))
          rw [qZ (fun h=>by obtain ⟨h1,h2,h3,h4,h5,h6,h7,h8,h9,h10,h11⟩:=h;first | contradiction | omega | exact h3 ⟨‹_›,‹_›⟩ | (obtain ⟨q1,q2,q3,q4,q5⟩:=h11 k qf;first | contradiction | omega | (have:=q5 qf;omega)))]
         refine zx4 (zcr (sp (.bool true) (zjr (ret1 (.bool true) rfl rfl ⟨_,rfl,?_,H.base⟩))))
         obtain rfl:k=r.qL.length:=by omega
         rw [jL ⟨by assumption,by omega,by simp_all,by omega,by assumption,by assumption,by assumption,by assumption,by assumption,by assumption,i1⟩]
        replace h67:=xw h67
        replace h67:=zo h67
        refine xO [92,93,94,95,96,97] (sp (.bool true) (zjn (xI true rfl (fun _=>zcr (sp (.bool false) (zjr (t_r (ret1 (.bool false) rfl rfl ⟨_,rfl,?_,H.base⟩))))) (fun h=>absurd h qj))))
        rw [qZ (fun h=>by obtain ⟨h1,h2,h3,h4,h5,h6,h7,h8,h9,h10,h11⟩:=h;first | contradiction | omega | exact h3 ⟨‹_›,‹_›⟩ | (obtain ⟨q1,q2,q3,q4,q5⟩:=h11 k qf;first | contradiction | omega | (have:=q5 qf;omega)))]
       replace h64:=xw h64
       replace h64:=zo h64
       refine xO [83,84,85,86,87,88,89] (sps [.bool true,.bool true] (xO [92,93,94,95,96,97] (sp (.bool true) (zjn (xI true rfl (fun _=>zcr (sp (.bool false) (zjr (t_r (ret1 (.bool false) rfl rfl ⟨_,rfl,?_,H.base⟩))))) (fun h=>absurd h qj))))))
       rw [qZ (fun h=>by obtain ⟨h1,h2,h3,h4,h5,h6,h7,h8,h9,h10,h11⟩:=h;first | contradiction | omega | exact h3 ⟨‹_›,‹_›⟩ | (obtain ⟨q1,q2,q3,q4,q5⟩:=h11 k qf;first | contradiction | omega | (have:=q5 qf;omega)))]
      replace h61:=xw h61
      replace h61:=zo h61
      refine xO [74,75,76,77,78,79,80] (sps [.bool true,.bool true] (xO [83,84,85,86,87,88,89] (sps [.bool true,.bool true] (xO [92,93,94,95,96,97] (sp (.bool true) (zjn (xI true rfl (fun _=>zcr (sp (.bool false) (zjr (t_r (ret1 (.bool false) rfl rfl ⟨_,rfl,?_,H.base⟩))))) (fun h=>absurd h qj))))))))
      rw [qZ (fun h=>by obtain ⟨h1,h2,h3,h4,h5,h6,h7,h8,h9,h10,h11⟩:=h;first | contradiction | omega | exact h3 ⟨‹_›,‹_›⟩ | (obtain ⟨q1,q2,q3,q4,q5⟩:=h11 k qf;first | contradiction | omega | (have:=q5 qf;omega)))]
     replace h58:=xw h58
     replace h58:=zo h58
     refine xO [65,66,67,68,69,70,71] (sps [.bool true,.bool true] (xO [74,75,76,77,78,79,80] (sps [.bool true,.bool true] (xO [83,84,85,86,87,88,89] (sps [.bool true,.bool true] (xO [92,93,94,95,96,97] (sp (.bool true) (zjn (xI true rfl (fun _=>zcr (sp (.bool false) (zjr (t_r (ret1 (.bool false) rfl rfl ⟨_,rfl,?_,H.base⟩))))) (fun h=>absurd h qj))))))))))
     rw [qZ (fun h=>by obtain ⟨h1,h2,h3,h4,h5,h6,h7,h8,h9,h10,h11⟩:=h;first | contradiction | omega | exact h3 ⟨‹_›,‹_›⟩ | (obtain ⟨q1,q2,q3,q4,q5⟩:=h11 k qf;first | contradiction | omega | (have:=q5 qf;omega)))]
    replace h55:=xw h55
    replace h55:=zo h55
    refine xO [56,57,58,59,60,61,62] (sps [.bool true,.bool true] (xO [65,66,67,68,69,70,71] (sps [.bool true,.bool true] (xO [74,75,76,77,78,79,80] (sps [.bool true,.bool true] (xO [83,84,85,86,87,88,89] (sps [.bool true,.bool true] (xO [92,93,94,95,96,97] (sp (.bool true) (zjn (xI true rfl (fun _=>zcr (sp (.bool false) (zjr (t_r (ret1 (.bool false) rfl rfl ⟨_,rfl,?_,H.base⟩))))) (fun h=>absurd h qj))))))))))))
    rw [qZ (fun h=>by obtain ⟨h1,h2,h3,h4,h5,h6,h7,h8,h9,h10,h11⟩:=h;first | contradiction | omega | exact h3 ⟨‹_›,‹_›⟩ | (obtain ⟨q1,q2,q3,q4,q5⟩:=h11 k qf;first | contradiction | omega | (have:=q5 qf;omega)))]
   replace h51:=eq_of_beq h51
   refine zD [34,35,36,37,38,39] 6 (H) (rtp 40 (.bool true) H ?_)
   refine xH qh (t_n (xI true rfl (fun _=>zcr (sp (.bool false) (zjr (t_r (ret1 (.bool false) rfl rfl ⟨_,rfl,?_,H.base⟩))))) (fun h=>absurd h qj)))
   rw [qZ (fun h=>by obtain ⟨h1,h2,h3,h4,h5,h6,h7,h8,h9,h10,h11⟩:=h;first | contradiction | omega | exact h3 ⟨‹_›,‹_›⟩ | (obtain ⟨q1,q2,q3,q4,q5⟩:=h11 k qf;first | contradiction | omega | (have:=q5 qf;omega)))]
  replace h7:=xw h7
  replace h7:=Qy h7
  refine zD [21,22,23,24,25,26,27,28,29,30,31] 11 (H) (rtp 32 (.bool true) H ?_)
  refine rtp 33 (.bool true) H ?_
  refine zD [34,35,36,37,38,39] 6 (H) (rtp 40 (.bool true) H ?_)
  refine xH qh (t_n (xI true rfl (fun _=>zcr (sp (.bool false) (zjr (t_r (ret1 (.bool false) rfl rfl ⟨_,rfl,?_,H.base⟩))))) (fun h=>absurd h qj)))
  rw [qZ (fun h=>by obtain ⟨h1,h2,h3,h4,h5,h6,h7,h8,h9,h10,h11⟩:=h;first | contradiction | omega | exact h3 ⟨‹_›,‹_›⟩ | (obtain ⟨q1,q2,q3,q4,q5⟩:=h11 k qf;first | contradiction | omega | (have:=q5 qf;omega)))]
 replace h4:=xw h4
 replace h4:=Qy h4
 refine zD [13,14,15,16,17,18] 6 (H) (rtp 19 (.bool true) H ?_)
 refine rtp 20 (.bool true) H ?_
 refine zD [21,22,23,24,25,26,27,28,29,30,31] 11 (H) (rtp 32 (.bool true) H ?_)
 refine rtp 33 (.bool true) H ?_
 refine zD [34,35,36,37,38,39] 6 (H) (rtp 40 (.bool true) H ?_)
 refine xH qh (t_n (xI true rfl (fun _=>zcr (sp (.bool false) (zjr (t_r (ret1 (.bool false) rfl rfl ⟨_,rfl,?_,H.base⟩))))) (fun h=>absurd h qj)))
 rw [qZ (fun h=>by obtain ⟨h1,h2,h3,h4,h5,h6,h7,h8,h9,h10,h11⟩:=h;first | contradiction | omega | exact h3 ⟨‹_›,‹_›⟩ | (obtain ⟨q1,q2,q3,q4,q5⟩:=h11 k qf;first | contradiction | omega | (have:=q5 qf;omega)))]

theorem l02State_ok (w:World) (s:qG) (t:qR) {qE:yOA} {qV:yLN} {qI:yOA} {xx:yLN} {bt ot:Nat} {xk:yOA} {xe:Nat} {zF:yLN} {xJ:yOA} {xG:Nat} {vM:yLN} {qY:yOA} {qX:Nat} {zf:yLN} (hs:jy w bs os (yS s qE qC qI qH)) (qP:qW.rep w qV [.slice qE s.qA.length qC] s.qA) (xm:qW.rep w xx [.slice qI s.qB.length qH] s.qB) (ht:jy w bt ot (yT t xk xe xJ xG qY qX)) (zu:qW.rep w zF [.slice xk t.qJ.length xe] t.qJ) (zW:qW.rep w vM [.slice xJ t.qN.length xG] t.qN) (xY:qW.rep w zf [.slice qY t.qM.length qX] t.qM) (p0:zN s):Calls Tryz.prog 44 #[pp bs os,pp bt ot] w (Ret (fun v w' =>v=.bool (dec (xQ s t))) w):=by
 refine en func44 ntmps44 ?_
 have H:=(((((((St.start w).arg xY).arg zW).arg zu).argAt ht).arg xm).arg qP).argAt hs
 have zt:=qU qP
 have vF:=qU xm
 have Ql:=qU zu
 have Xq:=qU zW
 have yG:=qU xY
 clear hs qP xm ht zu zW xY
 have p1:=p0.2.1
 refine zcr (sp (.bool false) (zjn (x8 (x8 ?_))))
 refine yf rfl H fun H=>rtp 0 (pp bt ot) H ?_
 refine rtp 1 (pp bt ot) H ?_
 refine tF 2 rfl rfl H ?_
 refine tL 3 rfl rfl (fun _ h=>h.zh 3 rfl 0 rfl) H ?_
 refine tN 4 rfl rfl H ?_
 refine rtp 5 (pp bs os) H ?_
 refine rtp 6 (pp bs os) H ?_
 refine tF 7 rfl rfl H ?_
 refine tL 8 rfl rfl (fun _ h=>h.zh 0 rfl 1 rfl) H ?_
 refine tN 9 rfl rfl H ?_
 refine rtp 10 (.bool ((t.qJ.length:Int) != s.qA.length)) H ?_
 refine rtp 11 (.bool ((t.qJ.length:Int) != s.qA.length)) H ?_
 cases h2:((t.qJ.length:Int) != s.qA.length)
 ·skip
  replace h2:=vW h2
  refine rgp 12 (pp bt ot) 17 H ?_
  refine rgp 13 (pp bt ot) 17 H ?_
  refine gF 14 rfl rfl H ?_
  refine gL 15 rfl rfl (fun _ h=>h.zh 3 rfl 1 rfl) H ?_
  refine gN 16 rfl rfl H ?_
  refine rgp 17 (pp bs os) 17 H ?_
  refine rgp 18 (pp bs os) 17 H ?_
  refine gF 19 rfl rfl H ?_
  refine gL 20 rfl rfl (fun _ h=>h.zh 0 rfl 1 rfl) H ?_
  refine gN 21 rfl rfl H ?_
  refine rgp 22 (.bool ((t.qN.length:Int) != s.qA.length)) 17 H ?_
  refine rtp 23 (.bool ((t.qN.length:Int) != s.qA.length)) H ?_
  refine rtp 24 (.bool ((t.qN.length:Int) != s.qA.length)) H ?_
  cases h3:((t.qN.length:Int) != s.qA.length)
  ·skip
   replace h3:=vW h3
   refine rgp 25 (pp bt ot) 30 H ?_
   refine rgp 26 (pp bt ot) 30 H ?_
   refine gF 27 rfl rfl H ?_
   refine gL 28 rfl rfl (fun _ h=>h.zh 3 rfl 0 rfl) H ?_
   obtain ⟨b4,o5,rfl⟩:=H.addr 4 rfl qf
   refine gI 29 rfl rfl rfl H ?_
   refine gL 30 rfl rfl (fun _ h=>h.elemBool 4 rfl 0 qf qf) H ?_
   refine rgp 31 (.bool (!(t.qJ[0]!))) 30 H ?_
   refine rtp 32 (.bool (!(t.qJ[0]!))) H ?_
   refine rtp 33 (.bool (!(t.qJ[0]!))) H ?_
   cases h6:(!(t.qJ[0]!))
   ·skip
    replace h6:=xf h6
    refine rgp 34 (pp bs os) 39 H ?_
    refine rgp 35 (pp bt ot) 39 H ?_
    refine rgp 36 (pp bt ot) 39 H ?_
    refine gF 37 rfl rfl H ?_
    refine gL 38 rfl rfl (fun _ h=>h.zh 3 rfl 2 rfl) H ?_
    refine jd [39] qh qm (r_opG rfl (e:=39) rfl rfl (oq (yU _ s t.qM (qK (H.get 0 rfl) 0 3) (H.get 1 rfl).1 (H.get 2 rfl).1 (H.get 6 rfl).1) H fun w7 H=>⟨H,(rgp 40 (.bool (!(dec (zy s.qQ t.qM)))) 39 H ?_)⟩) je)
    refine rtp 41 (.bool (!(dec (zy s.qQ t.qM)))) H ?_
    refine xH qh (t_n (cQ rfl (fun h9=>?_) (fun h9=>?_)))
    ·skip
     refine zcr (sp (.bool false) (zjr (t_r (ret1 (.bool false) rfl rfl ⟨_,rfl,?_,H.base⟩))))
     rw [qZ (fun h=>by obtain ⟨h1,h2,h3,h4,h5⟩:=h;first | contradiction | omega | (simp_all;done) | (obtain ⟨q1,q2⟩:=h5 k qf;first | contradiction | (have:=q2 ql;omega)))]
    refine xh (t_n (zcc (sp (yI 0) (zjn (xg ?_)))))
    refine zH (fun m' ρ w10=>∃ (xU:Env) (k:Nat),ρ=upd (upd (upd xU 0 (pp bs os)) 1 (pp bt ot)) 5 (yI k)∧(k≤t.qN.length)∧(BagsTo s t k)∧m' =t.qN.length - k∧St w w10 [] [atF bs os (yS s qE qC qI qH),sF false qV qE qC s.qA,sF false xx qI qH s.qB,atF bt ot [.slice (aa b4 o5) t.qJ.length xe,.slice xJ t.qN.length xG,.slice qY t.qM.length qX],sF false zF (aa b4 o5) xe t.qJ,sF false vM xJ xG t.qN,sF false zf qY qX t.qM]) (t.qN.length - 0) ⟨_,0,uE3,qf,qx,rfl,H⟩ ?_
    clear H
    rintro m' ρ w11 ⟨xU,k,rfl,i0,i1,rfl,H⟩
    refine zcc (sps [yI k,pp bt ot,pp bt ot] (oF rfl (oL rfl (H.zh 3 rfl 1 rfl) (oN rfl (sp (.bool (decide ((k:Int) < t.qN.length))) (zjn (cD rfl (fun h12=>?_) (fun h12=>?_))))))))
    ·skip
     refine xh (t_n (x8 (xg (zcr (sps [pp bs os,pp bt ot,pp bt ot] (oF rfl (oL rfl (H.zh 3 rfl 1 rfl) (sp (yI k) ?_))))))))
     obtain ⟨b13,o14,rfl⟩:=H.addr 5 rfl qf
     obtain ⟨ae15,ce15,Fe15,H⟩:=H.vV 5 rfl k k qf qf qf
     refine oI rfl rfl (oL rfl (H.zh 1 rfl 0 rfl) (sw (oq (yU _ s (t.qN[k]!) (qK (H.get 2 rfl) 0 3) (H.get 3 rfl).1 (H.get 4 rfl).1 (H.get 0 rfl).1) H fun w16 H=>sps [.bool (!(dec (zy s.qQ (t.qN[k]!)))),.bool (!(dec (zy s.qQ (t.qN[k]!))))] ?_)))
     cases h18:(!(dec (zy s.qQ (t.qN[k]!))))
     ·skip
      replace h18:=xf h18
      replace h18:=jJ h18
      refine qO 67 rfl rfl (sp (pp bt ot) (qO 67 rfl rfl (sp (pp bt ot) (qO 67 rfl rfl (oF rfl (qO 67 rfl rfl (oL rfl (H.zh 5 rfl 0 rfl) (qO 67 rfl rfl (sp (yI k) (qO 67 rfl rfl (oI rfl rfl (qO 67 rfl rfl (oL rfl (H.elemBool 6 rfl k qf qf) (qO 67 rfl rfl (sp (.bool (!(t.qJ[k]!))) (qO 67 rfl rfl (sp (.bool (!(t.qJ[k]!))) ?_)))))))))))))))))
      cases h19:(!(t.qJ[k]!))
      ·skip
       replace h19:=xf h19
       refine xO [77,78,79,80,81,82,83,84,85] (qO 67 rfl rfl (sps [.bool false,.bool false] (zjn (xI false rfl (fun h=>absurd h qj) (fun _=>xh (b_n (t_n (xZ (sp (yI k) (sw (zB k 1 rfl rfl qf (sp (yI (k+1)) (zi (xq (m' :=t.qN.length - (k+1)) qf ⟨_,k+1,uE3,?_,?_,rfl,H.sel _ (.refl _) _ qm⟩))))))))))))))
       · omega
       · exact i1.succ ‹_› (fun hk=>by first | omega | simp_all)
      replace h19:=xw h19
      refine qO 76 rfl rfl (sp (pp bt ot) (qO 76 rfl rfl (sp (pp bt ot) (qO 76 rfl rfl (oF rfl (qO 76 rfl rfl (oL rfl (H.zh 5 rfl 1 rfl) (qO 76 rfl rfl (sp (yI k) (qO 76 rfl rfl (oI rfl rfl (qO 76 rfl rfl (oL rfl (H.zh 1 rfl 0 rfl) (qO 76 rfl rfl (sw (oq (l01Size_ok _ (t.qN[k]!) (H.get 0 rfl).1 (by first | assumption | exact vY ql | exact yY ql)) H fun w20 H=>qO 76 rfl rfl (sp (.bool (decide ((Xc (t.qN[k]!):Int) > 0))) (qO 67 rfl rfl ?_))))))))))))))))))
      refine sps [.bool (decide ((Xc (t.qN[k]!):Int) > 0)),.bool (decide ((Xc (t.qN[k]!):Int) > 0))] (zjn (cD rfl (fun h22=>?_) (fun h22=>?_)))
      ·skip
       refine zcr (sp (.bool false) (zjr (zr5 (ret1 (.bool false) rfl rfl ⟨_,rfl,?_,H.base⟩))))
       rw [qZ (fun h=>by obtain ⟨h1,h2,h3,h4,h5⟩:=h;first | contradiction | omega | (simp_all;done) | (obtain ⟨q1,q2⟩:=h5 k qf;first | contradiction | (have:=q2 ql;omega)))]
      refine xh (b_n (t_n (xZ (sp (yI k) (sw (zB k 1 rfl rfl qf (sp (yI (k+1)) (zi (xq (m' :=t.qN.length - (k+1)) qf ⟨_,k+1,uE3,?_,?_,rfl,H.sel _ (.refl _) _ qm⟩)))))))))
      · omega
      · exact i1.succ ‹_› (fun hk=>by first | omega | simp_all)
     replace h18:=xw h18
     replace h18:=zo h18
     refine xO [68,69,70,71,72,73,74,75,76,77,78,79,80,81,82,83,84,85,86] (sp (.bool true) (zjn (xI true rfl (fun _=>zcr (sp (.bool false) (zjr (zr5 (ret1 (.bool false) rfl rfl ⟨_,rfl,?_,H.base⟩))))) (fun h=>absurd h qj))))
     rw [qZ (fun h=>by obtain ⟨h1,h2,h3,h4,h5⟩:=h;first | contradiction | omega | (simp_all;done) | (obtain ⟨q1,q2⟩:=h5 k qf;first | contradiction | (have:=q2 ql;omega)))]
    refine zx4 (zcr (sp (.bool true) (zjr (ret1 (.bool true) rfl rfl ⟨_,rfl,?_,H.base⟩))))
    obtain rfl:k=t.qN.length:=by omega
    rw [jL ⟨by omega,by omega,by first | assumption | simp_all,by assumption,i1⟩]
   replace h6:=xw h6
   refine zD [34,35,36,37,38,39,40] 7 (H) (rtp 41 (.bool true) H ?_)
   refine xH qh (t_n (xI true rfl (fun _=>zcr (sp (.bool false) (zjr (t_r (ret1 (.bool false) rfl rfl ⟨_,rfl,?_,H.base⟩))))) (fun h=>absurd h qj)))
   rw [qZ (fun h=>by obtain ⟨h1,h2,h3,h4,h5⟩:=h;first | contradiction | omega | (simp_all;done) | (obtain ⟨q1,q2⟩:=h5 k qf;first | contradiction | (have:=q2 ql;omega)))]
  replace h3:=bne_iff_ne.1 h3
  refine zD [25,26,27,28,29,30,31] 7 (H) (rtp 32 (.bool true) H ?_)
  refine rtp 33 (.bool true) H ?_
  refine zD [34,35,36,37,38,39,40] 7 (H) (rtp 41 (.bool true) H ?_)
  refine xH qh (t_n (xI true rfl (fun _=>zcr (sp (.bool false) (zjr (t_r (ret1 (.bool false) rfl rfl ⟨_,rfl,?_,H.base⟩))))) (fun h=>absurd h qj)))
  rw [qZ (fun h=>by obtain ⟨h1,h2,h3,h4,h5⟩:=h;first | contradiction | omega | (simp_all;done) | (obtain ⟨q1,q2⟩:=h5 k qf;first | contradiction | (have:=q2 ql;omega)))]
 replace h2:=bne_iff_ne.1 h2
 refine zD [12,13,14,15,16,17,18,19,20,21,22] 11 (H) (rtp 23 (.bool true) H ?_)
 refine rtp 24 (.bool true) H ?_
 refine zD [25,26,27,28,29,30,31] 7 (H) (rtp 32 (.bool true) H ?_)
 refine rtp 33 (.bool true) H ?_
 refine zD [34,35,36,37,38,39,40] 7 (H) (rtp 41 (.bool true) H ?_)
 refine xH qh (t_n (xI true rfl (fun _=>zcr (sp (.bool false) (zjr (t_r (ret1 (.bool false) rfl rfl ⟨_,rfl,?_,H.base⟩))))) (fun h=>absurd h qj)))
 rw [qZ (fun h=>by obtain ⟨h1,h2,h3,h4,h5⟩:=h;first | contradiction | omega | (simp_all;done) | (obtain ⟨q1,q2⟩:=h5 k qf;first | contradiction | (have:=q2 ql;omega)))]

theorem l02Ok_ok (w:World) (s:qG) {qE:yOA} {qV:yLN} {qI:yOA} {xx:yLN} (hs:jy w bs os (yS s qE qC qI qH)) (qP:qW.rep w qV [.slice qE s.qA.length qC] s.qA) (xm:qW.rep w xx [.slice qI s.qB.length qH] s.qB):Calls Tryz.prog 43 #[pp bs os] w (Ret (fun v w' =>v=.bool (dec (zX s))) w):=by
 refine en func43 ntmps43 ?_
 have H:=(((St.start w).arg xm).arg qP).argAt hs
 have zt:=qU qP
 have vF:=qU xm
 clear hs qP xm
 have p1:=fun h:zN s=>h.2.1
 refine zcr (sp (.bool false) (zjcc (sp (pp bs os) (sw (oq (l02Frame_ok _ s (qK (H.get 0 rfl) 0 3) (H.get 1 rfl).1 (H.get 2 rfl).1) H fun w1 H=>sps [.bool (!(dec (zN s))),.bool (!(dec (zN s)))] ?_)))))
 cases h3:(!(dec (zN s)))
 ·skip
  replace h3:=xf h3
  replace h3:=jJ h3
  refine qO 8 rfl rfl (sp (pp bs os) (qO 8 rfl rfl (sp (pp bs os) (qO 8 rfl rfl (oF rfl (qO 8 rfl rfl (oL rfl (H.zh 0 rfl 2 rfl) (qO 8 rfl rfl (oN rfl (qO 8 rfl rfl (sps [.bool (decide ((s.qB.length:Int) > 16)),.bool (decide ((s.qB.length:Int) > 16))] (zjn (cD rfl (fun h4=>?_) (fun h4=>?_))))))))))))))
  ·skip
   refine zcr (sp (.bool false) (zjr (t_r (ret1 (.bool false) rfl rfl ⟨_,rfl,?_,H.base⟩))))
   rw [qZ (fun h=>by obtain ⟨h1,h2,h3⟩:=h;first | contradiction | omega | (obtain ⟨q1,q2⟩:=h3 k qf;first | contradiction | (have:=Xu (k:=k+1) q;omega)))]
  have p2:=p1 ql
  refine xh (t_n (zcr (sps [pp bs os,pp bs os] (oF rfl (oL rfl (H.zh 0 rfl 1 rfl) (oN rfl (sw (o_make1 H underlying24 ti2 rfl s.qA.length rfl rfl qf qf fun b5 w6 H=>?_))))))))
  replace H:St _ _ [.box b5 (List.replicate s.qA.length (yI 0)) 2] _:=H
  refine sp (.slice (aa b5 0) s.qA.length s.qA.length) (zjcc (sp (yI 0) (zjn (xg ?_))))
  rw [ints_zero,counts_zero] at H
  refine zH (fun m' ρ w7=>∃ (xU:Env) (k:Nat),ρ=upd (upd (upd xU 0 (pp bs os)) 3 (.slice (aa b5 0) s.qA.length s.qA.length)) 4 (yI k)∧(k≤s.qB.length)∧(RulesTo s k)∧m' =s.qB.length - k∧St w w7 [.box b5 ((counts s k).map (Value.int .i64)) 2] [atF bs os (yS s qE qC qI qH),sF false qV qE qC s.qA,sF false xx qI qH s.qB]) (s.qB.length - 0) ⟨_,0,uE3,qf,qx,rfl,H⟩ ?_
  clear H
  rintro m' ρ w8 ⟨xU,k,rfl,i0,i1,rfl,H⟩
  refine zcc (sps [yI k,pp bs os,pp bs os] (oF rfl (oL rfl (H.zh 0 rfl 2 rfl) (oN rfl (sp (.bool (decide ((k:Int) < s.qB.length))) (zjn (cD rfl (fun h9=>?_) (fun h9=>?_))))))))
  ·skip
   refine xh (t_n (x8 (xg (zcc (sps [pp bs os,pp bs os,pp bs os] (oF rfl (oL rfl (H.zh 0 rfl 2 rfl) (sp (yI k) ?_))))))))
   obtain ⟨b10,o11,rfl⟩:=H.addr 2 rfl qf
   obtain ⟨ae12Need,ce12Need,Fe12Need,ae12Have,ce12Have,Fe12Have,ae12Lack,ce12Lack,Fe12Lack,ae12Here,ce12Here,Fe12Here,ae12Out,ce12Out,Fe12Out,ae12Into,ce12Into,Fe12Into,H⟩:=H.Qv 2 rfl k k qf qf qf
   refine oI rfl rfl (sw (oq (l02Rule_ok _ s (s.qB[k]!) (qK (H.get 7 rfl) 0 3) (H.get 8 rfl).1 (H.get 9 rfl).1 (qK (H.get 6 rfl) 0 9) (H.get 0 rfl).1 (H.get 1 rfl).1 (H.get 2 rfl).1 (H.get 3 rfl).1 (H.get 4 rfl).1 (H.get 5 rfl).1 ql) H fun w13 H=>sp (.bool (!(dec (RuleOk s (s.qB[k]!))))) (zjn (cQ rfl (fun h15=>?_) (fun h15=>?_)))))
   ·skip
    refine zcr (sp (.bool false) (zjr (t_r (zr5 (ret1 (.bool false) rfl rfl ⟨_,rfl,?_,H.base⟩)))))
    rw [qZ (fun h=>by obtain ⟨h1,h2,h3⟩:=h;first | contradiction | omega | (obtain ⟨q1,q2⟩:=h3 k qf;first | contradiction | (have:=Xu (k:=k+1) q;omega)))]
   have q:=(h15).1
   refine xh (t_n (zcr (sps [.slice (aa b5 0) s.qA.length s.qA.length,pp bs os,pp bs os] (oF rfl (oL rfl (H.zh 7 rfl 2 rfl) (sp (yI k) (oI rfl rfl (oF rfl (oL rfl (H.zh 6 rfl 0 rfl) (oI rfl rfl (oL rfl (H.cell 0 rfl (ints_get (by rw [counts_len];omega))) (sw (zB ((counts s k)[((s.qB[k]!).qF:Int).toNat]!) 1 rfl rfl (by (first | omega | (rw [Xu q];have:=ofCell_bd s.qB (s.qB[k]!).qF k;omega))) (oI rfl rfl ?_))))))))))))))
   refine sw (o_store1 H 0 rfl (yI (((counts s k)[((s.qB[k]!).qF:Int).toNat]!)+1)) sizeOf2 rfl rfl rfl (ints_lt (by rw [counts_len];omega)) fun w16 H=>?_)
   rw [ints_set] at H
   rw [counts_succ q] at H
   replace H:St _ _ [.box b5 ((counts s (k+1)).map (Value.int .i64)) 2] _:=H
   refine zjc (sps [.slice (aa b5 0) s.qA.length s.qA.length,pp bs os,pp bs os] (oF rfl (oL rfl (H.zh 7 rfl 2 rfl) (sp (yI k) (oI rfl rfl (oF rfl (oL rfl (H.zh 6 rfl 0 rfl) (oI rfl rfl (oL rfl (H.cell 0 rfl (ints_get (by rw [counts_len];omega))) (sp (.bool (decide (((counts s (k+1))[((s.qB[k]!).qF:Int).toNat]! :Int) > 8))) (zjn (cD rfl (fun h17=>?_) (fun h17=>?_)))))))))))))
   ·skip
    refine zcr (sp (.bool false) (zjr (zr5 (ret1 (.bool false) rfl rfl ⟨_,rfl,?_,H.base⟩))))
    rw [qZ (fun h=>by obtain ⟨h1,h2,h3⟩:=h;first | contradiction | omega | (obtain ⟨q1,q2⟩:=h3 k qf;first | contradiction | (have:=Xu (k:=k+1) q;omega)))]
   refine xh (b_n (t_n (xZ (sp (yI k) (sw (zB k 1 rfl rfl (by (first | omega | (rw [Xu q];have:=ofCell_bd s.qB (s.qB[k]!).qF k;omega))) (sp (yI (k+1)) (zi (xq (m' :=s.qB.length - (k+1)) qf ⟨_,k+1,uE3,?_,?_,rfl,H.sel _ (.refl _) _ qm⟩)))))))))
   · omega
   · exact i1.succ ‹_› (by have:=Xu (k:=k+1) q;omega)
  refine zx4 (zcr (sp (.bool true) (zjr (ret1 (.bool true) rfl rfl ⟨_,rfl,?_,H.base⟩))))
  obtain rfl:k=s.qB.length:=by omega
  rw [jL ⟨by assumption,by omega,i1⟩]
 replace h3:=xw h3
 replace h3:=zo h3
 refine xO [9,10,11,12,13,14] (sp (.bool true) (zjn (xI true rfl (fun _=>zcr (sp (.bool false) (zjr (t_r (ret1 (.bool false) rfl rfl ⟨_,rfl,?_,H.base⟩))))) (fun h=>absurd h qj))))
 rw [qZ (fun h=>by obtain ⟨h1,h2,h3⟩:=h;first | contradiction | omega | (obtain ⟨q1,q2⟩:=h3 k qf;first | contradiction | (have:=Xu (k:=k+1) q;omega)))]
theorem cloneB_ok (w:World) (l:List Bool) {al:yOA} {Fl:yLN} (hl:qW.rep w Fl [.slice al l.length cl] l) (p0:l.length≤1000000):Calls Tryz.prog 88 #[.slice al l.length cl] w (Ret (fun v w' =>∃ (ra:yOA) (rn:Nat) (rc:Nat),v=.slice ra rn rc∧Fresh w.heap.size []∧St w w' [rr ra rn rc 4 1 (l.map (Value.bool))] []) w):=by
 refine en func88 ntmps88 ?_
 have H:=(St.start w).arg hl
 have nhl:=qU hl
 clear hl
 have N:=Fresh.nil w.heap.size
 refine zcr (sp yN (zjcc (sp (.slice al l.length cl) (sw (o_eqnil underlying28 al l.length cl rfl (zjn (xI (al.isNone) rfl (fun h1=>?_) (fun h1=>?_))))))))
 ·skip
  refine zcr (sp yN (zjr (t_r ?_)))
  replace H:=H.nilRowB 4
  refine ret1 yN rfl rfl ⟨_,rfl,?_,H.base⟩
  obtain rfl:=H.nilOf 0 rfl ‹_›
  exact ⟨none,0,0,rfl,N,H.pick [0] []⟩
 refine xh (t_n (zcr (sw (yJ H underlying28 ti4 fun b2 w3 H=>sp (.slice al l.length cl) ?_))))
 replace H:=H.boxRowB 0 [] 0
 refine sw (o_appendFR H 0 rfl 0 rfl underlying28 ti4 rfl qj rfl rfl qp qf fun a4 c5 w6 us7 G8 H hG9=>?_)
 obtain ⟨_,rfl⟩:=reps_bools (H.get 0 rfl).1
 replace H:=H.sub _ fun f hf=>List.mem_cons_of_mem _ hf
 rw [catB] at H
 refine sp (.slice a4 (0+l.length) c5) (zjr (ret1 (.slice a4 (0+l.length) c5) rfl rfl ⟨_,rfl,(⟨a4,0+l.length,c5,rfl,N,H.pick [0] []⟩),H.base⟩))
end
end Go.Proofs.YtfekhnffbngoaabGreat
