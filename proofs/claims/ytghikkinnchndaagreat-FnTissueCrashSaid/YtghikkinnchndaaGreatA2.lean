/- Walks and laws, printed by program and by hand: what each function comes to, for all arguments, part 2. -/
import Derived.Test.YtghikkinnchndaaGreatA1
namespace Go.Proofs.YtghikkinnchndaaGreat
open Go.Proofs.Tryz
set_option linter.unusedVariables false
set_option linter.unusedSimpArgs false
set_option maxRecDepth 100000
set_option maxHeartbeats 4000000
open Go.RowKit
open Go.Proofs.Tryz
open Go.Proofs.YtghikkinnchndaaGreat.Tot (tot)
open Go.Proofs.YtghikkinnchndaaGreat.Mark (cnt mrk mkd mkd_mark cnt_mark)
variable {B D gu x z:Int} {F Fl Fm E8 EZ Ej D2 E6 OV QG Qa jY vX zH:yLN} {K N c i j k n p q:Nat} {L Ns:List yLN} {P:Program} {a l m:yLI} {al am jz kr ff kh jn nW vZ xG xf zS zq:yOA} {b:yLL} {d:zn} {e:TypeId} {r:yj} {s:qM} {t:xh} {v:zQ} {w:World} {Γ Γ':List Fact} {ρ:Env}
section
theorem climb_in {s:qM} {t:xh} (hs:yK s) (h0:t.xn[0]! =true):∀ (n:Nat) (c:Int),0<=c->c < n->c<=(s.qA.length:Int) - 1→
 0<=climb s.qA t.xn n c/\climb s.qA t.xn n c<=c/\t.xn[(climb s.qA t.xn n c).toNat]! =true
 | 0,c,h1,h2,h3=>by omega
 | n+1,c,h1,h2,h3=>by
  rw [climb]
  by_cases ha:0<=c/\t.xn[c.toNat]! =false
  ·rw [if_pos ha]
   have hc:0 < c:=by
    rcases Int.lt_or_eq_of_le h1 with h | h
    ·exact h
    ·rw [← h] at ha;simp [h0] at ha
   have hu:=hs.up hc h3
   have:=climb_in hs h0 n (s.qA[c.toNat]!) hu.1 qf qf
   exact ⟨this.1,by omega,this.2.2⟩
  ·rw [if_neg ha]
   refine ⟨h1,Int.le_refl _,?_⟩
   cases hx:t.xn[c.toNat]! with
   | true=>rfl
   | false=>exact absurd ⟨h1,hx⟩ ha
theorem parentNow_in (hs:yK s) (h0:t.xn[0]! =true) {c:Int} (h1:0 < c) (h2:c<=(s.qA.length:Int) - 1):0<=zG s t c/\zG s t c < c/\t.xn[(zG s t c).toNat]! =true:=by
 have hu:=hs.up h1 h2
 have:=climb_in hs h0 s.qA.length (s.qA[c.toNat]!) hu.1 qf qf
 exact ⟨this.1,by have:=this.2.1;unfold zG;omega,this.2.2⟩
def melted (s:qM) (t:xh) (c:Int):xh:=
 ⟨t.xn.set c.toNat false,(t.qG.set (zG s t c).toNat<|vS (t.qG[(zG s t c).toNat]!) (t.qG[c.toNat]!) 1).set c.toNat<|List.replicate s.qP.toNat 0,t.qE⟩
open Classical in
noncomputable def told (s:qM) (t:xh):xh×Int:=if vM s t then (t,0) else (default,3)
open Classical in
noncomputable def meltRes (s:qM) (t:xh) (c:Int):xh×Int:=
 if cellCodeOf s t c≠0 then (default,cellCodeOf s t c) else if c=0 then (default,4) else told s (melted s t c)
theorem vM.bagLen (h:vM s t) (hk:k < t.qG.length):yJ s.qP (t.qG[k]!):=(h.2.2.2.2 k hk).1
theorem bagOk_smallT {n:Int} (h:yJ n l) {t:Int} (ht: -1000000<=t/\t<=1000000):XV l t:=fun k hk=>by
 have:=h.1.1 k hk
 constructor
 ·have h1: -(1000000 * 1000)<=t * l[k]! :=by
   rcases Int.le_total 0 t with h0 | h0
   ·have:=Int.mul_nonneg h0 this.1;omega
   ·have h2:=Int.mul_le_mul_of_nonneg_left this.2 (show 0<= -t by omega)
    have h3: -t * l[k]! = -(t * l[k]!):=Int.neg_mul ..
    have h4: -t * 1000<=1000000 * 1000:=by omega
    omega
  omega
 ·have h1:t * l[k]! <=1000000 * 1000:=by
   rcases Int.le_total 0 t with h0 | h0
   ·have h2:=Int.mul_le_mul_of_nonneg_left this.2 h0
    omega
   ·have h2:=Int.mul_nonneg (show 0<= -t by omega) this.1
    have h3: -t * l[k]! = -(t * l[k]!):=Int.neg_mul ..
    omega
  omega
theorem vM.add (h:vM s t) (hj:j < t.qG.length) (hk:k < t.qG.length):(t.qG[j]!).length<=(t.qG[k]!).length/\Mid (t.qG[j]!)/\XV (t.qG[k]!) 1:=by
 have h1:=h.bagLen hj
 have h2:=h.bagLen hk
 exact ⟨by have:=h1.2;have:=h2.2;omega,(jc h1).mid,bagOk_smallT h2 qf⟩
theorem drop_get (h:k+1 < l.length):(l.drop 1)[k]! =l[k+1]! :=by
 rw [getElem!_pos (l.drop 1) k<|by rw [List.length_drop];omega,getElem!_pos l (k+1) h]
 simp [Nat.add_comm]
theorem lies_up (hs:yK s) {c o:Int} (hc:CellIn s c):Lies s.qA o c<->0<=s.qA[c.toNat]! /\(s.qA[c.toNat]! =o\/Lies s.qA o (s.qA[c.toNat]!)):=by
 rw [lies_iff]
 rcases Int.lt_or_eq_of_le hc.1 with h | h
 ·have:=hs.up h hc.2
  constructor
  ·rintro ⟨_,h1⟩;exact ⟨this.1,h1⟩
  ·rintro ⟨_,h1⟩;exact ⟨h,h1⟩
 ·subst h
  have:=hs.2.2.1
  simp only [Int.toNat_zero] at *
  constructor
  ·rintro ⟨h1,_⟩;omega
  ·rintro ⟨h1,_⟩;omega
def counts6 (s:qM) (k:Nat):yLI:=(List.range 6).map fun c:Nat=>ofCell s.qB (c:Int) k
theorem counts6_len (s:qM) (k:Nat):(counts6 s k).length=6:=by simp [counts6]
theorem counts6_zero (s:qM):([0,0,0,0,0,0]:yLI)=counts6 s 0:=by simp [counts6,List.range_succ,ofCell]
theorem Vo {c:Int} (h:0<=c) (h1:c<=5):(counts6 s k)[c.toNat]! =ofCell s.qB c k:=by
 rw [getElem!_pos _ _<|by rw [counts6_len];omega]
 simp only [counts6,List.getElem_map,List.getElem_range]
 rw [show ((c.toNat:Nat):Int)=c by omega]
theorem counts6_succ (h:0<=(s.qB[k]!).qX) (h1:(s.qB[k]!).qX<=5):
 (counts6 s k).set (s.qB[k]!).qX.toNat ((counts6 s k)[(s.qB[k]!).qX.toNat]! +1)=counts6 s (k+1):=by
 rw [Vo h h1]
 apply List.ext_getElem
 ·simp [counts6]
 ·intro i h1 h2
  rw [List.getElem_set]
  simp only [counts6,List.getElem_map,List.getElem_range,ofCell]
  by_cases e:(s.qB[k]!).qX.toNat=i
  ·subst e
   rw [if_pos rfl,if_pos qf,show (((s.qB[k]!).qX.toNat:Nat):Int)=(s.qB[k]!).qX by omega]
  ·rw [if_neg e,if_neg qf];omega
theorem sum_nonneg (h:BagAny l):0<=sumL l:=by
 have:∀ k,k<=l.length->0<=sumTo l k:=fun k=>by
  induction k with
  | zero=>intro _;exact Int.le_refl _
  | succ k ih=>intro hk;have:=ih qf;have:=h.1 k qf;simp only [sumTo];omega
 exact this _<|Nat.le_refl _
end
section
theorem cloneB_ok (w:World) (l:List Bool) {cl:Nat} (hl:zP w Fl al cl l) (p0:l.length<=1000000):Calls Tryz.prog 71 #[Sv al l.length cl] w (Ret (fun v w' =>∃ (ra:yOA) (rn:Nat) (rc:Nat),v=Sv ra rn rc/\Fresh w.heap.size []/\St w w' [rr ra rn rc 4 1<|l.map<|Value.bool] []) w):=by
 refine en func71 ntmps71 ?_
 have H:=(St.start w).arg hl
 have rS:=qO hl
 clear hl
 have N:=Fresh.nil w.heap.size
 refine zcr<|sq 1<|zjcc<|sq 1<|sw<|o_eqnil underlying28 al l.length cl rfl<|zjn<|vk _ rfl (fun h1=>?_)<|fun h1=>?_
 ·refine zcr (sq 1<|zjr<|t_r ?_)
  replace H:=H.nilRowB 4
  refine rH1 yN H ?_
  obtain rfl:=H.nilOf 0 rfl ‹_›
  exact ⟨none,0,0,rfl,N,H.pick [0] []⟩
 refine xk<|t_n<|zcr<|sw<|jk H underlying28 ti4 fun b2 w3 H=>sq 1 ?_
 replace H:=H.boxRowB 0 [] 0
 refine sw<|Xf H 0 rfl 0 rfl underlying28 ti4 rfl qj rfl rfl qp qf fun a4 c5 w6 us7 G8 H hG9=>?_
 obtain ⟨_,rfl⟩:=reps_bools (H.get 0 rfl).1
 replace H:=H.sub _ fun f hf=>List.mem_cons_of_mem _ hf
 rw [catB] at H
 refine sq 1<|zjr<|rH1 (Sv a4 (0+l.length) c5) H<|⟨a4,0+l.length,c5,rfl,N,H.pick [0] []⟩
end
section
theorem ft {b:Bool} (h:b=true) (h' :b=false):False:=by rw [h] at h';cases h'
theorem getset {α:Type} [Inhabited α] {l:List α} {v:α} (hc:c < l.length):(l.set c v)[p]! =if p=c then v else l[p]! :=by
 by_cases hp:p < l.length
 ·rw [getElem!_pos _ _<|by simpa using hp,getElem!_pos l p hp,List.getElem_set]
  by_cases e:c=p
  ·rw [if_pos e,if_pos e.symm]
  ·rw [if_neg e,if_neg<|fun h=>e h.symm]
 ·rw [if_neg qf,getElem!_neg (l.set c v) p<|by simpa using hp,getElem!_neg l p hp]
theorem plus_get {t:Int} (hk:k < l.length):(vS l m t)[k]! =l[k]! +t * m[k]! :=by
 rw [getElem!_pos (vS l m t) k<|by rw [Qq];exact hk]
 simp [vS,plusTo]
theorem ext_get {α:Type} [Inhabited α] {l m:List α} (hl:l.length=m.length) (h:∀ k,k < l.length->l[k]! =m[k]!):l=m:=by
 apply List.ext_getElem hl
 intro i h1 h2
 have:=h i h1
 rwa [getElem!_pos l i h1,getElem!_pos m i h2] at this
theorem set_self {α:Type} [Inhabited α] {l:List α} {v:α} (hc:c < l.length) (h:v=l[c]!):l.set c v=l:=by
 refine ext_get qm fun k hk=>?_
 rw [getset hc]
 by_cases e:k=c
 ·rw [if_pos e,e,h]
 ·rw [if_neg e]
theorem plus_zero {t:Int} (ht:t=0):vS l m t=l:=by
 refine ext_get (Qq _ _ _) fun k hk=>?_
 rw [Qq] at hk
 rw [plus_get hk,ht];omega
def Shape (n K:Nat) (B:Int) (b:yLL):Prop:=b.length=n/\∀ p,p < n->(b[p]!).length=K/\∀ k,k < K-> -B<=(b[p]!)[k]! /\(b[p]!)[k]! <=B
structure Ent (n K:Nat) (f:Nat->Nat->Int) (B:Int) (b:yLL):Prop where
 sh:Shape n K B b
 eq:∀ p k,p < n->k < K->(b[p]!)[k]! =f p k
def at' (p c:Nat) (x:Int):Int:=if p=c then x else 0
theorem Shape.set (h:Shape n K B b) {v:yLI} (hc:c < n) (hv:v.length=K) (hb:∀ k,k < K-> -D<=v[k]! /\v[k]! <=D) (hD:B<=D):Shape n K D (b.set c v):=by
 refine ⟨by simp [h.1],fun p hp=>?_⟩
 rw [getset<|by rw [h.1];exact hc]
 by_cases e:p=c
 ·rw [if_pos e];exact ⟨hv,hb⟩
 ·rw [if_neg e]
  refine ⟨(h.2 p hp).1,fun k hk=>?_⟩
  have:=(h.2 p hp).2 k hk
  omega
theorem Shape.plus (h:Shape n K B b) {t:Int} (hc:c < n) (ht:∀ k,k < K-> -D<=t * m[k]! /\t * m[k]! <=D) (hD:0<=D):
 Shape n K (B+D) (b.set c<|vS (b[c]!) m t):=by
 have h1:=h.2 c hc
 refine h.set hc (by rw [Qq];exact h1.1) (fun k hk=>?_) qf
 rw [plus_get<|by rw [h1.1];exact hk]
 have:=h1.2 k hk
 have:=ht k hk
 omega
theorem Shape.row (h:Shape n K B b) (hB:B<=1000000000000000) (hK:K<=8) (hc:c < n):(b[c]!).length=K/\Mid (b[c]!):=by
 have h1:=h.2 c hc
 refine ⟨h1.1,by have:=h1.1;omega,fun k hk=>?_⟩
 have:=h1.2 k (by have:=h1.1;omega)
 omega
theorem Ent.add {f:Nat->Nat->Int} (h:Ent n K f B b) {t:Int} {b' :yLL} (e:b' =b.set c (vS (b[c]!) m t)) (hc:c < n) (ht:∀ k,k < K-> -D<=t * m[k]! /\t * m[k]! <=D) (hD:0<=D):
 Ent n K (fun p k=>f p k+at' p c (t * m[k]!)) (B+D) b' :=by
 subst e
 refine ⟨h.sh.plus hc ht hD,fun p k hp hk=>?_⟩
 rw [getset<|by rw [h.sh.1];exact hc]
 unfold at'
 by_cases e:p=c
 ·subst e
  rw [if_pos rfl,if_pos rfl,plus_get<|by rw [(h.sh.2 p hp).1];exact hk,h.eq p k hp hk]
 ·rw [if_neg e,if_neg e,h.eq p k hp hk];omega
theorem Shape.mono (h:Shape n K B b) (hD:B<=D):Shape n K D b:=⟨h.1,fun p hp=>⟨(h.2 p hp).1,fun k hk=>by have:=(h.2 p hp).2 k hk;omega⟩⟩
theorem Ent.to {f g:Nat->Nat->Int} (h:Ent n K f B b) (e:∀ p k,f p k=g p k) (hD:B<=D):Ent n K g D b:=⟨h.sh.mono hD,fun p k hp hk=>(h.eq p k hp hk).trans<|e p k⟩
theorem Ent.same {f g:Nat->Nat->Int} {c:yLL} (h:Ent n K f B b) (h' :Ent n K g D c) (e:∀ p k,p < n->k < K->f p k=g p k):b=c:=by
 refine ext_get (by rw [h.sh.1,h'.sh.1]) fun p hp=>?_
 rw [h.sh.1] at hp
 refine ext_get (by rw [(h.sh.2 p hp).1,(h'.sh.2 p hp).1]) fun k hk=>?_
 rw [(h.sh.2 p hp).1] at hk
 rw [h.eq p k hp hk,h'.eq p k hp hk,e p k hp hk]
def tab2 (n K:Nat) (f:Nat->Nat->Int):yLL:=(List.range n).map fun p=>(List.range K).map<|f p
theorem tab2_len (n K:Nat) (f:Nat->Nat->Int):(tab2 n K f).length=n:=by simp [tab2]
theorem tab2_row {f:Nat->Nat->Int} (hp:p < n):(tab2 n K f)[p]! =(List.range K).map (f p):=by
 rw [getElem!_pos (tab2 n K f) p<|by rw [tab2_len];exact hp];simp [tab2]
theorem Ent.tab {f:Nat->Nat->Int} (h:Ent n K f B b):b=tab2 n K f:=by
 refine ext_get (by rw [h.sh.1,tab2_len]) fun p hp=>?_
 rw [h.sh.1] at hp
 rw [tab2_row hp]
 refine ext_get (by rw [(h.sh.2 p hp).1];simp) fun k hk=>?_
 rw [(h.sh.2 p hp).1] at hk
 rw [h.eq p k hp hk,getElem!_pos ((List.range K).map<|f p) k<|by simpa using hk];simp
theorem Ent.snoc {f:Nat->Nat->Int} (h:Ent n K f B b) (ha:a.length=K) (hb:∀ k,k < K-> -B<=a[k]! /\a[k]! <=B) (he:∀ k,k < K->a[k]! =f n k):Ent (n+1) K f B (b++[a]):=by
 have hl:(b++[a]).length=n+1:=by simp [h.sh.1]
 have h1:∀ p,p < n->(b++[a])[p]! =b[p]! :=fun p hp=>by
  rw [getElem!_pos (b++[a]) p qf,getElem!_pos b p<|by rw [h.sh.1];exact hp,List.getElem_append_left]
 have h2:(b++[a])[n]! =a:=by
  rw [getElem!_pos (b++[a]) n qf,List.getElem_append_right<|by rw [h.sh.1];exact Nat.le_refl _];simp
 refine ⟨⟨hl,fun p hp=>?_⟩,fun p k hp hk=>?_⟩
 ·by_cases e:p=n
  ·subst e;rw [h2];exact ⟨ha,hb⟩
  ·rw [h1 p qf];exact h.sh.2 p qf
 ·by_cases e:p=n
  ·subst e;rw [h2];exact he k hk
  ·rw [h1 p qf];exact h.eq p k qf hk
def vP (s:qM):Nat:=s.qP.toNat
abbrev zF (s:qM):Nat:=s.qA.length
def IntoUp (s:qM) (t:xh) (r:yj) (k:Nat):Prop:=∀ j,j < k->t.xn[(r.xx[j]!).qX.toNat]! =true/\zG s t (r.xx[j]!).qX=r.qX
theorem IntoUp.succ (h:IntoUp s t r k) (h1:t.xn[(r.xx[k]!).qX.toNat]! =true) (h2:zG s t (r.xx[k]!).qX=r.qX):IntoUp s t r (k+1):=fun j hj=>by
 by_cases e:j=k
 ·subst e;exact ⟨h1,h2⟩
 ·exact h j qf
def EnOk (s:qM) (t:xh) (r:yj):Prop:=
 t.xn[r.qX.toNat]! =true/\within r.zT (t.qG[r.qX.toNat]!)=true/\within r.jV (t.qG[r.qX.toNat]!)=true/\¬ (0 < sumL r.jX/\within r.jX (t.qG[r.qX.toNat]!)=true)/\IntoUp s t r r.xx.length
open Classical in
noncomputable def bestOf (s:qM) (t:xh) (z:Int) (c:Nat):Nat->Int
 | 0=>z
 | k+1=>if EnOk s t (s.qB[k]!)/\(s.qB[k]!).qX.toNat=c then max (bestOf s t z c k) (s.qB[k]!).yQ else bestOf s t z c k
noncomputable def bests (s:qM) (t:xh) (z:Int) (n k:Nat):yLI:=tabTo (fun c=>bestOf s t z c k) n
theorem Xv (s:qM) (t:xh) (z:Int) (n k:Nat):(bests s t z n k).length=n:=tabTo_len _ _
theorem tab_get {g:Nat->Int} (h:c < n):(tabTo g n)[c]! =g c:=by
 rw [getElem!_pos (tabTo g n) c<|by rw [tabTo_len];exact h];simp [tabTo]
theorem bests_zero (s:qM) (t:xh) (z:Int) (n:Nat):List.replicate n z=bests s t z n 0:=by
 refine ext_get (by simp [Xv]) fun k hk=>?_
 rw [List.length_replicate] at hk
 rw [bests,tab_get hk,getElem!_pos (List.replicate n z) k<|by simpa using hk];simp [bestOf]
theorem bests_get (h:c < n):(bests s t z n k)[c]! =bestOf s t z c k:=tab_get h
theorem bests_set (h:EnOk s t (s.qB[k]!)) (hc:(s.qB[k]!).qX.toNat < n):
 (bests s t z n k).set (s.qB[k]!).qX.toNat (max ((bests s t z n k)[(s.qB[k]!).qX.toNat]!) (s.qB[k]!).yQ)=bests s t z n (k+1):=by
 refine ext_get (by simp [Xv]) fun p hp=>?_
 rw [List.length_set,Xv] at hp
 rw [getset<|by rw [Xv];exact hc,bests_get hc,bests_get hp,bests_get hp,bestOf]
 by_cases e:p=(s.qB[k]!).qX.toNat
 ·rw [if_pos e,if_pos ⟨h,e.symm⟩,e]
 ·rw [if_neg e,if_neg fun x=>e x.2.symm]
theorem bests_skip (h:¬ EnOk s t (s.qB[k]!)):bests s t z n k=bests s t z n (k+1):=by
 refine ext_get (by simp [Xv]) fun p hp=>?_
 rw [Xv] at hp
 rw [bests_get hp,bests_get hp,bestOf,if_neg fun x=>h x.1]
def Appl (s:qM) (t:xh) (i:Nat):Prop:=
 EnOk s t (s.qB[i]!)/\∀ j,j < s.qB.length->EnOk s t (s.qB[j]!)->(s.qB[j]!).qX.toNat=(s.qB[i]!).qX.toNat->(s.qB[j]!).yQ<=(s.qB[i]!).yQ
theorem best_ge {s:qM} {t:xh} {z:Int} {c:Nat}:∀ {k j:Nat},j < k->EnOk s t (s.qB[j]!)->(s.qB[j]!).qX.toNat=c->(s.qB[j]!).yQ<=bestOf s t z c k
 | k+1,j,h,h1,h2=>by
  rw [bestOf]
  by_cases e:j=k
  ·subst e;rw [if_pos ⟨h1,h2⟩];omega
  ·have:=best_ge (z:=z) (show j < k by omega) h1 h2
   split <;> omega
theorem best_le {s:qM} {t:xh} {z:Int} {c:Nat} {x:Int} (hz:z<=x):∀ {k:Nat},(∀ j,j < k->EnOk s t (s.qB[j]!)->(s.qB[j]!).qX.toNat=c->(s.qB[j]!).yQ<=x)->bestOf s t z c k<=x
 | 0,_=>hz
 | k+1,h=>by
  rw [bestOf]
  have h1:=best_le hz (k:=k) fun j hj=>h j qf
  split
  ·next h2=>have:=h k qf h2.1 h2.2;omega
  ·exact h1
theorem appl_iff (hi:i < s.qB.length) (hz:z<=(s.qB[i]!).yQ):
 Appl s t i<->EnOk s t (s.qB[i]!)/\(s.qB[i]!).yQ=bestOf s t z (s.qB[i]!).qX.toNat s.qB.length:=by
 constructor
 ·rintro ⟨h1,h2⟩
  refine ⟨h1,?_⟩
  have h3:=best_ge (z:=z) hi h1 rfl
  have h4:=best_le (c:=(s.qB[i]!).qX.toNat) hz (k:=s.qB.length) h2
  omega
 ·rintro ⟨h1,h2⟩
  exact ⟨h1,fun j hj h3 h4=>by rw [h2];exact best_ge hj h3 h4⟩
noncomputable def applB (s:qM) (t:xh) (k m:Nat):List Bool:=(List.range m).map fun j=>if j < k then dec (Appl s t j) else dec (EnOk s t<|s.qB[j]!)
theorem applB_len (s:qM) (t:xh) (k m:Nat):(applB s t k m).length=m:=by simp [applB]
theorem applB_get {m:Nat} (h:j < m):(applB s t k m)[j]! =if j < k then dec (Appl s t j) else dec (EnOk s t<|s.qB[j]!):=by
 rw [getElem!_pos (applB s t k m) j<|by rw [applB_len];exact h];simp [applB]
theorem applB_snoc (s:qM) (t:xh) (m:Nat):applB s t 0 m++[dec<|EnOk s t<|s.qB[m]!]=applB s t 0 (m+1):=by simp [applB,List.range_succ]
theorem applB_set {m:Nat} {x:Bool} (hk:k < m) (hx:x=dec (Appl s t k)):(applB s t k m).set k x=applB s t (k+1) m:=by
 refine ext_get (by simp [applB_len]) fun p hp=>?_
 rw [List.length_set,applB_len] at hp
 rw [getset<|by rw [applB_len];exact hk,applB_get hp,applB_get hp]
 by_cases e:p=k
 ·subst e;rw [if_pos rfl,if_pos qf,hx]
 ·rw [if_neg e]
  by_cases e1:p < k
  ·rw [if_pos e1,if_pos qf]
  ·rw [if_neg e1,if_neg qf]
theorem applB_step0 {m:Nat} (hk:k < m) (h:(applB s t k m)[k]! =false):false=dec (Appl s t k):=by
 rw [applB_get hk,if_neg qf] at h
 exact (zt fun x=>Qd h x.1).symm
theorem applB_step1 {m:Nat} (hk:k < m) (h:(applB s t k m)[k]! =true) (hm:m=s.qB.length) (hc:(s.qB[k]!).qX.toNat < n) (hz:z<=(s.qB[k]!).yQ) (hi:i=s.qB.length):
 ((s.qB[k]!).yQ == (bests s t z n i)[(s.qB[k]!).qX.toNat]!)=dec (Appl s t k):=by
 rw [applB_get hk,if_neg qf] at h
 refine dec_eq ?_
 rw [beq_iff_eq,bests_get hc,hi,appl_iff qf hz]
 exact ⟨fun e=>⟨of_dec h,e⟩,fun e=>e.2⟩
noncomputable def appl (s:qM) (t:xh):List Bool:=applB s t s.qB.length s.qB.length
theorem appl_len (s:qM) (t:xh):(appl s t).length=s.qB.length:=applB_len _ _ _ _
theorem appl_get (h:j < s.qB.length):(appl s t)[j]! =dec (Appl s t j):=by rw [appl,applB_get h,if_pos h]
theorem appl_true (h:j < s.qB.length) (h1:(appl s t)[j]! =true):Appl s t j:=of_dec<|appl_get (s:=s) (t:=t) h▸h1
theorem appl_false (h:j < s.qB.length) (h1:(appl s t)[j]! =false):¬ Appl s t j:=Qd<|appl_get (s:=s) (t:=t) h▸h1
def HaltTo (s:qM) (t:xh) (k:Nat):Prop:=∀ j,j < k->¬ Appl s t j
theorem HaltTo.succ (h:HaltTo s t k) (h1:¬ Appl s t k):HaltTo s t (k+1):=fun j hj=>by
 by_cases e:j=k
 ·subst e;exact h1
 ·exact h j qf
noncomputable def applL (s:qM) (t:xh) (k:Nat):yLI:=((List.range k).filter fun j=>dec<|Appl s t j).map Int.ofNat
theorem applL_yes (h:Appl s t k):applL s t k++[(k:Int)]=applL s t (k+1):=by simp [applL,List.range_succ,List.filter_append,Xr h]
theorem applL_no (h:¬ Appl s t k):applL s t k=applL s t (k+1):=by simp [applL,List.range_succ,List.filter_append,zt h]
noncomputable def appls (s:qM) (t:xh):yLI:=applL s t s.qB.length
theorem applL_le (s:qM) (t:xh) (k:Nat):(applL s t k).length<=k:=by
 have:=List.length_filter_le (fun j=>dec<|Appl s t j)<|List.range k
 simpa [applL] using this
theorem appls_at {m:Nat} (hm:(applL s t m).length=q) (hn:m<=s.qB.length) (hq:q < (appls s t).length):
    ∃ i:Nat,(appls s t)[q]! =(i:Int)/\m<=i/\i < s.qB.length/\Appl s t i/\(∀ j,m<=j->j < i->¬ Appl s t j)/\(applL s t<|i+1).length=q+1:=by
  have key:∀ d m,m+d=s.qB.length->(applL s t m).length=q->∃ i:Nat,(appls s t)[q]! =(i:Int)/\m<=i/\i < s.qB.length/\Appl s t i/\(∀ j,m<=j->j < i->¬ Appl s t j)/\(applL s t<|i+1).length=q+1:=by
    intro d
    induction d with
    | zero => intro m hd hl; exfalso; have e : m = s.qB.length := by omega
              subst e;unfold appls at hq;omega
    | succ d ih=>
      intro m hd hl
      by_cases ha:Appl s t m
      · have ayt:∀ d' k,m+1+d' =k->∃ dt,applL s t k=applL s t m++[(m:Int)]++dt:=by
          intro d'
          induction d' with
          | zero=>intro k hk;subst hk;exact ⟨[],by rw [Nat.add_zero,← applL_yes ha];simp⟩
          | succ d' ih' =>
            intro k hk
            obtain ⟨dt,l7⟩:=ih' (m+1+d') rfl
            subst hk
            by_cases hb:Appl s t (m+1+d')
            · exact ⟨dt++[((m+1+d' :Nat):Int)],by rw [← Nat.add_assoc,← applL_yes hb,l7];simp⟩
            · exact ⟨dt,by rw [← Nat.add_assoc,← applL_no hb,l7]⟩
        obtain ⟨dt,l7⟩:=ayt d s.qB.length qf
        refine ⟨m,?_,Nat.le_refl _,by omega,ha,fun j h1 h2=>by omega,by rw [← applL_yes ha];simp [hl]⟩
        rw [appls,l7,List.append_assoc,getElem!_pos (applL s t m++([(m:Int)]++dt)) q<|by simp [hl],List.getElem_append_right qf]
        simp [hl]
      · obtain ⟨i,h1,h2,h3,h4,h5,h6⟩:=ih (m+1) qf (by rw [← applL_no ha];exact hl)
        exact ⟨i,h1,by omega,h3,h4,fun j hj1 hj2=>by
          by_cases e:j=m
          · subst e;exact ha
          · exact h5 j qf hj2,h6⟩
  exact key (s.qB.length - m) m qf hm
theorem appls_end {m:Nat} (hm:(applL s t m).length=q) (hn:m<=s.qB.length) (hq:(appls s t).length<=q):∀ j,m<=j->j < s.qB.length->¬ Appl s t j:=by
 have key:∀ d,∀ m,m+d=s.qB.length->(appls s t).length<=(applL s t m).length->∀ j,m<=j->j < s.qB.length->¬ Appl s t j:=by
  intro d
  induction d with
  | zero=>intro m hd _ j h1 h2;omega
  | succ d ih=>
   intro m hd hl j h1 h2
   have mono:∀ d' k,m+1+d' =k->(applL s t<|m+1).length<=(applL s t k).length:=by
    intro d'
    induction d' with
    | zero=>intro k hk;subst hk;exact Nat.le_refl _
    | succ d' ih' =>
     intro k hk
     subst hk
     have:=ih' (m+1+d') rfl
     rw [← Nat.add_assoc]
     by_cases hb:Appl s t (m+1+d')
     ·rw [← applL_yes hb];simp;omega
     ·rw [← applL_no hb];exact this
   have T2:=mono d s.qB.length qf
   by_cases ha:Appl s t m
   ·exfalso
    rw [← applL_yes ha] at T2
    simp at T2
    unfold appls at hl
    omega
   ·by_cases e:j=m
    ·subst e;exact ha
    ·exact ih (m+1) qf (by rw [← applL_no ha];exact hl) j qf h2
 exact key (s.qB.length - m) m qf qf
theorem QC.rule (h:QC s) (hi:i < s.qB.length):RuleOk s (s.qB[i]!):=(h.2.2 i hi).1
theorem RuleOk.cell (h:RuleOk s r):r.qX.toNat < zF s:=by have:=h.1.1;have:=h.1.2;unfold zF;omega
theorem yJ.len (h:yJ s.qP l):l.length=vP s:=by have:=h.2;unfold vP;omega
theorem yJ.get {n:Int} (h:yJ n l) (hk:k < l.length):0<=l[k]! /\l[k]! <=1000:=h.1.1 k hk
theorem yJ.mul (h:yJ s.qP m) {t:Int} (ht: -1000<=t/\t<=1000):∀ k,k < vP s-> -1000000<=t * m[k]! /\t * m[k]! <=1000000:=fun k hk=>by
 have h1:=h.1.1 k<|by rw [h.len];exact hk
 rcases Int.le_total 0 t with h0 | h0
 ·have h2:=Int.mul_nonneg h0 h1.1
  have h3:=Int.mul_le_mul_of_nonneg_left h1.2 h0
  omega
 ·have h2:=Int.mul_nonneg (show 0<= -t by omega) h1.1
  have h3:=Int.mul_le_mul_of_nonneg_left h1.2<|show 0<= -t by omega
  have h4: -t * m[k]! = -(t * m[k]!):=Int.neg_mul ..
  omega
theorem yJ.Qm (h:yJ s.qP m) {t:Int} (ht: -1000<=t/\t<=1000):XV m t:=bagOk_smallT h qf
theorem XG (h:QC s):vP s<=8:=by have:=h.1.1.2;unfold vP;omega
theorem vM.shape (h:vM s t):Shape (zF s) (vP s) 1000 t.qG:=by
 refine ⟨h.2.1,fun p hp=>?_⟩
 have hb:=h.bagLen (k:=p)<|by rw [h.2.1];exact hp
 refine ⟨hb.len,fun k hk=>?_⟩
 have:=hb.get (k:=k)<|by rw [hb.len];exact hk
 omega
def CntOk (s:qM) (counts:yLI):Prop:=counts.length=s.qB.length/\∀ i,i < counts.length->0<=counts[i]! /\counts[i]! <=1000
theorem CntOk.bd {counts:yLI} (h:CntOk s counts) (hi:i < s.qB.length):0<=counts[i]! /\counts[i]! <=1000:=h.2 i<|by rw [h.1];exact hi
def restR (s:qM) (t:xh) (counts:yLI):Nat->yLL
 | 0=>t.qG
 | k+1=>(restR s t counts k).set (s.qB[k]!).qX.toNat<|vS ((restR s t counts k)[(s.qB[k]!).qX.toNat]!) (s.qB[k]!).zT (-(counts[k]!))
def needF (s:qM) (counts:yLI) (i p k:Nat):Int:=at' p (s.qB[i]!).qX.toNat (-(counts[i]!) * ((s.qB[i]!).zT)[k]!)
def needS (s:qM) (counts:yLI):Nat->Nat->Nat->Int
 | 0,_,_=>0
 | i+1,p,k=>needS s counts i p k+needF s counts i p k
theorem restR_ent {s:qM} {t:xh} {counts:yLI} (hs:QC s) (ht:vM s t) (hc:CntOk s counts):∀ k,k<=s.qB.length→
 Ent (zF s) (vP s) (fun p q=>(t.qG[p]!)[q]! +needS s counts k p q) (1000+1000000 * k) (restR s t counts k)
 | 0,_=>⟨by simpa [restR] using ht.shape,fun p k hp hk=>by simp [restR,needS]⟩
 | k+1,h=>by
  have hr:=hs.rule (i:=k) qf
  have hcb:=hc.bd (i:=k) qf
  refine ((restR_ent hs ht hc k qf).add (D:=1000000) rfl hr.cell (hr.2.2.2.2.1.mul qf) qf).to (fun p q=>?_) qf
  show _=_+(needS s counts k p q+needF s counts k p q)
  unfold needF;omega
theorem restR_row {counts:yLI} (hs:QC s) (ht:vM s t) (hc:CntOk s counts) (hk:k<=s.qB.length) (h:c < zF s):
 ((restR s t counts k)[c]!).length=vP s/\Mid ((restR s t counts k)[c]!):=(restR_ent hs ht hc k hk).sh.row (by have:=hs.2.1;omega) (XG hs) h
theorem restR_len {s:qM} {t:xh} {counts:yLI}:∀ k,(restR s t counts k).length=t.qG.length
 | 0=>rfl
 | k+1=>by rw [restR,List.length_set];exact restR_len k
theorem restR_skip {counts:yLI} (hs:QC s) (ht:vM s t) (hk:k < s.qB.length) (h:counts[k]! =0):restR s t counts (k+1)=restR s t counts k:=by
 rw [restR,plus_zero qf]
 exact set_self (by rw [restR_len,ht.2.1];exact (hs.rule hk).cell) rfl
def BadAt (s:qM) (t:xh) (counts:yLI) (i:Nat):Prop:=0 < counts[i]! /\¬ Appl s t i
def GoodTo (s:qM) (t:xh) (counts:yLI) (k:Nat):Prop:=∀ i,i < k->¬ BadAt s t counts i
theorem GoodTo.succ {counts:yLI} (h:GoodTo s t counts k) (h1:¬ BadAt s t counts k):GoodTo s t counts (k+1):=fun j hj=>by
 by_cases e:j=k
 ·subst e;exact h1
 ·exact h j qf
def NonNeg (b:yLL) (n:Nat):Prop:=∀ p,p < n->∀ k,k < (b[p]!).length->0<=(b[p]!)[k]!
theorem NonNeg.succ (h:NonNeg b n) (h1:∀ k,k < (b[n]!).length->0<=(b[n]!)[k]!):NonNeg b (n+1):=fun j hj=>by
 by_cases e:j=n
 ·subst e;exact h1
 ·exact h j qf
def IsCh (s:qM) (t:xh) (counts:yLI):Prop:=GoodTo s t counts counts.length/\NonNeg (restR s t counts counts.length) t.qG.length
def QS (l m:yLI):Nat->Int
 | 0=>1000
 | k+1=>if 0 < l[k]! then min (QS l m k) (m[k]! / l[k]!) else QS l m k
def Xd (l m:yLI):Int:=QS l m l.length
theorem timesTo_pos (h:0 < l[k]!):QS l m (k+1)=min (QS l m k) (m[k]! / l[k]!):=by rw [QS,if_pos h]
theorem timesTo_skip (h:¬ 0 < l[k]!):QS l m (k+1)=QS l m k:=by rw [QS,if_neg h]
theorem Vp {l m:yLI} (hm:∀ k,k < l.length->0<=m[k]!):∀ k,k<=l.length->0<=QS l m k/\QS l m k<=1000
 | 0,_=>by simp [QS]
 | k+1,h=>by
  have:=Vp hm k qf
  rw [QS]
  split
  ·next h1=>have:=Int.ediv_nonneg (hm k qf) (show 0<=l[k]! by omega);omega
  ·exact this
theorem timesTo_le {l m:yLI}:∀ {k j:Nat},j < k->0 < l[j]! ->QS l m k<=m[j]! / l[j]!
 | k+1,j,h,h1=>by
  rw [QS]
  by_cases e:j=k
  ·subst e;rw [if_pos h1];omega
  ·have:=timesTo_le (m:=m) (show j < k by omega) h1
   split <;> omega
theorem timesL_left (hl:∀ k,k < l.length->0<=l[k]!) (hm:∀ k,k < l.length->0<=m[k]!) (hk:k < l.length):0<=m[k]! + -(Xd l m) * l[k]! :=by
 have h0:=Vp hm l.length<|Nat.le_refl _
 rcases Int.lt_or_eq_of_le (hl k hk) with h | h
 ·have h1:=timesTo_le (m:=m) hk h
  have h2:m[k]! / l[k]! * l[k]! <=m[k]! :=Int.ediv_mul_le _ qf
  have h3:=Int.mul_le_mul_of_nonneg_right h1<|show 0<=l[k]! by omega
  have h4: -(Xd l m) * l[k]! = -(Xd l m * l[k]!):=Int.neg_mul ..
  unfold Xd at *
  omega
 ·rw [← h];have:=hm k hk;omega
def Xc (l m:yLI) (i:Nat) (gu:Int):Prop:=(gu=QS l m i/\∃ j,j < i/\0 < l[j]!)\/(gu= -1/\QS l m i=1000/\∀ j,j < i->l[j]! <=0)
theorem Xc.zero (l m:yLI):Xc l m 0 (-1):=.inr ⟨rfl,rfl,fun j hj=>by omega⟩
theorem Xc.take (h:Xc l m i gu) (hm:0<=m[i]! /\m[i]! <=1000) (hl:0 < l[i]!) (hb:gu < 0\/m[i]! / l[i]! < gu) (hn:0<=QS l m i):Xc l m (i+1) (m[i]! / l[i]!):=by
 refine .inl ⟨?_,i,by omega,hl⟩
 rw [timesTo_pos hl]
 have h1:m[i]! / l[i]! <=m[i]! :=Int.ediv_le_self _ hm.1
 rcases h with ⟨h,_⟩ | ⟨h,h2,_⟩ <;> omega
theorem Xc.keep (h:Xc l m i gu) (hl:¬ 0 < l[i]!):Xc l m (i+1) gu:=by
 unfold Xc
 rw [timesTo_skip hl]
 rcases h with ⟨h,j,h1,h2⟩ | ⟨h,h2,h3⟩
 ·exact .inl ⟨h,j,by omega,h2⟩
 ·refine .inr ⟨h,h2,fun j hj=>?_⟩
  by_cases e:j=i
  ·subst e;omega
  ·exact h3 j qf
theorem Xc.keep2 (h:Xc l m i gu) (hl:0 < l[i]!) (hb:¬ gu < 0) (hn:¬ m[i]! / l[i]! < gu):Xc l m (i+1) gu:=by
 refine .inl ⟨?_,i,by omega,hl⟩
 rw [timesTo_pos hl]
 rcases h with ⟨h,_⟩ | ⟨h,_⟩ <;> omega
theorem Xc.done (h:Xc l m i gu) (hp:∃ j,j < i/\0 < l[j]!):gu=QS l m i:=by
 rcases h with ⟨h,_⟩ | ⟨_,_,h3⟩
 ·exact h
 ·obtain ⟨j,h1,h2⟩:=hp
  have:=h3 j h1;omega
theorem sum_pos (h:BagAny l) (h1:sumL l≠0):∃ j,j < l.length/\0 < l[j]! :=by
 apply Classical.byContradiction
 intro hn
 have h0:∀ k,k<=l.length->sumTo l k=0:=by
  intro k
  induction k with
  | zero=>intro _;rfl
  | succ k ih=>
   intro hk
   have h2:=h.1 k qf
   have h3:¬ 0 < l[k]! :=fun h4=>hn ⟨k,by omega,h4⟩
   rw [sumTo,ih qf];omega
 exact h1<|h0 _<|Nat.le_refl _
open Classical in
noncomputable def jG (s:qM) (t:xh):Nat->yLL
 | 0=>t.qG
 | k+1=>if Appl s t k then (jG s t k).set (s.qB[k]!).qX.toNat (vS ((jG s t k)[(s.qB[k]!).qX.toNat]!) (s.qB[k]!).zT (-(Xd (s.qB[k]!).zT ((jG s t k)[(s.qB[k]!).qX.toNat]!)))) else jG s t k
open Classical in
noncomputable def firstC (s:qM) (t:xh) (k:Nat):Int:=if Appl s t k then Xd (s.qB[k]!).zT ((jG s t k)[(s.qB[k]!).qX.toNat]!) else 0
noncomputable def firstTo (s:qM) (t:xh) (m n:Nat):yLI:=(List.range n).map fun j=>if j < m then firstC s t j else 0
noncomputable def xw (s:qM) (t:xh):yLI:=firstTo s t s.qB.length s.qB.length
theorem firstR_yes (h:Appl s t k):jG s t (k+1)=(jG s t k).set (s.qB[k]!).qX.toNat (vS ((jG s t k)[(s.qB[k]!).qX.toNat]!) (s.qB[k]!).zT (-(Xd (s.qB[k]!).zT ((jG s t k)[(s.qB[k]!).qX.toNat]!)))):=by rw [jG,if_pos h]
theorem firstR_no (h:¬ Appl s t k):jG s t (k+1)=jG s t k:=by rw [jG,if_neg h]
theorem firstR_skip {s:qM} {t:xh} {m:Nat}:∀ {d:Nat},(∀ j,m<=j->j < m+d->¬ Appl s t j)->jG s t (m+d)=jG s t m
 | 0,_=>rfl
 | d+1,h=>by rw [← Nat.add_assoc,firstR_no<|h (m+d) qf qf,firstR_skip fun j h1 h2=>h j h1 qf]
theorem firstR_same {m:Nat} (hm:m<=i) (h:∀ j,m<=j->j < i->¬ Appl s t j):jG s t i=jG s t m:=by
 obtain ⟨d,rfl⟩:∃ d,i=m+d:=⟨i - m,by omega⟩
 exact firstR_skip h
theorem Xz (h:Appl s t k):firstC s t k=Xd (s.qB[k]!).zT ((jG s t k)[(s.qB[k]!).qX.toNat]!):=by rw [firstC,if_pos h]
theorem firstC_no (h:¬ Appl s t k):firstC s t k=0:=by rw [firstC,if_neg h]
theorem yc (s:qM) (t:xh) (m n:Nat):(firstTo s t m n).length=n:=by simp [firstTo]
theorem Xq {m:Nat} (h:j < n):(firstTo s t m n)[j]! =if j < m then firstC s t j else 0:=by
 rw [getElem!_pos (firstTo s t m n) j<|by rw [yc];exact h];simp [firstTo]
theorem firstTo_snoc (s:qM) (t:xh) (m:Nat):firstTo s t m m++[firstC s t m]=firstTo s t (m+1) (m+1):=by
 refine ext_get (by simp [yc]) fun k hk=>?_
 rw [List.length_append,yc] at hk
 simp only [List.length_cons,List.length_nil] at hk
 rw [Xq qf,if_pos qf]
 rw [getElem!_pos (firstTo s t m m++[firstC s t m]) k<|by simp [yc];omega]
 by_cases e:k=m
 ·subst e;rw [List.getElem_append_right<|by simp [yc]];simp [yc]
 ·rw [List.getElem_append_left<|by rw [yc];omega]
  have:=Xq (s:=s) (t:=t) (m:=m) (n:=m) (j:=k) qf
  rw [getElem!_pos (firstTo s t m m) k<|by rw [yc];omega,if_pos qf] at this
  exact this
theorem firstTo_snoc' {m:Nat} (h:x=firstC s t m):firstTo s t m m++[x]=firstTo s t (m+1) (m+1):=h▸firstTo_snoc s t m
theorem firstTo_zero (s:qM) (t:xh) (n:Nat):List.replicate n (0:Int)=firstTo s t 0 n:=by
 refine ext_get (by simp [yc]) fun k hk=>?_
 rw [List.length_replicate] at hk
 rw [Xq hk,if_neg qf,getElem!_pos (List.replicate n (0:Int)) k<|by simpa using hk];simp
theorem firstTo_set {m:Nat} (hm:m<=i) (hi:i < n) (h:∀ j,m<=j->j < i->¬ Appl s t j) (hx:x=firstC s t i):(firstTo s t m n).set i x=firstTo s t (i+1) n:=by
 refine ext_get (by simp [yc]) fun k hk=>?_
 rw [List.length_set,yc] at hk
 rw [getset<|by rw [yc];exact hi,Xq hk,Xq hk]
 by_cases e:k=i
 ·subst e;rw [if_pos rfl,if_pos qf,hx]
 ·rw [if_neg e]
  by_cases h1:k < m
  ·rw [if_pos h1,if_pos qf]
  ·rw [if_neg h1]
   by_cases h2:k < i
   ·rw [if_pos qf,firstC_no<|h k qf h2]
   ·rw [if_neg qf]
theorem firstTo_end {m:Nat} (hm:m<=n) (h:∀ j,m<=j->j < n->¬ Appl s t j):firstTo s t m n=firstTo s t n n:=by
 refine ext_get (by simp [yc]) fun k hk=>?_
 rw [yc] at hk
 rw [Xq hk,Xq hk,if_pos hk]
 by_cases h1:k < m
 ·rw [if_pos h1]
 ·rw [if_neg h1,firstC_no<|h k qf hk]
def Box (n K:Nat) (b:yLL):Prop:=b.length=n/\∀ p,p < n->(b[p]!).length=K/\∀ k,k < K->0<=(b[p]!)[k]! /\(b[p]!)[k]! <=1000
theorem vM.box (h:vM s t):Box (zF s) (vP s) t.qG:=by
 refine ⟨h.2.1,fun p hp=>?_⟩
 have hb:=h.bagLen (k:=p)<|by rw [h.2.1];exact hp
 exact ⟨hb.len,fun k hk=>hb.get<|by rw [hb.len];exact hk⟩
theorem firstR_box {s:qM} {t:xh} (hs:QC s) (ht:vM s t):∀ k,k<=s.qB.length->Box (zF s) (vP s) (jG s t k)
 | 0,_=>ht.box
 | k+1,h=>by
  have ih:=firstR_box hs ht k qf
  by_cases ha:Appl s t k
  ·rw [firstR_yes ha]
   have hr:=hs.rule (i:=k) qf
   have hb:=hr.2.2.2.2.1
   have hc:=ih.2 _ hr.cell
   refine ⟨by rw [List.length_set];exact ih.1,fun p hp=>?_⟩
   rw [getset<|by rw [ih.1];exact hr.cell]
   by_cases e:p=(s.qB[k]!).qX.toNat
   ·rw [if_pos e,Qq]
    refine ⟨hc.1,fun q hq=>?_⟩
    rw [plus_get<|by rw [hc.1];exact hq]
    have h1:=timesL_left (l:=(s.qB[k]!).zT) (m:=(jG s t k)[(s.qB[k]!).qX.toNat]!) (fun j hj=>(hb.get hj).1) (fun j hj=>(hc.2 j<|by rw [← hb.len];exact hj).1) (k:=q)<|by rw [hb.len];exact hq
    refine ⟨h1,?_⟩
    have h2:=Vp (l:=(s.qB[k]!).zT) (m:=(jG s t k)[(s.qB[k]!).qX.toNat]!) (fun j hj=>(hc.2 j<|by rw [← hb.len];exact hj).1) _<|Nat.le_refl _
    have h3:=Int.mul_nonneg h2.1 (hb.get (k:=q)<|by rw [hb.len];exact hq).1
    have h4:=(hc.2 q hq).2
    have h5: -(Xd (s.qB[k]!).zT ((jG s t k)[(s.qB[k]!).qX.toNat]!)) * ((s.qB[k]!).zT)[q]! = -(Xd (s.qB[k]!).zT ((jG s t k)[(s.qB[k]!).qX.toNat]!) * ((s.qB[k]!).zT)[q]!):=Int.neg_mul ..
    unfold Xd at *
    omega
   ·rw [if_neg e];exact ih.2 p hp
  ·rw [firstR_no ha];exact ih
theorem firstR_row (hs:QC s) (ht:vM s t) (hk:k<=s.qB.length) (h:c < zF s):
 ((jG s t k)[c]!).length=vP s/\Mid ((jG s t k)[c]!)/\∀ q,q < vP s->0<=((jG s t k)[c]!)[q]! /\((jG s t k)[c]!)[q]! <=1000:=by
 have h1:=(firstR_box hs ht k hk).2 c h
 have:=XG hs
 exact ⟨h1.1,⟨by have:=h1.1;omega,fun q hq=>by have:=h1.2 q (by have:=h1.1;omega);omega⟩,h1.2⟩
theorem firstC_bd (hs:QC s) (ht:vM s t) (hk:k < s.qB.length):0<=firstC s t k/\firstC s t k<=1000:=by
 by_cases ha:Appl s t k
 ·rw [Xz ha]
  have hr:=hs.rule hk
  have hc:=firstR_row hs ht (Nat.le_of_lt hk) hr.cell
  exact Vp (fun j hj=>(hc.2.2 j<|by rw [← hr.2.2.2.2.1.len];exact hj).1) _<|Nat.le_refl _
 ·rw [firstC_no ha];omega
theorem X7 (hs:QC s) (ht:vM s t):CntOk s (xw s t):=by
 refine ⟨yc _ _ _ _,fun i hi=>?_⟩
 rw [xw,yc] at hi
 rw [xw,Xq hi,if_pos hi]
 exact firstC_bd hs ht hi
theorem first_rest {s:qM} {t:xh} (hs:QC s) (ht:vM s t):∀ k,k<=s.qB.length->restR s t (xw s t) k=jG s t k
 | 0,_=>rfl
 | k+1,h=>by
  have ih:=first_rest hs ht k qf
  have hg:(xw s t)[k]! =firstC s t k:=by rw [xw,Xq qf,if_pos qf]
  by_cases ha:Appl s t k
  ·rw [firstR_yes ha,restR,ih,hg,Xz ha]
  ·rw [firstR_no ha,restR_skip hs ht qf<|by rw [hg,firstC_no ha],ih]
theorem parentNow_root (hs:yK s):zG s t 0= -1:=by
 unfold zG
 rw [show s.qA[(0:Int).toNat]! = -1 from hs.2.2.1]
 exact climb_end fun h=>by omega
def outPl (s:qM) (t:xh) (r:yj):Nat:=if r.qX=0 then zF s else (zG s t r.qX).toNat
theorem outPl_root (h:r.qX=0):outPl s t r=zF s:=by rw [outPl,if_pos h]
theorem outPl_up (h:r.qX≠0):outPl s t r=(zG s t r.qX).toNat:=by rw [outPl,if_neg h]
def intoF (r:yj) (c:Int):Nat->Nat->Nat->Int
 | 0,_,_=>0
 | j+1,p,k=>intoF r c j p k+at' p (r.xx[j]!).qX.toNat (c * ((r.xx[j]!).XH)[k]!)
def putF (s:qM) (t:xh) (r:yj) (c:Int) (p k:Nat):Int:=at' p r.qX.toNat (c * r.jK[k]!)+at' p (outPl s t r) (c * r.QP[k]!)+intoF r c r.xx.length p k
def allS (s:qM) (t:xh) (counts:yLI):Nat->Nat->Nat->Int
 | 0,_,_=>0
 | i+1,p,k=>allS s t counts i p k+needF s counts i p k+putF s t (s.qB[i]!) (counts[i]!) p k
theorem at_zero (p c:Nat) (x:Int):at' p c (0 * x)=0:=by unfold at';split <;> simp
theorem intoF_zero (r:yj) (p k:Nat):∀ j,intoF r 0 j p k=0
 | 0=>rfl
 | j+1=>by rw [intoF,intoF_zero r p k j,at_zero];rfl
theorem putF_zero (s:qM) (t:xh) (r:yj) {c:Int} (h:c=0) (p k:Nat):putF s t r c p k=0:=by
 subst h;rw [putF,at_zero,at_zero,intoF_zero];rfl
def base0 (s:qM) (t:xh) (p k:Nat):Int:=if p < zF s then (t.qG[p]!)[k]! else t.qE[k]!
def stepF (s:qM) (t:xh) (counts:yLI) (p k:Nat):Int:=base0 s t p k+allS s t counts s.qB.length p k
noncomputable def stepped (s:qM) (t:xh) (counts:yLI):xh:=
 ⟨t.xn,(tab2 (zF s+1) (vP s)<|stepF s t counts).take<|zF s,(tab2 (zF s+1) (vP s)<|stepF s t counts)[zF s]!⟩
theorem vM.around (h:vM s t):t.qE.length=vP s/\∀ k,k < vP s->0<=t.qE[k]! /\t.qE[k]! <=1000:=by
 have hb:=h.2.2.2.1
 exact ⟨hb.len,fun k hk=>hb.get<|by rw [hb.len];exact hk⟩
theorem cat_get (hc:c < b.length):(b++[a])[c]! =b[c]! :=by
 rw [getElem!_pos (b++[a]) c qy,getElem!_pos b c hc,List.getElem_append_left hc]
theorem cat_getN (h:b.length=n):(b++[a])[n]! =a:=by
 rw [getElem!_pos (b++[a]) n qy,List.getElem_append_right qf];simp [h]
def MeltsTo (s:qM) (counts:yLI) (c:Int) (k:Nat):Prop:=∃ i,i < k/\0 < counts[i]! /\(s.qB[i]!).jm=true/\(s.qB[i]!).qX=c
abbrev Melts (s:qM) (counts:yLI) (c:Int):Prop:=MeltsTo s counts c s.qB.length
open Classical in
noncomputable def meltDown (s:qM) (counts:yLI) (u:xh):Nat->xh
 | 0=>u
 | j+1=>if Melts s counts ((zF s:Int) - 1 - j) then melted s (meltDown s counts u j) ((zF s:Int) - 1 - j) else meltDown s counts u j
structure Live (s:qM) (B:Int) (u:xh):Prop where
 alive:u.xn.length=zF s
 root:u.xn[0]! =true
 bags:Shape (zF s) (vP s) B u.qG
 around:u.qE.length=vP s
theorem Live.mono {s:qM} {B D:Int} {u:xh} (h:Live s B u) (hD:B<=D):Live s D u:=⟨h.alive,h.root,h.bags.mono hD,h.around⟩
theorem Live.rows {u:xh} (hs:QC s) (h:Live s B u) (hB:B<=12800000000) (hp:p < zF s) (hc:c < zF s):
 (u.qG[p]!).length<=(u.qG[c]!).length/\Mid (u.qG[p]!)/\XV (u.qG[c]!) 1:=by
 have h1:=h.bags.row qf (XG hs) hp
 have h2:=h.bags.row qf (XG hs) hc
 refine ⟨by omega,h1.2,fun k hk=>?_⟩
 have:=h2.2.2 k hk
 omega
noncomputable def stepRes (s:qM) (t:xh) (counts:yLI):xh×Int:=told s<|meltDown s counts (stepped s t counts)<|zF s - 1
open Classical in
noncomputable def stepBy (s:qM) (t:xh) (counts:yLI):xh×Int:=if IsCh s t counts then stepRes s t counts else (default,4)
end
section
variable {cl cm bs os qZ xC bt ot zO vT zo : Nat}
theorem l00Max_ok (w:World) (a:Int) (b:Int):Calls Tryz.prog 147 #[yI a,yI b] w (Ret (fun v w' =>v=yI (max a b)) w):=by
 refine en func147 ntmps147 ?_
 have H:=St.start w
 have N:=Fresh.nil w.heap.size
 refine zcr<|sp (yI 0)<|zjcc<|sp (yI a)<|sp (yI b)<|sq 1<|zjn<|cD rfl (fun h1=>?_)<|fun h1=>?_
 ·refine zcr (sp (yI a)<|sp (yI a)<|zjr<|t_r<|rH1 (yI a) H<|congrArg (Value.int .i64) ?_)
  omega
 refine xk<|t_n<|zcr<|sp (yI b)<|sp (yI b)<|zjr<|rH1 (yI b) H<|congrArg (Value.int .i64) ?_
 omega
theorem l01Within_ok (w:World) (l:yLI) (m:yLI) (hl:zP w Fl al cl l) (hm:zP w Fm am cm m) (p0:l.length<=m.length):Calls Tryz.prog 181 #[Sv al l.length cl,Sv am m.length cm] w (Ret (fun v w' =>v=Bv (within l m)) w):=by
 refine en func181 ntmps181 ?_
 have H:=((St.start w).arg hm).arg hl
 have rS:=qO hl
 have nhm:=qO hm
 clear hl hm
 have N:=Fresh.nil w.heap.size
 refine zcr<|sp (Bv false)<|zjcc<|sp (yI 0)<|zjn<|xg<|zU ((fun Z0 Z1=>fun m' ρ w1=>∃ (xI:Env) (i:Nat),ρ=upd (upd (upd xI 0<|Sv al l.length cl) 1<|Sv am m.length cm) 5 (yI i)/\((i:Int)<=l.length)/\(withinTo l m i)/\m' =(l.length - (i:Int)).toNat/\Fresh w.heap.size []/\St w w1 [] [Z0,Z1]) _ _) ((l.length - (0:Int)).toNat) ⟨_,0,uE3,qf,(by exact withinTo_zero l m),rfl,N,H⟩ ?_
 clear H N
 rintro m' ρ w2 ⟨xI,i,rfl,i0,i1,rfl,N,H⟩
 refine zcc<|sp (yI i)<|sq 1<|oN rfl<|sq 1<|zjn<|cD rfl (fun h3=>?_)<|fun h3=>?_
 ·refine xk (t_n<|xH<|xg<|xH<|Xj rfl H fun H=>rtl 0 H ?_)
  refine rtp 1 (yI i) H ?_
  obtain ⟨b5,o6,rfl⟩:=H.addr 0 rfl qf
  refine tI 2 rfl rfl rfl H ?_
  refine tL 3 rfl rfl (fun _ h=>h.jd 0 rfl i qf) H ?_
  refine rtl 4 H ?_
  refine rtp 5 (yI i) H ?_
  obtain ⟨b8,o9,rfl⟩:=H.addr 1 rfl qf
  refine tI 6 rfl rfl rfl H ?_
  refine tL 7 rfl rfl (fun _ h=>h.jd 1 rfl i qf) H ?_
  refine rtl 8 H ?_
  refine xy qh<|t_n<|cD rfl (fun dZ=>?_)<|fun dZ=>?_
  ·refine zcr (sp (Bv false)<|zjr<|zr5<|rH1 (Bv false) H ?_)
   rw [within_no (k:=i) ‹_› qf]
  refine xk<|b_n<|t_n<|xZ<|sp (yI i)<|sw<|zV i 1 rfl rfl qf<|sq 1<|xW<|xq (m' :=(l.length - ((i+1):Int)).toNat) qf ⟨_,i+1,uE3,?_,?_,rfl,N,H⟩
  ·omega
  ·exact withinTo_succ ‹_› qf
 refine zx4<|zcr<|sp (Bv true)<|zjr<|rH1 (Bv true) H ?_
 rw [within_yes ‹_› qf]
theorem l01Times_ok (w:World) (l:yLI) (m:yLI) (hl:zP w Fl al cl l) (hm:zP w Fm am cm m) (p0:l.length<=m.length) (p2:∀ k,k < l.length->0<=m[k]! /\m[k]! <=1000) (p3:∃ j,j < l.length/\0 < l[j]!):Calls Tryz.prog 178 #[Sv al l.length cl,Sv am m.length cm] w (Ret (fun v w' =>v=yI (Xd l m)) w):=by
 refine en func178 ntmps178 ?_
 have H:=((St.start w).arg hm).arg hl
 have rS:=qO hl
 have nhm:=qO hm
 clear hl hm
 have N:=Fresh.nil w.heap.size
 refine zcr<|sp (yI 0)<|zjc<|sq 1<|zjcc<|sp (yI 0)<|zjn<|xg<|zU ((fun Z0 Z1=>fun m' ρ w1=>∃ (xI:Env) (gu:Int) (i:Nat),ρ=upd (upd (upd (upd xI 0<|Sv al l.length cl) 1<|Sv am m.length cm) 5<|yI gu) 6 (yI i)/\((i:Int)<=l.length)/\(Xc l m i gu)/\m' =(l.length - (i:Int)).toNat/\Fresh w.heap.size []/\St w w1 [] [Z0,Z1]) _ _) ((l.length - (0:Int)).toNat) ⟨_,(-1),0,uE4,qf,(by exact Xc.zero l m),rfl,N,H⟩ ?_
 clear H N
 rintro m' ρ w2 ⟨xI,gu,i,rfl,i0,i1,rfl,N,H⟩
 refine zcc<|sp (yI i)<|sq 1<|oN rfl<|sq 1<|zjn<|cD rfl (fun h3=>?_)<|fun h3=>?_
 ·refine xk (t_n<|xH<|xg<|xH<|Xj rfl H fun H=>rtl 0 H ?_)
  refine rtp 1 (yI i) H ?_
  obtain ⟨b5,o6,rfl⟩:=H.addr 0 rfl qf
  refine tI 2 rfl rfl rfl H ?_
  refine tL 3 rfl rfl (fun _ h=>h.jd 0 rfl i qf) H ?_
  refine rtp 4 (Bv<|decide ((l[i]! :Int) > 0)) H ?_
  refine rtp 5 (Bv<|decide ((l[i]! :Int) > 0)) H ?_
  cases h8:(decide ((l[i]! :Int) > 0))
  ·replace h8:=of_decide_eq_false h8
   refine jA (zR 6 15) 15 (H)<|rtp 21 (Bv false) H ?_
   refine xy qh<|t_n<|cFr rfl<|xk<|b_n<|t_n<|xZ<|sp (yI i)<|sw<|zV i 1 rfl rfl (by (have:=p2 i qf;omega))<|sq 1<|xW<|xq (m' :=(l.length - ((i+1):Int)).toNat) qf ⟨_,_,i+1,uE4,?_,?_,rfl,N,H⟩
   ·omega
   ·first | exact i1.take (p2 i qf) qf qf (Vp (fun k hk=>(p2 k hk).1) i qf).1 | exact i1.keep qf | exact i1.keep2 qf qf qf
  replace h8:=of_decide_eq_true h8
  refine rgl 6 18 H ?_
  refine rgp 7 (Bv<|decide ((gu:Int) < 0)) 18 H ?_
  refine rgp 8 (Bv<|decide ((gu:Int) < 0)) 18 H ?_
  cases h9:(decide ((gu:Int) < 0))
  ·replace h9:=of_decide_eq_false h9
   refine rgl 9 21 H ?_
   refine rgp 10 (yI i) 21 H ?_
   obtain ⟨yv,o11,rfl⟩:=H.addr 1 rfl qf
   refine gI 11 rfl rfl rfl H ?_
   refine gL 12 rfl rfl (fun _ h=>h.jd 1 rfl i qf) H ?_
   refine rgl 13 21 H ?_
   refine rgp 14 (yI i) 21 H ?_
   refine gI 15 rfl rfl rfl H ?_
   refine gL 16 rfl rfl (fun _ h=>h.jd 0 rfl i qf) H ?_
   refine rg 17 _ 21 (y_quo (m[i]!) (l[i]!) rfl rfl (by (have:=p2 i qf;omega))<|by (have:=p2 i qf;omega)) H ?_
   refine rgl 18 21 H ?_
   refine rgl 19 21 H ?_
   refine rgl 20 18 H ?_
   refine rtl 21 H ?_
   refine xy qh<|t_n<|cD rfl (fun JM=>?_)<|fun JM=>?_
   ·refine Xj rfl H fun H=>rtl 0 H ?_
    refine rtp 1 (yI i) H ?_
    refine tI 2 rfl rfl rfl H ?_
    refine tL 3 rfl rfl (fun _ h=>h.jd 1 rfl i qf) H ?_
    refine rtl 4 H ?_
    refine rtp 5 (yI i) H ?_
    refine tI 6 rfl rfl rfl H ?_
    refine tL 7 rfl rfl (fun _ h=>h.jd 0 rfl i qf) H ?_
    refine rt 8 _ (y_quo (m[i]!) (l[i]!) rfl rfl (by (have:=p2 i qf;omega))<|by (have:=p2 i qf;omega)) H ?_
    refine rtl 9 H ?_
    refine xy qh<|b_n<|t_n<|xZ<|sp (yI i)<|sw<|zV i 1 rfl rfl (by (have:=p2 i qf;omega))<|sq 1<|xW<|xq (m' :=(l.length - ((i+1):Int)).toNat) qf ⟨_,_,i+1,uE4,?_,?_,rfl,N,H⟩
    ·omega
    ·first | exact i1.take (p2 i qf) qf qf (Vp (fun k hk=>(p2 k hk).1) i qf).1 | exact i1.keep qf | exact i1.keep2 qf qf qf
   refine xk<|b_n<|t_n<|xZ<|sp (yI i)<|sw<|zV i 1 rfl rfl (by (have:=p2 i qf;omega))<|sq 1<|xW<|xq (m' :=(l.length - ((i+1):Int)).toNat) qf ⟨_,_,i+1,uE4,?_,?_,rfl,N,H⟩
   ·omega
   ·first | exact i1.take (p2 i qf) qf qf (Vp (fun k hk=>(p2 k hk).1) i qf).1 | exact i1.keep qf | exact i1.keep2 qf qf qf
  replace h9:=of_decide_eq_true h9
  refine jA (zR 9 11) 11 (H)<|rgp 20 (Bv true) 18 H ?_
  refine rtp 21 (Bv true) H ?_
  refine xy qh<|t_n<|cTr rfl ((Xj rfl H fun H=>rtl 0 H ?_))
  refine rtp 1 (yI i) H ?_
  obtain ⟨YQ,o17,rfl⟩:=H.addr 1 rfl qf
  refine tI 2 rfl rfl rfl H ?_
  refine tL 3 rfl rfl (fun _ h=>h.jd 1 rfl i qf) H ?_
  refine rtl 4 H ?_
  refine rtp 5 (yI i) H ?_
  refine tI 6 rfl rfl rfl H ?_
  refine tL 7 rfl rfl (fun _ h=>h.jd 0 rfl i qf) H ?_
  refine rt 8 _ (y_quo (m[i]!) (l[i]!) rfl rfl (by (have:=p2 i qf;omega))<|by (have:=p2 i qf;omega)) H ?_
  refine rtl 9 H ?_
  refine xy qh<|b_n<|t_n<|xZ<|sp (yI i)<|sw<|zV i 1 rfl rfl (by (have:=p2 i qf;omega))<|sq 1<|xW<|xq (m' :=(l.length - ((i+1):Int)).toNat) qf ⟨_,_,i+1,uE4,?_,?_,rfl,N,H⟩
  ·omega
  ·first | exact i1.take (p2 i qf) qf qf (Vp (fun k hk=>(p2 k hk).1) i qf).1 | exact i1.keep qf | exact i1.keep2 qf qf qf
 refine zx4<|zcr<|sq 2<|zjr<|rH1 (yI gu) H ?_
 obtain rfl:i=l.length:=by omega
 rw [i1.done p3];rfl
theorem l03Enabled_ok (w:World) (s:qM) (t:xh) (r:yj) {br or:Nat} {iO:Nat} {iK:Nat} {il:Nat} {iM:Nat} {nj:Nat} {eK:Nat} (hs:yG w bs os (yS s xf qZ xG xC)) (xu:zP w zH xf qZ s.qA) (xY:zP w vX xG xC s.qB) (ht:yG w bt ot (yT t zS zO vZ vT zq zo)) (vF:zP w Qa zS zO t.xn) (jM:zP w QG vZ vT t.qG) (zN:zP w jY zq zo t.qE) (hr:yG w br or [yI r.qX,yI r.yQ,Sv jn r.zT.length iO,Sv jz r.jV.length iK,Sv kh r.jX.length il,Sv kr r.jK.length iM,Sv nW r.QP.length nj,Sv ff r.xx.length eK,Bv r.jm]) (im:zP w E6 jn iO r.zT) (iE:zP w E8 jz iK r.jV) (iz:zP w D2 kh il r.jX) (iN:zP w EZ kr iM r.jK) (mV:zP w OV nW nj r.QP) (ij:zP w Ej ff eK r.xx) (p0:QC s) (p1:vM s t) (p2:RuleOk s r):Calls Tryz.prog 180 #[pp bs os,pp bt ot,pp br or] w (Ret (fun v w' =>v=Bv (dec<|EnOk s t r)) w):=by
 refine en func180 ntmps180 ?_
 have H:=((((((((((((((St.start w).arg ij).arg mV).arg iN).arg iz).arg iE).arg im).argAt hr).arg zN).arg jM).arg vF).argAt ht).arg xY).arg xu).argAt hs
 have jJ:=qO xu
 have Qb:=qO xY
 have XE:=qO vF
 have eJ:=qO jM
 have QW:=qO zN
 have Hw:=qO im
 have HX:=qO iE
 have H2:=qO iz
 have GC:=qO iN
 have KM:=qO mV
 have HJ:=qO ij
 clear hs xu xY ht vF jM zN hr im iE iz iN mV ij
 have N:=Fresh.nil w.heap.size
 have p3:=p2.1
 have p4:=p1.1
 have p5:=p1.2.1
 have p6:=(p1.bagLen (k:=r.qX.toNat) qf).len
 have p7:=p2.2.2.2.2.1.len
 have p8:=p2.2.2.2.2.2.1.len
 have p9:=p2.2.2.2.2.2.2.1.len
 have p10:=jc p2.2.2.2.2.2.2.1
 have p11:=p0.1
 have Yx:=p2.2.2.2.2.2.2.2.2.2.2
 refine zcr<|sp (Bv false)<|zjn<|xH<|xH<|Xj rfl H fun H=>rtl 0 H ?_
 refine rtl 1 H ?_
 refine tF 2 rfl rfl H ?_
 refine tL 3 rfl rfl (fun _ h=>h.vW 3 rfl 0 rfl) H ?_
 refine rtl 4 H ?_
 refine rtl 5 H ?_
 refine tF 6 rfl rfl H ?_
 refine tL 7 rfl rfl (fun _ h=>h.vW 7 rfl 0 rfl) H ?_
 obtain ⟨b2,o3,rfl⟩:=H.addr 4 rfl qf
 refine tI 8 rfl rfl rfl H ?_
 refine tL 9 rfl rfl (fun _ h=>h.elemBool 4 rfl r.qX qf qf) H ?_
 refine rtl 10 H ?_
 refine xy qh<|t_n<|vk _ rfl (fun h5=>?_)<|fun h5=>?_
 ·replace h5:=xN h5
  refine zcr<|sp (Bv false)<|zjr<|t_r<|rH1 (Bv false) H ?_
  rw [zt (fun h=>by obtain ⟨h1,h2,h3,h4,h5⟩:=h;first | exact ft h1 ‹_› | exact ft h2 ‹_› | exact ft h3 ‹_› | exact h4 ⟨‹_›,‹_›⟩ | (obtain ⟨q1,q2⟩:=h5 i qf;first | exact ft q1 ‹_› | exact absurd q2 ‹_›))]
 replace h5:=xJ h5
 refine xk<|t_n<|xH<|Xj rfl H fun H=>rtl 0 H ?_
 refine rtl 1 H ?_
 refine tF 2 rfl rfl H ?_
 refine tL 3 rfl rfl (fun _ h=>h.vW 3 rfl 1 rfl) H ?_
 refine rtl 4 H ?_
 refine rtl 5 H ?_
 refine tF 6 rfl rfl H ?_
 refine tL 7 rfl rfl (fun _ h=>h.vW 7 rfl 0 rfl) H ?_
 obtain ⟨b7,o8,rfl⟩:=H.addr 5 rfl qf
 obtain ⟨awl,avp,aGg,H⟩:=H.yD 5 rfl r.qX r.qX.toNat qf qf qf
 refine tI 8 rfl rfl rfl (H.pick []<|zR 2 14)<|ro 9 rfl<|zB (Sv awl ((t.qG[r.qX.toNat]!).length) avp) isAgg24 rfl (H.vW 1 rfl 0 rfl)<|⟨H.pick []<|zR 2 14,(rtl 10 (H.pick []<|zR 2 14) ?_)⟩
 refine xy qh<|t_n<|zcc<|sq 2<|oF rfl<|oL rfl (H.vW 9 rfl 2 rfl)<|sq 1<|sw<|oq (l01Within_ok _ r.zT (t.qG[r.qX.toNat]!) (H.get 10 rfl).1 (H.get 0 rfl).1 qg) H fun KA H=>sp (Bv (!(within r.zT<|t.qG[r.qX.toNat]!)))<|sp (Bv (!(within r.zT<|t.qG[r.qX.toNat]!))) ?_
 cases lR:(!(within r.zT (t.qG[r.qX.toNat]!)))
 ·replace lR:=xJ lR
  refine qV 38 rfl rfl<|sq 1<|qV 38 rfl rfl<|sq 1<|qV 38 rfl rfl<|oF rfl<|qV 38 rfl rfl<|oL rfl (H.vW 9 rfl 3 rfl)<|qV 38 rfl rfl<|sq 1<|qV 38 rfl rfl<|sw<|oq (l01Within_ok _ r.jV (t.qG[r.qX.toNat]!) (H.get 11 rfl).1 (H.get 0 rfl).1 qg) H fun UJ H=>qV 38 rfl rfl<|sp (Bv (!(within r.jV<|t.qG[r.qX.toNat]!)))<|sp (Bv (!(within r.jV<|t.qG[r.qX.toNat]!)))<|sp (Bv (!(within r.jV<|t.qG[r.qX.toNat]!))) ?_
  cases Dp:(!(within r.jV (t.qG[r.qX.toNat]!)))
  ·replace Dp:=xJ Dp
   refine qV 47 rfl rfl<|sq 1<|qV 47 rfl rfl<|sq 1<|qV 47 rfl rfl<|oF rfl<|qV 47 rfl rfl<|oL rfl (H.vW 9 rfl 4 rfl)<|qV 47 rfl rfl<|sw<|oq (l01Size_ok _ r.jX (H.get 12 rfl).1<|by first | assumption | exact jc ql | exact bag_small ql) H fun Ov H=>qV 47 rfl rfl<|sp (Bv<|decide ((sumL r.jX:Int) > 0))<|qV 47 rfl rfl<|sp (Bv<|decide ((sumL r.jX:Int) > 0)) ?_
   cases J2:(decide ((sumL r.jX:Int) > 0))
   ·replace J2:=of_decide_eq_false J2
    refine zM (zR 55 6)<|qV 47 rfl rfl<|sp (Bv false)<|sp (Bv false)<|zjn<|cFr rfl<|xk<|t_n<|zcc<|sp (yI 0)<|zjn<|xg<|zU ((fun Z0 Z1 Z2 Z3 Z4 Z5 Z6 Z7 Z8 Z9 fH fZ iw kH mh mj=>fun m' ρ Ot=>∃ (xI:Env) (i:Nat),ρ=upd (upd (upd (upd xI 0<|pp bs os) 1<|pp bt ot) 2<|pp br or) 8 (yI i)/\((i:Int)<=r.xx.length)/\(IntoUp s t r i)/\m' =(r.xx.length - (i:Int)).toNat/\Fresh w.heap.size []/\St w Ot [] [Z0,Z1,Z2,Z3,Z4,Z5,Z6,Z7,Z8,Z9,fH,fZ,iw,kH,mh,mj]) _ _ _ _ _ _ _ _ _ _ _ _ _ _ _ _) ((r.xx.length - (0:Int)).toNat) ⟨_,0,uE4,qf,qx,rfl,N,H⟩ ?_
    clear H N
    rintro m' ρ Nw ⟨xI,i,rfl,i0,i1,rfl,N,H⟩
    refine zcc<|sp (yI i)<|sq 2<|oF rfl<|oL rfl (H.vW 9 rfl 7 rfl)<|oN rfl<|sq 1<|zjn<|cD rfl (fun Th=>?_)<|fun Th=>?_
    ·have q:=(Yx i qf).1
     have q1:=q.1
     have q2:=q.2
     refine xk<|t_n<|xH<|xg<|zcr<|sq 2<|oF rfl<|oL rfl (H.vW 9 rfl 7 rfl)<|sp (yI i) ?_
     obtain ⟨b25,o26,rfl⟩:=H.addr 15 rfl qf
     obtain ⟨arm,arl,asZ,H⟩:=H.QU 15 rfl i i qf qf qf
     refine oI rfl rfl<|oF rfl<|oL rfl (H.vW 1 rfl 0 rfl)<|sq 1<|zjn<|xH<|Xj rfl H fun H=>rtl 0 H ?_
     refine rtl 1 H ?_
     refine tF 2 rfl rfl H ?_
     refine tL 3 rfl rfl (fun _ h=>h.vW 7 rfl 0 rfl) H ?_
     refine rtl 4 H ?_
     refine tI 5 rfl rfl rfl H ?_
     refine tL 6 rfl rfl (fun _ h=>h.elemBool 8 rfl ((r.xx[i]!).qX) qf qf) H ?_
     refine rtp 7 (Bv (!(t.xn[((r.xx[i]!).qX).toNat]!))) H ?_
     refine rtp 8 (Bv (!(t.xn[((r.xx[i]!).qX).toNat]!))) H ?_
     cases DO:(!(t.xn[((r.xx[i]!).qX).toNat]!))
     ·replace DO:=xJ DO
      refine rgl 9 88 H ?_
      refine rgl 10 88 H ?_
      refine rgl 11 88 H ?_
      refine rgl 13 88 H ?_
      refine rgl 14 88 H ?_
      refine gF 15 rfl rfl H ?_
      refine gL 16 rfl rfl (fun _ h=>h.vW 11 rfl 0 rfl) H ?_
      refine jw [12] qh qm<|r_opG rfl (e:=88) rfl rfl (oq (l02Parent_ok _ s t ((r.xx[i]!).qX) (qK (H.get 4 rfl) 0 3) (H.get 5 rfl).1 (H.get 6 rfl).1 (qK (H.get 7 rfl) 0 3) (H.get 8 rfl).1 (H.get 9 rfl).1 (H.get 10 rfl).1 ql ql ql) H fun w31 H=>⟨H,(rgl 17 88 H ?_)⟩) jy
      refine rtl 18 H ?_
      refine xy qh<|t_n<|vk _ rfl (fun Tb=>?_)<|fun Tb=>?_
      ·replace Tb:=bne_iff_ne.1 Tb
       refine zcr<|sp (Bv false)<|zjr<|zr5<|rH1 (Bv false) H ?_
       rw [zt (fun h=>by obtain ⟨h1,h2,h3,h4,h5⟩:=h;first | exact ft h1 ‹_› | exact ft h2 ‹_› | exact ft h3 ‹_› | exact h4 ⟨‹_›,‹_›⟩ | (obtain ⟨q1,q2⟩:=h5 i qf;first | exact ft q1 ‹_› | exact absurd q2 ‹_›))]
      replace Tb:=xR Tb
      refine xk<|b_n<|t_n<|xZ<|sp (yI i)<|sw<|zV i 1 rfl rfl qf<|sq 1<|xW<|xq (m' :=(r.xx.length - ((i+1):Int)).toNat) qf ⟨_,i+1,uE4,?_,?_,rfl,N,H.pick []<|zR 2 16⟩
      ·omega
      ·exact i1.succ ‹_› ‹_›
     replace DO:=xN DO
     refine jA (zR 9 9) 9 (H)<|rtp 18 (Bv true) H ?_
     refine xy qh<|t_n<|cTr rfl<|zcr<|sp (Bv false)<|zjr<|zr5<|rH1 (Bv false) H ?_
     rw [zt (fun h=>by obtain ⟨h1,h2,h3,h4,h5⟩:=h;first | exact ft h1 ‹_› | exact ft h2 ‹_› | exact ft h3 ‹_› | exact h4 ⟨‹_›,‹_›⟩ | (obtain ⟨q1,q2⟩:=h5 i qf;first | exact ft q1 ‹_› | exact absurd q2 ‹_›))]
    refine zx4<|zcr<|sp (Bv true)<|zjr<|rH1 (Bv true) H ?_
    rw [Xr ⟨by assumption,by assumption,by assumption,fun ⟨u,v⟩=>by first | omega | exact ft v ‹_›,(show i=r.xx.length by omega)▸i1⟩]
   replace J2:=of_decide_eq_true J2
   refine qV 54 rfl rfl<|sq 1<|qV 54 rfl rfl<|sq 1<|qV 54 rfl rfl<|oF rfl<|qV 54 rfl rfl<|oL rfl (H.vW 9 rfl 4 rfl)<|qV 54 rfl rfl<|sq 1<|qV 54 rfl rfl<|sw<|oq (l01Within_ok _ r.jX (t.qG[r.qX.toNat]!) (H.get 12 rfl).1 (H.get 0 rfl).1 qg) H fun P7 H=>qV 47 rfl rfl<|sq 2<|zjn<|vk _ rfl (fun PY=>?_)<|fun PY=>?_
   ·refine zcr (sp (Bv false)<|zjr<|t_r<|rH1 (Bv false) H ?_)
    rw [zt (fun h=>by obtain ⟨h1,h2,h3,h4,h5⟩:=h;first | exact ft h1 ‹_› | exact ft h2 ‹_› | exact ft h3 ‹_› | exact h4 ⟨‹_›,‹_›⟩ | (obtain ⟨q1,q2⟩:=h5 i qf;first | exact ft q1 ‹_› | exact absurd q2 ‹_›))]
   refine xk<|t_n<|zcc<|sp (yI 0)<|zjn<|xg<|zU ((fun Z0 Z1 Z2 Z3 Z4 Z5 Z6 Z7 Z8 Z9 fH fZ iw kH mh mj=>fun m' ρ TO=>∃ (xI:Env) (i:Nat),ρ=upd (upd (upd (upd xI 0<|pp bs os) 1<|pp bt ot) 2<|pp br or) 8 (yI i)/\((i:Int)<=r.xx.length)/\(IntoUp s t r i)/\m' =(r.xx.length - (i:Int)).toNat/\Fresh w.heap.size []/\St w TO [] [Z0,Z1,Z2,Z3,Z4,Z5,Z6,Z7,Z8,Z9,fH,fZ,iw,kH,mh,mj]) _ _ _ _ _ _ _ _ _ _ _ _ _ _ _ _) ((r.xx.length - (0:Int)).toNat) ⟨_,0,uE4,qf,qx,rfl,N,H⟩ ?_
   clear H N
   rintro m' ρ U7 ⟨xI,i,rfl,i0,i1,rfl,N,H⟩
   refine zcc<|sp (yI i)<|sq 2<|oF rfl<|oL rfl (H.vW 9 rfl 7 rfl)<|oN rfl<|sq 1<|zjn<|cD rfl (fun P9=>?_)<|fun P9=>?_
   ·have q:=(Yx i qf).1
    have q1:=q.1
    have q2:=q.2
    refine xk<|t_n<|xH<|xg<|zcr<|sq 2<|oF rfl<|oL rfl (H.vW 9 rfl 7 rfl)<|sp (yI i) ?_
    obtain ⟨oW,o42,rfl⟩:=H.addr 15 rfl qf
    obtain ⟨asG,asO,asw,H⟩:=H.QU 15 rfl i i qf qf qf
    refine oI rfl rfl<|oF rfl<|oL rfl (H.vW 1 rfl 0 rfl)<|sq 1<|zjn<|xH<|Xj rfl H fun H=>rtl 0 H ?_
    refine rtl 1 H ?_
    refine tF 2 rfl rfl H ?_
    refine tL 3 rfl rfl (fun _ h=>h.vW 7 rfl 0 rfl) H ?_
    refine rtl 4 H ?_
    refine tI 5 rfl rfl rfl H ?_
    refine tL 6 rfl rfl (fun _ h=>h.elemBool 8 rfl ((r.xx[i]!).qX) qf qf) H ?_
    refine rtp 7 (Bv (!(t.xn[((r.xx[i]!).qX).toNat]!))) H ?_
    refine rtp 8 (Bv (!(t.xn[((r.xx[i]!).qX).toNat]!))) H ?_
    cases h46:(!(t.xn[((r.xx[i]!).qX).toNat]!))
    ·replace h46:=xJ h46
     refine rgl 9 88 H ?_
     refine rgl 10 88 H ?_
     refine rgl 11 88 H ?_
     refine rgl 13 88 H ?_
     refine rgl 14 88 H ?_
     refine gF 15 rfl rfl H ?_
     refine gL 16 rfl rfl (fun _ h=>h.vW 11 rfl 0 rfl) H ?_
     refine jw [12] qh qm<|r_opG rfl (e:=88) rfl rfl (oq (l02Parent_ok _ s t ((r.xx[i]!).qX) (qK (H.get 4 rfl) 0 3) (H.get 5 rfl).1 (H.get 6 rfl).1 (qK (H.get 7 rfl) 0 3) (H.get 8 rfl).1 (H.get 9 rfl).1 (H.get 10 rfl).1 ql ql ql) H fun w47 H=>⟨H,(rgl 17 88 H ?_)⟩) jy
     refine rtl 18 H ?_
     refine xy qh<|t_n<|vk _ rfl (fun h49=>?_)<|fun h49=>?_
     ·replace h49:=bne_iff_ne.1 h49
      refine zcr<|sp (Bv false)<|zjr<|zr5<|rH1 (Bv false) H ?_
      rw [zt (fun h=>by obtain ⟨h1,h2,h3,h4,h5⟩:=h;first | exact ft h1 ‹_› | exact ft h2 ‹_› | exact ft h3 ‹_› | exact h4 ⟨‹_›,‹_›⟩ | (obtain ⟨q1,q2⟩:=h5 i qf;first | exact ft q1 ‹_› | exact absurd q2 ‹_›))]
     replace h49:=xR h49
     refine xk<|b_n<|t_n<|xZ<|sp (yI i)<|sw<|zV i 1 rfl rfl qf<|sq 1<|xW<|xq (m' :=(r.xx.length - ((i+1):Int)).toNat) qf ⟨_,i+1,uE4,?_,?_,rfl,N,H.pick []<|zR 2 16⟩
     ·omega
     ·exact i1.succ ‹_› ‹_›
    replace h46:=xN h46
    refine jA (zR 9 9) 9 (H)<|rtp 18 (Bv true) H ?_
    refine xy qh<|t_n<|cTr rfl<|zcr<|sp (Bv false)<|zjr<|zr5<|rH1 (Bv false) H ?_
    rw [zt (fun h=>by obtain ⟨h1,h2,h3,h4,h5⟩:=h;first | exact ft h1 ‹_› | exact ft h2 ‹_› | exact ft h3 ‹_› | exact h4 ⟨‹_›,‹_›⟩ | (obtain ⟨q1,q2⟩:=h5 i qf;first | exact ft q1 ‹_› | exact absurd q2 ‹_›))]
   refine zx4<|zcr<|sp (Bv true)<|zjr<|rH1 (Bv true) H ?_
   rw [Xr ⟨by assumption,by assumption,by assumption,fun ⟨u,v⟩=>by first | omega | exact ft v ‹_›,(show i=r.xx.length by omega)▸i1⟩]
  replace Dp:=xN Dp
  refine zM (zR 48 14)<|sp (Bv true)<|zjn<|cTr rfl<|zcr<|sp (Bv false)<|zjr<|t_r<|rH1 (Bv false) H ?_
  rw [zt (fun h=>by obtain ⟨h1,h2,h3,h4,h5⟩:=h;first | exact ft h1 ‹_› | exact ft h2 ‹_› | exact ft h3 ‹_› | exact h4 ⟨‹_›,‹_›⟩ | (obtain ⟨q1,q2⟩:=h5 i qf;first | exact ft q1 ‹_› | exact absurd q2 ‹_›))]
 replace lR:=xN lR
 refine zM (zR 39 7)<|sp (Bv true)<|sp (Bv true)<|zM (zR 48 14)<|sp (Bv true)<|zjn<|cTr rfl<|zcr<|sp (Bv false)<|zjr<|t_r<|rH1 (Bv false) H ?_
 rw [zt (fun h=>by obtain ⟨h1,h2,h3,h4,h5⟩:=h;first | exact ft h1 ‹_› | exact ft h2 ‹_› | exact ft h3 ‹_› | exact h4 ⟨‹_›,‹_›⟩ | (obtain ⟨q1,q2⟩:=h5 i qf;first | exact ft q1 ‹_› | exact absurd q2 ‹_›))]
theorem l03Applicable_ok (w:World) (s:qM) (t:xh) (hs:yG w bs os (yS s xf qZ xG xC)) (xu:zP w zH xf qZ s.qA) (xY:zP w vX xG xC s.qB) (ht:yG w bt ot (yT t zS zO vZ vT zq zo)) (vF:zP w Qa zS zO t.xn) (jM:zP w QG vZ vT t.qG) (zN:zP w jY zq zo t.qE) (p0:QC s) (p1:vM s t):Calls Tryz.prog 177 #[pp bs os,pp bt ot] w (Ret (fun v w' =>∃ (ra:yOA) (rn:Nat) (rc:Nat),v=Sv ra rn rc/\Fresh w.heap.size []/\St w w' [rr ra rn rc 4 1 ((appl s t).map<|Value.bool)] []) w):=by
 refine en func177 ntmps177 ?_
 have H:=(((((((St.start w).arg zN).arg jM).arg vF).argAt ht).arg xY).arg xu).argAt hs
 have jJ:=qO xu
 have Qb:=qO xY
 have XE:=qO vF
 have eJ:=qO jM
 have QW:=qO zN
 clear hs xu xY ht vF jM zN
 have N:=Fresh.nil w.heap.size
 have p2:=p0.2.1
 have p3:=p0.1.2.1
 refine zcr<|sq 1<|zjc<|sq 2<|oF rfl<|oL rfl (H.vW 0 rfl 1 rfl)<|oN rfl<|sw<|jE H underlying24 ti2 s.qA.length rfl rfl qf qf qf fun b1 w2 H=>sq 1<|zjc<|sw<|jk H underlying28 ti4 fun b3 w4 H=>sq 1<|zjcc<|sp (yI 0)<|zjn<|xg ?_
 replace H:=H.boxRowB 0 [] 0
 refine zU ((fun Z0 Z1 Z2 Z3 Z4 Z5 Z6=>fun m' ρ w5=>∃ (xI:Env) (yY:yOA) (yV:Nat) (yX:Nat) (out:List Bool) (i:Nat) (gu:yLI),ρ=upd (upd (upd (upd (upd xI 0<|pp bs os) 1<|pp bt ot) 5<|Sv (aa b1 0) s.qA.length s.qA.length) 6<|Sv yY yV yX) 7 (yI i)/\out=applB s t 0 i/\gu=bests s t 0 s.qA.length i/\((i:Int)<=s.qB.length)/\m' =(s.qB.length - (i:Int)).toNat/\Fresh w.heap.size []/\St w w5 [rr yY yV yX 4 1<|out.map<|Value.bool,rr (aa b1 0) s.qA.length s.qA.length 2 1<|gu.map<|Value.int .i64] [Z0,Z1,Z2,Z3,Z4,Z5,Z6]) _ _ _ _ _ _ _) ((s.qB.length - (0:Int)).toNat) ⟨_,(aa b3 0),0,0,([]:List Bool),0,(List.replicate s.qA.length (0:Int)),uE5,(by rfl),(by exact bests_zero s t 0 _),qf,rfl,N,H⟩ ?_
 clear H N
 rintro m' ρ w6 ⟨xI,yY,yV,yX,out,i,gu,rfl,rfl,rfl,i0,rfl,N,H⟩
 have Vq:=H.rowNB 0 rfl
 have arF:=H.Qc 1 rfl
 have bl:=Xv s t 0 s.qA.length i
 have al:=applB_len s t 0 i
 refine zcc<|sp (yI i)<|sq 2<|oF rfl<|oL rfl (H.vW 0 rfl 2 rfl)<|oN rfl<|sq 1<|zjn<|cD rfl (fun h7=>?_)<|fun h7=>?_
 ·have q:=p0.rule (i:=i) qf
  have qc:=q.1
  have qk:=q.cell
  have qr:=q.2.1
  refine xk<|t_n<|xH<|xg<|zcr<|sq 2<|oF rfl<|oL rfl (H.vW 0 rfl 2 rfl)<|sp (yI i) ?_
  obtain ⟨b8,o9,rfl⟩:=H.addr 2 rfl qf
  obtain ⟨akX,aiU,ahF,ann,alH,aoM,al3,aod,ahl,am1,ajG,amF,asL,arz,arP,ah9,amG,ahD,H⟩:=H.Xh 2 rfl i i qf qf qf
  refine oI rfl rfl<|sq 1<|zjc<|sq 3<|sw<|oq (l03Enabled_ok _ s t (s.qB[i]!) (qK (H.get 7 rfl) 0 3) (H.get 8 rfl).1 (H.get 9 rfl).1 (qK (H.get 10 rfl) 0 3) (H.get 11 rfl).1 (H.get 12 rfl).1 (H.get 13 rfl).1 (qK (H.get 6 rfl) 0 9) (H.get 0 rfl).1 (H.get 1 rfl).1 (H.get 2 rfl).1 (H.get 3 rfl).1 (H.get 4 rfl).1 (H.get 5 rfl).1 qg qg qg) H fun II H=>(sq 1<|zjc<|sq 2<|sw<|zx H underlying28 ti4 [Bv<|dec<|EnOk s t<|s.qB[i]!] fun GV UJ H=>sw<|zJ H 1 rfl 0 rfl underlying28 ti4 rfl qj rfl rfl rfl qw qp qf fun a17 c18 Ov H=>?_)
  rw [snocB] at H
  refine sq 1<|zjc<|sq 1<|zjn<|cP rfl (fun Bk=>?_)<|fun Bk=>?_
  ·refine XQ rfl H [0,1] fun H=>?_
   have S:=H.zK [0,1]<|zR 0 14
   refine rtl 0 S ?_
   refine rtl 1 S ?_
   refine rtl 2 S ?_
   refine tF 3 rfl rfl S ?_
   refine tL 4 rfl rfl (fun _ h=>h.vW 6 rfl 0 rfl) S ?_
   refine rtl 5 S ?_
   refine rtl 6 S ?_
   refine rtl 7 S ?_
   refine tF 8 rfl rfl S ?_
   refine tL 9 rfl rfl (fun _ h=>h.vW 6 rfl 0 rfl) S ?_
   refine tI 10 rfl rfl rfl S ?_
   refine rtl 12 S ?_
   refine rtl 13 S ?_
   refine tF 14 rfl rfl S ?_
   refine tL 15 rfl rfl (fun _ h=>h.vW 6 rfl 1 rfl) S ?_
   refine ro 11 rfl<|zB (yI ((bests s t 0 s.qA.length i)[((s.qB[i]!).qX).toNat]!)) isAgg2 rfl (H.rowInt 2 rfl (iv:=(s.qB[i]!).qX) (i:=(((s.qB[i]!).qX).toNat)) qf qf)<|⟨H.pick [0,1]<|zR 0 14,(ro 16 rfl<|oq (l00Max_ok Ov.drew ((bests s t 0 s.qA.length i)[((s.qB[i]!).qX).toNat]!) ((s.qB[i]!).yQ)) H fun Nw H=>⟨H.pick [0,1]<|zR 0 14,(tI 17 rfl rfl rfl (H.pick [0,1]<|zR 0 14) ?_)⟩)⟩
   refine ro 18 rfl<|o_storeInt H 2 rfl (max ((bests s t 0 s.qA.length i)[((s.qB[i]!).qX).toNat]!) ((s.qB[i]!).yQ)) sizeOf2 rfl rfl (i:=(((s.qB[i]!).qX).toNat)) qf qf fun Ea H=>⟨H.pick [0,1]<|zR 0 14,(xy qh<|b_n<|t_n<|xZ<|sp (yI i)<|sw<|zV i 1 rfl rfl qf<|sq 1<|xW<|xq (m' :=(s.qB.length - ((i+1):Int)).toNat) qf ⟨_,_,_,_,_,i+1,_,uE5,?_,?_,?_,rfl,N,H.pick [1,2]<|zR 7 7⟩)⟩
   ·exact applB_snoc s t i
   ·first | exact bests_set ‹_› qf | exact bests_skip ‹_›
   ·omega
  refine xk<|b_n<|t_n<|xZ<|sp (yI i)<|sw<|zV i 1 rfl rfl qf<|sq 1<|xW<|xq (m' :=(s.qB.length - ((i+1):Int)).toNat) qf ⟨_,_,_,_,_,i+1,_,uE5,?_,?_,?_,rfl,N,H.pick [1,2]<|zR 7 7⟩
  ·exact applB_snoc s t i
  ·first | exact bests_set ‹_› qf | exact bests_skip ‹_›
  ·omega
 refine zx4<|zcc<|sp (yI 0)<|zjn<|xg<|zU ((fun Z0 Z1 Z2 Z3=>fun m' ρ Ky=>∃ (xI:Env) (ky:Nat) (eR:List Bool),ρ=upd (upd (upd (upd xI 0<|pp bs os) 5<|Sv (aa b1 0) s.qA.length s.qA.length) 6<|Sv yY yV yX) 10 (yI ky)/\eR=applB s t ky s.qB.length/\((ky:Int)<=s.qB.length)/\m' =(s.qB.length - (ky:Int)).toNat/\Fresh w.heap.size []/\St w Ky [rr yY yV yX 4 1<|eR.map<|Value.bool,Z0] [Z1,Z2,Z3]) _ _ _ _) ((s.qB.length - (0:Int)).toNat) ⟨_,0,(applB s t 0 i),uE4,(by rw [show i=s.qB.length by omega]),qf,rfl,N,H.pick [0,1] [0,1,2]⟩ ?_
 clear H N
 rintro m' ρ SD ⟨xI,ky,eR,rfl,rfl,i0,rfl,N,H⟩
 have Vq:=H.rowNB 0 rfl
 have bl:=Xv s t 0 s.qA.length i
 have al:=applB_len s t ky s.qB.length
 refine zcc<|sq 3<|oF rfl<|oL rfl (H.vW 0 rfl 2 rfl)<|oN rfl<|sq 1<|zjn<|cD rfl (fun oZ=>?_)<|fun oZ=>?_
 ·have q:=p0.rule (i:=ky) qf
  have qc:=q.1
  have qk:=q.cell
  have qr:=q.2.1
  refine xk<|t_n<|xH<|xg<|XQ rfl H [1] fun H=>?_
  have S:=H.zK [1] [0,1,2]
  refine rtl 0 S ?_
  refine rtl 1 S ?_
  refine rtl 2 S ?_
  refine rtl 3 S ?_
  obtain ⟨JZ,rfl⟩:=H.jg 0 rfl qf
  refine tI 4 rfl rfl rfl (H.pick [1] [0,1,2])<|ro 5 rfl<|zB (Bv ((applB s t ky s.qB.length)[ky]!)) isAgg4 rfl (H.rowBool 0 rfl (iv:=ky) (i:=ky) qf qf)<|⟨H.pick [1] [0,1,2],(rtp 6 (Bv ((applB s t ky s.qB.length)[ky]!)) (H.pick [1] [0,1,2]) ?_)⟩
  cases h31:((applB s t ky s.qB.length)[ky]!)
  ·refine jA (zR 7 20) 20 (H.pick [1] [0,1,2]) ?_
   have S:=H.zK [1] [0,1,2]
   refine rtp 27 (Bv false) S ?_
   refine tI 28 rfl rfl rfl S ?_
   refine ro 29 rfl<|o_storeBool H 0 rfl false sizeOf4 rfl rfl (i:=ky) qf qf fun Sb H=>⟨H.pick [1] [0,1,2],(xy qh<|b_n<|t_n<|xZ<|sq 1<|sw<|zV ky 1 rfl rfl qf<|sq 1<|xW<|xq (m' :=(s.qB.length - ((ky+1):Int)).toNat) qf ⟨_,ky+1,_,uE4,?_,?_,rfl,N,H⟩)⟩
   ·first | exact applB_set qf (applB_step0 (m:=s.qB.length) qf ‹_›) | exact applB_set qf<|applB_step1 (m:=s.qB.length) (n:=s.qA.length) (z:=0) (i:=i) qf ‹_› rfl qf qf qf
   ·omega
  have S:=H.zK [1] [0,1,2]
  refine rgl 7 75 S ?_
  refine rgl 8 75 S ?_
  refine gF 9 rfl rfl S ?_
  refine gL 10 rfl rfl (fun _ h=>h.vW 0 rfl 2 rfl) S ?_
  refine rgl 11 75 S ?_
  obtain ⟨AJ,o34,rfl⟩:=H.addr 2 rfl qf
  obtain ⟨pL,pr,Nr,pD,o0,O6,pI,pP,KX,px,pa,MW,sM,sL,Tt,pj,pY,Lk,H⟩:=H.Xh 2 rfl ky ky qf qf qf
  have S:=H.zK [1] [7,8,9]
  refine gI 12 rfl rfl rfl S ?_
  refine gF 13 rfl rfl S ?_
  refine rgl 15 75 S ?_
  refine rgl 16 75 S ?_
  refine rgl 17 75 S ?_
  refine gF 18 rfl rfl S ?_
  refine gL 19 rfl rfl (fun _ h=>h.vW 0 rfl 2 rfl) S ?_
  refine rgl 20 75 S ?_
  refine gI 21 rfl rfl rfl S ?_
  refine gF 22 rfl rfl S ?_
  refine jw [14,23] qh qm<|r_opG rfl (e:=75) rfl rfl ?_<|r_opG rfl (e:=75) rfl rfl ?_ jy
  ·refine zB (yI ((s.qB[ky]!).yQ)) isAgg2 rfl (H.vW 6 rfl 1 rfl) (⟨H.pick [1] [7,8,9],(jw [23] qh qm<|r_opG rfl (e:=75) rfl rfl (zB (yI ((s.qB[ky]!).qX)) isAgg2 rfl (H.vW 6 rfl 0 rfl)<|⟨H.pick [1] [7,8,9],?_⟩) jy)⟩)
   have S:=H.zK [1] [7,8,9]
   refine gI 24 rfl rfl rfl S ?_
   refine gL 25 rfl rfl (fun _ h=>h.rowInt 0 rfl (iv:=(s.qB[ky]!).qX) (i:=(((s.qB[ky]!).qX).toNat)) qf qf) S ?_
   refine rgl 26 75 S ?_
   refine rtl 27 S ?_
   refine tI 28 rfl rfl rfl S ?_
   refine ro 29 rfl<|o_storeBool H 0 rfl (((s.qB[ky]!).yQ:Int) == ((bests s t 0 s.qA.length i)[((s.qB[ky]!).qX).toNat]!)) sizeOf4 rfl rfl (i:=ky) qf qf fun w37 H=>⟨H.pick [1] [7,8,9],(xy qh<|b_n<|t_n<|xZ<|sq 1<|sw<|zV ky 1 rfl rfl qf<|sq 1<|xW<|xq (m' :=(s.qB.length - ((ky+1):Int)).toNat) qf ⟨_,ky+1,_,uE4,?_,?_,rfl,N,H.pick [0,1] [7,8,9]⟩)⟩
   ·first | exact applB_set qf (applB_step0 (m:=s.qB.length) qf ‹_›) | exact applB_set qf<|applB_step1 (m:=s.qB.length) (n:=s.qA.length) (z:=0) (i:=i) qf ‹_› rfl qf qf qf
   ·omega
  refine zB (yI ((s.qB[ky]!).qX)) isAgg2 rfl (H.vW 6 rfl 0 rfl)<|⟨H.pick [1] [7,8,9],?_⟩
  have S:=H.zK [1] [7,8,9]
  refine gI 24 rfl rfl rfl S ?_
  refine gL 25 rfl rfl (fun _ h=>h.rowInt 0 rfl (iv:=(s.qB[ky]!).qX) (i:=(((s.qB[ky]!).qX).toNat)) qf qf) S ?_
  refine jw [14] qh qm<|r_opG rfl (e:=75) rfl rfl (zB (yI ((s.qB[ky]!).yQ)) isAgg2 rfl (H.vW 6 rfl 1 rfl)<|⟨H.pick [1] [7,8,9],?_⟩) jy
  have S:=H.zK [1] [7,8,9]
  refine rgl 26 75 S ?_
  refine rtl 27 S ?_
  refine tI 28 rfl rfl rfl S ?_
  refine ro 29 rfl<|o_storeBool H 0 rfl (((s.qB[ky]!).yQ:Int) == ((bests s t 0 s.qA.length i)[((s.qB[ky]!).qX).toNat]!)) sizeOf4 rfl rfl (i:=ky) qf qf fun TO H=>⟨H.pick [1] [7,8,9],(xy qh<|b_n<|t_n<|xZ<|sq 1<|sw<|zV ky 1 rfl rfl qf<|sq 1<|xW<|xq (m' :=(s.qB.length - ((ky+1):Int)).toNat) qf ⟨_,ky+1,_,uE4,?_,?_,rfl,N,H.pick [0,1] [7,8,9]⟩)⟩
  ·first | exact applB_set qf (applB_step0 (m:=s.qB.length) qf ‹_›) | exact applB_set qf<|applB_step1 (m:=s.qB.length) (n:=s.qA.length) (z:=0) (i:=i) qf ‹_› rfl qf qf qf
  ·omega
 refine zx4<|zcr<|sq 2<|zjr<|rH1 (Sv yY yV yX) H ?_
 obtain rfl:ky=s.qB.length:=by omega
 exact ⟨yY,yV,yX,rfl,N,H.pick [0] []⟩
theorem l03First_ok (w:World) (s:qM) (t:xh) (hs:yG w bs os (yS s xf qZ xG xC)) (xu:zP w zH xf qZ s.qA) (xY:zP w vX xG xC s.qB) (ht:yG w bt ot (yT t zS zO vZ vT zq zo)) (vF:zP w Qa zS zO t.xn) (jM:zP w QG vZ vT t.qG) (zN:zP w jY zq zo t.qE) (p0:QC s) (p1:vM s t):Calls Tryz.prog 170 #[pp bs os,pp bt ot] w (Ret (fun v w' =>∃ (ra:yOA) (rn:Nat) (rc:Nat),v=Sv ra rn rc/\Fresh w.heap.size []/\St w w' [rr ra rn rc 2 1 ((xw s t).map<|Value.int .i64)] []) w):=by
 refine en func170 ntmps170 ?_
 have H:=(((((((St.start w).arg zN).arg jM).arg vF).argAt ht).arg xY).arg xu).argAt hs
 have jJ:=qO xu
 have Qb:=qO xY
 have XE:=qO vF
 have eJ:=qO jM
 have QW:=qO zN
 clear hs xu xY ht vF jM zN
 have N:=Fresh.nil w.heap.size
 have p3:=p0.2.1
 have p7:=p1.2.1
 have p8:=XG p0
 have p9:=p0.1.2.1
 have p11:zF s=s.qA.length:=rfl
 refine zcr<|sq 1<|zjc<|sq 2 ?_
 have sz4:=H.base.size
 refine sw<|oc (l03Applicable_ok _ s t (qK (H.get 0 rfl) 0 3) (H.get 1 rfl).1 (H.get 2 rfl).1 (qK (H.get 3 rfl) 0 3) (H.get 4 rfl).1 (H.get 5 rfl).1 (H.get 6 rfl).1 qg qg) ?_
 rintro _ w2 ⟨ra1,rn1,LY,rfl,M,K⟩ _
 replace H:=H.merge K M
 obtain rfl:=H.rowNB 0 rfl
 have al:=appl_len s t
 refine sq 1<|zjc<|sw<|jk H underlying29 ti24 fun b7 w8 H=>sq 1<|zjcc<|sp (yI 0)<|zjn<|xg ?_
 replace H:=H.boxRow 0 rfl 1 0 rfl qj
 replace H:=H.jZ (α:=yLI)
 refine zU ((fun Z0 Z1 Z2 Z3 Z4 Z5 Z6 Z7=>fun m' ρ w9=>∃ (xI:Env) (vi:yOA) (uH:Nat) (vt:Nat) (rest:yLL) (mB:List Value) (lG:yLN) (c:Nat),ρ=upd (upd (upd (upd (upd xI 0<|pp bs os) 1<|pp bt ot) 5<|Sv ra1 ((appl s t).length) LY) 6<|Sv vi uH vt) 7 (yI c)/\rest=t.qG.take c/\((c:Int)<=t.qG.length)/\m' =(t.qG.length - (c:Int)).toNat/\Fresh w.heap.size [lG]/\St w w9 [rr vi uH vt 24 1 mB,Z0] [qL true lG mB rest,Z1,Z2,Z3,Z4,Z5,Z6,Z7]) _ _ _ _ _ _ _ _) ((t.qG.length - (0:Int)).toNat) ⟨_,(aa b7 0),0,0,([]:yLL),[],[],0,uE5,(by rfl),qf,rfl,N.emp,H⟩ ?_
 clear H N
 rintro m' ρ DN ⟨xI,vi,uH,vt,rest,mB,lG,c,rfl,rfl,i0,rfl,N,H⟩
 have zr:=H.xe (α:=yLI) 0 rfl 0 rfl qj
 have p4:=(p1.bagLen (k:=c))
 rw [List.length_take_of_le qf] at zr
 refine zcc<|sp (yI c)<|sq 2<|oF rfl<|oL rfl (H.vW 4 rfl 1 rfl)<|oN rfl<|sq 1<|zjn<|cD rfl (fun dZ=>?_)<|fun dZ=>?_
 ·refine xk (t_n<|xH<|xg<|xZ<|sq 3<|oF rfl<|oL rfl (H.vW 4 rfl 1 rfl)<|sp (yI c) ?_)
  obtain ⟨sH,o13,rfl⟩:=H.addr 6 rfl qf
  obtain ⟨aEM,aEY,aH8,H⟩:=H.yD 6 rfl c c qf qf qf
  refine oI rfl rfl<|oL rfl (H.vW 1 rfl 0 rfl) ?_
  have p5:=(p1.bagLen (k:=c) qf).len
  have aDT:=H.base.size
  have aFW:=H.ltN (L:=[lG]) [2]
  refine sw<|oc (X6 _ (t.qG[c]!) (H.get 0 rfl).1 qg) ?_
  rintro v21 Ov r21 x20
  replace H:=H.zI x20 r21
  obtain ⟨a22,c23,rfl,aDV,aE8⟩:=H.jW 0 rfl
  refine sw<|zx H underlying29 ti24 [Sv a22 ((t.qG[c]!).length) c23] fun IA SD H=>?_
  obtain ⟨G31,N,ay8,H⟩:=H.ve 1 rfl N<|H.vg [2]
  refine sw<|zJ H 2 rfl 0 rfl underlying29 ti24 rfl qj rfl rfl rfl qw qp qf fun a28 c29 w30 H=>?_
  replace H:=H.QR 3 rfl 0 rfl
  replace N:Fresh w.heap.size [(lG++G31)]:=(N.pick [1,0]).join
  refine sq 1<|xW<|b_n<|t_n<|xZ<|sp (yI c)<|sw<|zV c 1 rfl rfl (by (first | omega | (have u8:=firstC_bd p0 p1 (k:=i) qf;rw [Xz ‹_›] at u8;omega)))<|sq 1<|xW<|xq (m' :=(t.qG.length - ((c+1):Int)).toNat) qf ⟨_,_,_,_,_,_,_,c+1,uE5,?_,?_,rfl,N,H.pick [2,3] (0::zR 5 7)⟩
  ·exact take_snoc qf
  ·omega
 refine zx4<|zcr<|sw<|jk H underlying24 ti2 fun AJ w34 H=>sq 1<|zjcc<|sp (yI 0)<|zjn<|xg ?_
 replace H:=H.boxRowI 0 [] 0
 refine zU ((fun Z0 Z1 Z2 Z3=>fun m' ρ P7=>∃ (xI:Env) (yY:yOA) (yV:Nat) (yX:Nat) (out:yLI) (i:Nat) (DX:yLL) (um:List Value) (pf:yLN),ρ=upd (upd (upd (upd (upd xI 0<|pp bs os) 5<|Sv ra1 ((appl s t).length) LY) 6<|Sv vi uH vt) 8<|Sv yY yV yX) 9 (yI i)/\out=firstTo s t i i/\DX=jG s t i/\((i:Int)<=((appl s t).length))/\m' =(((appl s t).length) - (i:Int)).toNat/\Fresh w.heap.size [pf]/\St w P7 [rr yY yV yX 2 1<|out.map<|Value.int .i64,rr vi uH vt 24 1 um,Z0] [qL true pf um DX,Z1,Z2,Z3]) _ _ _ _) ((((appl s t).length) - (0:Int)).toNat) ⟨_,(aa AJ 0),0,0,([]:yLI),0,(t.qG.take c),mB,lG,uE5,(by rfl),(by rw [List.take_of_length_le qf];rfl),qf,rfl,N,H.pick [0,1,2]<|zR 0 4⟩ ?_
 clear H N
 rintro m' ρ PJ ⟨xI,yY,yV,yX,out,i,DX,um,pf,rfl,rfl,rfl,i0,rfl,N,H⟩
 have Vq:=H.Qc 0 rfl
 have zr:=H.xe (α:=yLI) 1 rfl 0 rfl qj
 have fl:=yc s t i i
 have rl:=(firstR_box p0 p1 i qf).1
 refine zcc<|sp (yI i)<|sq 1<|oN rfl<|sq 1<|zjn<|cD rfl (fun PY=>?_)<|fun PY=>?_
 ·have q:=p0.rule (i:=i) qf
  have qc:=q.1
  have qk:=q.cell
  have qr:=q.2.1
  have b1:=q.2.2.2.2.1
  refine xk<|t_n<|xH<|xg<|zcr<|sp (yI 0)<|zjcc<|sq 1<|sp (yI i) ?_
  obtain ⟨b38,rfl⟩:=H.jg 2 rfl qf
  refine oI rfl rfl<|oL rfl (H.rowBool 2 rfl (iv:=i) (i:=i) qf qf)<|zjn<|vk _ rfl (fun Zr=>?_)<|fun Zr=>?_
  ·replace Zr:=appl_true qf Zr
   refine zcr<|sq 2<|oF rfl<|oL rfl (H.vW 1 rfl 2 rfl)<|sp (yI i) ?_
   obtain ⟨WT,o41,rfl⟩:=H.addr 3 rfl qf
   obtain ⟨ahB,apw,ahk,aha,al9,aki,alF,aeP,anR,amo,aoj,ahg,arj,ara,arx,ahu,aov,ai4,H⟩:=H.Xh 3 rfl i i qf qf qf
   refine oI rfl rfl<|oF rfl<|oL rfl (H.vW 6 rfl 0 rfl)<|sq 1<|zjn<|xH<|Xj rfl H fun H=>rtl 0 H ?_
   refine rtl 1 H ?_
   refine tF 2 rfl rfl H ?_
   refine tL 3 rfl rfl (fun _ h=>h.vW 8 rfl 2 rfl) H ?_
   refine rtp 4 (yI i) H ?_
   refine tI 5 rfl rfl rfl H ?_
   refine tF 6 rfl rfl H ?_
   refine tL 7 rfl rfl (fun _ h=>h.vW 6 rfl 2 rfl) H ?_
   refine rtl 8 H ?_
   refine rtl 9 H ?_
   obtain ⟨b45,rfl⟩:=H.jg 1 rfl qf
   refine tI 10 rfl rfl rfl H ?_
   refine ro 11 rfl ?_
   obtain ⟨a46,c47,G48,s49,h50,H⟩:=H.Q7 1 rfl 7 rfl (iv:=(s.qB[i]!).qX) (((s.qB[i]!).qX).toNat) qf qf
   refine zB (Sv a46 (((jG s t i)[((s.qB[i]!).qX).toNat]!).length) c47) isAgg24 rfl (h50)<|⟨H.pick [0,1,2]<|zR 1 11,(ro 12 rfl ?_)⟩
   obtain ⟨u1,u2,u5⟩:=firstR_row (c:=(s.qB[i]!).qX.toNat) p0 p1 (show i<=_ by omega) qk
   have u3:=b1.len
   have u6:∀ k,k < ((s.qB[i]!).zT).length->0<=((jG s t i)[(s.qB[i]!).qX.toNat]!)[k]! /\((jG s t i)[(s.qB[i]!).qX.toNat]!)[k]! <=1000:=fun k hk=>u5 k qf
   have u7:=sum_pos b1.1 q.2.2.2.2.2.2.2.2.2.1
   refine oq (l01Times_ok _ ((s.qB[i]!).zT) ((jG s t i)[((s.qB[i]!).qX).toNat]!) (H.get 1 rfl).1 (H.get 0 rfl).1 qg qg qg) H fun w52 H=>⟨H.pick [0,1,2]<|zR 1 11,(rtl 13 (H.pick [0,1,2]<|zR 1 11) ?_)⟩
   refine xy qh<|t_n<|XQ rfl H [0,2] fun H=>?_
   have S:=H.zK [0,2]<|zR 0 12
   refine rtl 0 S ?_
   refine rtl 1 S ?_
   refine rtl 2 S ?_
   refine rtl 3 S ?_
   refine tI 4 rfl rfl rfl S ?_
   refine rtl 6 S ?_
   refine rtl 7 S ?_
   refine tF 8 rfl rfl S ?_
   refine tL 9 rfl rfl (fun _ h=>h.vW 9 rfl 2 rfl) S ?_
   refine rtp 10 (yI i) S ?_
   refine tI 11 rfl rfl rfl S ?_
   refine tF 12 rfl rfl S ?_
   refine tL 13 rfl rfl (fun _ h=>h.vW 7 rfl 2 rfl) S ?_
   refine rtl 14 S ?_
   refine rt 15 _ (y_neg (Xd ((s.qB[i]!).zT) ((jG s t i)[((s.qB[i]!).qX).toNat]!)) rfl<|by (first | omega | (have u8:=firstC_bd p0 p1 (k:=i) qf;rw [Xz ‹_›] at u8;omega))) S ?_
   refine ro 5 rfl ?_
   obtain ⟨a55,c56,gH,s58,h59,H⟩:=H.Q7 1 rfl 8 rfl (iv:=(s.qB[i]!).qX) (((s.qB[i]!).qX).toNat) qf qf
   refine zB (Sv a55 (((jG s t i)[((s.qB[i]!).qX).toNat]!).length) c56) isAgg24 rfl (h59)<|⟨H.pick [0,2]<|zR 1 12,(ro 16 rfl ?_)⟩
   obtain ⟨u1,u2,u5⟩:=firstR_row (c:=(s.qB[i]!).qX.toNat) p0 p1 (show i<=_ by omega) qk
   have u3:=b1.len
   have u8:=firstC_bd p0 p1 (k:=i) qf
   rw [Xz ‹_›] at u8
   have u4:=b1.Qm (t:= -(Xd (s.qB[i]!).zT ((jG s t i)[(s.qB[i]!).qX.toNat]!))) qf
   have aEi:=H.base.size
   have aKf:=H.ltN (L:=[pf]) [9]
   refine oc (Qu _ ((jG s t i)[((s.qB[i]!).qX).toNat]!) ((s.qB[i]!).zT) (-(Xd ((s.qB[i]!).zT) ((jG s t i)[((s.qB[i]!).qX).toNat]!))) (H.get 0 rfl).1 (H.get 2 rfl).1 qg qg qg) ?_
   rintro v65 w63 r65 x64
   replace H:=H.zI x64 r65
   obtain ⟨a66,c67,rfl,aFz,aKE⟩:=H.jW 0 rfl
   refine ⟨H.pick [1,3]<|zR 1 12,(tI 17 rfl rfl rfl (H.pick [1,3]<|zR 1 12) ?_)⟩
   refine ro 18 rfl ?_
   obtain ⟨G71,N,abm,H⟩:=H.ve 0 rfl N<|H.vg [9]
   refine yZ true H 2 rfl 10 rfl (Sv a66 ((vS ((jG s t i)[((s.qB[i]!).qX).toNat]!) ((s.qB[i]!).zT) (-(Xd ((s.qB[i]!).zT) ((jG s t i)[((s.qB[i]!).qX).toNat]!)))).length) c67) 0 rfl rfl sizeOf24 rfl rfl (i:=(((s.qB[i]!).qX).toNat)) qf qf qm fun w70 aHe F74 auY H=>?_
   replace N:Fresh w.heap.size [F74]:=(N.pick [1,0]).repl auY
   refine ⟨H.pick [1,3]<|zR 3 12,(xy qh<|t_n<|xZ<|sq 2<|sw<|zx H underlying24 ti2 [yI<|Xd ((s.qB[i]!).zT) ((jG s t i)[((s.qB[i]!).qX).toNat]!)] fun b76 w77 H=>sw<|zJ H 2 rfl 0 rfl underlying24 ti2 rfl qj rfl rfl rfl qw qp qf fun a78 c79 WH H=>?_)⟩
   rw [snocI] at H
   refine sq 1<|xW<|b_n<|t_n<|xZ<|sp (yI i)<|sw<|zV i 1 rfl rfl (by (first | omega | (have u8:=firstC_bd p0 p1 (k:=i) qf;rw [Xz ‹_›] at u8;omega)))<|sq 1<|xW<|xq (m' :=(((appl s t).length) - ((i+1):Int)).toNat) qf ⟨_,_,_,_,_,i+1,_,_,_,uE5,?_,?_,?_,rfl,N,H.pick [2,3,4] [0,12,13,14]⟩
   ·exact firstTo_snoc'<|by first | exact (Xz ‹_›).symm | exact (firstC_no ‹_›).symm
   ·first | exact (firstR_yes ‹_›).symm | exact (firstR_no ‹_›).symm
   ·omega
  replace Zr:=appl_false qf Zr
  refine xk<|t_n<|xZ<|sq 1<|sp (yI 0)<|sw<|zx H underlying24 ti2 [yI 0] fun b81 w82 H=>sw<|zJ H 1 rfl 0 rfl underlying24 ti2 rfl qj rfl rfl rfl qw qp qf fun a83 c84 w85 H=>?_
  rw [snocI] at H
  refine sq 1<|xW<|b_n<|t_n<|xZ<|sp (yI i)<|sw<|zV i 1 rfl rfl (by (first | omega | (have u8:=firstC_bd p0 p1 (k:=i) qf;rw [Xz ‹_›] at u8;omega)))<|sq 1<|xW<|xq (m' :=(((appl s t).length) - ((i+1):Int)).toNat) qf ⟨_,_,_,_,_,i+1,_,_,_,uE5,?_,?_,?_,rfl,N,H.pick [1,2,3]<|zR 0 4⟩
  ·exact firstTo_snoc'<|by first | exact (Xz ‹_›).symm | exact (firstC_no ‹_›).symm
  ·first | exact (firstR_yes ‹_›).symm | exact (firstR_no ‹_›).symm
  ·omega
 refine zx4<|zcr<|sq 2<|zjr<|rH1 (Sv yY yV yX) H ?_
 obtain rfl:i=s.qB.length:=by omega
 exact ⟨yY,yV,yX,rfl,(N.pick []),H.pick [0] []⟩
end
section
def minus (k:Nat):yLI:=(List.range 6).map fun j=>if j < k then -1 else 0
theorem minus_len (k:Nat):(minus k).length=6:=by simp [minus]
theorem minus_get (h:j < 6):(minus k)[j]! =if j < k then -1 else 0:=by
 rw [getElem!_pos (minus k) j<|by rw [minus_len];exact h];simp [minus]
theorem minus_set (h:k < 6):(minus k).set k (-1)=minus (k+1):=by
 refine ext_get (by simp [minus_len]) fun p hp=>?_
 rw [List.length_set,minus_len] at hp
 rw [getset<|by rw [minus_len];exact h,minus_get hp,minus_get hp]
 by_cases e:p=k
 ·rw [if_pos e,if_pos qf]
 ·rw [if_neg e]
  by_cases h1:p < k
  ·rw [if_pos h1,if_pos qf]
  ·rw [if_neg h1,if_neg qf]
theorem minus_six (h:k=6) (s:qM) (t:xh):minus k=bests s t (-1) 6 0:=by
 subst h
 rw [← bests_zero];rfl
theorem appl_yes (hk:k=s.qB.length) (hi:i < s.qB.length) (hz:z<=(s.qB[i]!).yQ) (hc:(s.qB[i]!).qX.toNat < n) (h1:(s.qB[i]!).yQ=(bests s t z n k)[(s.qB[i]!).qX.toNat]!) (h2:EnOk s t (s.qB[i]!)):Appl s t i:=by
 rw [bests_get hc,hk] at h1
 exact (appl_iff hi hz).2 ⟨h2,h1⟩
theorem appl_no (hk:k=s.qB.length) (hi:i < s.qB.length) (hz:z<=(s.qB[i]!).yQ) (hc:(s.qB[i]!).qX.toNat < n) (h1:(s.qB[i]!).yQ≠(bests s t z n k)[(s.qB[i]!).qX.toNat]!):¬ Appl s t i:=fun h=>by
 rw [bests_get hc,hk] at h1
 exact h1 ((appl_iff hi hz).1 h).2
theorem outPl_in (hs:yK s) (h:0<=zG s t r.qX):outPl s t r=(zG s t r.qX).toNat:=by
 refine outPl_up fun e=>?_
 rw [e,parentNow_root hs] at h;omega
theorem outPl_out (hs:yK s) (h0:t.xn[0]! =true) (hc:CellIn s r.qX) (h:¬ 0<=zG s t r.qX):outPl s t r=s.qA.length:=by
 refine outPl_root ?_
 rcases Int.lt_or_eq_of_le hc.1 with h1 | h1
 ·exact absurd (parentNow_in hs h0 h1 hc.2).1 h
 ·exact h1.symm
theorem parentNow_lt (hs:yK s) (h0:t.xn[0]! =true) {c:Int} (hc:CellIn s c):zG s t c<=(s.qA.length:Int) - 1:=by
 rcases Int.lt_or_eq_of_le hc.1 with h1 | h1
 ·have:=parentNow_in hs h0 h1 hc.2;have:=hc.2;omega
 ·rw [← h1,parentNow_root hs];have:=hs.2.1;omega
theorem appls_at' {m:Nat} (hm:(applL s t m).length=q) (hn:m<=s.qB.length) (hq:q < (appls s t).length):
 0<=(appls s t)[q]! /\m<=((appls s t)[q]!).toNat/\((appls s t)[q]!).toNat < s.qB.length/\Appl s t ((appls s t)[q]!).toNat/\(∀ j,m<=j->j < ((appls s t)[q]!).toNat->¬ Appl s t j)/\(applL s t (((appls s t)[q]!).toNat+1)).length=q+1:=by
 obtain ⟨i,h1,h2,h3,h4,h5,h6⟩:=appls_at hm hn hq
 rw [h1]
 exact ⟨Int.natCast_nonneg i,h2,h3,h4,h5,h6⟩
theorem firstR_step {m:Nat} (h1:m<=j) (hj:j < s.qB.length) (ha:Appl s t j) (h4:∀ i,m<=i->i < j->¬ Appl s t i) (hx:x=Xd (s.qB[j]!).zT ((jG s t m)[(s.qB[j]!).qX.toNat]!)):
 (jG s t m).set (s.qB[j]!).qX.toNat (vS ((jG s t m)[(s.qB[j]!).qX.toNat]!) (s.qB[j]!).zT (-x))=jG s t (j+1):=by
 rw [hx,← firstR_same h1 h4,firstR_yes ha]
theorem firstC_step {m:Nat} (h1:m<=j) (ha:Appl s t j) (h4:∀ i,m<=i->i < j->¬ Appl s t i):Xd (s.qB[j]!).zT ((jG s t m)[(s.qB[j]!).qX.toNat]!)=firstC s t j:=by
 rw [Xz ha,firstR_same h1 h4]
end
section
variable {qZ xC iO iK il iM nj eK zO vT zo cl : Nat}
theorem isShell_ok (w:World) (s:qM) (xu:zP w zH xf qZ s.qA) (xY:zP w vX xG xC s.qB):Calls Tryz.prog 119 #[.agg #[yI s.qP,Sv xf s.qA.length qZ,Sv xG s.qB.length xC]] w (Ret (fun v w' =>v=Bv (dec<|yK s)) w):=by
 refine en func119 ntmps119 ?_
 have H:=((St.start w).arg xY).arg xu
 have jJ:=qO xu
 have Qb:=qO xY
 clear xu xY
 have N:=Fresh.nil w.heap.size
 refine zcr<|sw<|jq H (yS s xf qZ xG xC) fun b1 w2 H=>sp (Bv false)<|zjcc<|oF rfl<|oL rfl (H.cell 0 rfl rfl)<|sw<|oq (Xy w2 s.qP 1 8) H fun w3 H=>sp (Bv (!(inR s.qP 1 8)))<|sp (Bv (!(inR s.qP 1 8))) ?_
 cases h5:(!(inR s.qP 1 8))
 ·replace h5:=xJ h5
  replace h5:=Vl.1 h5
  refine qV 9 rfl rfl<|oF rfl<|qV 9 rfl rfl<|oL rfl (H.cell 0 rfl rfl)<|qV 9 rfl rfl<|sw<|oq (sizeI_ok _ s.qA (H.get 0 rfl).1) H fun w6 H=>qV 9 rfl rfl<|sw<|oq (Xy w6 (s.qA.length:Int) 1 6) H fun w8 H=>qV 9 rfl rfl<|sp (Bv (!(inR (s.qA.length:Int) 1 6)))<|sp (Bv (!(inR (s.qA.length:Int) 1 6)))<|sp (Bv (!(inR (s.qA.length:Int) 1 6))) ?_
  cases fe:(!(inR (s.qA.length:Int) 1 6))
  ·replace fe:=xJ fe
   replace fe:=Vl.1 fe
   refine qV 16 rfl rfl<|oF rfl<|qV 16 rfl rfl<|oL rfl (H.cell 0 rfl rfl)<|qV 16 rfl rfl ?_
   obtain ⟨sI,o12,rfl⟩:=H.addr 0 rfl qf
   refine oI rfl rfl<|qV 16 rfl rfl<|oL rfl (H.jd 0 rfl 0 qf)<|qV 16 rfl rfl<|sp (Bv ((s.qA[0]! :Int) != (-1)))<|sp (Bv ((s.qA[0]! :Int) != (-1)))<|zjn<|vk ((s.qA[0]! :Int) != (-1)) rfl (fun lR=>?_)<|fun lR=>?_
   ·replace lR:=bne_iff_ne.1 lR
    refine zcr<|sp (Bv false)<|zjr<|t_r<|rH1 (Bv false) H ?_
    rw [zt (fun h=>by obtain ⟨h1,h2,h3,h4⟩:=h;first | omega | (have:=h4 (c+1) qf qf;rw [← dg qf] at this;omega))]
   replace lR:=xR lR
   refine xk<|t_n<|zcc<|oF rfl<|oL rfl (H.cell 0 rfl rfl)<|sw<|o_tail H 0 rfl 1 underlying24 ti2 rfl qf fun Q2 G16 aEK H=>?_
   have aHj:(s.qA.drop 1).length=s.qA.length - 1:=List.length_drop
   refine oN rfl<|sp (yI 0)<|zjn<|xg<|zU ((fun Z0 Z1 Z2 Z3=>fun m' ρ Ov=>∃ (xI:Env) (c:Nat),ρ=upd (upd (upd xI 25<|Sv Q2 ((s.qA.drop 1).length)<|qZ - 1) 26<|yI ((s.qA.drop 1).length)) 27 (yI c)/\((c:Int)<=((s.qA.drop 1).length))/\(FrameTo s<|c+1)/\m' =(((s.qA.drop 1).length) - (c:Int)).toNat/\Fresh w.heap.size []/\St w Ov [Z0] [Z1,Z2,Z3]) _ _ _ _) ((((s.qA.drop 1).length) - (0:Int)).toNat) ⟨_,0,uE3,qf,(by exact FrameTo.one s),rfl,N,H⟩ ?_
   clear H N
   rintro m' ρ Rr ⟨xI,c,rfl,i0,i1,rfl,N,H⟩
   have dg:=drop_get (l:=s.qA) (k:=c)
   refine zcr<|sq 1<|zjn<|xH<|cD rfl (fun J2=>?_)<|fun J2=>?_
   ·refine xk (t_n<|xH<|xg<|zcr<|sp (yI c) ?_)
    obtain ⟨wt,o23,rfl⟩:=H.addr 0 rfl qf
    refine oI rfl rfl<|oL rfl (H.jd 0 rfl c qf)<|sp (yI c)<|sq 1<|zjc<|sq 1<|sp (yI c)<|sw<|oq (Xy Rr ((s.qA.drop 1)[c]!) 0 c) H fun Ea H=>sq 1<|zjn<|vk _ rfl (fun oY=>?_)<|fun oY=>?_
    ·replace oY:=xN oY
     replace oY:=inR_not oY
     refine zcr<|sp (Bv false)<|zjr<|zr5<|rH1 (Bv false) H ?_
     rw [zt (fun h=>by obtain ⟨h1,h2,h3,h4⟩:=h;first | omega | (have:=h4 (c+1) qf qf;rw [← dg qf] at this;omega))]
    replace oY:=xJ oY
    replace oY:=Vl.1 oY
    refine xk<|b_n<|t_n<|xZ<|sw<|zV c 1 rfl rfl qf<|sq 1<|xW<|xq (m' :=(((s.qA.drop 1).length) - ((c+1):Int)).toNat) qf ⟨_,c+1,uE3,?_,?_,rfl,N,H⟩
    ·omega
    ·exact i1.succ<|by rw [← dg qf];omega
   refine zx4<|zcr<|sp (Bv true)<|zjr<|rH1 (Bv true) H ?_
   rw [Xr ⟨by omega,by omega,by omega,(show s.qA.length=c+1 by omega)▸i1⟩]
  replace fe:=xN fe
  replace fe:=inR_not fe
  refine zM (zR 17 5)<|sp (Bv true)<|zjn<|cTr rfl<|zcr<|sp (Bv false)<|zjr<|t_r<|rH1 (Bv false) H ?_
  rw [zt (fun h=>by obtain ⟨h1,h2,h3,h4⟩:=h;first | omega | (have:=h4 (c+1) qf qf;rw [← dg qf] at this;omega))]
 replace h5:=xN h5
 replace h5:=inR_not h5
 refine zM (zR 10 5)<|sp (Bv true)<|sp (Bv true)<|zM (zR 17 5)<|sp (Bv true)<|zjn<|cTr rfl<|zcr<|sp (Bv false)<|zjr<|t_r<|rH1 (Bv false) H ?_
 rw [zt (fun h=>by obtain ⟨h1,h2,h3,h4⟩:=h;first | omega | (have:=h4 (c+1) qf qf;rw [← dg qf] at this;omega))]
theorem isCell_ok (w:World) (s:qM) (c:Int) (xu:zP w zH xf qZ s.qA) (xY:zP w vX xG xC s.qB):Calls Tryz.prog 160 #[.agg #[yI s.qP,Sv xf s.qA.length qZ,Sv xG s.qB.length xC],yI c] w (Ret (fun v w' =>v=Bv (inR c 0 ((s.qA.length:Int) - 1))) w):=by
 refine en func160 ntmps160 ?_
 have H:=((St.start w).arg xY).arg xu
 have jJ:=qO xu
 have Qb:=qO xY
 clear xu xY
 have N:=Fresh.nil w.heap.size
 refine zcr<|sw<|jq H (yS s xf qZ xG xC) fun b1 w2 H=>sp (Bv false)<|zjc<|sp (yI c)<|oF rfl<|oL rfl (H.cell 0 rfl rfl)<|sw<|oq (sizeI_ok _ s.qA (H.get 0 rfl).1) H fun w3 H=>sw<|o_sub (s.qA.length:Int) 1 rfl rfl qf<|sw<|oq (Xy w3 c 0 ((s.qA.length:Int) - 1)) H fun w5 H=>sq 1<|zjr<|rH1 (Bv<|inR c 0 ((s.qA.length:Int) - 1)) H ?_
 rfl
theorem lies_ok (w:World) (s:qM) (c:Int) (within:Int) (xu:zP w zH xf qZ s.qA) (xY:zP w vX xG xC s.qB) (p0:yK s) (p1:CellIn s c):Calls Tryz.prog 161 #[.agg #[yI s.qP,Sv xf s.qA.length qZ,Sv xG s.qB.length xC],yI c,yI within] w (Ret (fun v w' =>v=Bv (dec<|Lies s.qA within c)) w):=by
 refine en func161 ntmps161 ?_
 have H:=((St.start w).arg xY).arg xu
 have jJ:=qO xu
 have Qb:=qO xY
 clear xu xY
 have N:=Fresh.nil w.heap.size
 have p2:=p0.step p1.1 p1.2
 refine zcr<|sw<|jq H (yS s xf qZ xG xC) fun b1 w2 H=>sp (Bv false)<|zjcc<|oF rfl<|oL rfl (H.cell 0 rfl rfl)<|sp (yI c) ?_
 obtain ⟨b3,o4,rfl⟩:=H.addr 0 rfl qf
 refine oI rfl rfl<|oL rfl (H.elemInt 0 rfl c qf qf)<|sq 1<|zjn<|xg<|zU ((fun Z0 Z1 Z2=>fun m' ρ w6=>∃ (xI:Env) (bz:Int),ρ=upd (upd (upd xI 1<|yI bz) 2<|yI within) 3 (pp b1 0)/\(-1<=bz/\bz<=(s.qA.length:Int) - 1)/\(Lies s.qA within c<->0<=bz/\(bz=within\/Lies s.qA within bz))/\m' =(bz+1).toNat/\Fresh w.heap.size []/\St w w6 [Z0] [Z1,Z2]) _ _ _) (((s.qA[c.toNat]!)+1).toNat) ⟨_,s.qA[c.toNat]!,uE3,qf,(by exact lies_up p0 p1),rfl,N,H⟩ ?_
 clear H N
 rintro m' ρ w7 ⟨xI,bz,rfl,i0,i1,rfl,N,H⟩
 have up:=fun h=>p0.step (c:=bz) h i0.2
 refine zcc<|sq 1<|sp (Bv<|decide ((bz:Int)>=0))<|zjn<|cD rfl (fun h8=>?_)<|fun h8=>?_
 ·refine xk (t_n<|xH<|xg<|zcr<|sq 3<|zjn<|cE rfl (fun h9=>?_)<|fun h9=>?_)
  ·refine zcr (sp (Bv true)<|zjr<|zr5<|rH1 (Bv true) H ?_)
   rw [Xr<|i1.2 ⟨by omega,.inl ‹_›⟩]
  refine xk<|b_n<|t_n<|xZ<|oF rfl<|oL rfl (H.cell 0 rfl rfl)<|sq 1<|oI rfl rfl<|oL rfl (H.elemInt 0 rfl bz qf qf)<|sq 1<|xW ?_
  have up1:=up qf
  refine xq (m' :=((s.qA[bz.toNat]!)+1).toNat) qf ⟨_,_,uE3,?_,?_,rfl,N,H⟩
  ·omega
  ·exact i1.trans ⟨fun h=>(lies_up p0 ⟨by omega,by omega⟩).1<|h.2.resolve_left ‹_›,fun h=>⟨by omega,.inr ((lies_up p0 ⟨by omega,by omega⟩).2 h)⟩⟩
 refine zx4<|zcr<|sp (Bv false)<|zjr<|rH1 (Bv false) H ?_
 rw [zt (fun h=>by have:=(i1.1 h).1;omega)]
theorem isRule_ok (w:World) (s:qM) (r:yj) (xu:zP w zH xf qZ s.qA) (xY:zP w vX xG xC s.qB) (im:zP w E6 jn iO r.zT) (iE:zP w E8 jz iK r.jV) (iz:zP w D2 kh il r.jX) (iN:zP w EZ kr iM r.jK) (mV:zP w OV nW nj r.QP) (ij:zP w Ej ff eK r.xx) (p0:yK s):Calls Tryz.prog 120 #[.agg #[yI s.qP,Sv xf s.qA.length qZ,Sv xG s.qB.length xC],.agg #[yI r.qX,yI r.yQ,Sv jn r.zT.length iO,Sv jz r.jV.length iK,Sv kh r.jX.length il,Sv kr r.jK.length iM,Sv nW r.QP.length nj,Sv ff r.xx.length eK,Bv r.jm]] w (Ret (fun v w' =>v=Bv (dec<|RuleOk s r)) w):=by
 refine en func120 ntmps120 ?_
 have H:=((((((((St.start w).arg ij).arg mV).arg iN).arg iz).arg iE).arg im).arg xY).arg xu
 have jJ:=qO xu
 have Qb:=qO xY
 have Hw:=qO im
 have HX:=qO iE
 have H2:=qO iz
 have GC:=qO iN
 have KM:=qO mV
 have HJ:=qO ij
 clear xu xY im iE iz iN mV ij
 have N:=Fresh.nil w.heap.size
 refine zcr<|sw<|jq H (yS s xf qZ xG xC) fun b1 w2 H=>sw<|jq H [yI r.qX,yI r.yQ,Sv jn r.zT.length iO,Sv jz r.jV.length iK,Sv kh r.jX.length il,Sv kr r.jK.length iM,Sv nW r.QP.length nj,Sv ff r.xx.length eK,Bv r.jm] fun b3 w4 H=>sp (Bv false)<|zjcc<|sw<|zi (yS s xf qZ xG xC) isAgg27 sizeOf27 rfl (qK (H.cells 1 rfl) 0 3)<|oF rfl<|oL rfl (H.cell 0 rfl rfl)<|sw<|oq (isCell_ok _ s r.qX (H.get 0 rfl).1 (H.get 1 rfl).1) H fun w6 H=>sp (Bv (!(inR r.qX 0 ((s.qA.length:Int) - 1))))<|sp (Bv (!(inR r.qX 0 ((s.qA.length:Int) - 1)))) ?_
 cases h8:(!(inR r.qX 0 ((s.qA.length:Int) - 1)))
 ·replace h8:=xJ h8
  replace h8:=Vl.1 h8
  refine qV 14 rfl rfl<|oF rfl<|qV 14 rfl rfl<|oL rfl (H.cell 0 rfl rfl)<|qV 14 rfl rfl<|sw<|oq (Xy w6 r.yQ 0 9) H fun w9 H=>qV 14 rfl rfl<|sp (Bv (!(inR r.yQ 0 9)))<|sp (Bv (!(inR r.yQ 0 9)))<|sp (Bv (!(inR r.yQ 0 9))) ?_
  cases dZ:(!(inR r.yQ 0 9))
  ·replace dZ:=xJ dZ
   replace dZ:=Vl.1 dZ
   refine qV 20 rfl rfl<|oF rfl<|qV 20 rfl rfl<|oL rfl (H.cell 0 rfl rfl)<|qV 20 rfl rfl<|sp (Bv r.jm) ?_
   cases qb:(r.jm)
   ·rw [qb] at H
    refine zM [24,25,26]<|qV 20 rfl rfl<|sp (Bv false)<|sp (Bv false)<|sp (Bv false)<|qV 29 rfl rfl<|oF rfl<|qV 29 rfl rfl<|oL rfl (H.cell 0 rfl rfl)<|qV 29 rfl rfl<|oN rfl<|qV 29 rfl rfl<|sp (Bv<|decide ((r.xx.length:Int) > 3))<|sp (Bv<|decide ((r.xx.length:Int) > 3))<|zjn<|cD rfl (fun JM=>?_)<|fun JM=>?_
    ·refine zcr (sp (Bv false)<|zjr<|t_r<|rH1 (Bv false) H ?_)
     rw [zt (fun h=>by obtain ⟨h1,h2,h3,h4,h5,h6,h7,h8,h9,fe,dZ⟩:=h;first | contradiction | omega | exact h3 ⟨‹_›,‹_›⟩ | (obtain ⟨q1,q2,q3,q4,q5⟩:=dZ i qf;first | contradiction | omega | (have:=q5 qf;omega)) | (refine absurd ?_ ‹¬ yJ _ _›;rcases (show k=0\/k=1\/k=2\/k=3\/k=4 by omega) with e | e | e | e | e <;> subst e <;> assumption))]
    refine xk<|t_n<|zcc<|oF rfl<|oL rfl (H.cell 0 rfl rfl)<|oF rfl<|oL rfl (H.cell 0 rfl rfl)<|oF rfl<|oL rfl (H.cell 0 rfl rfl)<|oF rfl<|oL rfl (H.cell 0 rfl rfl)<|oF rfl<|oL rfl (H.cell 0 rfl rfl)<|sw<|o_buildF H underlying29 ti24 [Sv jn r.zT.length iO,Sv jz r.jV.length iK,Sv kh r.jX.length il,Sv kr r.jK.length iM,Sv nW r.QP.length nj] rfl (by simp [Value.cells]) rfl qj qj fun b14 PG H=>oN rfl<|sp (yI 0)<|zjn<|xg ?_
    replace H:=H.boxRow 0 rfl 1 5 rfl qj
    replace H:=H.jZ (α:=yLI)
    replace H:=H.repsCons false 7 rfl 0 rfl qm
    replace H:=H.repsCons false 7 rfl 0 rfl qm
    replace H:=H.repsCons false 7 rfl 0 rfl qm
    replace H:=H.repsCons false 7 rfl 0 rfl qm
    replace H:=H.repsCons false 7 rfl 0 rfl qm
    refine zU ((fun Z0 Z1 Z2 Z3 Z4 Z5 Z6 Z7 Z8 Z9 fH fZ=>fun m' ρ UJ=>∃ (xI:Env) (k:Nat),ρ=upd (upd (upd (upd (upd xI 2<|pp b1 0) 3<|pp b3 0) 45<|Sv (aa b14 0) 5 5) 46<|yI 5) 47 (yI k)/\((k:Int)<=5)/\(∀ j,j < k->yJ s.qP ([r.zT,r.jV,r.jX,r.jK,r.QP][j]!))/\m' =(5 - (k:Int)).toNat/\Fresh w.heap.size []/\St w UJ [Z0,Z1,Z2] [Z3,Z4,Z5,Z6,Z7,Z8,Z9,fH,fZ]) _ _ _ _ _ _ _ _ _ _ _ _) ((5 - (0:Int)).toNat) ⟨_,0,uE5,qf,(by intro j hj;omega),rfl,N,H.pick [0,1,2] (0::zR 6 8)⟩ ?_
    clear H N
    rintro m' ρ Tr ⟨xI,k,rfl,i0,i1,rfl,N,H⟩
    refine zcr<|sp (Bv<|decide ((k:Int) < 5))<|zjn<|xH<|cD rfl (fun Dp=>?_)<|fun Dp=>?_
    ·refine xk (t_n<|xH<|xg<|zcr<|oI rfl rfl ?_)
     obtain ⟨a19,c20,G21,s22,Ri,H⟩:=H.Q7 0 rfl 0 rfl (iv:=k) k qf qf
     refine oL rfl (Ri)<|sq 1<|zjc<|oF rfl<|oL rfl (H.cell 2 rfl rfl)<|sq 1<|sw<|oq (Vj _ s.qP ([r.zT,r.jV,r.jX,r.jK,r.QP][k]!) (H.get 0 rfl).1) H fun JE H=>sq 1<|zjn<|cQ rfl (fun Qf=>?_)<|fun Qf=>?_
     ·refine zcr (sp (Bv false)<|zjr<|zr5<|rH1 (Bv false) H ?_)
      rw [zt (fun h=>by obtain ⟨h1,h2,h3,h4,h5,h6,h7,h8,h9,fe,dZ⟩:=h;first | contradiction | omega | exact h3 ⟨‹_›,‹_›⟩ | (obtain ⟨q1,q2,q3,q4,q5⟩:=dZ i qf;first | contradiction | omega | (have:=q5 qf;omega)) | (refine absurd ?_ ‹¬ yJ _ _›;rcases (show k=0\/k=1\/k=2\/k=3\/k=4 by omega) with e | e | e | e | e <;> subst e <;> assumption))]
     refine xk<|b_n<|t_n<|xZ<|sw<|zV k 1 rfl rfl qf<|sq 1<|xW<|xq (m' :=(5 - ((k+1):Int)).toNat) qf ⟨_,k+1,uE5,?_,?_,rfl,N,H.pick [0,1,2]<|zR 1 9⟩
     ·omega
     ·intro j hj;by_cases e:j=k;(subst e;assumption);exact i1 j qf
    refine zx4<|zcc<|oF rfl<|oL rfl (H.cell 1 rfl rfl)<|oN rfl<|sp (yI 0)<|zjn<|xg ?_
    have n1:yJ s.qP r.zT:=i1 0 qf
    have n2:yJ s.qP r.jV:=i1 1 qf
    have n3:yJ s.qP r.jX:=i1 2 qf
    have n4:yJ s.qP r.jK:=i1 3 qf
    have n5:yJ s.qP r.QP:=i1 4 qf
    refine zU ((fun Z0 Z1 Z2 Z3 Z4 Z5 Z6 Z7 Z8 Z9 fH fZ=>fun m' ρ SD=>∃ (xI:Env) (i:Nat),ρ=upd (upd (upd (upd (upd xI 2<|pp b1 0) 3<|pp b3 0) 58<|Sv ff r.xx.length eK) 59<|yI r.xx.length) 60 (yI i)/\((i:Int)<=r.xx.length)/\(IntosTo s r i)/\m' =(r.xx.length - (i:Int)).toNat/\Fresh w.heap.size []/\St w SD [Z0,Z1,Z2] [Z3,Z4,Z5,Z6,Z7,Z8,Z9,fH,fZ]) _ _ _ _ _ _ _ _ _ _ _ _) ((r.xx.length - (0:Int)).toNat) ⟨_,0,uE5,qf,qx,rfl,N,H⟩ ?_
    clear H N
    rintro m' ρ P6 ⟨xI,i,rfl,i0,i2,rfl,N,H⟩
    refine zcr<|sq 1<|zjn<|xH<|cD rfl (fun h29=>?_)<|fun h29=>?_
    ·refine xk (t_n<|xH<|xg<|zcr<|sp (yI i) ?_)
     obtain ⟨JZ,o31,rfl⟩:=H.addr 8 rfl qf
     obtain ⟨HT,GN,arG,H⟩:=H.QU 8 rfl i i qf qf qf
     refine oI rfl rfl<|sw<|zi [yI ((r.xx[i]!).qX),Sv HT (((r.xx[i]!).XH).length) GN] isAgg161 sizeOf161 rfl (qK (H.get 1 rfl) 0 2)<|sw<|xU H ti161 [yI 0,yN] fun b34 P7 H=>sp (yI i)<|sw<|zC H 0 [yI ((r.xx[i]!).qX),Sv HT (((r.xx[i]!).XH).length) GN] sizeOf161 fun PJ H=>zjn<|xH<|Xj rfl H fun H=>rt 0 _ (yh (cs:=(yS s xf qZ xG xC)) isAgg27 sizeOf27 rfl<|fun _ h=>qK (h.cells 3 rfl) 0 3) H ?_
     refine tF 1 rfl rfl H ?_
     refine tL 2 rfl rfl (fun _ h=>h.cell 0 rfl rfl) H ?_
     refine ro 3 rfl<|oq (isCell_ok _ s ((r.xx[i]!).qX) (H.get 3 rfl).1 (H.get 4 rfl).1) H fun U7 H=>⟨H,(rtp 4 (Bv (!(inR ((r.xx[i]!).qX) 0 ((s.qA.length:Int) - 1)))) H ?_)⟩
     refine rtp 5 (Bv (!(inR ((r.xx[i]!).qX) 0 ((s.qA.length:Int) - 1)))) H ?_
     cases sB:(!(inR ((r.xx[i]!).qX) 0 ((s.qA.length:Int) - 1)))
     ·replace sB:=xJ sB
      replace sB:=Vl.1 sB
      refine rg 6 _ 70 (yh (cs:=(yS s xf qZ xG xC)) isAgg27 sizeOf27 rfl<|fun _ h=>qK (h.cells 3 rfl) 0 3) H ?_
      refine gF 7 rfl rfl H ?_
      refine gL 8 rfl rfl (fun _ h=>h.cell 0 rfl rfl) H ?_
      refine gF 9 rfl rfl H ?_
      refine gL 10 rfl rfl (fun _ h=>h.cell 2 rfl rfl) H ?_
      refine jw [11] qh qm<|r_opG rfl (e:=70) rfl rfl (oq (lies_ok _ s ((r.xx[i]!).qX) r.qX (H.get 3 rfl).1 (H.get 4 rfl).1 qg qg) H fun w43 H=>⟨H,(rgp 12 (Bv (!(dec<|Lies s.qA r.qX ((r.xx[i]!).qX)))) 70 H ?_)⟩) jy
      refine rtp 13 (Bv (!(dec<|Lies s.qA r.qX ((r.xx[i]!).qX)))) H ?_
      refine rtp 14 (Bv (!(dec<|Lies s.qA r.qX ((r.xx[i]!).qX)))) H ?_
      cases Db:(!(dec (Lies s.qA r.qX ((r.xx[i]!).qX))))
      ·replace Db:=xJ Db
       replace Db:=of_dec Db
       refine gF 15 rfl rfl H ?_
       refine gL 16 rfl rfl (fun _ h=>h.cell 3 rfl rfl) H ?_
       refine gF 17 rfl rfl H ?_
       refine gL 18 rfl rfl (fun _ h=>h.cell 0 rfl rfl) H ?_
       refine jw [19] qh qm<|r_opG rfl (e:=79) rfl rfl (oq (Vj _ s.qP ((r.xx[i]!).XH) (H.get 0 rfl).1) H fun S8 H=>⟨H,(rgp 20 (Bv (!(dec<|yJ s.qP ((r.xx[i]!).XH)))) 79 H ?_)⟩) jy
       refine rtp 21 (Bv (!(dec<|yJ s.qP ((r.xx[i]!).XH)))) H ?_
       refine rtp 22 (Bv (!(dec<|yJ s.qP ((r.xx[i]!).XH)))) H ?_
       cases PV:(!(dec (yJ s.qP ((r.xx[i]!).XH))))
       ·replace PV:=xJ PV
        replace PV:=of_dec PV
        refine gF 23 rfl rfl H ?_
        refine gL 24 rfl rfl (fun _ h=>h.cell 0 rfl rfl) H ?_
        refine jw [25] qh qm<|r_opG rfl (e:=87) rfl rfl ?_ jy
        have sm:Small ((r.xx[i]!).XH):=jc<|by first | assumption | exact i1 0 qf
        refine oq (bagSize_ok _ ((r.xx[i]!).XH) (H.get 0 rfl).1<|by first | assumption | exact jc ql | exact bag_small ql) H fun w49 H=>⟨H,(rgp 26 (Bv ((sumL ((r.xx[i]!).XH):Int) == 0)) 87 H ?_)⟩
        refine rtp 27 (Bv ((sumL ((r.xx[i]!).XH):Int) == 0)) H ?_
        refine rtp 28 (Bv ((sumL ((r.xx[i]!).XH):Int) == 0)) H ?_
        cases h51:((sumL ((r.xx[i]!).XH):Int) == 0)
        ·replace h51:=ne_of_beq_false h51
         refine rgp 29 (yI i) 93 H ?_
         refine rgp 30 (Bv<|decide ((i:Int) > 0)) 93 H ?_
         refine rgp 31 (Bv<|decide ((i:Int) > 0)) 93 H ?_
         cases OU:(decide ((i:Int) > 0))
         ·replace OU:=of_decide_eq_false OU
          refine jA (zR 32 10) 10 (H)<|rgp 42 (Bv false) 93 H ?_
          refine rtp 43 (Bv false) H ?_
          refine xy qh<|t_n<|cFr rfl<|xk<|b_n<|t_n<|xZ<|sw<|zV i 1 rfl rfl qf<|sq 1<|xW<|xq (m' :=(r.xx.length - ((i+1):Int)).toNat) qf ⟨_,i+1,uE5,?_,?_,rfl,N,H.pick [1,2,3]<|zR 2 9⟩
          ·omega
          ·exact i2.succ ⟨‹_›,‹_›,‹_›,‹_›,fun hk=>by omega⟩
         replace OU:=of_decide_eq_true OU
         refine gF 32 rfl rfl H ?_
         refine gL 33 rfl rfl (fun _ h=>h.cell 0 rfl rfl) H ?_
         refine gF 34 rfl rfl H ?_
         refine gL 35 rfl rfl (fun _ h=>h.cell 2 rfl rfl) H ?_
         refine rgp 36 (yI i) 96 H ?_
         refine rg 37 _ 96 (y_sub i 1 rfl rfl qf) H ?_
         obtain ⟨aq6,arD,arU,H⟩:=H.QU 10 rfl (i - 1) (i - 1) qf qf qf
         have S:=H.zK (zR 0 4)<|zR 2 11
         refine gI 38 rfl rfl rfl S ?_
         refine gF 39 rfl rfl S ?_
         refine jw [40] qh qm<|r_opG rfl (e:=96) rfl rfl (zB (yI ((r.xx[i - 1]!).qX)) isAgg2 rfl (H.vW 1 rfl 0 rfl)<|⟨H.pick (zR 0 4)<|zR 2 11,?_⟩) jy
         have S:=H.zK (zR 0 4)<|zR 2 11
         refine rgl 41 96 S ?_
         refine rgl 42 93 S ?_
         refine rtl 43 S ?_
         refine xy qh<|t_n<|cD rfl (fun h54=>?_)<|fun h54=>?_
         ·refine zcr (sp (Bv false)<|zjr<|zr5<|rH1 (Bv false) H ?_)
          rw [zt (fun h=>by obtain ⟨h1,h2,h3,h4,h5,h6,h7,h8,h9,fe,dZ⟩:=h;first | contradiction | omega | exact h3 ⟨‹_›,‹_›⟩ | (obtain ⟨q1,q2,q3,q4,q5⟩:=dZ i qf;first | contradiction | omega | (have:=q5 qf;omega)) | (refine absurd ?_ ‹¬ yJ _ _›;rcases (show k=0\/k=1\/k=2\/k=3\/k=4 by omega) with e | e | e | e | e <;> subst e <;> assumption))]
         refine xk<|b_n<|t_n<|xZ<|sw<|zV i 1 rfl rfl qf<|sq 1<|xW<|xq (m' :=(r.xx.length - ((i+1):Int)).toNat) qf ⟨_,i+1,uE5,?_,?_,rfl,N,H.pick [1,2,3]<|zR 4 9⟩
         ·omega
         ·exact i2.succ ⟨‹_›,‹_›,‹_›,‹_›,fun hk=>by omega⟩
        replace h51:=eq_of_beq h51
        refine jA (zR 29 14) 14 (H)<|rtp 43 (Bv true) H ?_
        refine xy qh<|t_n<|cTr rfl<|zcr<|sp (Bv false)<|zjr<|zr5<|rH1 (Bv false) H ?_
        rw [zt (fun h=>by obtain ⟨h1,h2,h3,h4,h5,h6,h7,h8,h9,fe,dZ⟩:=h;first | contradiction | omega | exact h3 ⟨‹_›,‹_›⟩ | (obtain ⟨q1,q2,q3,q4,q5⟩:=dZ i qf;first | contradiction | omega | (have:=q5 qf;omega)) | (refine absurd ?_ ‹¬ yJ _ _›;rcases (show k=0\/k=1\/k=2\/k=3\/k=4 by omega) with e | e | e | e | e <;> subst e <;> assumption))]
       replace PV:=xN PV
       replace PV:=Qd PV
       refine jA (zR 23 4) 4 (H)<|rtp 27 (Bv true) H ?_
       refine rtp 28 (Bv true) H ?_
       refine jA (zR 29 14) 14 (H)<|rtp 43 (Bv true) H ?_
       refine xy qh<|t_n<|cTr rfl<|zcr<|sp (Bv false)<|zjr<|zr5<|rH1 (Bv false) H ?_
       rw [zt (fun h=>by obtain ⟨h1,h2,h3,h4,h5,h6,h7,h8,h9,fe,dZ⟩:=h;first | contradiction | omega | exact h3 ⟨‹_›,‹_›⟩ | (obtain ⟨q1,q2,q3,q4,q5⟩:=dZ i qf;first | contradiction | omega | (have:=q5 qf;omega)) | (refine absurd ?_ ‹¬ yJ _ _›;rcases (show k=0\/k=1\/k=2\/k=3\/k=4 by omega) with e | e | e | e | e <;> subst e <;> assumption))]
      replace Db:=xN Db
      replace Db:=Qd Db
      refine jA (zR 15 6) 6 (H)<|rtp 21 (Bv true) H ?_
      refine rtp 22 (Bv true) H ?_
      refine jA (zR 23 4) 4 (H)<|rtp 27 (Bv true) H ?_
      refine rtp 28 (Bv true) H ?_
      refine jA (zR 29 14) 14 (H)<|rtp 43 (Bv true) H ?_
      refine xy qh<|t_n<|cTr rfl<|zcr<|sp (Bv false)<|zjr<|zr5<|rH1 (Bv false) H ?_
      rw [zt (fun h=>by obtain ⟨h1,h2,h3,h4,h5,h6,h7,h8,h9,fe,dZ⟩:=h;first | contradiction | omega | exact h3 ⟨‹_›,‹_›⟩ | (obtain ⟨q1,q2,q3,q4,q5⟩:=dZ i qf;first | contradiction | omega | (have:=q5 qf;omega)) | (refine absurd ?_ ‹¬ yJ _ _›;rcases (show k=0\/k=1\/k=2\/k=3\/k=4 by omega) with e | e | e | e | e <;> subst e <;> assumption))]
     replace sB:=xN sB
     replace sB:=inR_not sB
     refine jA (zR 6 7) 7 (H)<|rtp 13 (Bv true) H ?_
     refine rtp 14 (Bv true) H ?_
     refine jA (zR 15 6) 6 (H)<|rtp 21 (Bv true) H ?_
     refine rtp 22 (Bv true) H ?_
     refine jA (zR 23 4) 4 (H)<|rtp 27 (Bv true) H ?_
     refine rtp 28 (Bv true) H ?_
     refine jA (zR 29 14) 14 (H)<|rtp 43 (Bv true) H ?_
     refine xy qh<|t_n<|cTr rfl<|zcr<|sp (Bv false)<|zjr<|zr5<|rH1 (Bv false) H ?_
     rw [zt (fun h=>by obtain ⟨h1,h2,h3,h4,h5,h6,h7,h8,h9,fe,dZ⟩:=h;first | contradiction | omega | exact h3 ⟨‹_›,‹_›⟩ | (obtain ⟨q1,q2,q3,q4,q5⟩:=dZ i qf;first | contradiction | omega | (have:=q5 qf;omega)) | (refine absurd ?_ ‹¬ yJ _ _›;rcases (show k=0\/k=1\/k=2\/k=3\/k=4 by omega) with e | e | e | e | e <;> subst e <;> assumption))]
    refine zx4<|zcr<|oF rfl<|oL rfl (H.cell 1 rfl rfl) ?_
    have sm:Small r.zT:=jc<|by first | assumption | exact i1 0 qf
    refine sw<|oq (bagSize_ok _ r.zT (H.get 3 rfl).1<|by first | assumption | exact jc ql | exact bag_small ql) H fun w55 H=>sp (Bv<|decide ((sumL r.zT:Int) > 0))<|sp (Bv<|decide ((sumL r.zT:Int) > 0))<|zjr<|rH1 (Bv<|decide ((sumL r.zT:Int) > 0)) H<|congrArg Value.bool<|dec_eq ?_
    rw [decide_eq_true_iff]
    exact ⟨fun h=>⟨by omega,by omega,by simp_all,by omega,n1,n2,n3,n4,n5,by omega,(show i=r.xx.length by omega)▸i2⟩,fun h=>by have:=h.2.2.2.2.2.2.2.2.2.1;have:=sum_nonneg n1.1;omega⟩
   rw [qb] at H
   refine qV 23 rfl rfl<|oF rfl<|qV 23 rfl rfl<|oL rfl (H.cell 0 rfl rfl)<|qV 23 rfl rfl<|sp (Bv ((r.qX:Int) == 0))<|qV 20 rfl rfl<|sp (Bv ((r.qX:Int) == 0))<|sp (Bv ((r.qX:Int) == 0))<|sp (Bv ((r.qX:Int) == 0)) ?_
   cases h57:((r.qX:Int) == 0)
   ·replace h57:=ne_of_beq_false h57
    refine qV 29 rfl rfl<|oF rfl<|qV 29 rfl rfl<|oL rfl (H.cell 0 rfl rfl)<|qV 29 rfl rfl<|oN rfl<|qV 29 rfl rfl<|sp (Bv<|decide ((r.xx.length:Int) > 3))<|sp (Bv<|decide ((r.xx.length:Int) > 3))<|zjn<|cD rfl (fun h58=>?_)<|fun h58=>?_
    ·refine zcr (sp (Bv false)<|zjr<|t_r<|rH1 (Bv false) H ?_)
     rw [zt (fun h=>by obtain ⟨h1,h2,h3,h4,h5,h6,h7,h8,h9,fe,dZ⟩:=h;first | contradiction | omega | exact h3 ⟨‹_›,‹_›⟩ | (obtain ⟨q1,q2,q3,q4,q5⟩:=dZ i qf;first | contradiction | omega | (have:=q5 qf;omega)) | (refine absurd ?_ ‹¬ yJ _ _›;rcases (show k=0\/k=1\/k=2\/k=3\/k=4 by omega) with e | e | e | e | e <;> subst e <;> assumption))]
    refine xk<|t_n<|zcc<|oF rfl<|oL rfl (H.cell 0 rfl rfl)<|oF rfl<|oL rfl (H.cell 0 rfl rfl)<|oF rfl<|oL rfl (H.cell 0 rfl rfl)<|oF rfl<|oL rfl (H.cell 0 rfl rfl)<|oF rfl<|oL rfl (H.cell 0 rfl rfl)<|sw<|o_buildF H underlying29 ti24 [Sv jn r.zT.length iO,Sv jz r.jV.length iK,Sv kh r.jX.length il,Sv kr r.jK.length iM,Sv nW r.QP.length nj] rfl (by simp [Value.cells]) rfl qj qj fun b59 w60 H=>oN rfl<|sp (yI 0)<|zjn<|xg ?_
    replace H:=H.boxRow 0 rfl 1 5 rfl qj
    replace H:=H.jZ (α:=yLI)
    replace H:=H.repsCons false 7 rfl 0 rfl qm
    replace H:=H.repsCons false 7 rfl 0 rfl qm
    replace H:=H.repsCons false 7 rfl 0 rfl qm
    replace H:=H.repsCons false 7 rfl 0 rfl qm
    replace H:=H.repsCons false 7 rfl 0 rfl qm
    refine zU ((fun Z0 Z1 Z2 Z3 Z4 Z5 Z6 Z7 Z8 Z9 fH fZ=>fun m' ρ w61=>∃ (xI:Env) (k:Nat),ρ=upd (upd (upd (upd (upd xI 2<|pp b1 0) 3<|pp b3 0) 45<|Sv (aa b59 0) 5 5) 46<|yI 5) 47 (yI k)/\((k:Int)<=5)/\(∀ j,j < k->yJ s.qP ([r.zT,r.jV,r.jX,r.jK,r.QP][j]!))/\m' =(5 - (k:Int)).toNat/\Fresh w.heap.size []/\St w w61 [Z0,Z1,Z2] [Z3,Z4,Z5,Z6,Z7,Z8,Z9,fH,fZ]) _ _ _ _ _ _ _ _ _ _ _ _) ((5 - (0:Int)).toNat) ⟨_,0,uE5,qf,(by intro j hj;omega),rfl,N,H.pick [0,1,2] (0::zR 6 8)⟩ ?_
    clear H N
    rintro m' ρ w62 ⟨xI,k,rfl,i0,i1,rfl,N,H⟩
    refine zcr<|sp (Bv<|decide ((k:Int) < 5))<|zjn<|xH<|cD rfl (fun h63=>?_)<|fun h63=>?_
    ·refine xk (t_n<|xH<|xg<|zcr<|oI rfl rfl ?_)
     obtain ⟨a64,c65,G66,s67,h68,H⟩:=H.Q7 0 rfl 0 rfl (iv:=k) k qf qf
     refine oL rfl (h68)<|sq 1<|zjc<|oF rfl<|oL rfl (H.cell 2 rfl rfl)<|sq 1<|sw<|oq (Vj _ s.qP ([r.zT,r.jV,r.jX,r.jK,r.QP][k]!) (H.get 0 rfl).1) H fun w69 H=>sq 1<|zjn<|cQ rfl (fun h71=>?_)<|fun h71=>?_
     ·refine zcr (sp (Bv false)<|zjr<|zr5<|rH1 (Bv false) H ?_)
      rw [zt (fun h=>by obtain ⟨h1,h2,h3,h4,h5,h6,h7,h8,h9,fe,dZ⟩:=h;first | contradiction | omega | exact h3 ⟨‹_›,‹_›⟩ | (obtain ⟨q1,q2,q3,q4,q5⟩:=dZ i qf;first | contradiction | omega | (have:=q5 qf;omega)) | (refine absurd ?_ ‹¬ yJ _ _›;rcases (show k=0\/k=1\/k=2\/k=3\/k=4 by omega) with e | e | e | e | e <;> subst e <;> assumption))]
     refine xk<|b_n<|t_n<|xZ<|sw<|zV k 1 rfl rfl qf<|sq 1<|xW<|xq (m' :=(5 - ((k+1):Int)).toNat) qf ⟨_,k+1,uE5,?_,?_,rfl,N,H.pick [0,1,2]<|zR 1 9⟩
     ·omega
     ·intro j hj;by_cases e:j=k;(subst e;assumption);exact i1 j qf
    refine zx4<|zcc<|oF rfl<|oL rfl (H.cell 1 rfl rfl)<|oN rfl<|sp (yI 0)<|zjn<|xg ?_
    have n1:yJ s.qP r.zT:=i1 0 qf
    have n2:yJ s.qP r.jV:=i1 1 qf
    have n3:yJ s.qP r.jX:=i1 2 qf
    have n4:yJ s.qP r.jK:=i1 3 qf
    have n5:yJ s.qP r.QP:=i1 4 qf
    refine zU ((fun Z0 Z1 Z2 Z3 Z4 Z5 Z6 Z7 Z8 Z9 fH fZ=>fun m' ρ Rh=>∃ (xI:Env) (i:Nat),ρ=upd (upd (upd (upd (upd xI 2<|pp b1 0) 3<|pp b3 0) 58<|Sv ff r.xx.length eK) 59<|yI r.xx.length) 60 (yI i)/\((i:Int)<=r.xx.length)/\(IntosTo s r i)/\m' =(r.xx.length - (i:Int)).toNat/\Fresh w.heap.size []/\St w Rh [Z0,Z1,Z2] [Z3,Z4,Z5,Z6,Z7,Z8,Z9,fH,fZ]) _ _ _ _ _ _ _ _ _ _ _ _) ((r.xx.length - (0:Int)).toNat) ⟨_,0,uE5,qf,qx,rfl,N,H⟩ ?_
    clear H N
    rintro m' ρ w73 ⟨xI,i,rfl,i0,i2,rfl,N,H⟩
    refine zcr<|sq 1<|zjn<|xH<|cD rfl (fun h74=>?_)<|fun h74=>?_
    ·refine xk (t_n<|xH<|xg<|zcr<|sp (yI i) ?_)
     obtain ⟨b75,o76,rfl⟩:=H.addr 8 rfl qf
     obtain ⟨GT,Hv,asb,H⟩:=H.QU 8 rfl i i qf qf qf
     refine oI rfl rfl<|sw<|zi [yI ((r.xx[i]!).qX),Sv GT (((r.xx[i]!).XH).length) Hv] isAgg161 sizeOf161 rfl (qK (H.get 1 rfl) 0 2)<|sw<|xU H ti161 [yI 0,yN] fun Jq WH H=>sp (yI i)<|sw<|zC H 0 [yI ((r.xx[i]!).qX),Sv GT (((r.xx[i]!).XH).length) Hv] sizeOf161 fun w81 H=>zjn<|xH<|Xj rfl H fun H=>rt 0 _ (yh (cs:=(yS s xf qZ xG xC)) isAgg27 sizeOf27 rfl<|fun _ h=>qK (h.cells 3 rfl) 0 3) H ?_
     refine tF 1 rfl rfl H ?_
     refine tL 2 rfl rfl (fun _ h=>h.cell 0 rfl rfl) H ?_
     refine ro 3 rfl<|oq (isCell_ok _ s ((r.xx[i]!).qX) (H.get 3 rfl).1 (H.get 4 rfl).1) H fun w84 H=>⟨H,(rtp 4 (Bv (!(inR ((r.xx[i]!).qX) 0 ((s.qA.length:Int) - 1)))) H ?_)⟩
     refine rtp 5 (Bv (!(inR ((r.xx[i]!).qX) 0 ((s.qA.length:Int) - 1)))) H ?_
     cases XS:(!(inR ((r.xx[i]!).qX) 0 ((s.qA.length:Int) - 1)))
     ·replace XS:=xJ XS
      replace XS:=Vl.1 XS
      refine rg 6 _ 70 (yh (cs:=(yS s xf qZ xG xC)) isAgg27 sizeOf27 rfl<|fun _ h=>qK (h.cells 3 rfl) 0 3) H ?_
      refine gF 7 rfl rfl H ?_
      refine gL 8 rfl rfl (fun _ h=>h.cell 0 rfl rfl) H ?_
      refine gF 9 rfl rfl H ?_
      refine gL 10 rfl rfl (fun _ h=>h.cell 2 rfl rfl) H ?_
      refine jw [11] qh qm<|r_opG rfl (e:=70) rfl rfl (oq (lies_ok _ s ((r.xx[i]!).qX) r.qX (H.get 3 rfl).1 (H.get 4 rfl).1 qg qg) H fun w88 H=>⟨H,(rgp 12 (Bv (!(dec<|Lies s.qA r.qX ((r.xx[i]!).qX)))) 70 H ?_)⟩) jy
      refine rtp 13 (Bv (!(dec<|Lies s.qA r.qX ((r.xx[i]!).qX)))) H ?_
      refine rtp 14 (Bv (!(dec<|Lies s.qA r.qX ((r.xx[i]!).qX)))) H ?_
      cases WV:(!(dec (Lies s.qA r.qX ((r.xx[i]!).qX))))
      ·replace WV:=xJ WV
       replace WV:=of_dec WV
       refine gF 15 rfl rfl H ?_
       refine gL 16 rfl rfl (fun _ h=>h.cell 3 rfl rfl) H ?_
       refine gF 17 rfl rfl H ?_
       refine gL 18 rfl rfl (fun _ h=>h.cell 0 rfl rfl) H ?_
       refine jw [19] qh qm<|r_opG rfl (e:=79) rfl rfl (oq (Vj _ s.qP ((r.xx[i]!).XH) (H.get 0 rfl).1) H fun w91 H=>⟨H,(rgp 20 (Bv (!(dec<|yJ s.qP ((r.xx[i]!).XH)))) 79 H ?_)⟩) jy
       refine rtp 21 (Bv (!(dec<|yJ s.qP ((r.xx[i]!).XH)))) H ?_
       refine rtp 22 (Bv (!(dec<|yJ s.qP ((r.xx[i]!).XH)))) H ?_
       cases PX:(!(dec (yJ s.qP ((r.xx[i]!).XH))))
       ·replace PX:=xJ PX
        replace PX:=of_dec PX
        refine gF 23 rfl rfl H ?_
        refine gL 24 rfl rfl (fun _ h=>h.cell 0 rfl rfl) H ?_
        refine jw [25] qh qm<|r_opG rfl (e:=87) rfl rfl ?_ jy
        have sm:Small ((r.xx[i]!).XH):=jc<|by first | assumption | exact i1 0 qf
        refine oq (bagSize_ok _ ((r.xx[i]!).XH) (H.get 0 rfl).1<|by first | assumption | exact jc ql | exact bag_small ql) H fun w94 H=>⟨H,(rgp 26 (Bv ((sumL ((r.xx[i]!).XH):Int) == 0)) 87 H ?_)⟩
        refine rtp 27 (Bv ((sumL ((r.xx[i]!).XH):Int) == 0)) H ?_
        refine rtp 28 (Bv ((sumL ((r.xx[i]!).XH):Int) == 0)) H ?_
        cases RG:((sumL ((r.xx[i]!).XH):Int) == 0)
        ·replace RG:=ne_of_beq_false RG
         refine rgp 29 (yI i) 93 H ?_
         refine rgp 30 (Bv<|decide ((i:Int) > 0)) 93 H ?_
         refine rgp 31 (Bv<|decide ((i:Int) > 0)) 93 H ?_
         cases h97:(decide ((i:Int) > 0))
         ·replace h97:=of_decide_eq_false h97
          refine jA (zR 32 10) 10 (H)<|rgp 42 (Bv false) 93 H ?_
          refine rtp 43 (Bv false) H ?_
          refine xy qh<|t_n<|cFr rfl<|xk<|b_n<|t_n<|xZ<|sw<|zV i 1 rfl rfl qf<|sq 1<|xW<|xq (m' :=(r.xx.length - ((i+1):Int)).toNat) qf ⟨_,i+1,uE5,?_,?_,rfl,N,H.pick [1,2,3]<|zR 2 9⟩
          ·omega
          ·exact i2.succ ⟨‹_›,‹_›,‹_›,‹_›,fun hk=>by omega⟩
         replace h97:=of_decide_eq_true h97
         refine gF 32 rfl rfl H ?_
         refine gL 33 rfl rfl (fun _ h=>h.cell 0 rfl rfl) H ?_
         refine gF 34 rfl rfl H ?_
         refine gL 35 rfl rfl (fun _ h=>h.cell 2 rfl rfl) H ?_
         refine rgp 36 (yI i) 96 H ?_
         refine rg 37 _ 96 (y_sub i 1 rfl rfl qf) H ?_
         obtain ⟨arh,aq4,asu,H⟩:=H.QU 10 rfl (i - 1) (i - 1) qf qf qf
         have S:=H.zK (zR 0 4)<|zR 2 11
         refine gI 38 rfl rfl rfl S ?_
         refine gF 39 rfl rfl S ?_
         refine jw [40] qh qm<|r_opG rfl (e:=96) rfl rfl (zB (yI ((r.xx[i - 1]!).qX)) isAgg2 rfl (H.vW 1 rfl 0 rfl)<|⟨H.pick (zR 0 4)<|zR 2 11,?_⟩) jy
         have S:=H.zK (zR 0 4)<|zR 2 11
         refine rgl 41 96 S ?_
         refine rgl 42 93 S ?_
         refine rtl 43 S ?_
         refine xy qh<|t_n<|cD rfl (fun h99=>?_)<|fun h99=>?_
         ·refine zcr (sp (Bv false)<|zjr<|zr5<|rH1 (Bv false) H ?_)
          rw [zt (fun h=>by obtain ⟨h1,h2,h3,h4,h5,h6,h7,h8,h9,fe,dZ⟩:=h;first | contradiction | omega | exact h3 ⟨‹_›,‹_›⟩ | (obtain ⟨q1,q2,q3,q4,q5⟩:=dZ i qf;first | contradiction | omega | (have:=q5 qf;omega)) | (refine absurd ?_ ‹¬ yJ _ _›;rcases (show k=0\/k=1\/k=2\/k=3\/k=4 by omega) with e | e | e | e | e <;> subst e <;> assumption))]
         refine xk<|b_n<|t_n<|xZ<|sw<|zV i 1 rfl rfl qf<|sq 1<|xW<|xq (m' :=(r.xx.length - ((i+1):Int)).toNat) qf ⟨_,i+1,uE5,?_,?_,rfl,N,H.pick [1,2,3]<|zR 4 9⟩
         ·omega
         ·exact i2.succ ⟨‹_›,‹_›,‹_›,‹_›,fun hk=>by omega⟩
        replace RG:=eq_of_beq RG
        refine jA (zR 29 14) 14 (H)<|rtp 43 (Bv true) H ?_
        refine xy qh<|t_n<|cTr rfl<|zcr<|sp (Bv false)<|zjr<|zr5<|rH1 (Bv false) H ?_
        rw [zt (fun h=>by obtain ⟨h1,h2,h3,h4,h5,h6,h7,h8,h9,fe,dZ⟩:=h;first | contradiction | omega | exact h3 ⟨‹_›,‹_›⟩ | (obtain ⟨q1,q2,q3,q4,q5⟩:=dZ i qf;first | contradiction | omega | (have:=q5 qf;omega)) | (refine absurd ?_ ‹¬ yJ _ _›;rcases (show k=0\/k=1\/k=2\/k=3\/k=4 by omega) with e | e | e | e | e <;> subst e <;> assumption))]
       replace PX:=xN PX
       replace PX:=Qd PX
       refine jA (zR 23 4) 4 (H)<|rtp 27 (Bv true) H ?_
       refine rtp 28 (Bv true) H ?_
       refine jA (zR 29 14) 14 (H)<|rtp 43 (Bv true) H ?_
       refine xy qh<|t_n<|cTr rfl<|zcr<|sp (Bv false)<|zjr<|zr5<|rH1 (Bv false) H ?_
       rw [zt (fun h=>by obtain ⟨h1,h2,h3,h4,h5,h6,h7,h8,h9,fe,dZ⟩:=h;first | contradiction | omega | exact h3 ⟨‹_›,‹_›⟩ | (obtain ⟨q1,q2,q3,q4,q5⟩:=dZ i qf;first | contradiction | omega | (have:=q5 qf;omega)) | (refine absurd ?_ ‹¬ yJ _ _›;rcases (show k=0\/k=1\/k=2\/k=3\/k=4 by omega) with e | e | e | e | e <;> subst e <;> assumption))]
      replace WV:=xN WV
      replace WV:=Qd WV
      refine jA (zR 15 6) 6 (H)<|rtp 21 (Bv true) H ?_
      refine rtp 22 (Bv true) H ?_
      refine jA (zR 23 4) 4 (H)<|rtp 27 (Bv true) H ?_
      refine rtp 28 (Bv true) H ?_
      refine jA (zR 29 14) 14 (H)<|rtp 43 (Bv true) H ?_
      refine xy qh<|t_n<|cTr rfl<|zcr<|sp (Bv false)<|zjr<|zr5<|rH1 (Bv false) H ?_
      rw [zt (fun h=>by obtain ⟨h1,h2,h3,h4,h5,h6,h7,h8,h9,fe,dZ⟩:=h;first | contradiction | omega | exact h3 ⟨‹_›,‹_›⟩ | (obtain ⟨q1,q2,q3,q4,q5⟩:=dZ i qf;first | contradiction | omega | (have:=q5 qf;omega)) | (refine absurd ?_ ‹¬ yJ _ _›;rcases (show k=0\/k=1\/k=2\/k=3\/k=4 by omega) with e | e | e | e | e <;> subst e <;> assumption))]
     replace XS:=xN XS
     replace XS:=inR_not XS
     refine jA (zR 6 7) 7 (H)<|rtp 13 (Bv true) H ?_
     refine rtp 14 (Bv true) H ?_
     refine jA (zR 15 6) 6 (H)<|rtp 21 (Bv true) H ?_
     refine rtp 22 (Bv true) H ?_
     refine jA (zR 23 4) 4 (H)<|rtp 27 (Bv true) H ?_
     refine rtp 28 (Bv true) H ?_
     refine jA (zR 29 14) 14 (H)<|rtp 43 (Bv true) H ?_
     refine xy qh<|t_n<|cTr rfl<|zcr<|sp (Bv false)<|zjr<|zr5<|rH1 (Bv false) H ?_
     rw [zt (fun h=>by obtain ⟨h1,h2,h3,h4,h5,h6,h7,h8,h9,fe,dZ⟩:=h;first | contradiction | omega | exact h3 ⟨‹_›,‹_›⟩ | (obtain ⟨q1,q2,q3,q4,q5⟩:=dZ i qf;first | contradiction | omega | (have:=q5 qf;omega)) | (refine absurd ?_ ‹¬ yJ _ _›;rcases (show k=0\/k=1\/k=2\/k=3\/k=4 by omega) with e | e | e | e | e <;> subst e <;> assumption))]
    refine zx4<|zcr<|oF rfl<|oL rfl (H.cell 1 rfl rfl) ?_
    have sm:Small r.zT:=jc<|by first | assumption | exact i1 0 qf
    refine sw<|oq (bagSize_ok _ r.zT (H.get 3 rfl).1<|by first | assumption | exact jc ql | exact bag_small ql) H fun an4 H=>sp (Bv<|decide ((sumL r.zT:Int) > 0))<|sp (Bv<|decide ((sumL r.zT:Int) > 0))<|zjr<|rH1 (Bv<|decide ((sumL r.zT:Int) > 0)) H<|congrArg Value.bool<|dec_eq ?_
    rw [decide_eq_true_iff]
    exact ⟨fun h=>⟨by omega,by omega,by simp_all,by omega,n1,n2,n3,n4,n5,by omega,(show i=r.xx.length by omega)▸i2⟩,fun h=>by have:=h.2.2.2.2.2.2.2.2.2.1;have:=sum_nonneg n1.1;omega⟩
   replace h57:=eq_of_beq h57
   refine zM (zR 30 4)<|sp (Bv true)<|zjn<|cTr rfl<|zcr<|sp (Bv false)<|zjr<|t_r<|rH1 (Bv false) H ?_
   rw [zt (fun h=>by obtain ⟨h1,h2,h3,h4,h5,h6,h7,h8,h9,fe,dZ⟩:=h;first | contradiction | omega | exact h3 ⟨‹_›,‹_›⟩ | (obtain ⟨q1,q2,q3,q4,q5⟩:=dZ i qf;first | contradiction | omega | (have:=q5 qf;omega)) | (refine absurd ?_ ‹¬ yJ _ _›;rcases (show k=0\/k=1\/k=2\/k=3\/k=4 by omega) with e | e | e | e | e <;> subst e <;> assumption))]
  replace dZ:=xN dZ
  replace dZ:=inR_not dZ
  refine zM (zR 21 7)<|sp (Bv true)<|sp (Bv true)<|zM (zR 30 4)<|sp (Bv true)<|zjn<|cTr rfl<|zcr<|sp (Bv false)<|zjr<|t_r<|rH1 (Bv false) H ?_
  rw [zt (fun h=>by obtain ⟨h1,h2,h3,h4,h5,h6,h7,h8,h9,fe,dZ⟩:=h;first | contradiction | omega | exact h3 ⟨‹_›,‹_›⟩ | (obtain ⟨q1,q2,q3,q4,q5⟩:=dZ i qf;first | contradiction | omega | (have:=q5 qf;omega)) | (refine absurd ?_ ‹¬ yJ _ _›;rcases (show k=0\/k=1\/k=2\/k=3\/k=4 by omega) with e | e | e | e | e <;> subst e <;> assumption))]
 replace h8:=xN h8
 replace h8:=inR_not h8
 refine zM (zR 15 4)<|sp (Bv true)<|sp (Bv true)<|zM (zR 21 7)<|sp (Bv true)<|sp (Bv true)<|zM (zR 30 4)<|sp (Bv true)<|zjn<|cTr rfl<|zcr<|sp (Bv false)<|zjr<|t_r<|rH1 (Bv false) H ?_
 rw [zt (fun h=>by obtain ⟨h1,h2,h3,h4,h5,h6,h7,h8,h9,fe,dZ⟩:=h;first | contradiction | omega | exact h3 ⟨‹_›,‹_›⟩ | (obtain ⟨q1,q2,q3,q4,q5⟩:=dZ i qf;first | contradiction | omega | (have:=q5 qf;omega)) | (refine absurd ?_ ‹¬ yJ _ _›;rcases (show k=0\/k=1\/k=2\/k=3\/k=4 by omega) with e | e | e | e | e <;> subst e <;> assumption))]
theorem validSystem_ok (w:World) (s:qM) (xu:zP w zH xf qZ s.qA) (xY:zP w vX xG xC s.qB):Calls Tryz.prog 76 #[.agg #[yI s.qP,Sv xf s.qA.length qZ,Sv xG s.qB.length xC]] w (Ret (fun v w' =>v=Bv (dec<|QC s)) w):=by
 refine en func76 ntmps76 ?_
 have H:=((St.start w).arg xY).arg xu
 have jJ:=qO xu
 have Qb:=qO xY
 clear xu xY
 have N:=Fresh.nil w.heap.size
 have p1:=fun h:yK s=>h.2.1
 refine zcr<|sw<|jq H (yS s xf qZ xG xC) fun b1 w2 H=>sp (Bv false)<|zjcc<|sw<|zi (yS s xf qZ xG xC) isAgg27 sizeOf27 rfl (qK (H.cells 0 rfl) 0 3)<|sw<|oq (isShell_ok _ s (H.get 0 rfl).1 (H.get 1 rfl).1) H fun w4 H=>sp (Bv (!(dec<|yK s)))<|sp (Bv (!(dec<|yK s))) ?_
 cases h6:(!(dec (yK s)))
 ·replace h6:=xJ h6
  replace h6:=of_dec h6
  refine qV 9 rfl rfl<|oF rfl<|qV 9 rfl rfl<|oL rfl (H.cell 0 rfl rfl)<|qV 9 rfl rfl<|oN rfl<|qV 9 rfl rfl<|sp (Bv<|decide ((s.qB.length:Int) > 16))<|sp (Bv<|decide ((s.qB.length:Int) > 16))<|zjn<|cD rfl (fun h7=>?_)<|fun h7=>?_
  ·refine zcr (sp (Bv false)<|zjr<|t_r<|rH1 (Bv false) H ?_)
   rw [zt (fun h=>by obtain ⟨h1,h2,h3⟩:=h;first | contradiction | omega | (obtain ⟨r1,r2⟩:=h3 k qf;first | contradiction | (have:=Vo (s:=s) (k:=k+1) q1 q2;omega)))]
  refine xk<|t_n<|zcr<|sw<|jb [yI 0,yI 0,yI 0,yI 0,yI 0,yI 0] []<|sw<|xU H ti156 [yI 0,yI 0,yI 0,yI 0,yI 0,yI 0] fun b8 w9 H=>sw<|zC H 0 [yI 0,yI 0,yI 0,yI 0,yI 0,yI 0] sizeOf156 fun DN H=>zjcc<|oF rfl<|oL rfl (H.cell 1 rfl rfl)<|oN rfl<|sp (yI 0)<|zjn<|xg ?_
  have p2:=p1 ‹_›
  refine zU ((fun Z0 Z1 Z2=>fun m' ρ KD=>∃ (xI:Env) (k:Nat) (many:yLI),ρ=upd (upd (upd (upd (upd xI 1<|pp b1 0) 3<|pp b8 0) 17<|Sv xG s.qB.length xC) 18<|yI s.qB.length) 19 (yI k)/\many=counts6 s k/\((k:Int)<=s.qB.length)/\(RulesTo s k)/\m' =(s.qB.length - (k:Int)).toNat/\Fresh w.heap.size []/\St w KD [.box b8 (many.map<|Value.int .i64) 156,Z0] [Z1,Z2]) _ _ _) ((s.qB.length - (0:Int)).toNat) ⟨_,0,[0,0,0,0,0,0],uE5,(by exact counts6_zero s),qf,qx,rfl,N,H⟩ ?_
  clear H N
  rintro m' ρ KA ⟨xI,k,many,rfl,rfl,i0,i1,rfl,N,H⟩
  refine zcr<|sq 1<|zjn<|xH<|cD rfl (fun JM=>?_)<|fun JM=>?_
  ·refine xk (t_n<|xH<|xg<|zcr ?_)
   obtain ⟨b14,o15,rfl⟩:=H.addr 1 rfl qf
   obtain ⟨uD,tr,ale,uN,wa,aoZ,te,wq,am4,tE,sV,amE,Ah,Ap,asR,uX,uW,ao4,H⟩:=H.Xh 1 rfl k k qf qf qf
   refine oI rfl rfl<|sw<|zi [yI ((s.qB[k]!).qX),yI ((s.qB[k]!).yQ),Sv uD (((s.qB[k]!).zT).length) tr,Sv uN (((s.qB[k]!).jV).length) wa,Sv te (((s.qB[k]!).jX).length) wq,Sv tE (((s.qB[k]!).jK).length) sV,Sv Ah (((s.qB[k]!).QP).length) Ap,Sv uX (((s.qB[k]!).xx).length) uW,Bv ((s.qB[k]!).jm)] isAgg110 sizeOf110 rfl (qK (H.get 6 rfl) 0 9)<|sw<|xU H ti110 [yI 0,yI 0,yN,yN,yN,yN,yN,yN,Bv false] fun Wt Ov H=>sw<|zC H 0 [yI ((s.qB[k]!).qX),yI ((s.qB[k]!).yQ),Sv uD (((s.qB[k]!).zT).length) tr,Sv uN (((s.qB[k]!).jV).length) wa,Sv te (((s.qB[k]!).jX).length) wq,Sv tE (((s.qB[k]!).jK).length) sV,Sv Ah (((s.qB[k]!).QP).length) Ap,Sv uX (((s.qB[k]!).xx).length) uW,Bv ((s.qB[k]!).jm)] sizeOf110 fun Rr H=>(zjcc<|sw<|zi [yI s.qP,Sv xf s.qA.length qZ,Sv (aa b14 o15) s.qB.length xC] isAgg27 sizeOf27 rfl (qK (H.cells 2 rfl) 0 3)<|sw<|zi [yI ((s.qB[k]!).qX),yI ((s.qB[k]!).yQ),Sv uD (((s.qB[k]!).zT).length) tr,Sv uN (((s.qB[k]!).jV).length) wa,Sv te (((s.qB[k]!).jX).length) wq,Sv tE (((s.qB[k]!).jK).length) sV,Sv Ah (((s.qB[k]!).QP).length) Ap,Sv uX (((s.qB[k]!).xx).length) uW,Bv ((s.qB[k]!).jm)] isAgg110 sizeOf110 rfl (qK (H.cells 0 rfl) 0 9)<|sw<|oq (isRule_ok _ s (s.qB[k]!) (H.get 7 rfl).1 (H.get 8 rfl).1 (H.get 0 rfl).1 (H.get 1 rfl).1 (H.get 2 rfl).1 (H.get 3 rfl).1 (H.get 4 rfl).1 (H.get 5 rfl).1 qg) H fun Ot H=>?_)
   have q:=fun h:RuleOk s (s.qB[k]!)=>(show 0<=(s.qB[k]!).qX/\(s.qB[k]!).qX<=5 from ⟨h.1.1,by have:=h.1.2;omega⟩)
   refine sq 1<|zjn<|cQ rfl (fun Th=>?_)<|fun Th=>?_
   ·refine zcr (sp (Bv false)<|zjr<|t_r<|zr5<|rH1 (Bv false) H ?_)
    rw [zt (fun h=>by obtain ⟨h1,h2,h3⟩:=h;first | contradiction | omega | (obtain ⟨r1,r2⟩:=h3 k qf;first | contradiction | (have:=Vo (s:=s) (k:=k+1) q1 q2;omega)))]
   obtain ⟨q1,q2⟩:=q ‹_›
   have q3:=Vo (s:=s) (k:=k) q1 q2
   have q4:=ofCell_bd s.qB (s.qB[k]!).qX k
   refine xk<|t_n<|zcr<|oF rfl<|oL rfl (H.cell 0 rfl rfl)<|sw<|o_idxArr ((s.qB[k]!).qX) underlying156 ti3 rfl rfl qf qf<|oL rfl (H.cell 1 rfl<|ints_at (iv:=(s.qB[k]!).qX) (i:=(((s.qB[k]!).qX).toNat)) qf<|by simp only [List.length_set,List.length_cons,List.length_nil,counts6_len];omega)<|sw<|zV ((counts6 s k)[((s.qB[k]!).qX).toNat]!) 1 rfl rfl qf<|sw<|o_idxArr ((s.qB[k]!).qX) underlying156 ti3 rfl rfl qf qf<|sw<|o_storeArr H 1 rfl (((counts6 s k)[((s.qB[k]!).qX).toNat]!)+1) sizeOf3 rfl rfl (i:=(((s.qB[k]!).qX).toNat)) qf (by simp only [List.length_set,List.length_cons,List.length_nil,counts6_len];omega) fun Ea H=>?_
   rw [counts6_succ q1 q2] at H
   refine zjc<|oF rfl<|oL rfl (H.cell 0 rfl rfl)<|sw<|o_idxArr ((s.qB[k]!).qX) underlying156 ti3 rfl rfl qf qf<|oL rfl (H.cell 1 rfl<|ints_at (iv:=(s.qB[k]!).qX) (i:=(((s.qB[k]!).qX).toNat)) qf<|by simp only [List.length_set,List.length_cons,List.length_nil,counts6_len];omega)<|sp (Bv<|decide (((counts6 s<|k+1)[((s.qB[k]!).qX).toNat]! :Int) > 8))<|zjn<|cD rfl (fun Qf=>?_)<|fun Qf=>?_
   ·refine zcr (sp (Bv false)<|zjr<|zr5<|rH1 (Bv false) H ?_)
    rw [zt (fun h=>by obtain ⟨h1,h2,h3⟩:=h;first | contradiction | omega | (obtain ⟨r1,r2⟩:=h3 k qf;first | contradiction | (have:=Vo (s:=s) (k:=k+1) q1 q2;omega)))]
   refine xk<|b_n<|t_n<|xZ<|sw<|zV k 1 rfl rfl qf<|sq 1<|xW<|xq (m' :=(s.qB.length - ((k+1):Int)).toNat) qf ⟨_,k+1,_,uE5,?_,?_,?_,rfl,N,H.pick [1,2] [7,8]⟩
   ·rfl
   ·omega
   ·exact i1.succ ‹_› (by have:=Vo (s:=s) (k:=k+1) q1 q2;omega)
  refine zx4<|zcr<|sp (Bv true)<|zjr<|rH1 (Bv true) H ?_
  rw [Xr ⟨by assumption,by omega,(show s.qB.length=k by omega)▸i1⟩]
 replace h6:=xN h6
 replace h6:=Qd h6
 refine zM (zR 10 4)<|sp (Bv true)<|zjn<|cTr rfl<|zcr<|sp (Bv false)<|zjr<|t_r<|rH1 (Bv false) H ?_
 rw [zt (fun h=>by obtain ⟨h1,h2,h3⟩:=h;first | contradiction | omega | (obtain ⟨r1,r2⟩:=h3 k qf;first | contradiction | (have:=Vo (s:=s) (k:=k+1) q1 q2;omega)))]
theorem validState_ok (w:World) (s:qM) (t:xh) (xu:zP w zH xf qZ s.qA) (xY:zP w vX xG xC s.qB) (vF:zP w Qa zS zO t.xn) (jM:zP w QG vZ vT t.qG) (zN:zP w jY zq zo t.qE):Calls Tryz.prog 36 #[.agg #[yI s.qP,Sv xf s.qA.length qZ,Sv xG s.qB.length xC],.agg #[Sv zS t.xn.length zO,Sv vZ t.qG.length vT,Sv zq t.qE.length zo]] w (Ret (fun v w' =>v=Bv (dec<|QC s/\vM s t)) w):=by
 refine en func36 ntmps36 ?_
 have H:=(((((St.start w).arg zN).arg jM).arg vF).arg xY).arg xu
 have jJ:=qO xu
 have Qb:=qO xY
 have XE:=qO vF
 have eJ:=qO jM
 have QW:=qO zN
 clear xu xY vF jM zN
 have N:=Fresh.nil w.heap.size
 refine zcr<|sw<|jq H (yS s xf qZ xG xC) fun b1 w2 H=>sw<|jq H (yT t zS zO vZ vT zq zo) fun b3 w4 H=>sp (Bv false)<|zjcc<|sw<|zi (yS s xf qZ xG xC) isAgg27 sizeOf27 rfl (qK (H.cells 1 rfl) 0 3)<|sw<|oq (validSystem_ok _ s (H.get 0 rfl).1 (H.get 1 rfl).1) H fun w6 H=>sp (Bv (!(dec<|QC s)))<|sp (Bv (!(dec<|QC s))) ?_
 cases h8:(!(dec (QC s)))
 ·replace h8:=xJ h8
  replace h8:=of_dec h8
  have z1:=(‹QC s›:QC s).1.2.1
  refine qV 10 rfl rfl<|oF rfl<|qV 10 rfl rfl<|oL rfl (H.cell 0 rfl rfl)<|qV 10 rfl rfl<|oN rfl<|qV 10 rfl rfl<|oF rfl<|qV 10 rfl rfl<|oL rfl (H.cell 1 rfl rfl)<|qV 10 rfl rfl<|oN rfl<|qV 10 rfl rfl<|sp (Bv ((t.xn.length:Int) != s.qA.length))<|sp (Bv ((t.xn.length:Int) != s.qA.length))<|sp (Bv ((t.xn.length:Int) != s.qA.length)) ?_
  cases h9:((t.xn.length:Int) != s.qA.length)
  ·replace h9:=xR h9
   refine qV 19 rfl rfl<|oF rfl<|qV 19 rfl rfl<|oL rfl (H.cell 0 rfl rfl)<|qV 19 rfl rfl<|oN rfl<|qV 19 rfl rfl<|oF rfl<|qV 19 rfl rfl<|oL rfl (H.cell 1 rfl rfl)<|qV 19 rfl rfl<|oN rfl<|qV 19 rfl rfl<|sp (Bv ((t.qG.length:Int) != s.qA.length))<|sp (Bv ((t.qG.length:Int) != s.qA.length))<|sp (Bv ((t.qG.length:Int) != s.qA.length)) ?_
   cases fe:((t.qG.length:Int) != s.qA.length)
   ·replace fe:=xR fe
    refine qV 28 rfl rfl<|oF rfl<|qV 28 rfl rfl<|oL rfl (H.cell 0 rfl rfl)<|qV 28 rfl rfl ?_
    obtain ⟨sI,o12,rfl⟩:=H.addr 2 rfl qf
    refine oI rfl rfl<|qV 28 rfl rfl<|oL rfl (H.elemBoolN 2 rfl 0 qf)<|qV 28 rfl rfl<|sp (Bv (!(t.xn[0]!)))<|sp (Bv (!(t.xn[0]!)))<|sp (Bv (!(t.xn[0]!))) ?_
    cases lR:(!(t.xn[0]!))
    ·replace lR:=xJ lR
     refine qV 35 rfl rfl<|oF rfl<|qV 35 rfl rfl<|oL rfl (H.cell 1 rfl rfl)<|qV 35 rfl rfl<|oF rfl<|qV 35 rfl rfl<|oL rfl (H.cell 0 rfl rfl)<|qV 35 rfl rfl<|sw<|oq (Vj _ s.qP t.qE (H.get 4 rfl).1) H fun PG H=>qV 35 rfl rfl<|sq 2<|zjn<|cQ rfl (fun Kw=>?_)<|fun Kw=>?_
     ·refine zcr (sp (Bv false)<|zjr<|t_r<|rH1 (Bv false) H ?_)
      rw [zt (fun h=>by obtain ⟨h0,h1,h2,h3,h4,h5⟩:=h;first | contradiction | omega | (simp_all;done) | (obtain ⟨q1,q2⟩:=h5 c qf;first | contradiction | (have:=q2 ql;omega)))]
     refine xk<|t_n<|zcc<|oF rfl<|oL rfl (H.cell 0 rfl rfl)<|oN rfl<|sp (yI 0)<|zjn<|xg<|zU ((fun Z0 Z1 Z2 Z3 Z4 Z5 Z6=>fun m' ρ ZH=>∃ (xI:Env) (c:Nat),ρ=upd (upd (upd (upd (upd xI 2<|pp b1 0) 3<|pp b3 0) 44<|Sv vZ t.qG.length vT) 45<|yI t.qG.length) 46 (yI c)/\((c:Int)<=t.qG.length)/\(BagsTo s t c)/\m' =(t.qG.length - (c:Int)).toNat/\Fresh w.heap.size []/\St w ZH [Z0,Z1] [Z2,Z3,Z4,Z5,Z6]) _ _ _ _ _ _ _) ((t.qG.length - (0:Int)).toNat) ⟨_,0,uE5,qf,qx,rfl,N,H⟩ ?_
     clear H N
     rintro m' ρ Ov ⟨xI,c,rfl,i0,i1,rfl,N,H⟩
     refine zcr<|sq 1<|zjn<|xH<|cD rfl (fun Bk=>?_)<|fun Bk=>?_
     ·refine xk (t_n<|xH<|xg<|zcr<|sp (yI c) ?_)
      obtain ⟨ws,o22,rfl⟩:=H.addr 3 rfl qf
      obtain ⟨aEp,aEU,aI1,H⟩:=H.yD 3 rfl c c qf qf qf
      refine oI rfl rfl<|oL rfl (H.vW 1 rfl 0 rfl)<|sp (yI c)<|sq 1<|zjc<|oF rfl<|oL rfl (H.cell 1 rfl rfl)<|sq 1<|sw<|oq (Vj _ s.qP (t.qG[c]!) (H.get 0 rfl).1) H fun Ea H=>sp (Bv (!(dec<|yJ s.qP<|t.qG[c]!)))<|sp (Bv (!(dec<|yJ s.qP<|t.qG[c]!))) ?_
      cases oY:(!(dec (yJ s.qP (t.qG[c]!))))
      ·replace oY:=xJ oY
       replace oY:=of_dec oY
       refine qV 56 rfl rfl<|oF rfl<|qV 56 rfl rfl<|oL rfl (H.cell 0 rfl rfl)<|qV 56 rfl rfl<|sp (yI c)<|qV 56 rfl rfl<|oI rfl rfl<|qV 56 rfl rfl<|oL rfl (H.elemBoolN 4 rfl c qf)<|qV 56 rfl rfl<|sp (Bv (!(t.xn[c]!)))<|qV 56 rfl rfl<|sp (Bv (!(t.xn[c]!))) ?_
       cases oZ:(!(t.xn[c]!))
       ·replace oZ:=xJ oZ
        refine zM [64,65,66]<|qV 56 rfl rfl<|sp (Bv false)<|sp (Bv false)<|zjn<|cFr rfl<|xk<|b_n<|t_n<|xZ<|sw<|zV c 1 rfl rfl qf<|sq 1<|xW<|xq (m' :=(t.qG.length - ((c+1):Int)).toNat) qf ⟨_,c+1,uE5,?_,?_,rfl,N,H.pick [0,1]<|zR 2 5⟩
        ·omega
        ·exact i1.succ ‹_› (fun hk=>by first | omega | simp_all)
       replace oZ:=xN oZ
       refine qV 63 rfl rfl<|sq 1<|qV 63 rfl rfl<|sw<|oq (bagSize_ok _ (t.qG[c]!) (H.get 0 rfl).1<|by first | assumption | exact jc ql | exact bag_small ql) H fun Rf H=>qV 63 rfl rfl<|sp (Bv<|decide ((sumL (t.qG[c]!):Int) > 0))<|qV 56 rfl rfl<|sp (Bv<|decide ((sumL (t.qG[c]!):Int) > 0))<|sp (Bv<|decide ((sumL (t.qG[c]!):Int) > 0))<|zjn<|cD rfl (fun h31=>?_)<|fun h31=>?_
       ·refine zcr (sp (Bv false)<|zjr<|zr5<|rH1 (Bv false) H ?_)
        rw [zt (fun h=>by obtain ⟨h0,h1,h2,h3,h4,h5⟩:=h;first | contradiction | omega | (simp_all;done) | (obtain ⟨q1,q2⟩:=h5 c qf;first | contradiction | (have:=q2 ql;omega)))]
       refine xk<|b_n<|t_n<|xZ<|sw<|zV c 1 rfl rfl qf<|sq 1<|xW<|xq (m' :=(t.qG.length - ((c+1):Int)).toNat) qf ⟨_,c+1,uE5,?_,?_,rfl,N,H.pick [0,1]<|zR 2 5⟩
       ·omega
       ·exact i1.succ ‹_› (fun hk=>by first | omega | simp_all)
      replace oY:=xN oY
      replace oY:=Qd oY
      refine zM (zR 57 11)<|sp (Bv true)<|zjn<|cTr rfl<|zcr<|sp (Bv false)<|zjr<|zr5<|rH1 (Bv false) H ?_
      rw [zt (fun h=>by obtain ⟨h0,h1,h2,h3,h4,h5⟩:=h;first | contradiction | omega | (simp_all;done) | (obtain ⟨q1,q2⟩:=h5 c qf;first | contradiction | (have:=q2 ql;omega)))]
     refine zx4<|zcr<|sp (Bv true)<|zjr<|rH1 (Bv true) H ?_
     rw [Xr ⟨by assumption,by omega,by omega,by first | assumption | simp_all,by assumption,(show t.qG.length=c by omega)▸i1⟩]
    replace lR:=xN lR
    refine zM (zR 36 6)<|sp (Bv true)<|zjn<|cTr rfl<|zcr<|sp (Bv false)<|zjr<|t_r<|rH1 (Bv false) H ?_
    rw [zt (fun h=>by obtain ⟨h0,h1,h2,h3,h4,h5⟩:=h;first | contradiction | omega | (simp_all;done) | (obtain ⟨q1,q2⟩:=h5 c qf;first | contradiction | (have:=q2 ql;omega)))]
   replace fe:=bne_iff_ne.1 fe
   refine zM (zR 29 5)<|sp (Bv true)<|sp (Bv true)<|zM (zR 36 6)<|sp (Bv true)<|zjn<|cTr rfl<|zcr<|sp (Bv false)<|zjr<|t_r<|rH1 (Bv false) H ?_
   rw [zt (fun h=>by obtain ⟨h0,h1,h2,h3,h4,h5⟩:=h;first | contradiction | omega | (simp_all;done) | (obtain ⟨q1,q2⟩:=h5 c qf;first | contradiction | (have:=q2 ql;omega)))]
  replace h9:=bne_iff_ne.1 h9
  refine zM (zR 20 7)<|sp (Bv true)<|sp (Bv true)<|zM (zR 29 5)<|sp (Bv true)<|sp (Bv true)<|zM (zR 36 6)<|sp (Bv true)<|zjn<|cTr rfl<|zcr<|sp (Bv false)<|zjr<|t_r<|rH1 (Bv false) H ?_
  rw [zt (fun h=>by obtain ⟨h0,h1,h2,h3,h4,h5⟩:=h;first | contradiction | omega | (simp_all;done) | (obtain ⟨q1,q2⟩:=h5 c qf;first | contradiction | (have:=q2 ql;omega)))]
 replace h8:=xN h8
 replace h8:=Qd h8
 refine zM (zR 11 7)<|sp (Bv true)<|sp (Bv true)<|zM (zR 20 7)<|sp (Bv true)<|sp (Bv true)<|zM (zR 29 5)<|sp (Bv true)<|sp (Bv true)<|zM (zR 36 6)<|sp (Bv true)<|zjn<|cTr rfl<|zcr<|sp (Bv false)<|zjr<|t_r<|rH1 (Bv false) H ?_
 rw [zt (fun h=>by obtain ⟨h0,h1,h2,h3,h4,h5⟩:=h;first | contradiction | omega | (simp_all;done) | (obtain ⟨q1,q2⟩:=h5 c qf;first | contradiction | (have:=q2 ql;omega)))]
theorem parentNow_ok (w:World) (s:qM) (t:xh) (c:Int) (xu:zP w zH xf qZ s.qA) (xY:zP w vX xG xC s.qB) (vF:zP w Qa zS zO t.xn) (jM:zP w QG vZ vT t.qG) (zN:zP w jY zq zo t.qE) (p0:yK s) (p1:CellIn s c) (p2:t.xn.length=s.qA.length):Calls Tryz.prog 127 #[.agg #[yI s.qP,Sv xf s.qA.length qZ,Sv xG s.qB.length xC],.agg #[Sv zS t.xn.length zO,Sv vZ t.qG.length vT,Sv zq t.qE.length zo],yI c] w (Ret (fun v w' =>v=yI (zG s t c)) w):=by
 refine en func127 ntmps127 ?_
 have H:=(((((St.start w).arg zN).arg jM).arg vF).arg xY).arg xu
 have jJ:=qO xu
 have Qb:=qO xY
 have XE:=qO vF
 have eJ:=qO jM
 have QW:=qO zN
 clear xu xY vF jM zN
 have N:=Fresh.nil w.heap.size
 have p3:=p0.step p1.1 p1.2
 refine zcr<|sw<|jq H (yS s xf qZ xG xC) fun b1 w2 H=>sw<|jq H (yT t zS zO vZ vT zq zo) fun b3 w4 H=>sp (yI 0)<|zjc<|oF rfl<|oL rfl (H.cell 1 rfl rfl)<|sp (yI c) ?_
 obtain ⟨b5,o6,rfl⟩:=H.addr 0 rfl qf
 refine oI rfl rfl<|oL rfl (H.elemInt 0 rfl c qf qf)<|sq 1<|zjn<|xH<|xg<|zU ((fun Z0 Z1 Z2 Z3 Z4 Z5 Z6=>fun m' ρ w8=>∃ (xI:Env) (p:Int) (n:Nat),ρ=upd (upd (upd xI 3<|pp b1 0) 4<|pp b3 0) 7 (yI p)/\(-1<=p/\p<=(s.qA.length:Int) - 1)/\(p < n)/\(zG s t c=climb s.qA t.xn n p)/\m' =(p+1).toNat/\Fresh w.heap.size []/\St w w8 [Z0,Z1] [Z2,Z3,Z4,Z5,Z6]) _ _ _ _ _ _ _) (((s.qA[c.toNat]!)+1).toNat) ⟨_,s.qA[c.toNat]!,s.qA.length,uE3,qf,qf,(by rfl),rfl,N,H⟩ ?_
 clear H N
 rintro m' ρ w9 ⟨xI,p,n,rfl,i0,i1,i2,rfl,N,H⟩
 have up:=fun h=>p0.step (c:=p) h i0.2
 refine zcc<|sp (yI p)<|sp (Bv<|decide ((p:Int)>=0))<|sp (Bv<|decide ((p:Int)>=0)) ?_
 cases fe:(decide ((p:Int)>=0))
 ·replace fe:=of_decide_eq_false fe
  refine zM (zR 16 6)<|sp (Bv false)<|zjn<|cFr rfl<|zx4<|zcr<|sp (yI p)<|sp (yI p)<|zjr<|rH1 (yI p) H ?_
  rw [i2,climb_end<|by first | omega | simp_all]
 replace fe:=of_decide_eq_true fe
 refine qV 15 rfl rfl<|oF rfl<|qV 15 rfl rfl<|oL rfl (H.cell 0 rfl rfl)<|qV 15 rfl rfl<|sp (yI p)<|qV 15 rfl rfl ?_
 obtain ⟨sI,o12,rfl⟩:=H.addr 2 rfl qf
 refine oI rfl rfl<|qV 15 rfl rfl<|oL rfl (H.elemBool 2 rfl p qf qf)<|qV 15 rfl rfl<|sq 2<|zjn<|vk _ rfl (fun lR=>?_)<|fun lR=>?_
 ·replace lR:=xN lR
  refine xk<|t_n<|xg<|xZ<|oF rfl<|oL rfl (H.cell 1 rfl rfl)<|sp (yI p)<|oI rfl rfl<|oL rfl (H.elemInt 0 rfl p qf qf)<|sq 1<|xW<|b_n ?_
  have up1:=up qf
  refine xq (m' :=((s.qA[p.toNat]!)+1).toNat) qf ⟨_,_,n - 1,uE3,?_,?_,?_,rfl,N,H⟩
  ·omega
  ·omega
  ·exact i2.trans<|climb_go qf qf ‹_›
 replace lR:=xJ lR
 refine zx4<|zcr<|sp (yI p)<|sp (yI p)<|zjr<|rH1 (yI p) H ?_
 rw [i2,climb_end<|by first | omega | simp_all]
theorem isEnabled_ok (w:World) (s:qM) (t:xh) (r:yj) (xu:zP w zH xf qZ s.qA) (xY:zP w vX xG xC s.qB) (vF:zP w Qa zS zO t.xn) (jM:zP w QG vZ vT t.qG) (zN:zP w jY zq zo t.qE) (im:zP w E6 jn iO r.zT) (iE:zP w E8 jz iK r.jV) (iz:zP w D2 kh il r.jX) (iN:zP w EZ kr iM r.jK) (mV:zP w OV nW nj r.QP) (ij:zP w Ej ff eK r.xx) (p0:QC s) (p1:vM s t) (p2:RuleOk s r):Calls Tryz.prog 79 #[.agg #[yI s.qP,Sv xf s.qA.length qZ,Sv xG s.qB.length xC],.agg #[Sv zS t.xn.length zO,Sv vZ t.qG.length vT,Sv zq t.qE.length zo],.agg #[yI r.qX,yI r.yQ,Sv jn r.zT.length iO,Sv jz r.jV.length iK,Sv kh r.jX.length il,Sv kr r.jK.length iM,Sv nW r.QP.length nj,Sv ff r.xx.length eK,Bv r.jm]] w (Ret (fun v w' =>v=Bv (dec<|EnOk s t r)) w):=by
 refine en func79 ntmps79 ?_
 have H:=(((((((((((St.start w).arg ij).arg mV).arg iN).arg iz).arg iE).arg im).arg zN).arg jM).arg vF).arg xY).arg xu
 have jJ:=qO xu
 have Qb:=qO xY
 have XE:=qO vF
 have eJ:=qO jM
 have QW:=qO zN
 have Hw:=qO im
 have HX:=qO iE
 have H2:=qO iz
 have GC:=qO iN
 have KM:=qO mV
 have HJ:=qO ij
 clear xu xY vF jM zN im iE iz iN mV ij
 have N:=Fresh.nil w.heap.size
 have p3:=p2.1
 have p4:=p1.1
 have p5:=p1.2.1
 have p6:=(p1.bagLen (k:=r.qX.toNat) qf).len
 have p7:=p2.2.2.2.2.1.len
 have p8:=p2.2.2.2.2.2.1.len
 have p9:=p2.2.2.2.2.2.2.1.len
 have p10:=jc p2.2.2.2.2.2.2.1
 have p11:=p0.1
 have Yx:=p2.2.2.2.2.2.2.2.2.2.2
 have p13:=XG p0
 refine zcr<|sw<|jq H (yS s xf qZ xG xC) fun b1 w2 H=>sw<|jq H (yT t zS zO vZ vT zq zo) fun b3 w4 H=>sw<|jq H [yI r.qX,yI r.yQ,Sv jn r.zT.length iO,Sv jz r.jV.length iK,Sv kh r.jX.length il,Sv kr r.jK.length iM,Sv nW r.QP.length nj,Sv ff r.xx.length eK,Bv r.jm] fun b5 w6 H=>sp (Bv false)<|zjcc<|oF rfl<|oL rfl (H.cell 1 rfl rfl)<|oF rfl<|oL rfl (H.cell 0 rfl rfl) ?_
 obtain ⟨b7,o8,rfl⟩:=H.addr 2 rfl qf
 refine oI rfl rfl<|oL rfl (H.elemBool 2 rfl r.qX qf qf)<|sq 1<|zjn<|vk _ rfl (fun fe=>?_)<|fun fe=>?_
 ·replace fe:=xN fe
  refine zcr<|sp (Bv false)<|zjr<|t_r<|rH1 (Bv false) H ?_
  rw [zt (fun h=>by obtain ⟨h1,h2,h3,h4,h5⟩:=h;first | exact ft h1 ‹_› | exact ft h2 ‹_› | exact ft h3 ‹_› | exact h4 ⟨‹_›,‹_›⟩ | (obtain ⟨q1,q2⟩:=h5 i qf;first | exact ft q1 ‹_› | exact absurd q2 ‹_›))]
 replace fe:=xJ fe
 refine xk<|t_n<|zcr<|oF rfl<|oL rfl (H.cell 1 rfl rfl)<|oF rfl<|oL rfl (H.cell 0 rfl rfl) ?_
 obtain ⟨sI,o12,rfl⟩:=H.addr 3 rfl qf
 obtain ⟨aGu,aIM,aEr,H⟩:=H.yD 3 rfl r.qX r.qX.toNat qf qf qf
 refine oI rfl rfl<|oL rfl (H.vW 1 rfl 0 rfl)<|sq 1<|zjcc<|oF rfl<|oL rfl (H.cell 0 rfl rfl)<|sq 1<|sw<|oq (isWithin_ok _ r.zT (t.qG[r.qX.toNat]!) (H.get 7 rfl).1 (H.get 0 rfl).1 qg qg) H fun PG H=>sp (Bv (!(within r.zT<|t.qG[r.qX.toNat]!)))<|sp (Bv (!(within r.zT<|t.qG[r.qX.toNat]!))) ?_
 cases Kw:(!(within r.zT (t.qG[r.qX.toNat]!)))
 ·replace Kw:=xJ Kw
  refine qV 26 rfl rfl<|oF rfl<|qV 26 rfl rfl<|oL rfl (H.cell 0 rfl rfl)<|qV 26 rfl rfl<|sq 1<|qV 26 rfl rfl<|sw<|oq (isWithin_ok _ r.jV (t.qG[r.qX.toNat]!) (H.get 8 rfl).1 (H.get 0 rfl).1 qg qg) H fun ZH H=>qV 26 rfl rfl<|sp (Bv (!(within r.jV<|t.qG[r.qX.toNat]!)))<|sp (Bv (!(within r.jV<|t.qG[r.qX.toNat]!)))<|sp (Bv (!(within r.jV<|t.qG[r.qX.toNat]!))) ?_
  cases Bk:(!(within r.jV (t.qG[r.qX.toNat]!)))
  ·replace Bk:=xJ Bk
   refine qV 33 rfl rfl<|oF rfl<|qV 33 rfl rfl<|oL rfl (H.cell 0 rfl rfl)<|qV 33 rfl rfl<|sw<|oq (bagSize_ok _ r.jX (H.get 9 rfl).1<|by first | assumption | exact jc ql | exact bag_small ql) H fun SS H=>qV 33 rfl rfl<|sp (Bv<|decide ((sumL r.jX:Int) > 0))<|qV 33 rfl rfl<|sp (Bv<|decide ((sumL r.jX:Int) > 0)) ?_
   cases Ri:(decide ((sumL r.jX:Int) > 0))
   ·replace Ri:=of_decide_eq_false Ri
    refine zM (zR 39 4)<|qV 33 rfl rfl<|sp (Bv false)<|sp (Bv false)<|zjn<|cFr rfl<|xk<|t_n<|zcr<|oF rfl<|oL rfl (H.cell 0 rfl rfl)<|sp (.func (.func 126) #[] #[pp b3 0,pp b1 0,pp b5 0])<|sw<|zX #[Sv ff r.xx.length eK,.func (.func 126) #[] #[pp b3 0,pp b1 0,pp b5 0]] rfl rfl call125<|en func125 ntmps125 ?_
    refine zcr<|sp (Bv false)<|zjc<|sq 1<|sp (.func (.func 126) #[] #[pp b3 0,pp b1 0,pp b5 0])<|sw<|zX #[Sv ff r.xx.length eK,.func (.func 126) #[] #[pp b3 0,pp b1 0,pp b5 0]] rfl rfl call163<|en func163 ntmps163 ?_
    refine zcr<|sp (yI 0)<|zjcc<|sq 1<|oN rfl<|sp (yI 0)<|zjn<|xg<|zU ((fun Z0 Z1 Z2 Z3 Z4 Z5 Z6 Z7 Z8 Z9 fH fZ iw kH mh mj=>fun m' ρ JE=>∃ (xI:Env) (i:Nat),ρ=upd (upd (upd (upd xI 0<|Sv ff r.xx.length eK) 1<|.func (.func 126) #[] #[pp b3 0,pp b1 0,pp b5 0]) 7<|yI r.xx.length) 8 (yI i)/\((i:Int)<=r.xx.length)/\(IntoUp s t r i)/\m' =(r.xx.length - (i:Int)).toNat/\Fresh w.heap.size []/\St w JE [Z0,Z1,Z2] [Z3,Z4,Z5,Z6,Z7,Z8,Z9,fH,fZ,iw,kH,mh,mj]) _ _ _ _ _ _ _ _ _ _ _ _ _ _ _ _) ((r.xx.length - (0:Int)).toNat) ⟨_,0,uE4,qf,qx,rfl,N,H⟩ ?_
    clear H N
    rintro m' ρ Ea ⟨xI,i,rfl,i0,i1,rfl,N,H⟩
    refine zcr<|sq 1<|zjn<|xH<|cD rfl (fun Qf=>?_)<|fun Qf=>?_
    ·have q:=(Yx i qf).1
     have q1:=q.1
     have q2:=q.2
     refine xk<|t_n<|xH<|xg<|zcr<|sp (yI i)<|sp (yI i)<|zjc<|sp (.func (.func 126) #[] #[pp b3 0,pp b1 0,pp b5 0])<|sq 1<|sp (yI i) ?_
     obtain ⟨b27,o28,rfl⟩:=H.addr 12 rfl qf
     obtain ⟨Af,z5,art,H⟩:=H.QU 12 rfl i i qf qf qf
     refine oI rfl rfl<|sw<|zi [yI ((r.xx[i]!).qX),Sv Af (((r.xx[i]!).XH).length) z5] isAgg161 sizeOf161 rfl (qK (H.get 1 rfl) 0 2)<|sw<|zX #[.agg #[yI ((r.xx[i]!).qX),Sv Af (((r.xx[i]!).XH).length) z5],pp b3 0,pp b1 0,pp b5 0] rfl rfl call126<|en func126 ntmps126 ?_
     refine zcr<|sw<|jq H [yI ((r.xx[i]!).qX),Sv Af (((r.xx[i]!).XH).length) z5] fun b31 Sb H=>sp (Bv false)<|zjn<|xH<|Xj rfl H fun H=>tF 0 rfl rfl H ?_
     refine tL 1 rfl rfl (fun _ h=>h.cell 2 rfl rfl) H ?_
     refine tF 2 rfl rfl H ?_
     refine tL 3 rfl rfl (fun _ h=>h.cell 0 rfl rfl) H ?_
     refine tI 4 rfl rfl rfl H ?_
     refine tL 5 rfl rfl (fun _ h=>h.elemBool 6 rfl ((r.xx[i]!).qX) qf qf) H ?_
     refine rtp 6 (Bv (!(t.xn[((r.xx[i]!).qX).toNat]!))) H ?_
     refine rtp 7 (Bv (!(t.xn[((r.xx[i]!).qX).toNat]!))) H ?_
     cases DQ:(!(t.xn[((r.xx[i]!).qX).toNat]!))
     ·replace DQ:=xJ DQ
      refine rg 8 _ 13 (yh (cs:=(yS s xf qZ xG xC)) isAgg27 sizeOf27 rfl<|fun _ h=>qK (h.cells 3 rfl) 0 3) H ?_
      refine rg 9 _ 13 (yh (cs:=[Sv (aa b7 o8) t.xn.length zO,Sv (aa sI o12) t.qG.length vT,Sv zq t.qE.length zo]) isAgg31 sizeOf31 rfl<|fun _ h=>qK (h.cells 2 rfl) 0 3) H ?_
      refine gF 10 rfl rfl H ?_
      refine gL 11 rfl rfl (fun _ h=>h.cell 0 rfl rfl) H ?_
      refine gF 13 rfl rfl H ?_
      refine gL 14 rfl rfl (fun _ h=>h.cell 1 rfl rfl) H ?_
      refine jw [12] qh qm<|r_opG rfl (e:=13) rfl rfl (oq (parentNow_ok _ s t ((r.xx[i]!).qX) (H.get 4 rfl).1 (H.get 5 rfl).1 (H.get 6 rfl).1 (H.get 7 rfl).1 (H.get 8 rfl).1 qg qg qg) H fun PJ H=>⟨H,(rgl 15 13 H ?_)⟩) jy
      refine rtl 16 H ?_
      refine rtl 17 H ?_
      refine xy qh<|t_n<|c_ret<|ret1 (Bv ((zG s t ((r.xx[i]!).qX):Int) != r.qX)) rfl rfl ⟨_,rfl,?_⟩
      replace H:=H.erases [0]
      dsimp only [zD,List.eraseIdx,List.set] at H
      refine zjn<|vk _ rfl (fun h38=>?_)<|fun h38=>?_
      ·replace h38:=bne_iff_ne.1 h38
       refine zcr<|sp (yI i)<|sp (yI i)<|zjr<|zr5<|ret1 (yI i) rfl rfl ⟨_,rfl,(sw<|o_pure (Bv true) (by show some (Value.bool<|decide ((i:Int)>=0))=some (Value.bool true);rw [decide_eq_true qf])<|sp (Bv true)<|zjr<|ret1 (Bv true) rfl rfl ⟨_,rfl,(sp (Bv false)<|sp (Bv false)<|zjr<|rH1 (Bv false) H ?_)⟩)⟩
       rw [zt (fun h=>by obtain ⟨h1,h2,h3,h4,h5⟩:=h;first | exact ft h1 ‹_› | exact ft h2 ‹_› | exact ft h3 ‹_› | exact h4 ⟨‹_›,‹_›⟩ | (obtain ⟨q1,q2⟩:=h5 i qf;first | exact ft q1 ‹_› | exact absurd q2 ‹_›))]
      replace h38:=xR h38
      refine xk<|b_n<|t_n<|xZ<|sw<|zV i 1 rfl rfl qf<|sq 1<|xW<|xq (m' :=(r.xx.length - ((i+1):Int)).toNat) qf ⟨_,i+1,uE4,?_,?_,rfl,N,H.pick [0,1,2]<|zR 2 13⟩
      ·omega
      ·exact i1.succ ‹_› ‹_›
     replace DQ:=xN DQ
     refine jA (zR 8 8) 8 (H)<|rtp 16 (Bv true) H ?_
     refine rtp 17 (Bv true) H ?_
     refine xy qh<|t_n<|c_ret<|ret1 (Bv true) rfl rfl ⟨_,rfl,?_⟩
     replace H:=H.erases [0]
     dsimp only [zD,List.eraseIdx,List.set] at H
     refine zjn<|cTr rfl<|zcr<|sp (yI i)<|sp (yI i)<|zjr<|zr5<|ret1 (yI i) rfl rfl ⟨_,rfl,(sw<|o_pure (Bv true) (by show some (Value.bool<|decide ((i:Int)>=0))=some (Value.bool true);rw [decide_eq_true qf])<|sp (Bv true)<|zjr<|ret1 (Bv true) rfl rfl ⟨_,rfl,(sp (Bv false)<|sp (Bv false)<|zjr<|rH1 (Bv false) H ?_)⟩)⟩
     rw [zt (fun h=>by obtain ⟨h1,h2,h3,h4,h5⟩:=h;first | exact ft h1 ‹_› | exact ft h2 ‹_› | exact ft h3 ‹_› | exact h4 ⟨‹_›,‹_›⟩ | (obtain ⟨q1,q2⟩:=h5 i qf;first | exact ft q1 ‹_› | exact absurd q2 ‹_›))]
    refine zx4<|zcr<|sq 1<|zjr<|ret1 (yI (-1)) rfl rfl ⟨_,rfl,(sp (Bv false)<|sp (Bv false)<|zjr<|ret1 (Bv false) rfl rfl ⟨_,rfl,(sp (Bv true)<|sp (Bv true)<|zjr<|rH1 (Bv true) H ?_)⟩)⟩
    rw [Xr ⟨by assumption,by assumption,by assumption,fun ⟨u,v⟩=>by first | omega | exact ft v ‹_›,(show i=r.xx.length by omega)▸i1⟩]
   replace Ri:=of_decide_eq_true Ri
   refine qV 38 rfl rfl<|oF rfl<|qV 38 rfl rfl<|oL rfl (H.cell 0 rfl rfl)<|qV 38 rfl rfl<|sq 1<|qV 38 rfl rfl<|sw<|oq (isWithin_ok _ r.jX (t.qG[r.qX.toNat]!) (H.get 9 rfl).1 (H.get 0 rfl).1 qg qg) H fun U7 H=>qV 33 rfl rfl<|sq 2<|zjn<|vk _ rfl (fun sB=>?_)<|fun sB=>?_
   ·refine zcr (sp (Bv false)<|zjr<|t_r<|rH1 (Bv false) H ?_)
    rw [zt (fun h=>by obtain ⟨h1,h2,h3,h4,h5⟩:=h;first | exact ft h1 ‹_› | exact ft h2 ‹_› | exact ft h3 ‹_› | exact h4 ⟨‹_›,‹_›⟩ | (obtain ⟨q1,q2⟩:=h5 i qf;first | exact ft q1 ‹_› | exact absurd q2 ‹_›))]
   refine xk<|t_n<|zcr<|oF rfl<|oL rfl (H.cell 0 rfl rfl)<|sp (.func (.func 126) #[] #[pp b3 0,pp b1 0,pp b5 0])<|sw<|zX #[Sv ff r.xx.length eK,.func (.func 126) #[] #[pp b3 0,pp b1 0,pp b5 0]] rfl rfl call125<|en func125 ntmps125 ?_
   refine zcr<|sp (Bv false)<|zjc<|sq 1<|sp (.func (.func 126) #[] #[pp b3 0,pp b1 0,pp b5 0])<|sw<|zX #[Sv ff r.xx.length eK,.func (.func 126) #[] #[pp b3 0,pp b1 0,pp b5 0]] rfl rfl call163<|en func163 ntmps163 ?_
   refine zcr<|sp (yI 0)<|zjcc<|sq 1<|oN rfl<|sp (yI 0)<|zjn<|xg<|zU ((fun Z0 Z1 Z2 Z3 Z4 Z5 Z6 Z7 Z8 Z9 fH fZ iw kH mh mj=>fun m' ρ TT=>∃ (xI:Env) (i:Nat),ρ=upd (upd (upd (upd xI 0<|Sv ff r.xx.length eK) 1<|.func (.func 126) #[] #[pp b3 0,pp b1 0,pp b5 0]) 7<|yI r.xx.length) 8 (yI i)/\((i:Int)<=r.xx.length)/\(IntoUp s t r i)/\m' =(r.xx.length - (i:Int)).toNat/\Fresh w.heap.size []/\St w TT [Z0,Z1,Z2] [Z3,Z4,Z5,Z6,Z7,Z8,Z9,fH,fZ,iw,kH,mh,mj]) _ _ _ _ _ _ _ _ _ _ _ _ _ _ _ _) ((r.xx.length - (0:Int)).toNat) ⟨_,0,uE4,qf,qx,rfl,N,H⟩ ?_
   clear H N
   rintro m' ρ w43 ⟨xI,i,rfl,i0,i1,rfl,N,H⟩
   refine zcr<|sq 1<|zjn<|xH<|cD rfl (fun h44=>?_)<|fun h44=>?_
   ·have q:=(Yx i qf).1
    have q1:=q.1
    have q2:=q.2
    refine xk<|t_n<|xH<|xg<|zcr<|sp (yI i)<|sp (yI i)<|zjc<|sp (.func (.func 126) #[] #[pp b3 0,pp b1 0,pp b5 0])<|sq 1<|sp (yI i) ?_
    obtain ⟨b45,o46,rfl⟩:=H.addr 12 rfl qf
    obtain ⟨A1,Aj,asM,H⟩:=H.QU 12 rfl i i qf qf qf
    refine oI rfl rfl<|sw<|zi [yI ((r.xx[i]!).qX),Sv A1 (((r.xx[i]!).XH).length) Aj] isAgg161 sizeOf161 rfl (qK (H.get 1 rfl) 0 2)<|sw<|zX #[.agg #[yI ((r.xx[i]!).qX),Sv A1 (((r.xx[i]!).XH).length) Aj],pp b3 0,pp b1 0,pp b5 0] rfl rfl call126<|en func126 ntmps126 ?_
    refine zcr<|sw<|jq H [yI ((r.xx[i]!).qX),Sv A1 (((r.xx[i]!).XH).length) Aj] fun b49 w50 H=>sp (Bv false)<|zjn<|xH<|Xj rfl H fun H=>tF 0 rfl rfl H ?_
    refine tL 1 rfl rfl (fun _ h=>h.cell 2 rfl rfl) H ?_
    refine tF 2 rfl rfl H ?_
    refine tL 3 rfl rfl (fun _ h=>h.cell 0 rfl rfl) H ?_
    refine tI 4 rfl rfl rfl H ?_
    refine tL 5 rfl rfl (fun _ h=>h.elemBool 6 rfl ((r.xx[i]!).qX) qf qf) H ?_
    refine rtp 6 (Bv (!(t.xn[((r.xx[i]!).qX).toNat]!))) H ?_
    refine rtp 7 (Bv (!(t.xn[((r.xx[i]!).qX).toNat]!))) H ?_
    cases OU:(!(t.xn[((r.xx[i]!).qX).toNat]!))
    ·replace OU:=xJ OU
     refine rg 8 _ 13 (yh (cs:=(yS s xf qZ xG xC)) isAgg27 sizeOf27 rfl<|fun _ h=>qK (h.cells 3 rfl) 0 3) H ?_
     refine rg 9 _ 13 (yh (cs:=[Sv (aa b7 o8) t.xn.length zO,Sv (aa sI o12) t.qG.length vT,Sv zq t.qE.length zo]) isAgg31 sizeOf31 rfl<|fun _ h=>qK (h.cells 2 rfl) 0 3) H ?_
     refine gF 10 rfl rfl H ?_
     refine gL 11 rfl rfl (fun _ h=>h.cell 0 rfl rfl) H ?_
     refine gF 13 rfl rfl H ?_
     refine gL 14 rfl rfl (fun _ h=>h.cell 1 rfl rfl) H ?_
     refine jw [12] qh qm<|r_opG rfl (e:=13) rfl rfl (oq (parentNow_ok _ s t ((r.xx[i]!).qX) (H.get 4 rfl).1 (H.get 5 rfl).1 (H.get 6 rfl).1 (H.get 7 rfl).1 (H.get 8 rfl).1 qg qg qg) H fun w54 H=>⟨H,(rgl 15 13 H ?_)⟩) jy
     refine rtl 16 H ?_
     refine rtl 17 H ?_
     refine xy qh<|t_n<|c_ret<|ret1 (Bv ((zG s t ((r.xx[i]!).qX):Int) != r.qX)) rfl rfl ⟨_,rfl,?_⟩
     replace H:=H.erases [0]
     dsimp only [zD,List.eraseIdx,List.set] at H
     refine zjn<|vk _ rfl (fun h56=>?_)<|fun h56=>?_
     ·replace h56:=bne_iff_ne.1 h56
      refine zcr<|sp (yI i)<|sp (yI i)<|zjr<|zr5<|ret1 (yI i) rfl rfl ⟨_,rfl,(sw<|o_pure (Bv true) (by show some (Value.bool<|decide ((i:Int)>=0))=some (Value.bool true);rw [decide_eq_true qf])<|sp (Bv true)<|zjr<|ret1 (Bv true) rfl rfl ⟨_,rfl,(sp (Bv false)<|sp (Bv false)<|zjr<|rH1 (Bv false) H ?_)⟩)⟩
      rw [zt (fun h=>by obtain ⟨h1,h2,h3,h4,h5⟩:=h;first | exact ft h1 ‹_› | exact ft h2 ‹_› | exact ft h3 ‹_› | exact h4 ⟨‹_›,‹_›⟩ | (obtain ⟨q1,q2⟩:=h5 i qf;first | exact ft q1 ‹_› | exact absurd q2 ‹_›))]
     replace h56:=xR h56
     refine xk<|b_n<|t_n<|xZ<|sw<|zV i 1 rfl rfl qf<|sq 1<|xW<|xq (m' :=(r.xx.length - ((i+1):Int)).toNat) qf ⟨_,i+1,uE4,?_,?_,rfl,N,H.pick [0,1,2]<|zR 2 13⟩
     ·omega
     ·exact i1.succ ‹_› ‹_›
    replace OU:=xN OU
    refine jA (zR 8 8) 8 (H)<|rtp 16 (Bv true) H ?_
    refine rtp 17 (Bv true) H ?_
    refine xy qh<|t_n<|c_ret<|ret1 (Bv true) rfl rfl ⟨_,rfl,?_⟩
    replace H:=H.erases [0]
    dsimp only [zD,List.eraseIdx,List.set] at H
    refine zjn<|cTr rfl<|zcr<|sp (yI i)<|sp (yI i)<|zjr<|zr5<|ret1 (yI i) rfl rfl ⟨_,rfl,(sw<|o_pure (Bv true) (by show some (Value.bool<|decide ((i:Int)>=0))=some (Value.bool true);rw [decide_eq_true qf])<|sp (Bv true)<|zjr<|ret1 (Bv true) rfl rfl ⟨_,rfl,(sp (Bv false)<|sp (Bv false)<|zjr<|rH1 (Bv false) H ?_)⟩)⟩
    rw [zt (fun h=>by obtain ⟨h1,h2,h3,h4,h5⟩:=h;first | exact ft h1 ‹_› | exact ft h2 ‹_› | exact ft h3 ‹_› | exact h4 ⟨‹_›,‹_›⟩ | (obtain ⟨q1,q2⟩:=h5 i qf;first | exact ft q1 ‹_› | exact absurd q2 ‹_›))]
   refine zx4<|zcr<|sq 1<|zjr<|ret1 (yI (-1)) rfl rfl ⟨_,rfl,(sp (Bv false)<|sp (Bv false)<|zjr<|ret1 (Bv false) rfl rfl ⟨_,rfl,(sp (Bv true)<|sp (Bv true)<|zjr<|rH1 (Bv true) H ?_)⟩)⟩
   rw [Xr ⟨by assumption,by assumption,by assumption,fun ⟨u,v⟩=>by first | omega | exact ft v ‹_›,(show i=r.xx.length by omega)▸i1⟩]
  replace Bk:=xN Bk
  refine zM (zR 34 10)<|sp (Bv true)<|zjn<|cTr rfl<|zcr<|sp (Bv false)<|zjr<|t_r<|rH1 (Bv false) H ?_
  rw [zt (fun h=>by obtain ⟨h1,h2,h3,h4,h5⟩:=h;first | exact ft h1 ‹_› | exact ft h2 ‹_› | exact ft h3 ‹_› | exact h4 ⟨‹_›,‹_›⟩ | (obtain ⟨q1,q2⟩:=h5 i qf;first | exact ft q1 ‹_› | exact absurd q2 ‹_›))]
 replace Kw:=xN Kw
 refine zM (zR 27 5)<|sp (Bv true)<|sp (Bv true)<|zM (zR 34 10)<|sp (Bv true)<|zjn<|cTr rfl<|zcr<|sp (Bv false)<|zjr<|t_r<|rH1 (Bv false) H ?_
 rw [zt (fun h=>by obtain ⟨h1,h2,h3,h4,h5⟩:=h;first | exact ft h1 ‹_› | exact ft h2 ‹_› | exact ft h3 ‹_› | exact h4 ⟨‹_›,‹_›⟩ | (obtain ⟨q1,q2⟩:=h5 i qf;first | exact ft q1 ‹_› | exact absurd q2 ‹_›))]
theorem cloneSS_ok (w:World) (l:yLL) (hl:zP w Fl al cl l) (p0:l.length<=1000000):Calls Tryz.prog 80 #[Sv al l.length cl] w (Ret (fun v w' =>∃ (ra:yOA) (rn:Nat) (rc:Nat) (rx:List Value) (rF:yLN),v=Sv ra rn rc/\(∀ b∈rF,b∈Fl)/\St w w' [rr ra rn rc 24 1 rx] [qL false rF rx l]) w):=by
 refine en func80 ntmps80 ?_
 have H:=(St.start w).arg hl
 have rS:=qO hl
 clear hl
 have N:=Fresh.nil w.heap.size
 refine zcr<|sq 1<|zjcc<|sq 1<|sw<|o_eqnil underlying29 al l.length cl rfl<|zjn<|vk _ rfl (fun h1=>?_)<|fun h1=>?_
 ·refine zcr (sq 1<|zjr<|t_r ?_)
  replace H:=H.nilRow 24 1
  replace H:=H.jZ (α:=yLI)
  refine rH1 yN H ?_
  obtain rfl:=H.nilOf 1 rfl ‹_›
  replace H:=H.unfree 0 rfl
  exact ⟨none,0,0,[],[],rfl,(by intro b hb;first | (simp at hb;done) | exact id b<|by simpa using hb),H.pick [0] [0]⟩
 refine xk<|t_n<|zcr<|sw<|jk H underlying29 ti24 fun b2 w3 H=>sq 1 ?_
 replace H:=H.boxRow 0 rfl 1 0 rfl qj
 replace H:=H.jZ (α:=yLI)
 refine sw<|Xf H 0 rfl 1 rfl underlying29 ti24 rfl qj rfl rfl qp qf fun a4 c5 w6 us7 G8 H hG9=>?_
 replace H:=H.X3 false 1 rfl 0 rfl qm
 refine sq 1<|zjr<|rH1 (Sv a4 (0+l.length) c5) H<|⟨a4,0+l.length,c5,[]++us7,([]++G8),rfl,(by intro b hb;first | (simp at hb;done) | exact hG9 b<|by simpa using hb),H.pick [0] [0]⟩
theorem timesIn_ok (w:World) (l:yLI) (m:yLI) {cm:Nat} (hl:zP w Fl al cl l) (hm:zP w Fm am cm m) (p0:l.length<=m.length) (p2:∀ q,q < l.length->0<=m[q]! /\m[q]! <=1000):Calls Tryz.prog 86 #[Sv al l.length cl,Sv am m.length cm] w (Ret (fun v w' =>v=yI (Xd l m)) w):=by
 refine en func86 ntmps86 ?_
 have H:=((St.start w).arg hm).arg hl
 have rS:=qO hl
 have nhm:=qO hm
 clear hl hm
 have N:=Fresh.nil w.heap.size
 refine zcr<|sp (yI 0)<|zjc<|sq 1<|zjcc<|sq 1<|oN rfl<|sp (yI 0)<|zjn<|xg<|zU ((fun Z0 Z1=>fun m' ρ w1=>∃ (xI:Env) (fi:Int) (k:Nat),ρ=upd (upd (upd (upd (upd xI 1<|Sv am m.length cm) 5<|yI fi) 8<|Sv al l.length cl) 9<|yI l.length) 10 (yI k)/\fi=QS l m k/\((k:Int)<=l.length)/\m' =(l.length - (k:Int)).toNat/\Fresh w.heap.size []/\St w w1 [] [Z0,Z1]) _ _) ((l.length - (0:Int)).toNat) ⟨_,1000,0,uE5,(by rfl),qf,rfl,N,H⟩ ?_
 clear H N
 rintro m' ρ w2 ⟨xI,fi,k,rfl,rfl,i0,rfl,N,H⟩
 refine zcr<|sq 1<|zjn<|xH<|cD rfl (fun h3=>?_)<|fun h3=>?_
 ·refine xk (t_n<|xH<|xg<|zcr<|sp (yI k) ?_)
  obtain ⟨b4,o5,rfl⟩:=H.addr 0 rfl qf
  refine oI rfl rfl<|oL rfl (H.jd 0 rfl k qf)<|sp (yI k)<|sq 1<|zjc<|sq 1<|sp (Bv<|decide ((l[k]! :Int) > 0))<|zjn<|cD rfl (fun h7=>?_)<|fun h7=>?_
  ·refine xZ (sq 2<|sp (yI k) ?_)
   obtain ⟨b8,o9,rfl⟩:=H.addr 1 rfl qf
   refine oI rfl rfl<|oL rfl (H.jd 1 rfl k qf)<|sq 1<|sw<|o_quo (m[k]!) (l[k]!) rfl rfl (by (have:=p2 k qf;omega)) (by (have:=p2 k qf;omega))<|sw<|o_min (QS l m k) ((m[k]!) / (l[k]!)) rfl rfl<|sq 1<|xW<|b_n<|t_n<|xZ<|sw<|zV k 1 rfl rfl (by (have:=p2 k qf;omega))<|sq 1<|xW<|xq (m' :=(l.length - ((k+1):Int)).toNat) qf ⟨_,_,k+1,uE5,?_,?_,rfl,N,H⟩
   ·first | exact (timesTo_pos qf).symm | exact (timesTo_skip qf).symm
   ·omega
  refine xk<|b_n<|t_n<|xZ<|sw<|zV k 1 rfl rfl (by (have:=p2 k qf;omega))<|sq 1<|xW<|xq (m' :=(l.length - ((k+1):Int)).toNat) qf ⟨_,_,k+1,uE5,?_,?_,rfl,N,H⟩
  ·first | exact (timesTo_pos qf).symm | exact (timesTo_skip qf).symm
  ·omega
 refine zx4<|zcr<|sq 2<|zjr<|rH1 (yI<|QS l m k) H ?_
 obtain rfl:k=l.length:=by omega
 rfl
theorem applicable_ok (w:World) (s:qM) (t:xh) (xu:zP w zH xf qZ s.qA) (xY:zP w vX xG xC s.qB) (vF:zP w Qa zS zO t.xn) (jM:zP w QG vZ vT t.qG) (zN:zP w jY zq zo t.qE) (p0:QC s) (p1:vM s t):Calls Tryz.prog 39 #[.agg #[yI s.qP,Sv xf s.qA.length qZ,Sv xG s.qB.length xC],.agg #[Sv zS t.xn.length zO,Sv vZ t.qG.length vT,Sv zq t.qE.length zo]] w (Ret (fun v w' =>∃ (ra:yOA) (rn:Nat) (rc:Nat),v=Sv ra rn rc/\Fresh w.heap.size []/\St w w' [rr ra rn rc 2 1 ((appls s t).map<|Value.int .i64)] []) w):=by
 refine en func39 ntmps39 ?_
 have H:=(((((St.start w).arg zN).arg jM).arg vF).arg xY).arg xu
 have jJ:=qO xu
 have Qb:=qO xY
 have XE:=qO vF
 have eJ:=qO jM
 have QW:=qO zN
 clear xu xY vF jM zN
 have N:=Fresh.nil w.heap.size
 have p2:=p0.2.1
 have p3:=p0.1.2.1
 refine zcr<|sw<|jq H (yS s xf qZ xG xC) fun b1 w2 H=>sw<|jq H (yT t zS zO vZ vT zq zo) fun b3 w4 H=>sq 1<|zjc<|sw<|jb [yI 0,yI 0,yI 0,yI 0,yI 0,yI 0] []<|sw<|xU H ti129 [yI 0,yI 0,yI 0,yI 0,yI 0,yI 0] fun b5 w6 H=>(sw<|zC H 0 [yI 0,yI 0,yI 0,yI 0,yI 0,yI 0] sizeOf129 fun w7 H=>zjcc<|sp (yI 0)<|zjn<|xg<|zU ((fun Z0 Z1 Z2 Z3 Z4 Z5 Z6=>fun m' ρ w8=>∃ (xI:Env) (c:Nat) (top:yLI),ρ=upd (upd (upd (upd xI 2<|pp b1 0) 3<|pp b3 0) 5<|pp b5 0) 13 (yI c)/\top=minus c/\((c:Int)<=6)/\m' =(6 - (c:Int)).toNat/\Fresh w.heap.size []/\St w w8 [.box b5 (top.map<|Value.int .i64) 129,Z0,Z1] [Z2,Z3,Z4,Z5,Z6]) _ _ _ _ _ _ _) ((6 - (0:Int)).toNat) ⟨_,0,[0,0,0,0,0,0],uE4,(by rfl),qf,rfl,N,H⟩ ?_)
 clear H N
 rintro m' ρ w9 ⟨xI,c,top,rfl,rfl,i0,rfl,N,H⟩
 refine zcr<|sp (Bv<|decide ((c:Int) < 6))<|zjn<|xH<|cD rfl (fun fe=>?_)<|fun fe=>?_
 ·refine xk (t_n<|xH<|xg<|zcr<|sp (yI c)<|sp (yI c)<|zjn<|xZ<|sp (yI c)<|sw<|o_idxArr c underlying129 ti2 rfl rfl qf qf<|sw<|o_storeArr H 0 rfl (-1) sizeOf2 rfl rfl (i:=c) qf (by simp only [List.length_set,List.length_cons,List.length_nil,minus_len,Xv];omega) fun KD H=>xW<|b_n<|t_n<|xZ<|sw<|zV c 1 rfl rfl qf<|sq 1<|xW<|xq (m' :=(6 - ((c+1):Int)).toNat) qf ⟨_,c+1,_,uE4,?_,?_,rfl,N,H⟩)
  ·exact minus_set qf
  ·omega
 refine zx4<|zcc<|oF rfl<|oL rfl (H.cell 2 rfl rfl)<|oN rfl<|sp (yI 0)<|zjn<|xg<|zU ((fun Z0 Z1 Z2 Z3 Z4 Z5 Z6=>fun m' ρ KA=>∃ (xI:Env) (k:Nat) (NS:yLI),ρ=upd (upd (upd (upd (upd (upd xI 2<|pp b1 0) 3<|pp b3 0) 5<|pp b5 0) 20<|Sv xG s.qB.length xC) 21<|yI s.qB.length) 22 (yI k)/\NS=bests s t (-1) 6 k/\((k:Int)<=s.qB.length)/\m' =(s.qB.length - (k:Int)).toNat/\Fresh w.heap.size []/\St w KA [.box b5 (NS.map<|Value.int .i64) 129,Z0,Z1] [Z2,Z3,Z4,Z5,Z6]) _ _ _ _ _ _ _) ((s.qB.length - (0:Int)).toNat) ⟨_,0,(minus c),uE6,(by exact minus_six qf s t),qf,rfl,N,H⟩ ?_
 clear H N
 rintro m' ρ II ⟨xI,k,NS,rfl,rfl,i0,rfl,N,H⟩
 refine zcr<|sq 1<|zjn<|xH<|cD rfl (fun lR=>?_)<|fun lR=>?_
 ·have q:=p0.rule (i:=k) qf
  have qc:=q.1
  have qk:=q.cell
  have qr:=q.2.1
  have q6:(s.qB[k]!).qX.toNat < 6:=by omega
  refine xk<|t_n<|xH<|xg<|zcr ?_
  obtain ⟨GV,o16,rfl⟩:=H.addr 1 rfl qf
  obtain ⟨tW,uS,ai2,sW,wm,anu,wn,uk,aic,vR,uR,aqS,AM,Ay,ar7,wk,sX,ae2,H⟩:=H.Xh 1 rfl k k qf qf qf
  refine oI rfl rfl<|sw<|zi [yI ((s.qB[k]!).qX),yI ((s.qB[k]!).yQ),Sv tW (((s.qB[k]!).zT).length) uS,Sv sW (((s.qB[k]!).jV).length) wm,Sv wn (((s.qB[k]!).jX).length) uk,Sv vR (((s.qB[k]!).jK).length) uR,Sv AM (((s.qB[k]!).QP).length) Ay,Sv wk (((s.qB[k]!).xx).length) sX,Bv ((s.qB[k]!).jm)] isAgg110 sizeOf110 rfl (qK (H.get 6 rfl) 0 9)<|sw<|xU H ti110 [yI 0,yI 0,yN,yN,yN,yN,yN,yN,Bv false] fun Rc Rr H=>sw<|zC H 0 [yI ((s.qB[k]!).qX),yI ((s.qB[k]!).yQ),Sv tW (((s.qB[k]!).zT).length) uS,Sv sW (((s.qB[k]!).jV).length) wm,Sv wn (((s.qB[k]!).jX).length) uk,Sv vR (((s.qB[k]!).jK).length) uR,Sv AM (((s.qB[k]!).QP).length) Ay,Sv wk (((s.qB[k]!).xx).length) sX,Bv ((s.qB[k]!).jm)] sizeOf110 fun SS H=>(zjc<|sw<|zi [yI s.qP,Sv xf s.qA.length qZ,Sv (aa GV o16) s.qB.length xC] isAgg27 sizeOf27 rfl (qK (H.cells 3 rfl) 0 3)<|sw<|zi (yT t zS zO vZ vT zq zo) isAgg31 sizeOf31 rfl (qK (H.cells 2 rfl) 0 3)<|sw<|zi [yI ((s.qB[k]!).qX),yI ((s.qB[k]!).yQ),Sv tW (((s.qB[k]!).zT).length) uS,Sv sW (((s.qB[k]!).jV).length) wm,Sv wn (((s.qB[k]!).jX).length) uk,Sv vR (((s.qB[k]!).jK).length) uR,Sv AM (((s.qB[k]!).QP).length) Ay,Sv wk (((s.qB[k]!).xx).length) sX,Bv ((s.qB[k]!).jm)] isAgg110 sizeOf110 rfl (qK (H.cells 0 rfl) 0 9)<|sw<|oq (isEnabled_ok _ s t (s.qB[k]!) (H.get 7 rfl).1 (H.get 8 rfl).1 (H.get 9 rfl).1 (H.get 10 rfl).1 (H.get 11 rfl).1 (H.get 0 rfl).1 (H.get 1 rfl).1 (H.get 2 rfl).1 (H.get 3 rfl).1 (H.get 4 rfl).1 (H.get 5 rfl).1 qg qg qg) H fun Nw H=>zjn<|cP rfl (fun h25=>?_)<|fun h25=>?_)
  ·refine XQ rfl H [0,2,3] fun H=>?_
   have S:=H.zK [0,2,3]<|zR 0 12
   refine tF 0 rfl rfl S ?_
   refine tL 1 rfl rfl (fun _ h=>h.cell 0 rfl rfl) S ?_
   refine tF 2 rfl rfl S ?_
   refine tL 3 rfl rfl (fun _ h=>h.cell 0 rfl rfl) S ?_
   refine rt 4 _ (y_idxArr b5 (0) 6 ((s.qB[k]!).qX) underlying129 ti2 rfl rfl qf qf) S ?_
   refine tF 6 rfl rfl S ?_
   refine tL 7 rfl rfl (fun _ h=>h.cell 0 rfl rfl) S ?_
   refine ro 5 rfl<|zB (yI ((bests s t (-1) 6 k)[((s.qB[k]!).qX).toNat]!)) isAgg2 rfl (H.cell 1 rfl<|ints_at (iv:=(s.qB[k]!).qX) (i:=(((s.qB[k]!).qX).toNat)) qf<|by simp only [List.length_set,List.length_cons,List.length_nil,minus_len,Xv];omega)<|⟨H.pick [0,2,3]<|zR 0 12,?_⟩
   have S:=H.zK [0,2,3]<|zR 0 12
   refine rt 8 _ (y_max ((bests s t (-1) 6 k)[((s.qB[k]!).qX).toNat]!) ((s.qB[k]!).yQ) rfl rfl) S ?_
   refine rt 9 _ (y_idxArr b5 (0) 6 ((s.qB[k]!).qX) underlying129 ti2 rfl rfl qf qf) S ?_
   refine ro 10 rfl<|o_storeArr H 1 rfl (max ((bests s t (-1) 6 k)[((s.qB[k]!).qX).toNat]!) ((s.qB[k]!).yQ)) sizeOf2 rfl rfl (i:=(((s.qB[k]!).qX).toNat)) qf (by simp only [List.length_set,List.length_cons,List.length_nil,minus_len,Xv];omega) fun SD H=>⟨H.pick [0,2,3]<|zR 0 12,(xy qh<|b_n<|t_n<|xZ<|sw<|zV k 1 rfl rfl qf<|sq 1<|xW<|xq (m' :=(s.qB.length - ((k+1):Int)).toNat) qf ⟨_,k+1,_,uE6,?_,?_,rfl,N,H.pick [1,2,3]<|zR 7 5⟩)⟩
   ·first | exact bests_set ‹_› qf | exact bests_skip ‹_›
   ·omega
  refine xk<|b_n<|t_n<|xZ<|sw<|zV k 1 rfl rfl qf<|sq 1<|xW<|xq (m' :=(s.qB.length - ((k+1):Int)).toNat) qf ⟨_,k+1,_,uE6,?_,?_,rfl,N,H.pick [1,2,3]<|zR 7 5⟩
  ·first | exact bests_set ‹_› qf | exact bests_skip ‹_›
  ·omega
 refine zx4<|zcr<|sw<|jk H underlying24 ti2 fun b28 Rf H=>sq 1<|zjcc<|oF rfl<|oL rfl (H.cell 3 rfl rfl)<|oN rfl<|sp (yI 0)<|zjn<|xg ?_
 replace H:=H.boxRowI 0 [] 0
 refine zU ((fun Z0 Z1 Z2 Z3 Z4 Z5 Z6 Z7=>fun m' ρ w30=>∃ (xI:Env) (yY:yOA) (yV:Nat) (yX:Nat) (out:yLI) (i:Nat),ρ=upd (upd (upd (upd (upd (upd (upd xI 2<|pp b1 0) 3<|pp b3 0) 5<|pp b5 0) 9<|Sv yY yV yX) 43<|Sv xG s.qB.length xC) 44<|yI s.qB.length) 45 (yI i)/\out=applL s t i/\((i:Int)<=s.qB.length)/\m' =(s.qB.length - (i:Int)).toNat/\Fresh w.heap.size []/\St w w30 [rr yY yV yX 2 1<|out.map<|Value.int .i64,Z0,Z1,Z2] [Z3,Z4,Z5,Z6,Z7]) _ _ _ _ _ _ _ _) ((s.qB.length - (0:Int)).toNat) ⟨_,(aa b28 0),0,0,([]:yLI),0,uE7,(by rfl),qf,rfl,N,H⟩ ?_
 clear H N
 rintro m' ρ w31 ⟨xI,yY,yV,yX,out,i,rfl,rfl,i0,rfl,N,H⟩
 have Vq:=H.Qc 0 rfl
 have ll:=applL_le s t i
 refine zcr<|sq 1<|zjn<|xH<|cD rfl (fun h32=>?_)<|fun h32=>?_
 ·have q:=p0.rule (i:=i) qf
  have qc:=q.1
  have qk:=q.cell
  have qr:=q.2.1
  have q6:(s.qB[i]!).qX.toNat < 6:=by omega
  refine xk<|t_n<|xH<|xg<|zcr<|sp (yI i) ?_
  obtain ⟨AJ,o34,rfl⟩:=H.addr 1 rfl qf
  obtain ⟨pL,pr,Nr,pD,o0,O6,pI,pP,KX,px,pa,MW,sM,sL,Tt,pj,pY,Lk,H⟩:=H.Xh 1 rfl i i qf qf qf
  refine oI rfl rfl<|sw<|zi [yI ((s.qB[i]!).qX),yI ((s.qB[i]!).yQ),Sv pL (((s.qB[i]!).zT).length) pr,Sv pD (((s.qB[i]!).jV).length) o0,Sv pI (((s.qB[i]!).jX).length) pP,Sv px (((s.qB[i]!).jK).length) pa,Sv sM (((s.qB[i]!).QP).length) sL,Sv pj (((s.qB[i]!).xx).length) pY,Bv ((s.qB[i]!).jm)] isAgg110 sizeOf110 rfl (qK (H.get 6 rfl) 0 9)<|sw<|xU H ti110 [yI 0,yI 0,yN,yN,yN,yN,yN,yN,Bv false] fun b37 TO H=>sp (yI i)<|sw<|zC H 0 [yI ((s.qB[i]!).qX),yI ((s.qB[i]!).yQ),Sv pL (((s.qB[i]!).zT).length) pr,Sv pD (((s.qB[i]!).jV).length) o0,Sv pI (((s.qB[i]!).jX).length) pP,Sv px (((s.qB[i]!).jK).length) pa,Sv sM (((s.qB[i]!).QP).length) sL,Sv pj (((s.qB[i]!).xx).length) pY,Bv ((s.qB[i]!).jm)] sizeOf110 fun U7 H=>zjn<|xH<|Xj rfl H fun H=>tF 0 rfl rfl H ?_
  refine tL 1 rfl rfl (fun _ h=>h.cell 0 rfl rfl) H ?_
  refine tF 2 rfl rfl H ?_
  refine tL 3 rfl rfl (fun _ h=>h.cell 0 rfl rfl) H ?_
  refine rt 4 _ (y_idxArr b5 (0) 6 ((s.qB[i]!).qX) underlying129 ti2 rfl rfl qf qf) H ?_
  refine tL 5 rfl rfl (fun _ h=>h.cell 2 rfl<|ints_at (iv:=(s.qB[i]!).qX) (i:=(((s.qB[i]!).qX).toNat)) qf<|by simp only [List.length_set,List.length_cons,List.length_nil,minus_len,Xv];omega) H ?_
  refine rtp 6 (Bv (((s.qB[i]!).yQ:Int) == ((bests s t (-1) 6 k)[((s.qB[i]!).qX).toNat]!))) H ?_
  refine rtp 7 (Bv (((s.qB[i]!).yQ:Int) == ((bests s t (-1) 6 k)[((s.qB[i]!).qX).toNat]!))) H ?_
  cases sB:(((s.qB[i]!).yQ:Int) == ((bests s t (-1) 6 k)[((s.qB[i]!).qX).toNat]!))
  ·replace sB:=ne_of_beq_false sB
   refine jA (zR 8 4) 4 (H)<|rtp 12 (Bv false) H ?_
   refine xy qh<|t_n<|cFr rfl<|xk<|b_n<|t_n<|xZ<|sw<|zV i 1 rfl rfl qf<|sq 1<|xW<|xq (m' :=(s.qB.length - ((i+1):Int)).toNat) qf ⟨_,_,_,_,_,i+1,uE7,?_,?_,rfl,N,H.pick (zR 1 4)<|zR 7 5⟩
   ·first | exact applL_yes (appl_yes (n:=6) (z:= -1) (k:=k) qf qf qf q6 ‹_› ‹_›) | exact applL_no (appl_no (n:=6) (z:= -1) (k:=k) qf qf qf q6 ‹_›) | exact applL_no<|fun h=>‹¬ EnOk _ _ _› h.1
   ·omega
  replace sB:=eq_of_beq sB
  refine rg 8 _ 57 (yh (cs:=[yI s.qP,Sv xf s.qA.length qZ,Sv (aa AJ o34) s.qB.length xC]) isAgg27 sizeOf27 rfl<|fun _ h=>qK (h.cells 4 rfl) 0 3) H ?_
  refine rg 9 _ 57 (yh (cs:=(yT t zS zO vZ vT zq zo)) isAgg31 sizeOf31 rfl<|fun _ h=>qK (h.cells 3 rfl) 0 3) H ?_
  refine rg 10 _ 57 (yh (cs:=[yI ((s.qB[i]!).qX),yI ((s.qB[i]!).yQ),Sv pL (((s.qB[i]!).zT).length) pr,Sv pD (((s.qB[i]!).jV).length) o0,Sv pI (((s.qB[i]!).jX).length) pP,Sv px (((s.qB[i]!).jK).length) pa,Sv sM (((s.qB[i]!).QP).length) sL,Sv pj (((s.qB[i]!).xx).length) pY,Bv ((s.qB[i]!).jm)]) isAgg110 sizeOf110 rfl<|fun _ h=>qK (h.cells 0 rfl) 0 9) H ?_
  refine jw [11] qh qm<|r_opG rfl (e:=57) rfl rfl (oq (isEnabled_ok _ s t (s.qB[i]!) (H.get 7 rfl).1 (H.get 8 rfl).1 (H.get 9 rfl).1 (H.get 10 rfl).1 (H.get 11 rfl).1 (H.get 0 rfl).1 (H.get 1 rfl).1 (H.get 2 rfl).1 (H.get 3 rfl).1 (H.get 4 rfl).1 (H.get 5 rfl).1 qg qg qg) H fun w43 H=>⟨H,(rtl 12 H ?_)⟩) jy
  refine xy qh<|t_n<|cP rfl (fun Db=>?_)<|fun Db=>?_
  ·refine xZ (sq 1<|sp (yI i)<|sw<|zx H underlying24 ti2 [yI i] fun b46 w47 H=>sw<|zJ H 2 rfl 0 rfl underlying24 ti2 rfl qj rfl rfl rfl qw qp qf fun a48 c49 w50 H=>?_)
   rw [snocI] at H
   refine sq 1<|xW<|b_n<|t_n<|xZ<|sw<|zV i 1 rfl rfl qf<|sq 1<|xW<|xq (m' :=(s.qB.length - ((i+1):Int)).toNat) qf ⟨_,_,_,_,_,i+1,uE7,?_,?_,rfl,N,H.pick (zR 2 4)<|zR 7 5⟩
   ·first | exact applL_yes (appl_yes (n:=6) (z:= -1) (k:=k) qf qf qf q6 ‹_› ‹_›) | exact applL_no (appl_no (n:=6) (z:= -1) (k:=k) qf qf qf q6 ‹_›) | exact applL_no<|fun h=>‹¬ EnOk _ _ _› h.1
   ·omega
  refine xk<|b_n<|t_n<|xZ<|sw<|zV i 1 rfl rfl qf<|sq 1<|xW<|xq (m' :=(s.qB.length - ((i+1):Int)).toNat) qf ⟨_,_,_,_,_,i+1,uE7,?_,?_,rfl,N,H.pick (zR 1 4)<|zR 7 5⟩
  ·first | exact applL_yes (appl_yes (n:=6) (z:= -1) (k:=k) qf qf qf q6 ‹_› ‹_›) | exact applL_no (appl_no (n:=6) (z:= -1) (k:=k) qf qf qf q6 ‹_›) | exact applL_no<|fun h=>‹¬ EnOk _ _ _› h.1
  ·omega
 refine zx4<|zcr<|sq 2<|zjr<|rH1 (Sv yY yV yX) H ?_
 obtain rfl:i=s.qB.length:=by omega
 exact ⟨yY,yV,yX,rfl,N,H.pick [0] []⟩
theorem firstChoice_ok (w:World) (s:qM) (t:xh) (xu:zP w zH xf qZ s.qA) (xY:zP w vX xG xC s.qB) (vF:zP w Qa zS zO t.xn) (jM:zP w QG vZ vT t.qG) (zN:zP w jY zq zo t.qE) (p0:QC s) (p1:vM s t):Calls Tryz.prog 41 #[.agg #[yI s.qP,Sv xf s.qA.length qZ,Sv xG s.qB.length xC],.agg #[Sv zS t.xn.length zO,Sv vZ t.qG.length vT,Sv zq t.qE.length zo]] w (Ret (fun v w' =>∃ (ra:yOA) (rn:Nat) (rc:Nat),v=Sv ra rn rc/\Fresh w.heap.size []/\St w w' [rr ra rn rc 2 1 ((xw s t).map<|Value.int .i64)] []) w):=by
 refine en func41 ntmps41 ?_
 have H:=(((((St.start w).arg zN).arg jM).arg vF).arg xY).arg xu
 have jJ:=qO xu
 have Qb:=qO xY
 have XE:=qO vF
 have eJ:=qO jM
 have QW:=qO zN
 clear xu xY vF jM zN
 have N:=Fresh.nil w.heap.size
 have p3:=p0.2.1
 have p7:=p1.2.1
 have p8:=XG p0
 have p9:=p0.1.2.1
 have p11:zF s=s.qA.length:=rfl
 refine zcr<|sw<|jq H (yS s xf qZ xG xC) fun b1 w2 H=>sw<|jq H (yT t zS zO vZ vT zq zo) fun b3 w4 H=>sq 1<|zjn<|xH<|c_cut (fun ρ DN=>∃ (xI:Env) (b5:Nat) (oX:yOA) (rc7:Nat) (rx8:List Value) (rF9:yLN),ρ=upd (upd (upd (upd xI 2<|pp b1 0) 3<|pp b3 0) 5<|Sv (aa b5 0) s.qB.length s.qB.length) 6 (Sv oX t.qG.length rc7)/\Fresh w.heap.size []/\St w DN [rr oX t.qG.length rc7 24 1 rx8,rr (aa b5 0) s.qB.length s.qB.length 2 1 ((List.replicate s.qB.length (0:Int)).map<|Value.int .i64),.box b3 (yT t zS zO vZ vT zq zo) 31,.box b1 (yS s xf qZ xG xC) 27] [qL false rF9 rx8 t.qG,sF false zH xf qZ s.qA,sF false vX xG xC s.qB,sF false Qa zS zO t.xn,sF false QG vZ vT t.qG,sF false jY zq zo t.qE]) ?_ ?_
 ·refine Xj rfl H fun H=>tF 0 rfl rfl H ?_
  refine tL 1 rfl rfl (fun _ h=>h.cell 1 rfl rfl) H ?_
  refine tN 2 rfl rfl H ?_
  refine tF 4 rfl rfl H ?_
  refine tL 5 rfl rfl (fun _ h=>h.cell 0 rfl rfl) H ?_
  refine jw [3,6] qh qm<|jT rfl ?_<|jT rfl ?_ jy
  ·refine jE H underlying24 ti2 s.qB.length rfl rfl qf qf qf fun sH II H=>⟨H.pick [1,2]<|zR 0 5,(ro 6 rfl ?_)⟩
   have aFU:=H.base.size
   refine oc (cloneSS_ok _ t.qG (H.get 3 rfl).1 qg) ?_
   rintro _ PG ⟨rG,ajp,gC,Jc,awq,rfl,awx,K⟩ _
   replace H:=H.mergeIn K 3 rfl awx
   obtain rfl:=H.xe (α:=yLI) 0 rfl 0 rfl qj
   refine ⟨H.pick [2,3]<|zR 1 5,?_⟩
   have S:=H.zK [2,3]<|zR 1 5
   refine rtl 7 S ?_
   refine rtl 8 S ?_
   refine xy qh ((meet ⟨_,sH,rG,gC,Jc,awq,uE4,N,H⟩))
  have aFM:=H.base.size
  refine oc (cloneSS_ok _ t.qG (H.get 3 rfl).1 qg) ?_
  rintro _ SS ⟨cK,aKo,nZ,acd,Jr,rfl,axq,K⟩ _
  replace H:=H.mergeIn K 3 rfl axq
  obtain rfl:=H.xe (α:=yLI) 0 rfl 0 rfl qj
  refine ⟨H.pick [1,2]<|zR 1 5,(ro 3 rfl<|jE H underlying24 ti2 s.qB.length rfl rfl qf qf qf fun IA SD H=>⟨H.pick [2,3]<|zR 1 5,?_⟩)⟩
  have S:=H.zK [2,3]<|zR 1 5
  refine rtl 7 S ?_
  refine rtl 8 S ?_
  refine xy qh ((meet ⟨_,IA,cK,nZ,acd,Jr,uE4,N,H.pick [1,0,2,3]<|zR 0 6⟩))
 clear H N
 rintro ρ P6 ⟨xI,b5,oX,rc7,rx8,rF9,rfl,N,H⟩
 refine t_n<|zcc<|sw<|zi (yS s xf qZ xG xC) isAgg27 sizeOf27 rfl (qK (H.cells 3 rfl) 0 3)<|sw<|zi (yT t zS zO vZ vT zq zo) isAgg31 sizeOf31 rfl (qK (H.cells 2 rfl) 0 3) ?_
 have aKm:=H.base.size
 refine sw<|oc (applicable_ok _ s t (H.get 1 rfl).1 (H.get 2 rfl).1 (H.get 3 rfl).1 (H.get 4 rfl).1 (H.get 5 rfl).1 qg qg) ?_
 rintro _ w30 ⟨ayU,awK,SV,rfl,M,K⟩ _
 replace H:=H.merge K M
 obtain rfl:=H.Qc 0 rfl
 have al:(appls s t).length<=s.qB.length:=applL_le s t s.qB.length
 refine oN rfl<|sp (yI 0)<|zjn<|xg<|zU ((fun Z0 Z1 Z2 Z3 Z4 Z5 Z6 Z7=>fun m' ρ P7=>∃ (xI:Env) (k:Nat) (rest:yLL) (mB:List Value) (lG:yLN) (out:yLI) (m:Nat),ρ=upd (upd (upd (upd (upd (upd xI 2<|pp b1 0) 5<|Sv (aa b5 0) s.qB.length s.qB.length) 6<|Sv oX t.qG.length rc7) 19<|Sv ayU ((appls s t).length) SV) 20<|yI ((appls s t).length)) 21 (yI k)/\rest=jG s t m/\out=firstTo s t m s.qB.length/\((k:Int)<=((appls s t).length))/\((applL s t m).length=k)/\(m<=s.qB.length)/\m' =(((appls s t).length) - (k:Int)).toNat/\Fresh w.heap.size []/\St w P7 [Z0,rr oX t.qG.length rc7 24 1 mB,rr (aa b5 0) s.qB.length s.qB.length 2 1<|out.map<|Value.int .i64,Z1,Z2] [qL false lG mB rest,Z3,Z4,Z5,Z6,Z7]) _ _ _ _ _ _ _ _) ((((appls s t).length) - (0:Int)).toNat) ⟨_,0,t.qG,rx8,rF9,(List.replicate s.qB.length (0:Int)),0,uE6,(by rfl),(by exact firstTo_zero s t _),qf,(by rfl),qf,rfl,N,H⟩ ?_
 clear H N
 rintro m' ρ PJ ⟨xI,k,rest,mB,lG,out,m,rfl,rfl,rfl,i0,hm,hn,rfl,N,H⟩
 have zr:=H.xe (α:=yLI) 1 rfl 0 rfl qj
 have Vq:=H.Qc 2 rfl
 refine zcr<|sq 1<|zjn<|xH<|cD rfl (fun PY=>?_)<|fun PY=>?_
 ·obtain ⟨a0,a1,a2,a3,a4,a5⟩:=appls_at' hm hn qf
  have q:=p0.rule (i:=((appls s t)[k]!).toNat) qf
  have qc:=q.1
  have qk:=q.cell
  have qr:=q.2.1
  have pZ:=q.2.2.2.2.1
  have rl:=(firstR_box p0 p1 m qf).1
  have fl:=yc s t m s.qB.length
  have ex:((firstTo s t m s.qB.length).set ((appls s t)[k]!).toNat<|Xd (s.qB[((appls s t)[k]!).toNat]!).zT ((jG s t m)[(s.qB[((appls s t)[k]!).toNat]!).qX.toNat]!))[((appls s t)[k]!).toNat]! =(Xd (s.qB[((appls s t)[k]!).toNat]!).zT ((jG s t m)[(s.qB[((appls s t)[k]!).toNat]!).qX.toNat]!)):=by rw [getset<|by rw [yc];omega,if_pos rfl]
  have xb:=firstC_bd p0 p1 (k:=((appls s t)[k]!).toNat) a2
  rw [← firstC_step a1 a3 a4] at xb
  refine xk<|t_n<|xH<|xg<|zcr ?_
  obtain ⟨b38,rfl⟩:=H.jg 0 rfl qf
  refine oI rfl rfl<|oL rfl (H.rowInt 0 rfl (iv:=k) (i:=k) qf qf)<|sq 1<|zjc<|oF rfl<|oL rfl (H.cell 4 rfl rfl)<|sq 1 ?_
  obtain ⟨sa,o40,rfl⟩:=H.addr 2 rfl qf
  obtain ⟨Dz,Bp,aeQ,BW,DK,ahL,BL,CQ,akM,C6,Cq,apG,Hc,Hu,arE,CN,BK,ajc,H⟩:=H.Xh 2 rfl ((appls s t)[k]!) (((appls s t)[k]!).toNat) qf qf qf
  refine oI rfl rfl<|sw<|zi [yI ((s.qB[((appls s t)[k]!).toNat]!).qX),yI ((s.qB[((appls s t)[k]!).toNat]!).yQ),Sv Dz (((s.qB[((appls s t)[k]!).toNat]!).zT).length) Bp,Sv BW (((s.qB[((appls s t)[k]!).toNat]!).jV).length) DK,Sv BL (((s.qB[((appls s t)[k]!).toNat]!).jX).length) CQ,Sv C6 (((s.qB[((appls s t)[k]!).toNat]!).jK).length) Cq,Sv Hc (((s.qB[((appls s t)[k]!).toNat]!).QP).length) Hu,Sv CN (((s.qB[((appls s t)[k]!).toNat]!).xx).length) BK,Bv ((s.qB[((appls s t)[k]!).toNat]!).jm)] isAgg110 sizeOf110 rfl (qK (H.get 6 rfl) 0 9)<|sw<|xU H ti110 [yI 0,yI 0,yN,yN,yN,yN,yN,yN,Bv false] fun SR ka H=>(sw<|zC H 0 [yI ((s.qB[((appls s t)[k]!).toNat]!).qX),yI ((s.qB[((appls s t)[k]!).toNat]!).yQ),Sv Dz (((s.qB[((appls s t)[k]!).toNat]!).zT).length) Bp,Sv BW (((s.qB[((appls s t)[k]!).toNat]!).jV).length) DK,Sv BL (((s.qB[((appls s t)[k]!).toNat]!).jX).length) CQ,Sv C6 (((s.qB[((appls s t)[k]!).toNat]!).jK).length) Cq,Sv Hc (((s.qB[((appls s t)[k]!).toNat]!).QP).length) Hu,Sv CN (((s.qB[((appls s t)[k]!).toNat]!).xx).length) BK,Bv ((s.qB[((appls s t)[k]!).toNat]!).jm)] sizeOf110 fun w45 H=>(zjn<|xH<|XQ rfl H [0,1,2,4,5] fun H=>?_))
  have S:=H.zK [0,1,2,4,5]<|zR 0 13
  refine rtl 0 S ?_
  refine rtl 1 S ?_
  refine tF 2 rfl rfl S ?_
  refine tL 3 rfl rfl (fun _ h=>h.cell 0 rfl rfl) S ?_
  refine rtl 4 S ?_
  refine tF 5 rfl rfl S ?_
  refine tL 6 rfl rfl (fun _ h=>h.cell 0 rfl rfl) S ?_
  obtain ⟨b47,rfl⟩:=H.jg 2 rfl qf
  refine tI 7 rfl rfl rfl (H.pick [0,1,2,4,5]<|zR 0 13)<|ro 8 rfl ?_
  obtain ⟨a48,c49,iU,s51,OU,H⟩:=H.Q7 2 rfl 7 rfl (iv:=(s.qB[((appls s t)[k]!).toNat]!).qX) (((s.qB[((appls s t)[k]!).toNat]!).qX).toNat) qf qf
  refine zB (Sv a48 (((jG s t m)[((s.qB[((appls s t)[k]!).toNat]!).qX).toNat]!).length) c49) isAgg24 rfl (OU)<|⟨H.pick [0,1,2,4,5]<|zR 1 13,(ro 9 rfl ?_)⟩
  obtain ⟨u1,u2,u5⟩:=firstR_row (c:=(s.qB[((appls s t)[k]!).toNat]!).qX.toNat) p0 p1 (show m<=_ by omega) qk
  have u3:=pZ.len
  have u6:∀ q,q < ((s.qB[((appls s t)[k]!).toNat]!).zT).length->0<=((jG s t m)[(s.qB[((appls s t)[k]!).toNat]!).qX.toNat]!)[q]! /\((jG s t m)[(s.qB[((appls s t)[k]!).toNat]!).qX.toNat]!)[q]! <=1000:=fun q hq=>u5 q qf
  refine oq (timesIn_ok _ ((s.qB[((appls s t)[k]!).toNat]!).zT) ((jG s t m)[((s.qB[((appls s t)[k]!).toNat]!).qX).toNat]!) (H.get 1 rfl).1 (H.get 0 rfl).1 qg qg) H fun w54 H=>⟨H.pick [0,1,2,4,5]<|zR 1 13,(tI 10 rfl rfl rfl (H.pick [0,1,2,4,5]<|zR 1 13) ?_)⟩
  refine ro 11 rfl<|o_storeInt H 3 rfl (Xd ((s.qB[((appls s t)[k]!).toNat]!).zT) ((jG s t m)[((s.qB[((appls s t)[k]!).toNat]!).qX).toNat]!)) sizeOf2 rfl rfl (i:=(((appls s t)[k]!).toNat)) qf qf fun w56 H=>⟨H.pick [0,1,2,4,5]<|zR 1 13,(xy qh<|t_n ?_)⟩
  refine XQ rfl H [0,1,3,4,5] fun H=>?_
  have S:=H.zK [0,1,3,4,5]<|zR 0 14
  refine rtl 0 S ?_
  refine tF 1 rfl rfl S ?_
  refine tL 2 rfl rfl (fun _ h=>h.cell 0 rfl rfl) S ?_
  refine rtl 3 S ?_
  refine tF 4 rfl rfl S ?_
  refine tL 5 rfl rfl (fun _ h=>h.cell 0 rfl rfl) S ?_
  refine tI 6 rfl rfl rfl S ?_
  refine tF 8 rfl rfl S ?_
  refine tL 9 rfl rfl (fun _ h=>h.cell 0 rfl rfl) S ?_
  refine rtl 10 S ?_
  refine rtl 11 S ?_
  refine tI 12 rfl rfl rfl S ?_
  refine tL 13 rfl rfl (fun _ h=>h.rowInt 2 rfl (iv:=(appls s t)[k]!) (i:=(((appls s t)[k]!).toNat)) qf qf) S ?_
  refine rt 14 _ (y_neg (((firstTo s t m s.qB.length).set (((appls s t)[k]!).toNat)<|Xd ((s.qB[((appls s t)[k]!).toNat]!).zT) ((jG s t m)[((s.qB[((appls s t)[k]!).toNat]!).qX).toNat]!))[((appls s t)[k]!).toNat]!) rfl qf) S ?_
  refine ro 7 rfl ?_
  obtain ⟨a58,c59,G60,s61,h62,H⟩:=H.Q7 2 rfl 8 rfl (iv:=(s.qB[((appls s t)[k]!).toNat]!).qX) (((s.qB[((appls s t)[k]!).toNat]!).qX).toNat) qf qf
  refine zB (Sv a58 (((jG s t m)[((s.qB[((appls s t)[k]!).toNat]!).qX).toNat]!).length) c59) isAgg24 rfl (h62)<|⟨H.pick [0,1,3,4,5]<|zR 1 14,(ro 15 rfl ?_)⟩
  obtain ⟨u1,u2,u5⟩:=firstR_row (c:=(s.qB[((appls s t)[k]!).toNat]!).qX.toNat) p0 p1 (show m<=_ by omega) qk
  have u3:=pZ.len
  have u4:=pZ.Qm (t:= -(((firstTo s t m s.qB.length).set ((appls s t)[k]!).toNat<|Xd (s.qB[((appls s t)[k]!).toNat]!).zT ((jG s t m)[(s.qB[((appls s t)[k]!).toNat]!).qX.toNat]!))[((appls s t)[k]!).toNat]!)) qf
  have aE4:=H.base.size
  refine oc (plus_ok _ ((jG s t m)[((s.qB[((appls s t)[k]!).toNat]!).qX).toNat]!) ((s.qB[((appls s t)[k]!).toNat]!).zT) (-(((firstTo s t m s.qB.length).set (((appls s t)[k]!).toNat)<|Xd ((s.qB[((appls s t)[k]!).toNat]!).zT) ((jG s t m)[((s.qB[((appls s t)[k]!).toNat]!).qX).toNat]!))[((appls s t)[k]!).toNat]!)) (H.get 0 rfl).1 (H.get 2 rfl).1 qg qg qg) ?_
  rintro v68 w66 r68 x67
  replace H:=H.zI x67 r68
  obtain ⟨a69,c70,rfl,aJ8,aHS⟩:=H.jW 0 rfl
  refine ⟨H.pick [1,2,4,5,6]<|zR 1 14,(tI 16 rfl rfl rfl (H.pick [1,2,4,5,6]<|zR 1 14) ?_)⟩
  refine ro 17 rfl ?_
  obtain ⟨G74,N,ahs,H⟩:=H.ve 0 rfl N<|H.vg []
  refine yZ false H 3 rfl 10 rfl (Sv a69 ((vS ((jG s t m)[((s.qB[((appls s t)[k]!).toNat]!).qX).toNat]!) ((s.qB[((appls s t)[k]!).toNat]!).zT) (-(((firstTo s t m s.qB.length).set (((appls s t)[k]!).toNat)<|Xd ((s.qB[((appls s t)[k]!).toNat]!).zT) ((jG s t m)[((s.qB[((appls s t)[k]!).toNat]!).qX).toNat]!))[((appls s t)[k]!).toNat]!))).length) c70) 0 rfl rfl sizeOf24 rfl rfl (i:=(((s.qB[((appls s t)[k]!).toNat]!).qX).toNat)) qf qf qm fun w73 aqX F77 acT H=>⟨H.pick [1,2,4,5,6]<|zR 3 14,(xy qh<|b_n<|t_n<|xZ ?_)⟩
  refine sw<|zV k 1 rfl rfl qf<|sq 1<|xW<|xq (m' :=(((appls s t).length) - ((k+1):Int)).toNat) qf ⟨_,k+1,_,_,_,_,((appls s t)[k]!).toNat+1,uE6,?_,?_,?_,?_,?_,rfl,(N.pick []),H.pick (zR 2 5) (0::zR 12 5)⟩
  ·exact firstR_step a1 a2 a3 a4 ex
  ·exact firstTo_set a1 a2 a4<|firstC_step a1 a3 a4
  ·omega
  ·exact a5
  ·exact a2
 refine zx4<|zcr<|sq 2<|zjr<|rH1 (Sv (aa b5 0) s.qB.length s.qB.length) H ?_
 rw [firstTo_end hn<|appls_end hm hn qf] at H
 exact ⟨(aa b5 0),s.qB.length,s.qB.length,rfl,N,H.pick [2] []⟩
theorem around_ok (w:World) (s:qM) (xu:zP w zH xf qZ s.qA) (xY:zP w vX xG xC s.qB):Calls Tryz.prog 83 #[.agg #[yI s.qP,Sv xf s.qA.length qZ,Sv xG s.qB.length xC]] w (Ret (fun v w' =>v=yI s.qA.length) w):=by
 refine en func83 ntmps83 ?_
 have H:=((St.start w).arg xY).arg xu
 have jJ:=qO xu
 have Qb:=qO xY
 clear xu xY
 have N:=Fresh.nil w.heap.size
 refine zcr<|sw<|jq H (yS s xf qZ xG xC) fun b1 w2 H=>sp (yI 0)<|zjc<|oF rfl<|oL rfl (H.cell 0 rfl rfl)<|oN rfl<|sq 1<|zjr<|rH1 (yI s.qA.length) H ?_
 rfl
end
section
class CntTot (α:Type) [Mark α] [Tot α]:Prop where
 le:∀ x:α,cnt x<=10+10 * tot x
instance:CntTot Int:=⟨fun _=>by show 1<=_;omega⟩
instance:CntTot Bool:=⟨fun _=>by show 1<=_;omega⟩
section
variable {α : Type} [Mark α] [Tot α] [Inhabited α] [CntTot α]
theorem cntTo_tot (l:List α):∀ k,cntTo l k<=10 * k+10 * totTo l k
 | 0=>Nat.zero_le _
 | k+1=>by
  have h1:=cntTo_tot l k
  have h2:=CntTot.le<|l[k]!
  rw [cntTo_succ,totTo_succ]
  omega
theorem cntL_tot (l:List α):cnt l<=10 * tot l:=by
 have:=cntTo_tot l l.length
 rw [cnt_list,tot_list]
 omega
instance:CntTot (List α):=⟨fun l=>by have:=cntL_tot l;omega⟩
end
instance:CntTot IntoD:=⟨fun x=>by
 have h1:=cntL_tot x.XH
 have h2:=tot_IntoD x
 have h3:=cnt_IntoD x
 omega⟩
instance:CntTot yj:=⟨fun x=>by
 have h1:=cntL_tot x.zT
 have h2:=cntL_tot x.jV
 have h3:=cntL_tot x.jX
 have h4:=cntL_tot x.jK
 have h5:=cntL_tot x.QP
 have h6:=cntL_tot x.xx
 have h7:=tot_RuleD x
 have h8:=cnt_RuleD x
 omega⟩
theorem anyTo_mem:anyTo (fun k=>x == l[k]!) l.length=dec (x∈l):=by
 refine dec_eq ?_
 rw [anyTo_iff]
 constructor
 ·rintro ⟨k,h,h1⟩
  rw [beq_iff_eq,getElem!_pos l k h] at h1
  rw [h1];exact List.getElem_mem h
 ·intro h
  obtain ⟨k,hk,e⟩:=List.mem_iff_getElem.1 h
  exact ⟨k,hk,by rw [beq_iff_eq,getElem!_pos l k hk,e]⟩
def minTo (l:yLI):Nat->Int
 | 0=>l[0]!
 | k+1=>if k=0 then l[0]! else min (minTo l k) (l[k]!)
theorem minTo_one (l:yLI):minTo l 1=l[0]! :=rfl
theorem minTo_succ (h:1<=k):minTo l (k+1)=min (minTo l k) (l[k]!):=by rw [minTo,if_neg qf]
def minL (l:yLI):Int:=minTo l l.length
theorem minTo_neg {l:yLI}:∀ {k:Nat},1<=k->(minTo l k < 0<->∃ j,j < k/\l[j]! < 0)
 | 1,_=>by
  rw [minTo_one]
  constructor
  ·intro h;exact ⟨0,by omega,h⟩
  ·rintro ⟨j,h,h1⟩;obtain rfl:j=0:=by omega
   exact h1
 | k+2,_=>by
  have ih:=minTo_neg (l:=l) (k:=k+1) qf
  rw [minTo_succ qf]
  constructor
  ·intro h
   by_cases h1:minTo l (k+1) < 0
   ·obtain ⟨j,h2,h3⟩:=ih.1 h1;exact ⟨j,by omega,h3⟩
   ·exact ⟨k+1,by omega,by omega⟩
  ·rintro ⟨j,h,h1⟩
   by_cases e:j=k+1
   ·subst e;omega
   ·have:=ih.2 ⟨j,by omega,h1⟩;omega
theorem minL_neg (h:1<=l.length):minL l < 0<->¬ ∀ k,k < l.length->0<=l[k]! :=by
 unfold minL
 rw [minTo_neg h]
 constructor
 ·rintro ⟨j,h1,h2⟩ h3;have:=h3 j h1;omega
 ·intro h1
  apply Classical.byContradiction
  intro h2
  refine h1 fun k hk=>?_
  have:¬ l[k]! < 0:=fun h3=>h2 ⟨k,hk,h3⟩
  omega
def single (s:qM) (i:Nat):yLI:=(List.replicate s.qB.length (0:Int)).set i 1
end
section
variable {cl : Nat}
theorem indexI_ok (w:World) (l:yLI) (x:Int) (hl:zP w Fl al cl l):Calls Tryz.prog 173 #[Sv al l.length cl,yI x] w (Ret (fun v w' =>v=yI (firstIdx (fun k=>x == l[k]!) l.length)) w):=by
 refine en func173 ntmps173 ?_
 have H:=(St.start w).arg hl
 have rS:=qO hl
 clear hl
 have N:=Fresh.nil w.heap.size
 refine zcr<|sp (yI 0)<|zjcc<|sq 1<|oN rfl<|sp (yI 0)<|zjn<|xg<|zU ((fun Z0=>fun m' ρ w1=>∃ (xI:Env) (i:Nat),ρ=upd (upd (upd (upd xI 0<|Sv al l.length cl) 1<|yI x) 7<|yI l.length) 8 (yI i)/\((i:Int)<=l.length)/\(noneTo (fun k=>x == l[k]!) i)/\m' =(l.length - (i:Int)).toNat/\Fresh w.heap.size []/\St w w1 [] [Z0]) _) ((l.length - (0:Int)).toNat) ⟨_,0,uE4,qf,qx,rfl,N,H⟩ ?_
 clear H N
 rintro m' ρ w2 ⟨xI,i,rfl,i0,i1,rfl,N,H⟩
 refine zcr<|sq 1<|zjn<|xH<|cD rfl (fun h3=>?_)<|fun h3=>?_
 ·refine xk (t_n<|xH<|xg<|zcr<|sp (yI i)<|sp (yI i)<|zjc<|sp (yI x)<|sq 1<|sp (yI i) ?_)
  obtain ⟨b4,o5,rfl⟩:=H.addr 0 rfl qf
  refine oI rfl rfl<|oL rfl (H.jd 0 rfl i qf)<|sq 1<|zjn<|cE rfl (fun h7=>?_)<|fun h7=>?_
  ·refine zcr (sp (yI i)<|sp (yI i)<|zjr<|zr5<|rH1 (yI i) H ?_)
   rw [firstIdx_some (k:=i) qf i1<|by simpa using ‹x=l[i]!›]
  refine xk<|b_n<|t_n<|xZ<|sw<|zV i 1 rfl rfl qf<|sq 1<|xW<|xq (m' :=(l.length - ((i+1):Int)).toNat) qf ⟨_,i+1,uE4,?_,?_,rfl,N,H⟩
  ·omega
  ·exact noneTo_succ ‹_› (by simpa using ‹x≠l[i]!›)
 refine zx4<|zcr<|sq 1<|zjr<|rH1 (yI (-1)) H ?_
 rw [firstIdx_none<|fun j hj=>i1 j qf]
theorem containsI_ok (w:World) (l:yLI) (x:Int) (hl:zP w Fl al cl l):Calls Tryz.prog 159 #[Sv al l.length cl,yI x] w (Ret (fun v w' =>v=Bv (dec ((x:Int)∈l))) w):=by
 refine en func159 ntmps159 ?_
 have H:=(St.start w).arg hl
 have rS:=qO hl
 clear hl
 have N:=Fresh.nil w.heap.size
 refine zcr<|sp (Bv false)<|zjc<|sq 1<|sp (yI x)<|sw<|oq (indexI_ok _ l x (H.get 0 rfl).1) H fun w2 H=>sp (Bv<|decide ((firstIdx (fun k=>x == l[k]!) l.length:Int)>=0))<|sp (Bv<|decide ((firstIdx (fun k=>x == l[k]!) l.length:Int)>=0))<|zjr<|rH1 (Bv<|decide ((firstIdx (fun k=>x == l[k]!) l.length:Int)>=0)) H ?_
 rw [anyTo_first,anyTo_mem]
theorem minI_ok (w:World) (l:yLI) (hl:zP w Fl al cl l) (p0:1<=l.length):Calls Tryz.prog 54 #[Sv al l.length cl] w (Ret (fun v w' =>v=yI (minL l)) w):=by
 refine en func54 ntmps54 ?_
 have H:=(St.start w).arg hl
 have rS:=qO hl
 clear hl
 have N:=Fresh.nil w.heap.size
 refine zcr<|sp (yI 0)<|zjcc<|sq 1<|oN rfl<|sp (Bv<|decide ((l.length:Int) < 1))<|zjn<|cD rfl (fun h1=>?_)<|fun h1=>?_
 ·exfalso;omega
 refine xk<|t_n<|zcr<|sq 1 ?_
 obtain ⟨b2,o3,rfl⟩:=H.addr 0 rfl qf
 refine oI rfl rfl<|oL rfl (H.jd 0 rfl 0 qf)<|sq 1<|zjcc<|sp (yI 1)<|zjn<|xg<|zU ((fun Z0=>fun m' ρ w5=>∃ (xI:Env) (m:Int) (i:Nat),ρ=upd (upd (upd xI 0<|Sv (aa b2 o3) l.length cl) 3<|yI m) 4 (yI i)/\m=minTo l i/\((i:Int)<=l.length)/\(1<=i)/\m' =(l.length - (i:Int)).toNat/\Fresh w.heap.size []/\St w w5 [] [Z0]) _) ((l.length - (1:Int)).toNat) ⟨_,l[0]!,1,uE3,(by exact (minTo_one l).symm),qf,qf,rfl,N,H⟩ ?_
 clear H N
 rintro m' ρ w6 ⟨xI,m,i,rfl,rfl,i0,i2,rfl,N,H⟩
 refine zcc<|sp (yI i)<|sq 1<|oN rfl<|sq 1<|zjn<|cD rfl (fun h7=>?_)<|fun h7=>?_
 ·refine xk (t_n<|xH<|xg<|xZ<|sq 2<|sp (yI i)<|oI rfl rfl<|oL rfl (H.jd 0 rfl i qf)<|sw<|o_min (minTo l i) (l[i]!) rfl rfl<|sq 1<|xW<|b_n<|t_n<|xZ<|sp (yI i)<|sw<|zV i 1 rfl rfl qf<|sq 1<|xW<|xq (m' :=(l.length - ((i+1):Int)).toNat) qf ⟨_,_,i+1,uE3,?_,?_,?_,rfl,N,H⟩)
  ·exact (minTo_succ qf).symm
  ·omega
  ·omega
 refine zx4<|zcr<|sq 2<|zjr<|rH1 (yI<|minTo l i) H ?_
 obtain rfl:i=l.length:=by omega
 rfl
end
section
def StillTo (s:qM) (k:Nat):Prop:=∀ i,i < k->(s.qB[i]!).jm=false
theorem StillTo.succ (h:StillTo s k) (h1:(s.qB[k]!).jm=false):StillTo s (k+1):=fun j hj=>by
 by_cases e:j=k
 ·subst e;exact h1
 ·exact h j qf
abbrev Still (s:qM):Prop:=StillTo s s.qB.length
def WholeTo (t:xh) (k:Nat):Prop:=∀ c,c < k->t.xn[c]! =true
theorem WholeTo.succ (h:WholeTo t k) (h1:t.xn[k]! =true):WholeTo t (k+1):=fun j hj=>by
 by_cases e:j=k
 ·subst e;exact h1
 ·exact h j qf
abbrev Whole (t:xh):Prop:=WholeTo t t.xn.length
theorem whole_any:anyTo (fun k=>false == t.xn[k]!) t.xn.length=dec (¬ Whole t):=by
 refine dec_eq ?_
 rw [anyTo_iff]
 constructor
 ·rintro ⟨k,hk,h⟩ hw
  rw [hw k hk] at h;cases h
 ·intro h
  apply Classical.byContradiction
  intro hn
  refine h fun c hc=>?_
  cases hx:t.xn[c]! with
  | true=>rfl
  | false=>exact absurd ⟨c,hc,by rw [hx];rfl⟩ hn
theorem whole_parent (hw:Whole t) (hs:yK s) (hl:t.xn.length=s.qA.length) {c:Int} (h0:0 < c) (h1:c<=(s.qA.length:Int) - 1):zG s t c=s.qA[c.toNat]! :=by
 have hu:=hs.up h0 h1
 unfold zG
 refine climb_end fun h=>?_
 have:=hw (s.qA[c.toNat]!).toNat qf
 rw [this] at h;cases h.2
def XL (s:qM) (t:xh) (counts:yLI) (cell:Int):Nat->Nat->Nat->Int
 | 0,_,_=>0
 | i+1,p,q=>XL s t counts cell i p q+if (s.qB[i]!).qX=cell then putF s t (s.qB[i]!) (counts[i]!) p q else 0
theorem puts_yes {counts:yLI} {cell:Int} (h:(s.qB[i]!).qX=cell) (p q:Nat):XL s t counts cell (i+1) p q=XL s t counts cell i p q+putF s t (s.qB[i]!) (counts[i]!) p q:=by rw [XL,if_pos h]
theorem puts_no {counts:yLI} {cell:Int} (h:(s.qB[i]!).qX≠cell) (p q:Nat):XL s t counts cell (i+1) p q=XL s t counts cell i p q:=by rw [XL,if_neg h];omega
theorem puts_zero {counts:yLI} {cell:Int} (h:counts[i]! =0) (p q:Nat):XL s t counts cell (i+1) p q=XL s t counts cell i p q:=by
 rw [XL]
 split
 ·rw [putF_zero s t _ h];omega
 ·omega
def ji (s:qM) (k:Nat):yLL:=List.replicate k<|List.replicate s.qP.toNat 0
theorem zeros_snoc (s:qM) (k:Nat):ji s k++[List.replicate s.qP.toNat 0]=ji s (k+1):=by
 unfold ji;rw [← List.replicate_succ']
theorem zeros_len (s:qM) (k:Nat):(ji s k).length=k:=by simp [ji]
theorem zeros_ent (hB:0<=B):Ent n (vP s) (fun _ _=>0) B (ji s n):=by
 have hr:∀ p,p < n->(ji s n)[p]! =List.replicate s.qP.toNat 0:=fun p hp=>by
  rw [getElem!_pos (ji s n) p<|by rw [zeros_len];exact hp];simp [ji]
 have hz:∀ k,k < vP s->(List.replicate s.qP.toNat (0:Int))[k]! =0:=fun k hk=>by
  rw [getElem!_pos (List.replicate s.qP.toNat (0:Int)) k<|by simpa [vP] using hk];simp
 refine ⟨⟨zeros_len _ _,fun p hp=>?_⟩,fun p k hp hk=>?_⟩
 ·rw [hr p hp]
  refine ⟨by simp [vP],fun k hk=>?_⟩
  rw [hz k hk];omega
 ·rw [hr p hp,hz k hk]
def TookOk (s:qM) (l:yLI) (i:Nat):Prop:=l.length=vP s/\∀ q,q < vP s-> -(1000000 * (i:Int))<=l[q]! /\l[q]! <=1000000 * (i:Int)
theorem TookOk.zero (s:qM):TookOk s (List.replicate s.qP.toNat 0) 0:=by
 refine ⟨by simp [vP],fun k hk=>?_⟩
 rw [getElem!_pos (List.replicate s.qP.toNat (0:Int)) k<|by simpa [vP] using hk];simp
theorem TookOk.keep (h:TookOk s l i):TookOk s l (i+1):=⟨h.1,fun q hq=>by have:=h.2 q hq;omega⟩
theorem TookOk.plus {n:Int} (h:TookOk s l i) (hm:yJ s.qP m) (hn: -1000<=n/\n<=1000):TookOk s (vS l m n) (i+1):=by
 refine ⟨by rw [Qq];exact h.1,fun q hq=>?_⟩
 rw [plus_get<|by rw [h.1];exact hq]
 have:=h.2 q hq
 have:=hm.mul hn q hq
 omega
theorem TookOk.mid (h:TookOk s l i) (hi:i<=16) (hk:vP s<=8):l.length=vP s/\Mid l:=by
 refine ⟨h.1,by have:=h.1;omega,fun q hq=>?_⟩
 have:=h.2 q (by have:=h.1;omega)
 omega
def yH (b:yLL) (k:Nat):Prop:=∀ j,j < k->BagAny (b[j]!)
theorem yH.succ (h:yH b k) (h1:BagAny (b[k]!)):yH b (k+1):=fun j hj=>by
 by_cases e:j=k
 ·subst e;exact h1
 ·exact h j qf
theorem bagAny_ok:yJ (l.length:Int) l<->BagAny l:=⟨fun h=>h.1,fun h=>⟨h,rfl⟩⟩
def jU (s:qM) (t:xh) (counts:yLI) (cell:Int):yLL:=tab2 (zF s+1) (vP s)<|XL s t counts cell s.qB.length
theorem needS_nonpos {s:qM} {counts:yLI} (hs:QC s) (hc:CntOk s counts) (p q:Nat) (hq:q < vP s):∀ k,k<=s.qB.length->needS s counts k p q<=0
 | 0,_=>by simp [needS]
 | k+1,h=>by
  have ih:=needS_nonpos hs hc p q hq k qf
  have hb:=hc.bd (i:=k) qf
  have hn:=(hs.rule (i:=k) qf).2.2.2.2.1
  have hg:=hn.get (k:=q)<|by rw [hn.len];exact hq
  rw [needS]
  have:needF s counts k p q<=0:=by
   unfold needF at'
   split
   ·have:=Int.mul_nonneg hb.1 hg.1
    rw [Int.neg_mul];omega
   ·exact Int.le_refl _
  omega
theorem mul_bd {c m M:Int} (hc:0<=c/\c<=M) (hm:0<=m/\m<=D):0<=c * m/\c * m<=M * D:=by
 refine ⟨Int.mul_nonneg hc.1 hm.1,?_⟩
 have h1:=Int.mul_le_mul_of_nonneg_left hm.2 hc.1
 have h2:=Int.mul_le_mul_of_nonneg_right hc.2<|show 0<=D by omega
 omega
end
section
theorem intoF_bd8 {s:qM} {r:yj} {c:Int} (h:IntosTo s r r.xx.length) (h3:r.xx.length<=3) (hc:0<=c/\c<=1000) (p:Nat) {q:Nat} (hq:q < vP s):∀ j,j<=r.xx.length->0<=intoF r c j p q/\intoF r c j p q<=1000000 * j
 | 0,_=>by simp [intoF]
 | j+1,hj=>by
  have h1:=intoF_bd8 h h3 hc p hq j qf
  have h2:=(h j qf).2.2.1
  have h4:=h2.get (k:=q)<|by rw [h2.len];exact hq
  have h5:0<=c * ((r.xx[j]!).XH)[q]! /\c * ((r.xx[j]!).XH)[q]! <=1000000:=mul_bd (M:=1000) (D:=1000) hc h4
  simp only [intoF,at']
  split <;> omega
theorem putF_bd8 {c:Int} (h:RuleOk s r) (hc:0<=c/\c<=1000) (p:Nat) (hq:q < vP s):0<=putF s t r c p q/\putF s t r c p q<=5000000:=by
 obtain ⟨_,_,_,h3,_,_,_,h8,h9,_,dZ⟩:=h
 have h1:=intoF_bd8 dZ h3 hc p hq _<|Nat.le_refl _
 have h4:0<=c * (r.jK)[q]! /\c * (r.jK)[q]! <=1000000:=mul_bd (M:=1000) (D:=1000) hc<|h8.get (k:=q)<|by rw [h8.len];exact hq
 have h5:0<=c * (r.QP)[q]! /\c * (r.QP)[q]! <=1000000:=mul_bd (M:=1000) (D:=1000) hc<|h9.get (k:=q)<|by rw [h9.len];exact hq
 unfold putF at'
 split <;> split <;> omega
theorem putsOf_bd8 {s:qM} {t:xh} {counts:yLI} {cell:Int} (hs:QC s) (hc:CntOk s counts) (p:Nat) {q:Nat} (hq:q < vP s):∀ i,i<=s.qB.length->0<=XL s t counts cell i p q/\XL s t counts cell i p q<=5000000 * i
 | 0,_=>by simp [XL]
 | i+1,hi=>by
  have h1:=putsOf_bd8 (t:=t) (cell:=cell) hs hc p hq i qf
  have h2:=putF_bd8 (t:=t) (hs.rule (i:=i) qf) (hc.bd (i:=i) qf) p hq
  rw [XL]
  split <;> omega
theorem puts_shape {counts:yLI} (cell:Int) (hs:QC s) (hc:CntOk s counts):Shape (zF s+1) (vP s) 80000000 (jU s t counts cell):=by
 refine ⟨tab2_len _ _ _,fun p hp=>?_⟩
 have e:(jU s t counts cell)[p]! =(List.range<|vP s).map (XL s t counts cell s.qB.length p):=tab2_row hp
 rw [e]
 refine ⟨by simp,fun k hk=>?_⟩
 rw [getElem!_pos ((List.range<|vP s).map<|XL s t counts cell s.qB.length p) k<|by simpa using hk]
 simp only [List.getElem_map,List.getElem_range]
 have:=putsOf_bd8 (t:=t) (cell:=cell) hs hc p hk s.qB.length<|Nat.le_refl _
 have:=hs.2.1
 omega
def vC (own:yLI) (p:Nat):Int:=if p=own.length then own[0]! else own[p]!
def OwnIn (own:yLI) (n:Nat):Prop:=0 < own.length/\∀ j,j < own.length->0<=own[j]! /\own[j]! < n
theorem OwnIn.at {own:yLI} (h:OwnIn own n) (hp:p<=own.length):0<=vC own p/\vC own p < n:=by
 unfold vC
 split
 ·exact h.2 0 h.1
 ·exact h.2 p qf
def addTo (own:yLI) (nm:yLL) (now:List yLL):Nat->List (yLL)
 | 0=>now
 | x+1=>(addTo own nm now x).set (vC own x).toNat (((addTo own nm now x)[(vC own x).toNat]!).set x<|vS (((addTo own nm now x)[(vC own x).toNat]!)[x]!) (nm[x]!) 1)
noncomputable def nowTo (s:qM) (t:xh) (own:yLI) (i:Int) (n:Nat):Nat->List (yLL)
 | 0=>List.replicate n<|ji s<|zF s+1
 | c+1=>if own[c]! =i then addTo own (jU s t (xw s t) c) (nowTo s t own i n c) (zF s+1) else nowTo s t own i n c
theorem nowTo_yes {own:yLI} {i:Int} (h:own[c]! =i):nowTo s t own i n (c+1)=addTo own (jU s t (xw s t) c) (nowTo s t own i n c) (zF s+1):=by rw [nowTo,if_pos h]
theorem nowTo_no {own:yLI} {i:Int} (h:own[c]! ≠i):nowTo s t own i n (c+1)=nowTo s t own i n c:=by rw [nowTo,if_neg h]
def Cube (n N K:Nat) (B:Int) (m:List yLL):Prop:=m.length=n/\∀ j,j < n->Shape N K B (m[j]!)
theorem Cube.row {m:List yLL} (h:Cube n N K B m) (hj:j < n):Shape N K B (m[j]!):=h.2 j hj
theorem Cube.mono {n N K:Nat} {B D:Int} {m:List yLL} (h:Cube n N K B m) (hD:B<=D):Cube n N K D m:=⟨h.1,fun j hj=>(h.2 j hj).mono hD⟩
theorem Cube.set {m:List yLL} (h:Cube n N K B m) (hj:j < n) (hb:Shape N K B b):Cube n N K B (m.set j b):=by
 refine ⟨by simp [h.1],fun k hk=>?_⟩
 rw [getset<|by rw [h.1];exact hj]
 split
 ·exact hb
 ·exact h.2 k hk
def CubeAt (own:yLI) (n N K:Nat) (B D:Int) (x:Nat) (m:List yLL):Prop:=
 m.length=n/\∀ j,j < n->(m[j]!).length=N/\∀ p,p < N->((m[j]!)[p]!).length=K/\∀ k,k < K->(-D<=((m[j]!)[p]!)[k]! /\((m[j]!)[p]!)[k]! <=D)/\(x<=p-> -B<=((m[j]!)[p]!)[k]! /\((m[j]!)[p]!)[k]! <=B)
theorem CubeAt.cube {own:yLI} {x:Nat} {m:List yLL} (h:CubeAt own n N K B D x m):Cube n N K D m:=
 ⟨h.1,fun j hj=>⟨(h.2 j hj).1,fun p hp=>⟨((h.2 j hj).2 p hp).1,fun k hk=>(((h.2 j hj).2 p hp).2 k hk).1⟩⟩⟩
theorem addTo_at {own:yLI} {nm:yLL} {now:List yLL} {n N K:Nat} {B E:Int} (hn:Cube n N K B now) (hp:Shape N K E nm) (ho:OwnIn own n) (hN:N=own.length+1) (hE:0<=E):
 ∀ x,x<=N->CubeAt own n N K B (B+E) x (addTo own nm now x)
 | 0,_=>⟨hn.1,fun j hj=>⟨(hn.2 j hj).1,fun p hp=>⟨((hn.2 j hj).2 p hp).1,fun k hk=>by
  have:=((hn.2 j hj).2 p hp).2 k hk
  exact ⟨by show -(B+E)<=((now[j]!)[p]!)[k]! /\((now[j]!)[p]!)[k]! <=B+E;omega,fun _=>this⟩⟩⟩⟩
 | x+1,hx=>by
  have ih:=addTo_at hn hp ho hN hE x qf
  have oa:=ho.at (p:=x) qf
  rw [addTo]
  refine ⟨by simp [ih.1],fun j hj=>?_⟩
  rw [getset<|by rw [ih.1];omega]
  by_cases e:j=(vC own x).toNat
  ·rw [if_pos e]
   have r:=ih.2 (vC own x).toNat qf
   refine ⟨by rw [List.length_set];exact r.1,fun p wX =>?_⟩
   rw [getset<|by rw [r.1];omega]
   by_cases e2:p=x
   ·rw [if_pos e2]
    have rr:=r.2 x qf
    refine ⟨by rw [Qq];exact rr.1,fun k hk=>?_⟩
    rw [plus_get<|by rw [rr.1];exact hk]
    have h1:=(rr.2 k hk).2<|Nat.le_refl _
    have h2:=(hp.2 x qf).2 k hk
    exact ⟨by omega,fun h=>by omega⟩
   ·rw [if_neg e2]
    have rr:=r.2 p wX
    exact ⟨rr.1,fun k hk=>⟨(rr.2 k hk).1,fun h=>(rr.2 k hk).2 qf⟩⟩
  ·rw [if_neg e]
   have r:=ih.2 j hj
   exact ⟨r.1,fun p wX =>⟨(r.2 p wX).1,fun k hk=>⟨((r.2 p wX).2 k hk).1,fun h=>((r.2 p wX).2 k hk).2 qf⟩⟩⟩
theorem nowTo_cube {s:qM} {t:xh} {own:yLI} {i:Int} {n:Nat} (hs:QC s) (ht:vM s t) (ho:OwnIn own n) (hl:own.length=zF s):∀ c:Nat,Cube n (zF s+1) (vP s) (80000000 * c) (nowTo s t own i n c)
 | 0=>by
  refine ⟨by simp [nowTo],fun j hj=>?_⟩
  rw [nowTo,getElem!_pos (List.replicate n<|ji s<|zF s+1) j<|by simpa using hj,List.getElem_replicate]
  exact ((zeros_ent (s:=s) (n:=zF s+1) (B:=0)<|Int.le_refl _).sh).mono qf
 | c+1=>by
  have ih:=nowTo_cube (i:=i) hs ht ho hl c
  by_cases h:own[c]! =i
  ·rw [nowTo_yes h]
   exact ((addTo_at ih (puts_shape (t:=t) c hs<|X7 hs ht) ho (by rw [hl]) qf _<|Nat.le_refl _).cube).mono qf
  ·rw [nowTo_no h]
   exact ih.mono qf
def OffZero (own:yLI) (N K:Nat) (j:Nat) (b:yLL):Prop:=∀ p,p < N->vC own p≠(j:Int)->∀ k,k < K->(b[p]!)[k]! =0
theorem addTo_off {own:yLI} {nm:yLL} {now:List yLL} {n N K:Nat} {B E:Int} (hn:Cube n N K B now) (hp:Shape N K E nm) (ho:OwnIn own n) (hN:N=own.length+1) (hE:0<=E)
 (h0:∀ j,j < n->OffZero own N K j (now[j]!)):∀ x,x<=N->∀ j,j < n->OffZero own N K j ((addTo own nm now x)[j]!)
 | 0,_=>h0
 | x+1,hx=>by
  have ih:=addTo_off hn hp ho hN hE h0 x qf
  have ia:=addTo_at hn hp ho hN hE x qf
  have oa:=ho.at (p:=x) qf
  intro j hj
  rw [addTo,getset<|by rw [ia.1];omega]
  by_cases e:j=(vC own x).toNat
  ·rw [if_pos e]
   intro p wX pH k hk
   rw [getset<|by rw [(ia.2 _ qf).1];omega,if_neg<|by intro e2;subst e2;omega]
   have:=ih j hj p wX pH k hk
   rwa [e] at this
  ·rw [if_neg e];exact ih j hj
theorem nowTo_off {s:qM} {t:xh} {own:yLI} {i:Int} {n:Nat} (hs:QC s) (ht:vM s t) (ho:OwnIn own n) (hl:own.length=zF s):∀ c:Nat,∀ j,j < n->OffZero own (zF s+1) (vP s) j ((nowTo s t own i n c)[j]!)
 | 0=>fun j hj p hp _ k hk=>by
  rw [nowTo,getElem!_pos (List.replicate n<|ji s<|zF s+1) j<|by simpa using hj,List.getElem_replicate]
  exact (zeros_ent (s:=s) (n:=zF s+1) (B:=0)<|Int.le_refl _).eq p k hp hk
 | c+1=>by
  have ih:=nowTo_off (i:=i) hs ht ho hl c
  by_cases h:own[c]! =i
  ·rw [nowTo_yes h]
   exact addTo_off (nowTo_cube hs ht ho hl c) (puts_shape (t:=t) c hs<|X7 hs ht) ho (by rw [hl]) qf ih _<|Nat.le_refl _
  ·rw [nowTo_no h];exact ih
def AllB3 (m:List yLL) (k:Nat):Prop:=∀ j,j < k->yH (m[j]!) (m[j]!).length
theorem AllB3.succ {m:List yLL} (h:AllB3 m k) (h1:yH (m[k]!) (m[k]!).length):AllB3 m (k+1):=fun j hj=>by
 by_cases e:j=k
 ·subst e;exact h1
 ·exact h j qf
def Xa (l m:yLL) (k:Nat):yLL:=(List.range k).map fun j=>vS (l[j]!) (m[j]!) 1
def Qr (l m:yLL):yLL:=Xa l m l.length
theorem Vs (l m:yLL) (k:Nat):(Xa l m k).length=k:=by simp [Xa]
theorem addTabTo_snoc (l m:yLL) (k:Nat):Xa l m k++[vS (l[k]!) (m[k]!) 1]=Xa l m (k+1):=by simp [Xa,List.range_succ]
theorem addTabTo_get {l m:yLL} (h:j < k):(Xa l m k)[j]! =vS (l[j]!) (m[j]!) 1:=by
 rw [getElem!_pos (Xa l m k) j<|by rw [Vs];exact h];simp [Xa]
def AllGot (l:List Bool) (k:Nat):Prop:=∀ j,j < k->l[j]! =true
theorem AllGot.succ {l:List Bool} (h:AllGot l k) (h1:l[k]! =true):AllGot l (k+1):=fun j hj=>by
 by_cases e:j=k
 ·subst e;exact h1
 ·exact h j qf
def QQ (x:zA):Prop:=x.qH.qN=x.qC.qN/\x.qH.qQ=true
def viewD (s:qM) (d:zn):xh:=⟨List.replicate (zF s) true,d.qG,d.qE⟩
noncomputable def nowD (s:qM) (own:yLI) (n i:Nat) (d:zn):List yLL:=nowTo s (viewD s d) own i n<|zF s
noncomputable def bagsD (s:qM) (d:zn):yLL:=restR s (viewD s d) (xw s<|viewD s d) s.qB.length
noncomputable def workD (s:qM) (own:yLI) (n i:Nat) (d:zn):zn:=
 { d with qG:=bagsD s d,vJ:=nowD s own n i d,qJ:=(nowD s own n i d)[i]!,qQ:=true,vz:=(List.replicate n false).set i true }
def Xe (v:zQ) (i:Nat) (d:zn):zQ:={ v with qF:=v.qF.set i { v.qF[i]! with qC:=d }}
def putSaved (v:zQ) (i:Nat) (d:zn):zQ:={ v with qF:=v.qF.set i { v.qF[i]! with qH:=d }}
def SrvIn (v:zQ) (i:Int):Prop:=0<=i/\i<=(v.qF.length:Int) - 1
open Classical in
noncomputable def workM (s:qM) (own:yLI) (v:zQ) (i:Nat):zQ×Int:=
 if (v.qF[i]!).qC.qQ=true then (v,4) else if (v.qF[i]!).qC.qN=100 then (v,3) else
  if AllB3 (nowD s own v.qF.length i (v.qF[i]!).qC) v.qF.length then (Xe v i<|workD s own v.qF.length i (v.qF[i]!).qC,0) else (v,3)
open Classical in
noncomputable def sendM (v:zQ) (d:xm):zQ×Int:=
 if ¬ SrvIn v d.fA\/¬ SrvIn v d.fB\/d.fA=d.fB then (v,2) else
  if d.xE=3 then
   if ¬ QQ (v.qF[d.fA.toNat]!) then (v,4) else if v.zu.length=12 then (v,3) else
    ({ v with zu:=v.zu++[⟨(v.qF[d.fA.toNat]!).qC.qN,d.fA,d.fB,((v.qF[d.fA.toNat]!).qH.vJ)[d.fB.toNat]!⟩]},0)
  else if (v.qF[d.fA.toNat]!).qC.qN=0 then (v,4) else if v.zu.length=12 then (v,3) else
   ({ v with zu:=v.zu++[⟨(v.qF[d.fA.toNat]!).qC.qN - 1,d.fA,d.fB,((v.qF[d.fA.toNat]!).qC.xP)[d.fB.toNat]!⟩]},0)
def sumD (d:zn):yLL:=Qr (d.qG++[d.qE]) d.qJ
def nextD (s:qM) (d:zn):zn:=⟨d.qN+1,(sumD d).take<|zF s,(sumD d)[zF s]!,false,[],[],[],d.vJ⟩
open Classical in
noncomputable def Qy (s:qM) (v:zQ) (i:Nat):zQ×Int:=
 if ¬ ((v.qF[i]!).qC.qQ=true/\AllGot (v.qF[i]!).qC.vz (v.qF[i]!).qC.vz.length/\QQ (v.qF[i]!)) then (v,4) else
  if yH (sumD (v.qF[i]!).qC) (sumD (v.qF[i]!).qC).length then (Xe v i<|nextD s (v.qF[i]!).qC,0) else (v,3)
def gotD (d:zn) (p:zk):zn:={ d with qJ:=Qr d.qJ p.qG,vz:=d.vz.set p.XZ.toNat true }
open Classical in
noncomputable def comeM (v:zQ) (p:zk):zQ×Int:=
 if (v.qF[p.fTo.toNat]!).qC.qQ=false\/(v.qF[p.fTo.toNat]!).qC.qN≠p.qN\/((v.qF[p.fTo.toNat]!).qC.vz)[p.XZ.toNat]! =true then (v,0) else
  if yH (Qr (v.qF[p.fTo.toNat]!).qC.qJ p.qG) (Qr (v.qF[p.fTo.toNat]!).qC.qJ p.qG).length then (Xe v p.fTo.toNat<|gotD (v.qF[p.fTo.toNat]!).qC p,0) else (v,3)
open Classical in
noncomputable def wireM (v:zQ) (d:xm):zQ×Int:=
 if (v.zu.length:Int)<=d.fA then (v,2) else
  let r:=if d.xE=8 then (v,0) else comeM v (v.zu[d.fA.toNat]!)
  if r.2≠0 then r else if d.xE=7 then r else ({ r.1 with zu:=r.1.zu.eraseIdx d.fA.toNat },0)
open Classical in
noncomputable def doM (s:qM) (own:yLI) (v:zQ) (d:xm):zQ×Int:=
 if d.xE=3\/d.xE=4 then sendM v d else if d.xE=6\/d.xE=7\/d.xE=8 then wireM v d else if ¬ SrvIn v d.fA then (v,2) else
  if d.xE=1 then workM s own v d.fA.toNat else if d.xE=5 then Qy s v d.fA.toNat else
   if d.xE=2 then (putSaved v d.fA.toNat (v.qF[d.fA.toNat]!).qC,0) else (Xe v d.fA.toNat (v.qF[d.fA.toNat]!).qH,0)
def DeedOk (d:xm):Prop:=(1<=d.xE/\d.xE<=9)/\(0<=d.fA/\d.fA<=999)/\(0<=d.fB/\d.fB<=999)/\(d.xE=3\/d.xE=4\/d.fB=0)
noncomputable def xF (s:qM) (own:yLI) (v:zQ) (l:List xm):Nat->zQ×Int
 | 0=>(v,0)
 | k+1=>((doM s own (xF s own v l k).1<|l[k]!).1,(xF s own v l k).2+if (doM s own (xF s own v l k).1<|l[k]!).2=0 then 1 else 0)
def beginD (s:qM) (own:yLI) (t:xh) (i:Nat):zn:=
 ⟨0,(List.range<|zF s).map fun c=>if own[c]! =(i:Int) then t.qG[c]! else List.replicate (vP s) 0,if own[0]! =(i:Int) then t.qE else List.replicate (vP s) 0,false,[],[],[],[]⟩
def QB (s:qM) (own:yLI) (t:xh) (k:Nat):List zA:=(List.range k).map fun i=>⟨beginD s own t i,beginD s own t i⟩
def qW (s:qM) (own:yLI) (t:xh) (n:Nat):zQ:=⟨QB s own t n,[]⟩
structure PutOk (s:qM) (own:yLI) (j:Nat) (b:yLL):Prop where
 len:b.length=zF s+1
 bag:∀ p,p < zF s+1->yJ s.qP (b[p]!)
 off:OffZero own (zF s+1) (vP s) j b
def PutsOk (s:qM) (own:yLI) (n:Nat) (m:List yLL):Prop:=m.length=n/\∀ j,j < n->PutOk s own j (m[j]!)
structure jf (s:qM) (own:yLI) (n i:Nat) (d:zn):Prop where
 rnd:0<=d.qN/\d.qN<=100
 all:PutOk s own i (d.qG++[d.qE])
 got:d.qQ=true->d.qN<=99/\d.vz.length=n/\PutOk s own i d.qJ/\PutsOk s own n d.vJ
 last:0 < d.qN->PutsOk s own n d.xP
 rest:d.qQ=false->d.vz=[]/\d.qJ=[]/\d.vJ=[]
 fst:d.qN=0->d.xP=[]
def ParcelOk (s:qM) (own:yLI) (n:Nat) (p:zk):Prop:=(0<=p.XZ/\p.XZ < n)/\(0<=p.fTo/\p.fTo < n)/\PutOk s own p.fTo.toNat p.qG/\0<=p.qN/\p.qN<=100
structure Vu (s:qM) (own:yLI) (n:Nat) (v:zQ):Prop where
 len:v.qF.length=n
 srv:∀ i,i < n->jf s own n i (v.qF[i]!).qC/\jf s own n i (v.qF[i]!).qH
 few:v.zu.length<=12
 wire:∀ k,k < v.zu.length->ParcelOk s own n (v.zu[k]!)
structure Giv (s:qM) (own:yLI) (n:Nat):Prop where
 sys:QC s
 len:own.length=zF s
 own:OwnIn own n
 few:n<=4
section
variable {s : qM} {own : yLI} {n : Nat}
theorem kindsN_eq (hs:yK s):(vP s:Int)=s.qP:=by unfold vP;have:=hs.1.1;omega
theorem bagOk_of (hs:yK s) (hl:l.length=vP s) (hb:∀ k,k < vP s->0<=l[k]! /\l[k]! <=1000):yJ s.qP l:=by
 have h:=kindsN_eq hs
 have h1:=hs.1
 refine ⟨⟨fun k hk=>hb k qf,by omega,by omega⟩,by omega⟩
theorem jf.XI (h:jf s own n i d):d.qG.length=zF s:=by have:=h.all.len;simpa using this
theorem jf.bagAt (h:jf s own n i d) (hp:p < zF s):yJ s.qP (d.qG[p]!):=by
 have:=h.all.bag p qf
 rwa [cat_get<|by rw [h.XI];exact hp] at this
theorem jf.aroundOk (h:jf s own n i d):yJ s.qP d.qE:=by
 have:=h.all.bag (zF s) qf
 rwa [cat_getN h.XI] at this
theorem rep_getB (m k:Nat) (h:k < m):(List.replicate m true)[k]! =true:=by
 rw [getElem!_pos (List.replicate m true) k<|by simpa using h];simp
theorem jf.view (hs:yK s) (h:jf s own n i d):vM s (viewD s d):=
 ⟨by simp [viewD],by simpa [viewD] using h.XI,by
  have:0 < s.qA.length:=by have:=hs.2.1;omega
  exact rep_getB _ _ this,h.aroundOk,fun c hc=>by
  have hc' :c < zF s:=by have:=h.XI;simp only [viewD] at hc;omega
  exact ⟨h.bagAt hc',fun e=>by
   have:=rep_getB (zF s) c hc'
   simp only [viewD] at e
   rw [this] at e;cases e⟩⟩
theorem view_whole (d:zn):Whole (viewD s d):=fun c hc=>rep_getB _ _<|by simpa [viewD] using hc
theorem bagsD_rows (hg:Giv s own n) (h:jf s own n i d):(bagsD s d).length=zF s/\∀ p,p < zF s->yJ s.qP ((bagsD s d)[p]!)/\∀ k,k < vP s->((bagsD s d)[p]!)[k]! =(d.qG[p]!)[k]! +needS s (xw s<|viewD s d) s.qB.length p k:=by
 have hs:=hg.sys
 have ht:=h.view hs.1
 have e:bagsD s d=jG s (viewD s d) s.qB.length:=first_rest hs ht _<|Nat.le_refl _
 have b:=firstR_box hs ht s.qB.length<|Nat.le_refl _
 have r:=restR_ent hs ht (X7 hs ht) s.qB.length<|Nat.le_refl _
 refine ⟨by rw [e];exact b.1,fun p hp=>⟨?_,fun k hk=>r.eq p k hp hk⟩⟩
 rw [e]
 exact bagOk_of hs.1 (b.2 p hp).1 (b.2 p hp).2
theorem PutOk.mk' (hs:yK s) (hb:Shape (zF s+1) (vP s) B b) (ha:yH b b.length) (ho:OffZero own (zF s+1) (vP s) j b):PutOk s own j b:=
 ⟨hb.1,fun p hp=>by
  have h1:=ha p (by rw [hb.1];exact hp)
  have h2:=(hb.2 p hp).1
  exact ⟨h1,by have:=kindsN_eq hs;omega⟩,ho⟩
theorem PutOk.shape (h:PutOk s own j b):Shape (zF s+1) (vP s) 1000 b:=
 ⟨h.len,fun p hp=>⟨(h.bag p hp).len,fun k hk=>by have:=(h.bag p hp).get (k:=k) (by rw [(h.bag p hp).len];exact hk);omega⟩⟩
theorem workD_ok (hg:Giv s own n) (h:jf s own n i d) (hi:i < n) (hr:d.qN≠100) (ha:AllB3 (nowD s own n i d) n):jf s own n i (workD s own n i d):=by
 have hs:=hg.sys
 have ht:=h.view hs.1
 have hb:=bagsD_rows hg h
 have cube:=nowTo_cube (i:=i) hs ht hg.own hg.len<|zF s
 have off:=nowTo_off (i:=i) hs ht hg.own hg.len<|zF s
 have nm:PutsOk s own n (nowD s own n i d):=⟨cube.1,fun j hj=>PutOk.mk' hs.1 (cube.2 j hj) (ha j hj)<|off j hj⟩
 refine ⟨h.rnd,⟨by simp [workD,hb.1],fun p hp=>?_,fun p hp pH k hk=>?_⟩,fun _=>⟨by have:=h.rnd;show d.qN<=99;omega,by simp [workD],nm.2 i hi,nm⟩,h.last,fun e=>by simp [workD] at e,h.fst⟩
 ·by_cases e:p < zF s
  ·show yJ s.qP ((bagsD s d++[d.qE])[p]!)
   rw [cat_get<|by rw [hb.1];exact e];exact (hb.2 p e).1
  ·obtain rfl:p=zF s:=by omega
   show yJ s.qP ((bagsD s d++[d.qE])[zF s]!)
   rw [cat_getN hb.1];exact h.aroundOk
 ·have h0:=h.all.off p hp pH k hk
  show ((bagsD s d++[d.qE])[p]!)[k]! =0
  by_cases e:p < zF s
  ·rw [cat_get<|by rw [h.XI];exact e] at h0
   rw [cat_get<|by rw [hb.1];exact e]
   have h1:=(hb.2 p e).2 k hk
   have h2:=needS_nonpos hs (X7 hs ht) p k hk s.qB.length<|Nat.le_refl _
   have h3:=(hb.2 p e).1.get (k:=k)<|by rw [(hb.2 p e).1.len];exact hk
   omega
  ·obtain rfl:p=zF s:=by omega
   rw [cat_getN h.XI] at h0
   rwa [cat_getN hb.1]
theorem addTab_rows {c:yLL} (hb:PutOk s own j b) (hc:PutOk s own j c):(Qr b c).length=zF s+1/\∀ p,p < zF s+1->((Qr b c)[p]!).length=vP s/\∀ k,k < vP s->((Qr b c)[p]!)[k]! =(b[p]!)[k]! +(c[p]!)[k]! :=by
 have hl:(Qr b c).length=zF s+1:=by unfold Qr;rw [Vs];exact hb.len
 refine ⟨hl,fun p hp=>?_⟩
 have e:(Qr b c)[p]! =vS (b[p]!) (c[p]!) 1:=addTabTo_get<|by rw [hb.len];exact hp
 rw [e]
 refine ⟨by rw [Qq];exact (hb.bag p hp).len,fun k hk=>?_⟩
 rw [plus_get<|by rw [(hb.bag p hp).len];exact hk];omega
theorem addTab_ok (hs:yK s) {c:yLL} (hb:PutOk s own j b) (hc:PutOk s own j c) (ha:yH (Qr b c) (Qr b c).length):PutOk s own j (Qr b c):=by
 have h:=addTab_rows hb hc
 refine ⟨h.1,fun p hp=>?_,fun p hp pH k hk=>?_⟩
 ·have h1:=ha p (by rw [h.1];exact hp)
  exact ⟨h1,by have:=kindsN_eq hs;have:=(h.2 p hp).1;omega⟩
 ·rw [(h.2 p hp).2 k hk,hb.off p hp pH k hk,hc.off p hp pH k hk];rfl
theorem take_cat (h:b.length=zF s+1):b.take (zF s)++[b[zF s]!]=b:=by
 have e:b[zF s]! =b[zF s]'(by omega):=getElem!_pos b _ qf
 rw [e,← List.take_succ_eq_append_getElem qf]
 exact List.take_of_length_le qf
theorem nextD_ok (hg:Giv s own n) (h:jf s own n i d) (hw:d.qQ=true) (ha:yH (sumD d) (sumD d).length):jf s own n i (nextD s d):=by
 obtain ⟨h1,h2,h3,h4⟩:=h.got hw
 have hp:PutOk s own i (sumD d):=addTab_ok hg.sys.1 h.all h3 ha
 refine ⟨by have:=h.rnd;show 0<=d.qN+1/\d.qN+1<=100;omega,?_,fun e=>by simp [nextD] at e,fun _=>h4,fun _=>⟨rfl,rfl,rfl⟩,fun e=>by have:=h.rnd;have e:d.qN+1=0:=e;omega⟩
 show PutOk s own i ((sumD d).take (zF s)++[(sumD d)[zF s]!])
 rw [take_cat hp.len];exact hp
theorem gotD_ok (hg:Giv s own n) {p:zk} (hp:ParcelOk s own n p) (h:jf s own n p.fTo.toNat d) (hw:d.qQ=true) (ha:yH (Qr d.qJ p.qG) (Qr d.qJ p.qG).length):jf s own n p.fTo.toNat (gotD d p):=by
 obtain ⟨h1,h2,h3,h4⟩:=h.got hw
 exact ⟨h.rnd,h.all,fun _=>⟨h1,by simpa [gotD] using h2,addTab_ok hg.sys.1 h3 hp.2.2.1 ha,h4⟩,h.last,(fun e=>by have e:d.qQ=false:=e;rw [hw] at e;cases e),h.fst⟩
theorem beginD_ok (hg:Giv s own n) (ht:vM s t) (i:Nat):jf s own n i (beginD s own t i):=by
 have hs:=hg.sys.1
 have hz:yJ s.qP (List.replicate (vP s) (0:Int)):=bagOk_of hs qm fun k hk=>by
  rw [getElem!_pos (List.replicate (vP s) (0:Int)) k<|by simpa using hk];simp
 have hz0:∀ k,k < vP s->(List.replicate (vP s) (0:Int))[k]! =0:=fun k hk=>by
  rw [getElem!_pos (List.replicate (vP s) (0:Int)) k<|by simpa using hk];simp
 have hl:(beginD s own t i).qG.length=zF s:=by simp [beginD]
 have hr:∀ p,p < zF s->(beginD s own t i).qG[p]! =if own[p]! =(i:Int) then t.qG[p]! else List.replicate (vP s) 0:=fun p hp=>by
  rw [getElem!_pos (beginD s own t i).qG p<|by rw [hl];exact hp];simp [beginD]
 refine ⟨by simp [beginD],⟨by simp [beginD],fun p hp=>?_,fun p hp pH k hk=>?_⟩,fun e=>by simp [beginD] at e,fun e=>by simp [beginD] at e,fun _=>⟨rfl,rfl,rfl⟩,fun _=>rfl⟩
 ·by_cases e:p < zF s
  ·rw [cat_get<|by rw [hl];exact e,hr p e]
   split
   ·exact ht.bagLen<|by rw [ht.2.1];exact e
   ·exact hz
  ·obtain rfl:p=zF s:=by omega
   rw [cat_getN hl]
   show yJ s.qP (if own[0]! =(i:Int) then t.qE else List.replicate (vP s) 0)
   split
   ·exact ht.2.2.2.1
   ·exact hz
 ·by_cases e:p < zF s
  ·rw [cat_get<|by rw [hl];exact e,hr p e,if_neg (by rw [vC,if_neg (fun x=>by have h1:own.length=zF s:=hg.len;rw [h1] at x;omega)] at pH;exact pH)]
   exact hz0 k hk
  ·obtain rfl:p=zF s:=by omega
   rw [cat_getN hl]
   show (if own[0]! =(i:Int) then t.qE else List.replicate (vP s) 0)[k]! =0
   rw [if_neg (by rw [vC,if_pos hg.len.symm] at pH;exact pH)]
   exact hz0 k hk
theorem srvIn_iff (h:Vu s own n v) {i:Int}:SrvIn v i<->0<=i/\i < n:=by unfold SrvIn;rw [h.len];omega
theorem set_srv {l:List zA} {x:zA} (hi:i < l.length):(l.set i x)[j]! =if j=i then x else l[j]! :=getset hi
theorem Vu.desk (h:Vu s own n v) (hd:jf s own n i d):Vu s own n (Xe v i d):=by
 refine ⟨by simp [Xe,h.len],fun j hj=>?_,h.few,h.wire⟩
 by_cases hi:i < n
 ·show jf s own n j ((v.qF.set i { v.qF[i]! with qC:=d })[j]!).qC/\jf s own n j ((v.qF.set i { v.qF[i]! with qC:=d })[j]!).qH
  rw [set_srv<|by rw [h.len];exact hi]
  split
  ·rename_i e;subst e;exact ⟨hd,(h.srv j hj).2⟩
  ·exact h.srv j hj
 ·show jf s own n j ((v.qF.set i { v.qF[i]! with qC:=d })[j]!).qC/\jf s own n j ((v.qF.set i { v.qF[i]! with qC:=d })[j]!).qH
  rw [List.set_eq_of_length_le<|by rw [h.len];omega]
  exact h.srv j hj
theorem Vu.saved (h:Vu s own n v) (hi:i < n) (hd:jf s own n i d):Vu s own n (putSaved v i d):=by
 refine ⟨by simp [putSaved,h.len],fun j hj=>?_,h.few,h.wire⟩
 show jf s own n j ((v.qF.set i { v.qF[i]! with qH:=d })[j]!).qC/\jf s own n j ((v.qF.set i { v.qF[i]! with qH:=d })[j]!).qH
 rw [set_srv<|by rw [h.len];exact hi]
 split
 ·rename_i e;subst e;exact ⟨(h.srv j hj).1,hd⟩
 ·exact h.srv j hj
theorem get_cat {α:Type} [Inhabited α] {l:List α} {x:α} (hk:k < (l++[x]).length):(l++[x])[k]! =if k < l.length then l[k]! else x:=by
 rw [getElem!_pos (l++[x]) k hk,List.getElem_append]
 by_cases h:k < l.length
 ·rw [dif_pos h,if_pos h,getElem!_pos l k h]
 ·rw [dif_neg h,if_neg h];simp
theorem Vu.post (h:Vu s own n v) {p:zk} (hp:ParcelOk s own n p) (hf:v.zu.length≠12):Vu s own n { v with zu:=v.zu++[p]}:=by
 refine ⟨h.len,h.srv,by have:=h.few;simp;omega,fun k hk=>?_⟩
 show ParcelOk s own n ((v.zu++[p])[k]!)
 rw [get_cat hk]
 split
 ·exact h.wire k ql
 ·exact hp
theorem erase_get {α:Type} [Inhabited α] {l:List α} (hk:k < (l.eraseIdx i).length):∃ j,j < l.length/\(l.eraseIdx i)[k]! =l[j]! :=by
 have h1:=List.getElem_mem hk
 rw [getElem!_pos (l.eraseIdx i) k hk]
 obtain ⟨j,hj,e⟩:=List.getElem_of_mem ((List.eraseIdx_sublist l i).subset h1)
 exact ⟨j,hj,by rw [getElem!_pos l j hj,e]⟩
theorem Vu.drop (h:Vu s own n v) (i:Nat):Vu s own n { v with zu:=v.zu.eraseIdx i }:=by
 refine ⟨h.len,h.srv,by have:=h.few;have:=(List.eraseIdx_sublist v.zu i).length_le;show (v.zu.eraseIdx i).length<=12;omega,fun k hk=>?_⟩
 obtain ⟨j,hj,e⟩:=erase_get hk
 show ParcelOk s own n ((v.zu.eraseIdx i)[k]!)
 rw [e];exact h.wire j hj
theorem comeM_ok (hg:Giv s own n) (h:Vu s own n v) {p:zk} (hp:ParcelOk s own n p):Vu s own n (comeM v p).1:=by
 unfold comeM
 split
 ·exact h
 ·rename_i h1
  have hw:(v.qF[p.fTo.toNat]!).qC.qQ=true:=by
   cases e:(v.qF[p.fTo.toNat]!).qC.qQ with
   | true=>rfl
   | false=>exact absurd (.inl e) h1
  split
  ·exact h.desk<|gotD_ok hg hp (h.srv _ (by have:=hp.2.1;omega)).1 hw ql
  ·exact h
theorem doM_ok (hg:Giv s own n) (h:Vu s own n v) {d:xm} (hd:DeedOk d):Vu s own n (doM s own v d).1:=by
 unfold doM
 split
 ·unfold sendM
  split
  ·exact h
  ·rename_i h1
   have ha:SrvIn v d.fA:=Classical.byContradiction fun x=>h1<|.inl x
   have hb:SrvIn v d.fB:=Classical.byContradiction fun x=>h1<|.inr<|.inl x
   rw [srvIn_iff h] at ha hb
   have ia:=(h.srv d.fA.toNat qf)
   split
   ·split
    ·exact h
    ·split
     ·exact h
     ·rename_i h2 h3
      have sv:QQ (v.qF[d.fA.toNat]!):=Classical.byContradiction h2
      have:=(ia.2.got sv.2).2.2.2.2 d.fB.toNat qf
      exact h.post ⟨ha,hb,this,ia.1.rnd⟩ h3
   ·split
    ·exact h
    ·split
     ·exact h
     ·rename_i h2 h3
      have:=(ia.1.last (by have:=ia.1.rnd;omega)).2 d.fB.toNat qf
      exact h.post ⟨ha,hb,this,by have:=ia.1.rnd;show 0<=(v.qF[d.fA.toNat]!).qC.qN - 1/\(v.qF[d.fA.toNat]!).qC.qN - 1<=100;omega⟩ h3
 ·split
  ·unfold wireM
   split
   ·exact h
   ·rename_i h1
    have hc:=comeM_ok hg h<|h.wire d.fA.toNat (by have:=hd.2.1;omega)
    by_cases e8:d.xE=8
    ·simp only [e8,if_pos]
     exact h.drop _
    ·simp only [if_neg e8]
     split
     ·exact hc
     ·split
      ·exact hc
      ·exact hc.drop _
  ·split
   ·exact h
   ·rename_i h1
    have ha:SrvIn v d.fA:=Classical.byContradiction h1
    rw [srvIn_iff h] at ha
    have ia:=(h.srv d.fA.toNat qf)
    split
    ·unfold workM
     split
     ·exact h
     ·split
      ·exact h
      ·split
       ·rw [h.len] at *
        exact h.desk<|workD_ok hg ia.1 qf ql ql
       ·exact h
    ·split
     ·unfold Qy
      split
      ·exact h
      ·rename_i h2
       have hw:=Classical.byContradiction h2
       split
       ·exact h.desk<|nextD_ok hg ia.1 hw.1 ql
       ·exact h
     ·split
      ·exact h.saved qf ia.1
      ·exact h.desk ia.2
theorem begin_ok (hg:Giv s own n) (ht:vM s t):Vu s own n (qW s own t n):=by
 refine ⟨by simp [qW,QB],fun i hi=>?_,by simp [qW],fun k hk=>by simp [qW] at hk⟩
 have e:(qW s own t n).qF[i]! =⟨beginD s own t i,beginD s own t i⟩:=by
  show (QB s own t n)[i]! =_
  rw [getElem!_pos (QB s own t n) i<|by simpa [QB] using hi];simp [QB]
 rw [e]
 exact ⟨beginD_ok hg ht i,beginD_ok hg ht i⟩
theorem run_ok (hg:Giv s own n) {v:zQ} (h:Vu s own n v) {l:List xm} (hl:∀ k,k < l.length->DeedOk (l[k]!)):∀ k,k<=l.length->Vu s own n (xF s own v l k).1
 | 0,_=>h
 | k+1,hk=>doM_ok hg (run_ok hg h hl k qf)<|hl k qf
theorem run_cnt (s:qM) (own:yLI) (v:zQ) (l:List xm):∀ k,0<=(xF s own v l k).2/\(xF s own v l k).2<=k
 | 0=>by simp [xF]
 | k+1=>by
  have:=run_cnt s own v l k
  simp only [xF]
  split <;> omega
end
section
variable {s : qM} {own : yLI} {n : Nat}
def yF (s:qM) (counts:yLI) (cell:Int):Nat->yLI
 | 0=>List.replicate s.qP.toNat 0
 | i+1=>if (s.qB[i]!).qX=cell/\counts[i]! ≠0 then vS (yF s counts cell i) (s.qB[i]!).zT (counts[i]!) else yF s counts cell i
theorem took_yes {counts:yLI} {cell:Int} (h:(s.qB[i]!).qX=cell) (h1:counts[i]! ≠0):yF s counts cell (i+1)=vS (yF s counts cell i) (s.qB[i]!).zT (counts[i]!):=by rw [yF,if_pos ⟨h,h1⟩]
theorem took_no {counts:yLI} {cell:Int} (h:¬ ((s.qB[i]!).qX=cell/\counts[i]! ≠0)):yF s counts cell (i+1)=yF s counts cell i:=by rw [yF,if_neg h]
theorem took_len (counts:yLI) (cell:Int):∀ i,(yF s counts cell i).length=vP s
 | 0=>by simp [yF,vP]
 | i+1=>by
  rw [yF]
  split
  ·rw [Qq];exact took_len counts cell i
  ·exact took_len counts cell i
theorem took_get {counts:yLI} (hs:QC s) {p:Nat} {q:Nat} (hq:q < vP s):∀ i,i<=s.qB.length->(yF s counts (p:Int) i)[q]! = -(needS s counts i p q)
 | 0,_=>by
  rw [yF,getElem!_pos (List.replicate s.qP.toNat (0:Int)) q<|by simpa [vP] using hq];simp [needS]
 | i+1,hi=>by
  have ih:=took_get (counts:=counts) hs (p:=p) hq i qf
  have hc:=(hs.rule (i:=i) qf).1
  have hn:=(hs.rule (i:=i) qf).2.2.2.2.1
  simp only [needS,needF,at']
  rw [yF]
  by_cases h:(s.qB[i]!).qX=(p:Int)
  ·have e:p=(s.qB[i]!).qX.toNat:=by omega
   rw [if_pos e]
   by_cases h1:counts[i]! ≠0
   ·rw [if_pos ⟨h,h1⟩,plus_get<|by rw [took_len];exact hq,ih,Int.neg_mul];omega
   ·have h2:counts[i]! =0:=Classical.byContradiction h1
    rw [if_neg<|fun x=>h1 x.2,ih,h2];simp
  ·rw [if_neg<|fun x=>h x.1,if_neg (by have:=hc.1;omega),ih];omega
noncomputable def jD (s:qM) (own:yLI) (d:zn) (i:Int):Nat->yLL
 | 0=>d.qG
 | c+1=>if own[c]! =i then (jD s own d i c).set c (vS ((jD s own d i c)[c]!) (yF s (xw s<|viewD s d) (c:Int) s.qB.length) (-1)) else jD s own d i c
theorem sBags_yes {i:Int} (h:own[c]! =i):jD s own d i (c+1)=(jD s own d i c).set c (vS ((jD s own d i c)[c]!) (yF s (xw s<|viewD s d) (c:Int) s.qB.length) (-1)):=by rw [jD,if_pos h]
theorem sBags_no {i:Int} (h:own[c]! ≠i):jD s own d i (c+1)=jD s own d i c:=by rw [jD,if_neg h]
theorem sBags_len {d:zn} {i:Int}:∀ c,(jD s own d i c).length=d.qG.length
 | 0=>rfl
 | c+1=>by
  rw [jD]
  split
  ·rw [List.length_set];exact sBags_len c
  ·exact sBags_len c
theorem sBags_at {d:zn} {i:Int} {p:Nat}:∀ c,c<=d.qG.length->(jD s own d i c)[p]! =if p < c/\own[p]! =i then vS (d.qG[p]!) (yF s (xw s<|viewD s d) (p:Int) s.qB.length) (-1) else d.qG[p]!
 | 0,_=>by rw [jD,if_neg qf]
 | c+1,hc=>by
  have ih:=fun p=>sBags_at (d:=d) (i:=i) (p:=p) c qf
  by_cases h:own[c]! =i
  ·rw [sBags_yes h,getset<|by rw [sBags_len];omega]
   by_cases e:p=c
   ·subst e
    rw [if_pos rfl,if_pos ⟨by omega,h⟩,ih p,if_neg qf]
   ·rw [if_neg e,ih p]
    by_cases h2:p < c/\own[p]! =i
    ·rw [if_pos h2,if_pos ⟨by omega,h2.2⟩]
    ·rw [if_neg h2,if_neg<|fun x=>h2 ⟨by omega,x.2⟩]
  ·rw [sBags_no h,ih p]
   by_cases h2:p < c/\own[p]! =i
   ·rw [if_pos h2,if_pos ⟨by omega,h2.2⟩]
   ·rw [if_neg h2,if_neg (fun x=>h2 ⟨by
     have:p≠c:=fun e=>h (e▸x.2)
     omega,x.2⟩)]
theorem sBags_row (hg:Giv s own n) (h:jf s own n i d) (hc:c < zF s):((jD s own d i c)[c]!).length=vP s/\Mid ((jD s own d i c)[c]!):=by
 have e:(jD s own d (i:Int) c)[c]! =d.qG[c]! :=by rw [sBags_at c<|by rw [h.XI];omega,if_neg qf]
 rw [e]
 have hb:=h.bagAt hc
 exact ⟨hb.len,(jc hb).mid⟩
theorem tookOk (hg:Giv s own n) (h:jf s own n i d) (c:Nat):XV (yF s (xw s<|viewD s d) (c:Int) s.qB.length) (-1):=fun q hq=>by
 rw [took_len] at hq
 have ht:=h.view hg.sys.1
 rw [took_get hg.sys hq _<|Nat.le_refl _]
 have h1:=needS_nonpos hg.sys (X7 hg.sys ht) c q hq s.qB.length<|Nat.le_refl _
 by_cases hc:c < zF s
 ·have hb:=(bagsD_rows hg h).2 c hc
  have h2:=hb.2 q hq
  have h3:=hb.1.get (k:=q)<|by rw [hb.1.len];exact hq
  have h4:=(h.bagAt hc).get (k:=q)<|by rw [(h.bagAt hc).len];exact hq
  omega
 ·have:∀ k,k<=s.qB.length->needS s (xw s<|viewD s d) k c q=0:=by
   intro k
   induction k with
   | zero=>intro _;rfl
   | succ k ih=>
    intro hk
    have hr:=(hg.sys.rule (i:=k) qf).cell
    simp only [needS,needF,at']
    rw [ih qf,if_neg (fun e=>by rw [e] at hc;exact hc hr)];rfl
  rw [this _<|Nat.le_refl _];omega
theorem sBags_end (hg:Giv s own n) (h:jf s own n i d):jD s own d i (zF s)=bagsD s d:=by
 have hb:=bagsD_rows hg h
 have ht:=h.view hg.sys.1
 refine ext_get (by rw [sBags_len,hb.1,h.XI]) fun p hp=>?_
 rw [sBags_len,h.XI] at hp
 have wX :p < zF s:=hp
 rw [sBags_at (zF s)<|by rw [h.XI];exact Nat.le_refl _]
 have hl:=(h.bagAt wX).len
 by_cases e:own[p]! =(i:Int)
 ·rw [if_pos ⟨wX,e⟩]
  refine ext_get (by rw [Qq,hl,(hb.2 p wX).1.len]) fun q hq=>?_
  rw [Qq,hl] at hq
  rw [plus_get<|by rw [hl];exact hq,took_get hg.sys hq _<|Nat.le_refl _,(hb.2 p wX).2 q hq];omega
 ·rw [if_neg<|fun x=>e x.2]
  refine ext_get (by rw [hl,(hb.2 p wX).1.len]) fun q hq=>?_
  rw [hl] at hq
  have h0:=h.all.off p qf (by rw [vC,if_neg (fun x=>by have h1:own.length=zF s:=hg.len;rw [h1] at x;omega)];exact e) q hq
  rw [cat_get<|by rw [h.XI];exact wX] at h0
  have h1:=(hb.2 p wX).2 q hq
  have h2:=needS_nonpos hg.sys (X7 hg.sys ht) p q hq s.qB.length<|Nat.le_refl _
  have h3:=(hb.2 p wX).1.get (k:=q)<|by rw [(hb.2 p wX).1.len];exact hq
  omega
def Xt (l m:yLL) (c:Nat):yLL:=(List.range l.length).map fun j=>if j < c then vS (l[j]!) (m[j]!) 1 else l[j]!
theorem XR (l m:yLL) (c:Nat):(Xt l m c).length=l.length:=by simp [Xt]
theorem advTo_get {l m:yLL} (hj:j < l.length):(Xt l m c)[j]! =if j < c then vS (l[j]!) (m[j]!) 1 else l[j]! :=by
 rw [getElem!_pos (Xt l m c) j<|by rw [XR];exact hj];simp [Xt]
theorem advTo_zero (l m:yLL):l=Xt l m 0:=ext_get (by rw [XR]) fun j hj=>by rw [advTo_get hj,if_neg qf]
theorem advTo_set {l m:yLL} (hc:c < l.length) {x:yLI} (hx:x=vS (l[c]!) (m[c]!) 1):(Xt l m c).set c x=Xt l m (c+1):=
 ext_get (by rw [List.length_set,XR,XR]) fun j hj=>by
  rw [List.length_set,XR] at hj
  rw [getset<|by rw [XR];exact hc,advTo_get hj,advTo_get hj]
  by_cases e:j=c
  ·rw [if_pos e,if_pos qf,hx,e]
  ·rw [if_neg e]
   by_cases h:j < c
   ·rw [if_pos h,if_pos qf]
   ·rw [if_neg h,if_neg qf]
theorem sum_adv (hb:d.qG.length=zF s):sumD d=Xt d.qG d.qJ (zF s)++[vS d.qE (d.qJ[zF s]!) 1]:=by
 have hl:(sumD d).length=zF s+1:=by unfold sumD Qr;rw [Vs];simp [hb]
 refine ext_get (by rw [hl];simp [XR,hb]) fun j hj=>?_
 rw [hl] at hj
 have e:(sumD d)[j]! =vS ((d.qG++[d.qE])[j]!) (d.qJ[j]!) 1:=addTabTo_get<|by simp [hb];exact hj
 rw [e,get_cat<|by rw [List.length_append,hb];exact hj,get_cat<|by rw [List.length_append,XR,hb];exact hj,XR,hb]
 by_cases h:j < zF s
 ·rw [if_pos h,if_pos h,advTo_get<|by rw [hb];exact h,if_pos h]
 ·obtain rfl:j=zF s:=by omega
  rw [if_neg h,if_neg h]
theorem nextD_adv (hb:d.qG.length=zF s):nextD s d=⟨d.qN+1,Xt d.qG d.qJ<|zF s,vS d.qE (d.qJ[zF s]!) 1,false,[],[],[],d.vJ⟩:=by
 have hl:(Xt d.qG d.qJ<|zF s).length=zF s:=by rw [XR,hb]
 unfold nextD
 rw [sum_adv hb,cat_getN hl,List.take_left' hl]
theorem allBags_cat:yH (b++[a]) (b++[a]).length<->yH b b.length/\BagAny a:=by
 constructor
 ·intro h
  refine ⟨fun j hj=>?_,?_⟩
  ·have:=h j qy
   rwa [cat_get hj] at this
  ·have:=h b.length qm
   rwa [cat_getN rfl] at this
 ·rintro ⟨h1,h2⟩ j hj
  rw [get_cat hj]
  split
  ·exact h1 j ql
  ·exact h2
def Sm2 (l:yLL):Prop:=l.length<=1000000/\∀ k,k < l.length->(l[k]!).length<=1000000
def Sm3 (l:List yLL):Prop:=l.length<=1000000/\∀ k,k < l.length->Sm2 (l[k]!)
structure SmD (d:zn):Prop where
 bags:Sm2 d.qG
 around:d.qE.length<=1000000
 got:d.vz.length<=1000000
 coming:Sm2 d.qJ
 now:Sm3 d.vJ
 last:Sm3 d.xP
theorem Sm2.nil:Sm2 []:=⟨by simp,fun k hk=>by simp at hk⟩
theorem Sm3.nil:Sm3 []:=⟨by simp,fun k hk=>by simp at hk⟩
theorem PutOk.small (hs:QC s) (h:PutOk s own j b):Sm2 b:=by
 have hk:=XG hs
 have hc:=hs.1.2.1
 refine ⟨by have:=h.len;have:zF s=s.qA.length:=rfl;omega,fun k Bh =>?_⟩
 have:=(h.bag k (by have:=h.len;omega)).len
 omega
theorem PutsOk.small {m:List yLL} (hs:QC s) (hn:n<=4) (h:PutsOk s own n m):Sm3 m:=⟨by have:=h.1;omega,fun k hk=>(h.2 k (by have:=h.1;omega)).small hs⟩
theorem jf.small {i:Nat} {d:zn} (hg:Giv s own n) (h:jf s own n i d):SmD d:=by
 have hk:=XG hg.sys
 have hc:=hg.sys.1.2.1
 have hn:=hg.few
 refine ⟨⟨by have:=h.XI;have:zF s=s.qA.length:=rfl;omega,fun k Bh =>?_⟩,?_,?_,?_,?_,?_⟩
 ·have:=(h.bagAt (p:=k)<|by rw [← h.XI];exact Bh).len;omega
 ·have:=h.aroundOk.len;omega
 ·cases e:d.qQ with
  | true=>have:=(h.got e).2.1;omega
  | false=>rw [(h.rest e).1];simp
 ·cases e:d.qQ with
  | true=>exact (h.got e).2.2.1.small hg.sys
  | false=>rw [(h.rest e).2.1];exact Sm2.nil
 ·cases e:d.qQ with
  | true=>exact (h.got e).2.2.2.small hg.sys hn
  | false=>rw [(h.rest e).2.2];exact Sm3.nil
 ·by_cases e:0 < d.qN
  ·exact (h.last e).small hg.sys hn
  ·rw [h.fst (by have:=h.rnd;omega)];exact Sm3.nil
theorem desk_last {a b:zn} (h1:a.qN=b.qN) (h2:a.qQ=b.qQ) (h3:a.vz=b.vz) (h4:a.qE=b.qE) (h5:a.qG=b.qG) (h6:a.qJ=b.qJ) (h7:a.vJ=b.vJ):decide (a.xP=b.xP)=decide (a=b):=by
 by_cases h:a.xP=b.xP
 ·rw [decide_eq_true h,decide_eq_true<|by cases a;cases b;simp_all]
 ·rw [decide_eq_false h,decide_eq_false<|fun e=>h<|by rw [e]]
variable {v : zQ} {d : xm}
theorem three {a b c:Prop} (h:a/\b/\¬ c):¬ (¬ a\/¬ b\/c):=by
 rintro (x | x | x)
 ·exact x h.1
 ·exact x h.2.1
 ·exact h.2.2 x
theorem do_send (h:d.xE=3\/d.xE=4):doM s own v d=sendM v d:=by rw [doM,if_pos h]
theorem do_wire (h:d.xE=6\/d.xE=7\/d.xE=8):doM s own v d=wireM v d:=by rw [doM,if_neg qf,if_pos h]
theorem do_range (h:¬ (d.xE=3\/d.xE=4)) (h1:¬ (d.xE=6\/d.xE=7\/d.xE=8)) (h2:¬ SrvIn v d.fA):doM s own v d=(v,2):=by rw [doM,if_neg h,if_neg h1,if_pos h2]
theorem do_work (h:d.xE=1) (h2:SrvIn v d.fA):doM s own v d=workM s own v d.fA.toNat:=by rw [doM,if_neg qf,if_neg qf,if_neg<|fun x=>x h2,if_pos h]
theorem do_advance (h:d.xE=5) (h2:SrvIn v d.fA):doM s own v d=Qy s v d.fA.toNat:=by rw [doM,if_neg qf,if_neg qf,if_neg<|fun x=>x h2,if_neg qf,if_pos h]
theorem do_save (h:d.xE=2) (h2:SrvIn v d.fA):doM s own v d=(putSaved v d.fA.toNat (v.qF[d.fA.toNat]!).qC,0):=by rw [doM,if_neg qf,if_neg qf,if_neg<|fun x=>x h2,if_neg qf,if_neg qf,if_pos h]
theorem do_crash (h:d.xE=9) (h2:SrvIn v d.fA):doM s own v d=(Xe v d.fA.toNat (v.qF[d.fA.toNat]!).qH,0):=by rw [doM,if_neg qf,if_neg qf,if_neg<|fun x=>x h2,if_neg qf,if_neg qf,if_neg qf]
theorem send_range (h:¬ SrvIn v d.fA\/¬ SrvIn v d.fB\/d.fA=d.fB):sendM v d=(v,2):=by rw [sendM,if_pos h]
theorem send_post0 (h:SrvIn v d.fA/\SrvIn v d.fB/\d.fA≠d.fB) (h1:d.xE=3) (h2:¬ QQ (v.qF[d.fA.toNat]!)):sendM v d=(v,4):=by rw [sendM,if_neg<|three h,if_pos h1,if_pos h2]
theorem send_post1 (h:SrvIn v d.fA/\SrvIn v d.fB/\d.fA≠d.fB) (h1:d.xE=3) (h2:QQ (v.qF[d.fA.toNat]!)) (h3:v.zu.length=12):sendM v d=(v,3):=by rw [sendM,if_neg<|three h,if_pos h1,if_neg<|fun x=>x h2,if_pos h3]
theorem send_post2 (h:SrvIn v d.fA/\SrvIn v d.fB/\d.fA≠d.fB) (h1:d.xE=3) (h2:QQ (v.qF[d.fA.toNat]!)) (h3:v.zu.length≠12):sendM v d=({ v with zu:=v.zu++[⟨(v.qF[d.fA.toNat]!).qC.qN,d.fA,d.fB,((v.qF[d.fA.toNat]!).qH.vJ)[d.fB.toNat]!⟩]},0):=by rw [sendM,if_neg<|three h,if_pos h1,if_neg<|fun x=>x h2,if_neg h3]
theorem send_back0 (h:SrvIn v d.fA/\SrvIn v d.fB/\d.fA≠d.fB) (h1:d.xE≠3) (h2:(v.qF[d.fA.toNat]!).qC.qN=0):sendM v d=(v,4):=by rw [sendM,if_neg<|three h,if_neg h1,if_pos h2]
theorem send_back1 (h:SrvIn v d.fA/\SrvIn v d.fB/\d.fA≠d.fB) (h1:d.xE≠3) (h2:(v.qF[d.fA.toNat]!).qC.qN≠0) (h3:v.zu.length=12):sendM v d=(v,3):=by rw [sendM,if_neg<|three h,if_neg h1,if_neg h2,if_pos h3]
theorem send_back2 (h:SrvIn v d.fA/\SrvIn v d.fB/\d.fA≠d.fB) (h1:d.xE≠3) (h2:(v.qF[d.fA.toNat]!).qC.qN≠0) (h3:v.zu.length≠12):sendM v d=({ v with zu:=v.zu++[⟨(v.qF[d.fA.toNat]!).qC.qN - 1,d.fA,d.fB,((v.qF[d.fA.toNat]!).qC.xP)[d.fB.toNat]!⟩]},0):=by rw [sendM,if_neg<|three h,if_neg h1,if_neg h2,if_neg h3]
variable {i : Nat}
theorem work_4 (h:(v.qF[i]!).qC.qQ=true):workM s own v i=(v,4):=by rw [workM,if_pos h]
theorem work_3 (h:¬ (v.qF[i]!).qC.qQ=true) (h1:(v.qF[i]!).qC.qN=100):workM s own v i=(v,3):=by rw [workM,if_neg h,if_pos h1]
theorem work_no (h:¬ (v.qF[i]!).qC.qQ=true) (h1:(v.qF[i]!).qC.qN≠100) (h2:¬ AllB3 (nowD s own v.qF.length i (v.qF[i]!).qC) v.qF.length):workM s own v i=(v,3):=by rw [workM,if_neg h,if_neg h1,if_neg h2]
theorem work_0 (h:¬ (v.qF[i]!).qC.qQ=true) (h1:(v.qF[i]!).qC.qN≠100) (h2:AllB3 (nowD s own v.qF.length i (v.qF[i]!).qC) v.qF.length):workM s own v i=(Xe v i<|workD s own v.qF.length i (v.qF[i]!).qC,0):=by rw [workM,if_neg h,if_neg h1,if_pos h2]
theorem adv_4 (h:¬ ((v.qF[i]!).qC.qQ=true/\AllGot (v.qF[i]!).qC.vz (v.qF[i]!).qC.vz.length/\QQ (v.qF[i]!))):Qy s v i=(v,4):=by rw [Qy,if_pos h]
theorem adv_3 (h:(v.qF[i]!).qC.qQ=true/\AllGot (v.qF[i]!).qC.vz (v.qF[i]!).qC.vz.length/\QQ (v.qF[i]!)) (h1:¬ yH (sumD (v.qF[i]!).qC) (sumD (v.qF[i]!).qC).length):Qy s v i=(v,3):=by rw [Qy,if_neg<|fun x=>x h,if_neg h1]
theorem adv_0 (h:(v.qF[i]!).qC.qQ=true/\AllGot (v.qF[i]!).qC.vz (v.qF[i]!).qC.vz.length/\QQ (v.qF[i]!)) (h1:yH (sumD (v.qF[i]!).qC) (sumD (v.qF[i]!).qC).length):Qy s v i=(Xe v i<|nextD s (v.qF[i]!).qC,0):=by rw [Qy,if_neg<|fun x=>x h,if_pos h1]
variable {p : zk}
theorem come_0 (h:(v.qF[p.fTo.toNat]!).qC.qQ=false\/(v.qF[p.fTo.toNat]!).qC.qN≠p.qN\/((v.qF[p.fTo.toNat]!).qC.vz)[p.XZ.toNat]! =true):comeM v p=(v,0):=by rw [comeM,if_pos h]
theorem come_3 (h:¬ ((v.qF[p.fTo.toNat]!).qC.qQ=false\/(v.qF[p.fTo.toNat]!).qC.qN≠p.qN\/((v.qF[p.fTo.toNat]!).qC.vz)[p.XZ.toNat]! =true)) (h1:¬ yH (Qr (v.qF[p.fTo.toNat]!).qC.qJ p.qG) (Qr (v.qF[p.fTo.toNat]!).qC.qJ p.qG).length):comeM v p=(v,3):=by rw [comeM,if_neg h,if_neg h1]
theorem come_1 (h:¬ ((v.qF[p.fTo.toNat]!).qC.qQ=false\/(v.qF[p.fTo.toNat]!).qC.qN≠p.qN\/((v.qF[p.fTo.toNat]!).qC.vz)[p.XZ.toNat]! =true)) (h1:yH (Qr (v.qF[p.fTo.toNat]!).qC.qJ p.qG) (Qr (v.qF[p.fTo.toNat]!).qC.qJ p.qG).length):comeM v p=(Xe v p.fTo.toNat<|gotD (v.qF[p.fTo.toNat]!).qC p,0):=by rw [comeM,if_neg h,if_pos h1]
theorem wire_2 (h:(v.zu.length:Int)<=d.fA):wireM v d=(v,2):=by rw [wireM,if_pos h]
theorem wire_drop (h:¬ (v.zu.length:Int)<=d.fA) (h1:d.xE=8):wireM v d=({ v with zu:=v.zu.eraseIdx d.fA.toNat },0):=by
 rw [wireM,if_neg h];simp only [if_pos h1];exact (if_neg qm).trans<|if_neg qf
theorem wire_no (h:¬ (v.zu.length:Int)<=d.fA) (h1:d.xE≠8) (h2:(comeM v<|v.zu[d.fA.toNat]!).2≠0):wireM v d=comeM v (v.zu[d.fA.toNat]!):=by
 rw [wireM,if_neg h];simp only [if_neg h1];exact if_pos h2
theorem wire_copy (h:¬ (v.zu.length:Int)<=d.fA) (h1:d.xE=7):wireM v d=comeM v (v.zu[d.fA.toNat]!):=by
 rw [wireM,if_neg h];simp only [if_neg<|show ¬ d.xE=8 by omega,if_pos h1]
 split <;> rfl
theorem wire_in (h:¬ (v.zu.length:Int)<=d.fA) (h1:d.xE≠8) (h2:d.xE≠7) (h3:(comeM v<|v.zu[d.fA.toNat]!).2=0):wireM v d=({ (comeM v<|v.zu[d.fA.toNat]!).1 with zu:=(comeM v<|v.zu[d.fA.toNat]!).1.zu.eraseIdx d.fA.toNat },0):=by
 rw [wireM,if_neg h];simp only [if_neg h1];exact (if_neg<|fun x=>x h3).trans<|if_neg h2
end
end
section
structure OwnI (e:TypeId) where
 l:yLI
instance (e:TypeId):Inhabited (OwnI e):=⟨⟨[]⟩⟩
def OwnAt (e:TypeId) (w:World) (F:yLN) (v:Value) (l:yLI):Prop:=
 (v=Sv none 0 0/\l=[]/\F=[])\/∃ g gY gZ,v=Sv (some ⟨g,0,none⟩) l.length gY/\F=[g]/\w.heap[g]? =some (.cells gZ e (0,0))/\l.length<=gY/\gY<=maxLen/\gZ.size=gY/\gZ.toList.take l.length=l.map (Value.int .i64)
theorem OwnAt.slice {v:Value} (h:OwnAt e w F v l):∃ a c,v=Sv a l.length c:=by
 rcases h with ⟨rfl,rfl,_⟩ | ⟨g,gY,gZ,rfl,_⟩
 ·exact ⟨none,0,rfl⟩
 ·exact ⟨_,_,rfl⟩
instance (e:TypeId):qI (OwnI e) where
 size:=1
 rep:=fun w F cs x=>∃ v,cs=[v]/\OwnAt e w F v x.l
 len:=by rintro w F cs x ⟨v,rfl,_⟩;rfl
 one:=by
  rintro w F cs x ⟨v,rfl,h⟩ u hu
  simp only [List.mem_singleton] at hu
  subst hu
  obtain ⟨a,c,rfl⟩:=h.slice
  rfl
 lt:=by
  rintro w F cs x ⟨v,rfl,h⟩ b hb
  rcases h with ⟨_,_,rfl⟩ | ⟨g,gY,gZ,_,rfl,hg,_⟩
  ·simp at hb
  ·obtain rfl:=List.mem_singleton.1 hb
   exact (Array.getElem?_eq_some_iff.1 hg).1
 stay:=by
  rintro w w' F cs x ⟨v,rfl,h⟩ hs
  refine ⟨v,rfl,?_⟩
  rcases h with h | ⟨g,gY,gZ,h1,rfl,hg,h2⟩
  ·exact Or.inl h
  ·exact Or.inr ⟨g,gY,gZ,h1,rfl,(hs g qm).trans hg,h2⟩
theorem OwnAt.rep {v:Value} (h:OwnAt e w F v l):qI.rep w F [v] l:=by
 rcases h with ⟨rfl,rfl,rfl⟩ | ⟨g,gY,gZ,rfl,rfl,hg,h1,h2,h3,h4⟩
 ·exact ⟨none,0,rfl,by simp,Or.inl ⟨rfl,rfl⟩⟩
 ·refine ⟨_,gY,rfl,by unfold maxLen at h2;omega,Or.inr ⟨g,0,[],_,rfl,rfl,(Array.getElem?_eq_some_iff.1 hg).1,reps_of_ints w l,?_⟩⟩
  intro i u hi
  rw [Nat.zero_add,World.cell?,hg]
  rw [← h4,List.getElem?_take] at hi
  split at hi
  ·simpa using hi
  ·cases hi
section
variable {W0 w : World} {ps : List Prv} {Γ : List Fact}
end
section
variable {P : Program} {Q : Exit -> Act -> World -> Prop} {n : Nat} {ρ : Env} {W0 w : World} {ps : List Prv} {Γ : List Fact}
 {d:Nat} {ty:TypeId} {pos:String} {af:Array Edge} {K:Env->World->Prop}
end
section
variable {α : Type}
def pickL (l:List α) (n:Nat) (is:yLN):List α:=(is.filterMap fun i=>l[i]?)++l.drop n
def pickI (len n:Nat) (is:yLN):yLN:=is++(List.range<|len - n).map (·+n)
theorem pickI_map (l:List α) (n:Nat) (is:yLN) (h:is.all (fun i=>Nat.blt i n)=true) (hn:n<=l.length):(pickI l.length n is).map (fun i=>l[i]?)=(pickL l n is).map some:=by
 unfold pickI pickL
 rw [List.map_append,List.map_append]
 congr 1
 ·refine XM l is ?_
  rw [List.all_eq_true] at h ⊢
  intro i hi
  have:=h i hi
  simp only [Nat.blt_eq] at this ⊢
  omega
 ·apply List.ext_getElem?
  intro i
  rcases Nat.lt_or_ge i (l.length - n) with h1 | h1
  ·simp [h1,Nat.add_comm]
  ·simp [h1]
theorem pickI_nodup (len n:Nat) (is:yLN) (h:is.all (fun i=>Nat.blt i n)=true) (hd:is.Nodup):(pickI len n is).Nodup:=by
 unfold pickI
 refine List.nodup_append.2 ⟨hd,?_,?_⟩
 ·exact List.Pairwise.map _ (fun a b (hab:a≠b)=>by omega) List.nodup_range
 ·intro a ha b hb
  rw [List.all_eq_true] at h
  have:=h a ha
  simp only [Nat.blt_eq] at this
  obtain ⟨c,_,rfl⟩:=List.mem_map.1 hb
  omega
end
section
variable {W0 w : World} {ps : List Prv} {Γ : List Fact}
theorem St.qY (H:St W0 w ps Γ) (n m:Nat) (is js:yLN) (hn:n<=ps.length) (hm:m<=Γ.length) (hi:is.all (fun i=>Nat.blt i n)=true:=by exact rfl) (hj:js.all (fun i=>Nat.blt i m)=true:=by exact rfl) (hd:is.Nodup:=by decide):
 St W0 w (pickL ps n is) (pickL Γ m js):=
 H.pick (pickI ps.length n is) (pickI Γ.length m js) (pickI_map ps n is hi hn) (pickI_map Γ m js hj hm) (pickI_nodup _ _ _ hi hd)
theorem St.yw {oT :List Prv} {Γ' :List Fact} (H:St W0 w ps Γ) (n m:Nat) (is js:yLN) (hn:n<=ps.length) (hm:m<=Γ.length)
 (hp:pickL ps n is=oT :=by simp only [pickL,List.filterMap_cons,List.filterMap_nil,List.getElem?_cons_zero,List.getElem?_cons_succ,List.drop_succ_cons,List.drop_zero,List.cons_append,List.nil_append];exact rfl)
 (hg:pickL Γ m js=Γ' :=by simp only [pickL,List.filterMap_cons,List.filterMap_nil,List.getElem?_cons_zero,List.getElem?_cons_succ,List.drop_succ_cons,List.drop_zero,List.cons_append,List.nil_append];exact rfl)
 (hi:is.all (fun i=>Nat.blt i n)=true:=by exact rfl) (hj:js.all (fun i=>Nat.blt i m)=true:=by exact rfl) (hd:is.Nodup:=by decide):St W0 w oT Γ' :=hp▸hg▸H.qY n m is js hn hm hi hj hd
theorem Fresh.qY {B:Nat} (N:Fresh B L) (n:Nat) (is:yLN) (hn:n<=L.length) (hi:is.all (fun i=>Nat.blt i n)=true:=by exact rfl) (hd:is.Nodup:=by decide):Fresh B (pickL L n is):=
 N.pick (pickI L.length n is) (pickI_map L n is hi hn) (pickI_nodup _ _ _ hi hd)
def Kept (Ns:List yLN) (Γ:List Fact):Prop:=∀ F∈Ns,∃ f∈Γ,f.F=F
theorem Kept.up (h:Kept Ns Γ) (f:Fact):Kept Ns (f::Γ):=fun F hF=>by
 obtain ⟨g,h1,h2⟩:=h F hF
 exact ⟨g,List.mem_cons_of_mem _ h1,h2⟩
theorem Kept.behind (h:Kept Ns Γ) (m:Nat) (e:Γ'.drop m=Γ):Kept Ns Γ' :=fun F hF=>by
 obtain ⟨g,h1,h2⟩:=h F hF
 exact ⟨g,List.mem_of_mem_drop<|e▸h1,h2⟩
theorem Kept.nil (Γ:List Fact):Kept [] Γ:=fun F hF=>by cases hF
theorem Kept.cons (h:Kept Ns Γ) (i:Nat) {f:Fact} (hf:Γ[i]? =some f) (e:f.F=F):Kept (F::Ns) Γ:=fun G hG=>by
 rcases List.mem_cons.1 hG with rfl | hG
 ·exact ⟨f,List.mem_of_getElem? hf,e⟩
 ·exact h G hG
theorem St.ltK (H:St W0 w ps Γ) (h:Kept Ns Γ):∀ F∈Ns,∀ b∈F,b < w.heap.size:=fun F hF b hb=>by
 obtain ⟨f,h1,h2⟩:=h F hF
 exact ((H.facts f h1).2 b<|h2▸hb).1
theorem St.jH (H:St W0 w ps Γ) (h:Kept Ns Γ):∀ F∈Ns,∀ b∈F,∀ i,yL ps i≠some b:=fun F hF b hb=>by
 obtain ⟨f,h1,h2⟩:=h F hF
 exact ((H.facts f h1).2 b<|h2▸hb).2
theorem jB {M:List yLN} {p:Nat->Prop} (h1:∀ F∈L,∀ b∈F,p b) (h2:∀ F∈M,∀ b∈F,p b):∀ F∈L++M,∀ b∈F,p b:=fun F hF b hb=>
 (List.mem_append.1 hF).elim (fun h=>h1 F h b hb) fun h=>h2 F h b hb
end
theorem c_drawK2 [Dfr] {Q:Exit->Act->World->Prop} {W0:World} {ps:List Prv} {l:List Oper} {id:Nat} (hm:P.follows .mixedOrders=true) (H:St W0 w ps Γ) (is js:yLN)
 (k:St W0 w.drew ps Γ->RW P l Q (fun w=>St W0 w (is.filterMap fun i=>ps[i]?)<|js.filterMap fun i=>Γ[i]?) n l.toArray.size (Array.replicate l.toArray.size false) ρ w.drew)
 (hi:is.all (fun i=>Nat.blt i ps.length)=true:=by simp) (hj:js.all (fun i=>Nat.blt i Γ.length)=true:=by simp) (hd:is.Nodup:=by decide):(Code.region id l.toArray true).wp P Q (mk n ρ) w:=by
 have H' :=H.ext<|ext_drew _
 exact c_draw (fun w=>St W0 w (is.filterMap fun i=>ps[i]?)<|js.filterMap fun i=>Γ[i]?) hm (H'.pick is js (XM ps is hi) (XM Γ js hj) hd)<|k H'
theorem zy [Dfr] {Q:Exit->Act->World->Prop} {d:Nat} {ty:TypeId} {pos:String} {af:Array Edge} {K:Env->World->Prop} {x:Operand} {xs:Array Operand} {ts:Array TypeId} {f:FuncId} {fst om:Array Value} {R:Value->World->Prop} (args:Array Value) (hv:ev n ρ x=.func (.func f) fst om)
 (nk:fst.toList++xs.toList.map (ev n ρ)++om.toList=args.toList) (hf:∀ args w,(callFunc f args).run P w=.ok (.enter f args) w)
 (hc:Calls P f args w fun e w' =>∃ v,e=.returned v/\R v w') (k:∀ v w',R v w' ->K (upd ρ d v) w'):OW P Q ⟨some d,.call ⟨.value x,xs,ts⟩,ty,pos,af,none⟩ n ρ w K:=
 zX args hv nk hf (hc.mono fun _ w' ⟨v,he,hR⟩=>⟨v,he,k v w' hR⟩)
end
end Go.Proofs.YtghikkinnchndaaGreat
