/- Walks and laws, printed by program and by hand: what each function comes to, for all arguments, part 3. -/
import Derived.Test.YtghikkinnchndaaGreatA2
namespace Go.Proofs.YtghikkinnchndaaGreat
open Go.Proofs.Tryz
set_option linter.unusedVariables false
set_option linter.unusedSimpArgs false
set_option maxRecDepth 100000
set_option maxHeartbeats 4000000
open Go.RowKit
open Go.Proofs.Tryz
open Go.Proofs.YtghikkinnchndaaGreat.Tot (tot)
open Go.Proofs.YtghikkinnchndaaGreat.Mark (cnt mrk mkd mkd_mark cnt_mark)
variable {B b c g i id j k m nn o off p q sz:Nat} {F F1 G:yLN} {L Ns:List yLN} {M M' iv kk n:Int} {P:Program} {W0 w:World} {X cs xs:List Value} {ah:List UInt8} {e s t u:TypeId} {f:Fact} {fr Rm:Bool} {l rules:List yj} {ae:Array Bool} {ps:List Prv} {v:Value} {x y:Operand} {z:yLI} {Γ Δ:List Fact}
section
section
variable {W0 w : World} {ps : List Prv} {Γ : List Fact}
theorem own_at (H:St W0 w ps Γ) (i:Nat) (hq:ps[i]? =some (.row v e 1 m<|z.map<|Value.int .i64)):
 ∃ G,OwnAt e w G v z/\(∀ x∈G,yL ps i=some x)/\jQ w G/\G.Nodup:=by
 have ho:=(H.has _ (List.mem_of_getElem? hq):w.ownsRow W0.heap.size e 1 v m (z.map<|Value.int .i64))
 have hm:m=z.length:=by have:=ho.1;simp at this;omega
 subst hm
 rcases ho.2 with ⟨rfl,h0⟩ | ⟨g,gY,gZ,rfl,hb,hg,Uv,hcm,KG,htake⟩
 ·exact ⟨[],Or.inl ⟨rfl,List.eq_nil_of_length_eq_zero h0,rfl⟩,by simp,jQ.nil _,by simp⟩
 ·refine ⟨[g],Or.inr ⟨g,gY,gZ,rfl,rfl,hg,Uv,hcm,by omega,by rw [Nat.mul_one] at htake;exact htake⟩,fun x hx=>?_,fun x hx=>?_,by simp⟩
  ·obtain rfl:=List.mem_singleton.1 hx
   simp [yL,hq,Prv.blk,Value.ownBlock]
  ·obtain rfl:=List.mem_singleton.1 hx
   exact ⟨_,_,hg⟩
theorem dead_at {p:Prv} (hq:ps[i]? =some p):∀ (b' i' :Nat),yL (ps.set i<|.row (Sv none 0 0) 0 1 0 []) i' =some b' ->i' ≠i/\yL ps i' =some b' :=by
 intro b' i' h
 unfold yL at h ⊢
 by_cases hi:i' =i
 ·subst hi
  rw [set_at hq] at h
  simp [Prv.blk,Value.ownBlock] at h
 ·rw [List.getElem?_set_ne<|Ne.symm hi] at h
  exact ⟨hi,h⟩
theorem St.snocI (H:St W0 w ps Γ) (i:Nat) (hq:ps[i]? =some (.row v e 1 m<|z.map<|Value.int .i64)) (j:Nat) {l:List (OwnI e)} (hf:Γ[j]? =some (qL true F xs l))
 {L:List yLN} (N:Fresh W0.heap.size (F::L)) (ha:∀ K∈L,∀ b∈K,∀ i,yL ps i≠some b):
 ∃ F',Fresh W0.heap.size (F'::L)/\St W0 w (ps.set i<|.row (Sv none 0 0) 0 1 0 []) (qL true F' (xs++[v]) (l++[⟨z⟩])::Γ):=by
 have hF:=(H.facts _<|List.mem_of_getElem? hf).2
 obtain ⟨G,hG,hGb,hGf,hgn⟩:=own_at H i hq
 have hGF:∀ x∈G,x∉F:=fun x hx h=>(hF x h).2 i<|hGb x hx
 have hGL:∀ K∈L,∀ x∈K,x∉G:=fun K hK x hx h=>ha K hK x hx i<|hGb x h
 have hge:∀ x∈G,W0.heap.size<=x:=fun x hx=>(blkAt_has H<|hGb x hx).1
 have oj:=dead_at hq
 refine ⟨F++G,⟨fun K hK=>?_,fun K hK x hx=>?_,?_⟩,?_⟩
 ·rcases List.mem_cons.1 hK with rfl | h
  ·exact List.nodup_append.2 ⟨N.nd F qm,hgn,fun x hx y hy e=>hGF y hy<|e▸hx⟩
  ·exact N.nd K<|List.mem_cons_of_mem _ h
 ·rcases List.mem_cons.1 hK with rfl | h
  ·rcases List.mem_append.1 hx with h | h
   ·exact N.ge F qm x h
   ·exact hge x h
  ·exact N.ge K (List.mem_cons_of_mem _ h) x hx
 ·have hd:=List.pairwise_cons.1 N.dj
  refine List.pairwise_cons.2 ⟨fun K hK x hx=>?_,hd.2⟩
  rcases List.mem_append.1 hx with h | h
  ·exact hd.1 K hK x h
  ·exact fun hxK=>hGL K hK x hxK h
 ·refine (H.dead i hq).add _ ⟨yO (H.get j hf).1<|reps_one<|show qI.rep w G [v] (⟨z⟩:OwnI e) from ⟨v,rfl,hG⟩,fun _ x hx=>?_⟩ fun x hx=>?_
  ·rcases List.mem_append.1 hx with h | h
   ·exact (H.get j hf).2 rfl x h
   ·exact hGf x h
  ·rcases List.mem_append.1 hx with h | h
   ·exact ⟨(hF x h).1,fun i' Bj =>(hF x h).2 i' (oj x i' Bj).2⟩
   ·exact ⟨(blkAt_has H<|hGb x h).2,fun i' Bj =>(oj x i' Bj).1<|H.dist i' i x (oj x i' Bj).2<|hGb x h⟩
end
section
variable {P : Program} {Q : Exit -> Act -> World -> Prop} {n : Nat} {ρ : Env} {W0 w : World} {ps : List Prv} {Γ : List Fact}
 {d:Nat} {ty:TypeId} {pos:String} {af:Array Edge} {K:Env->World->Prop}
end
section
variable {B : Nat} {F : yLN} {L : List yLN}
theorem QJ (N:Fresh B (F::L)) (i:Nat) (h:L[i]? =some G):∀ x∈G,x∉F:=fun x hx hF=>(List.pairwise_cons.1 N.dj).1 G (List.mem_of_getElem? h) x hF hx
theorem kept (j:Nat) (hf:Γ[j]? =some f) (h:∀ x∈f.F,x∉F):f∈Γ/\∀ x∈f.F,x∉F:=⟨List.mem_of_getElem? hf,h⟩
theorem vw (h:f∈Γ/\∀ x∈f.F,x∉F) (k:∀ f∈Δ,f∈Γ/\∀ x∈f.F,x∉F):∀ g∈f::Δ,g∈Γ/\∀ x∈g.F,x∉F:=fun g hg=>by
 rcases List.mem_cons.1 hg with rfl | hg
 ·exact h
 ·exact k g hg
end
theorem St.rebase (H:St W0 w ps Γ) (Δ:List Fact) (h:∀ f∈Δ,f.φ w/\∀ b∈f.F,b < w.heap.size):St w w [] Δ:=
 ⟨Below.refl _ _,by simp,by intro i j b hi;simp [yL] at hi,fun f hf=>⟨(h f hf).1,fun b hb=>⟨(h f hf).2 b hb,fun i=>by simp [yL]⟩⟩⟩
theorem old_fact (H:St W0 w ps Γ) (j:Nat) (hf:Γ[j]? =some f):f.φ w/\∀ b∈f.F,b < w.heap.size:=⟨H.get j hf,fun b hb=>((H.facts f<|List.mem_of_getElem? hf).2 b hb).1⟩
theorem old_box (H:St W0 w ps Γ) (k:Nat) (hp:ps[k]? =some (.box b cs t)):(atF b 0 cs).φ w/\∀ x∈(atF b 0 cs).F,x < w.heap.size:=
 ⟨H.cells k hp,fun x hx=>by
  have hx' :x=b:=by simpa [atF] using hx
  subst hx'
  exact ((H.has _<|List.mem_of_getElem? hp).lt rfl).2⟩
theorem olds_nil:∀ f∈([]:List Fact),f.φ w/\∀ b∈f.F,b < w.heap.size:=fun f hf=>by cases hf
theorem X4 (h:f.φ w/\∀ b∈f.F,b < w.heap.size) (k:∀ f∈Δ,f.φ w/\∀ b∈f.F,b < w.heap.size):∀ g∈f::Δ,g.φ w/\∀ b∈g.F,b < w.heap.size:=fun g hg=>by
 rcases List.mem_cons.1 hg with rfl | hg
 ·exact h
 ·exact k g hg
theorem away_lt (h:∀ b∈G,b < B) (N:Fresh B (F::L)):∀ x∈G,x∉F:=fun x hx hF=>by
 have h1:=h x hx
 have h2:=N.ge F qm x hF
 omega
theorem St.ltF (H:St W0 w ps Γ) (i:Nat) (hf:Γ[i]? =some f):∀ b∈f.F,b < w.heap.size:=fun b hb=>((H.facts f<|List.mem_of_getElem? hf).2 b hb).1
end
section
def ja (kk M:Int) (l:yLI):Prop:=l.length=kk.toNat/\∀ j,j < l.length->0<=l[j]! /\l[j]! <=M
theorem ja.len {l:yLI} (h:ja kk M l) (h0:0<=kk):(l.length:Int)=kk:=by have:=h.1;omega
theorem ja.zero (h0:0<=kk) (hM:0<=M):ja kk M (List.replicate kk.toNat 0):=⟨by simp,fun j hj=>by
 have Q6 :j < kk.toNat:=by simpa using hj
 rw [getElem!_pos (List.replicate kk.toNat (0:Int)) j hj,List.getElem_replicate]
 omega⟩
theorem ja.mono {l:yLI} (h:ja kk M l) (hM:M<=M'):ja kk M' l:=⟨h.1,fun j hj=>by have:=h.2 j hj;omega⟩
theorem ja.put {l:yLI} {v:Int} (h:ja kk M l) (h0:0<=v/\v<=M):ja kk M (l.set i v):=⟨by rw [List.length_set];exact h.1,fun j hj=>by
 rw [List.length_set] at hj
 rw [getElem!_pos (l.set i v) j<|by rw [List.length_set];exact hj,List.getElem_set]
 split
 ·exact h0
 ·have:=h.2 j hj
  rwa [getElem!_pos l j hj] at this⟩
theorem ja.up {l:yLI} (h:ja kk M l) (hi:i < l.length) (hM:M+1<=M'):ja kk M' (l.set i<|l[i]! +1):=
 (h.mono (by omega:M<=M')).put (by have:=h.2 i hi;omega)
theorem ja.ok {l:yLI} (h:ja kk M l) (hk:1<=kk/\kk<=8) (hM:M<=1000):yJ kk l:=
 ⟨⟨fun j hj=>by have:=h.2 j hj;omega,by have:=h.len qf;omega,by have:=h.len qf;omega⟩,h.len qf⟩
theorem ja.small {l:yLI} (h:ja kk M l) (hk:1<=kk/\kk<=8) (hM:M<=1000):Small l:=jc<|h.ok hk hM
theorem sumTo_up {l:yLI} (h:∀ j,j < l.length->0<=l[j]!):∀ k,k<=l.length->0<=sumTo l k/\∀ i,i < k->l[i]! <=sumTo l k
 | 0,_=>⟨Int.le_refl _,fun i hi=>by omega⟩
 | k+1,hk=>by
  obtain ⟨h1,h2⟩:=sumTo_up h k qf
  have h3:=h k qf
  refine ⟨by simp only [sumTo];omega,fun i hi=>?_⟩
  simp only [sumTo]
  rcases Nat.lt_or_eq_of_le (Nat.le_of_lt_succ hi) with h4 | h4
  ·have:=h2 i h4;omega
  ·subst h4;omega
theorem ja.one {l:yLI} (h:ja kk M l) (hk:1<=kk/\kk<=8) (hM:1<=M) (hs:sumL l=0) (hi:i < l.length):sumL (l.set i 1)≠0:=by
 have h1:=h.put (i:=i) (v:=1) qf
 have h2:=(sumTo_up (l:=l.set i 1) (fun j hj=>(h1.2 j hj).1) _<|Nat.le_refl _).2 i<|by rw [List.length_set];exact hi
 rw [getElem!_pos (l.set i 1) i<|by rw [List.length_set];exact hi,List.getElem_set_self] at h2
 show sumTo _ _≠0
 omega
def IntoDr (kk:Int) (par:yLI) (cell:Int) (l:List IntoD) (c:Int):Prop:=
 ∀ j,j < l.length->(0<=(l[j]!).qX/\(l[j]!).qX < c)/\Lies par cell (l[j]!).qX/\ja kk 1 (l[j]!).XH/\sumL (l[j]!).XH≠0/\(0 < j->(l[j - 1]!).qX < (l[j]!).qX)
theorem IntoDr.nil (kk:Int) (par:yLI) (cell c:Int):IntoDr kk par cell [] c:=fun j hj=>by simp at hj
theorem IntoDr.mono {par:yLI} {cell c c' :Int} {l:List IntoD} (h:IntoDr kk par cell l c) (hc:c<=c'):IntoDr kk par cell l c' :=fun j hj=>by
 obtain ⟨h1,h2⟩:=h j hj
 exact ⟨by omega,h2⟩
theorem Vb {α:Type} [Inhabited α] {l:List α} {x:α}:(l++[x])[j]! =if j < l.length then l[j]! else if j=l.length then x else default:=by
 by_cases h:j < l.length
 ·rw [if_pos h,getElem!_pos (l++[x]) j qy,getElem!_pos l j h,List.getElem_append_left h]
 ·rw [if_neg h]
  by_cases h2:j=l.length
  ·subst h2
   rw [if_pos rfl,getElem!_pos (l++[x]) l.length qm]
   simp
  ·rw [if_neg h2,getElem!_neg (l++[x]) j qy]
theorem IntoDr.snoc {par:yLI} {cell c:Int} {l:List IntoD} {b:yLI} (h:IntoDr kk par cell l c) (hc:0<=c) (hl:Lies par cell c) (hb:ja kk 1 b) (hs:sumL b≠0):IntoDr kk par cell (l++[⟨c,b⟩]) (c+1):=fun j hj=>by
 have Q6 :j < l.length\/j=l.length:=by simp at hj;omega
 rcases Q6 with Q6 | Q6
 ·obtain ⟨h1,h2,h3,h4,h5⟩:=h j Q6
  rw [Vb,if_pos Q6,Vb,if_pos qf]
  exact ⟨by omega,h2,h3,h4,h5⟩
 ·subst Q6
  rw [Vb,if_neg qf,if_pos rfl]
  refine ⟨⟨hc,by show c < c+1;omega⟩,hl,hb,hs,fun h0=>?_⟩
  rw [Vb,if_pos qf]
  exact (h (l.length - 1) qf).1.2
structure RuleDr (kk:Int) (par:yLI) (r:yj):Prop where
 cell:0<=r.qX/\r.qX < par.length
 rank:0<=r.yQ/\r.yQ<=2
 melts:¬ (r.jm=true/\r.qX=0)
 need:ja kk 2 r.zT/\sumL r.zT≠0
 hav:ja kk 1 r.jV
 lack:ja kk 1 r.jX
 here:ja kk 2 r.jK
 out:ja kk 2 r.QP
 many:r.xx.length<=3
 into:IntoDr kk par r.qX r.xx par.length
theorem RuleDr.ok {s:qM} {r:yj} (h:RuleDr s.qP s.qA r) (hk:1<=s.qP/\s.qP<=8):RuleOk s r:=
 ⟨⟨h.cell.1,by have:=h.cell.2;omega⟩,by have:=h.rank;omega,h.melts,h.many,h.need.1.ok hk qf,h.hav.ok hk qf,h.lack.ok hk qf,h.here.ok hk qf,h.out.ok hk qf,h.need.2,
  fun j hj=>by
   obtain ⟨h1,h2,h3,h4,h5⟩:=h.into j hj
   exact ⟨⟨h1.1,by omega⟩,h2,h3.ok hk qf,h4,h5⟩⟩
theorem ruleDr_of {par:yLI} {cell rank:Int} {need hav lack here out:yLI} {into:List IntoD} {melts:Bool} (h1:0<=cell/\cell < (par.length:Int)) (h2:0<=rank/\rank<=2) (h3:melts=true->cell≠0)
 (h4:ja kk 2 need/\sumL need≠0) (h5:ja kk 1 hav) (h6:ja kk 1 lack) (h7:ja kk 2 here) (h8:ja kk 1 out) (h9:into.length<=3/\IntoDr kk par cell into par.length):RuleDr kk par ⟨cell,rank,need,hav,lack,here,out,into,melts⟩:=
 ⟨h1,h2,fun h=>h3 h.1 h.2,h4,h5,h6,h7,h8.mono qf,h9.1,h9.2⟩
def Qk (kk:Int) (par:yLI) (l:List yj):Prop:=∀ j,j < l.length->RuleDr kk par (l[j]!)
theorem Qk.nil (kk:Int) (par:yLI):Qk kk par []:=fun j hj=>by simp at hj
theorem Qk.snoc {par:yLI} {r:yj} (h:Qk kk par l) (hr:RuleDr kk par r):Qk kk par (l++[r]):=fun j hj=>by
 rw [Vb]
 by_cases h1:j < l.length
 ·rw [if_pos h1];exact h j h1
 ·rw [if_neg h1,if_pos (by simp at hj;omega)];exact hr
theorem Qk.set {kk:Int} {par:yLI} {l:List yj} {r:yj} {i:Nat} (h:Qk kk par l) (hr:RuleDr kk par r):Qk kk par (l.set i r):=fun j hj=>by
 rw [List.length_set] at hj
 rw [getElem!_pos (l.set i r) j<|by rw [List.length_set];exact hj,List.getElem_set]
 split
 ·exact hr
 ·have:=h j hj;rwa [getElem!_pos l j hj] at this
def ParDr (par:yLI):Prop:=1<=par.length/\par[0]! = -1/\∀ c,1<=c->c < par.length->0<=par[c]! /\par[c]! <=(c:Int) - 1
theorem ParDr.one:ParDr [-1]:=⟨by simp,rfl,fun c h1 h2=>by simp at h2;omega⟩
theorem ParDr.snoc {par:yLI} {v:Int} (h:ParDr par) (hv:0<=v/\v < par.length):ParDr (par++[v]):=by
 obtain ⟨h1,h2,h3⟩:=h
 refine ⟨by simp,by rw [Vb,if_pos qf];exact h2,fun c hc hl=>?_⟩
 rw [Vb]
 by_cases h4:c < par.length
 ·rw [if_pos h4];exact h3 c hc h4
 ·have h5:c=par.length:=by simp at hl;omega
  rw [if_neg h4,if_pos h5];omega
theorem frame_of {par:yLI} (h:ParDr par) (hk:1<=kk/\kk<=3) (hl:par.length<=3):yK ⟨kk,par,rules⟩:=
 ⟨⟨hk.1,by show kk<=8;omega⟩,⟨h.1,by show par.length<=6;omega⟩,h.2.1,h.2.2⟩
structure SysDr (kk:Int) (par:yLI) (rules:List yj):Prop where
 kinds:1<=kk/\kk<=3
 cells:1<=par.length/\par.length<=3
 skin:par[0]! = -1
 up:∀ c,1<=c->c < par.length->0<=par[c]! /\par[c]! <=(c:Int) - 1
 few:rules.length<=5
 rules:Qk kk par rules
theorem sysDr_of {par:yLI} (h:ParDr par) (hk:1<=kk/\kk<=3) (hl:par.length<=3) (hr:rules.length<=5) (hd:Qk kk par rules):SysDr kk par rules:=⟨hk,⟨h.1,hl⟩,h.2.1,h.2.2,hr,hd⟩
theorem SysDr.frame {par:yLI} (h:SysDr kk par rules):yK ⟨kk,par,rules⟩:=by
 have h1:=h.kinds
 have h2:=h.cells
 exact ⟨⟨h1.1,by show kk<=8;omega⟩,⟨h2.1,by show par.length<=6;omega⟩,h.skin,h.up⟩
theorem SysDr.ok {kk:Int} {par:yLI} {rules:List yj} (h:SysDr kk par rules):QC ⟨kk,par,rules⟩:=by
 have h1:=h.kinds
 have h3:=h.few
 refine ⟨h.frame,by show rules.length<=16;omega,fun j hj=>⟨(h.rules j hj).ok (s:=⟨kk,par,rules⟩) ⟨h1.1,by show kk<=8;omega⟩,?_⟩⟩
 have h4:=(ofCell_bd rules (rules[j]!).qX<|j+1).2
 have h5:j < rules.length:=hj
 show ofCell rules (rules[j]!).qX (j+1)<=8
 omega
structure StDr (kk:Int) (n:Nat) (M:Int) (alive:List Bool) (bags:yLL) (around:yLI):Prop where
 la:alive.length=n
 lb:bags.length=n
 skin:alive[0]! =true
 around:ja kk 2 around
 bags:∀ c,c < bags.length->ja kk M (bags[c]!)/\(alive[c]! =false->sumL (bags[c]!)<=0)
theorem StDr.ok {kk M:Int} {par:yLI} {rules:List yj} {alive:List Bool} {bags:yLL} {around:yLI} (h:StDr kk par.length M alive bags around) (hs:SysDr kk par rules) (hM:M<=1000):vM ⟨kk,par,rules⟩ ⟨alive,bags,around⟩:=by
 have h1:=hs.kinds
 exact ⟨h.la,h.lb,h.skin,h.around.ok ⟨h1.1,by omega⟩ qf,fun c hc=>⟨(h.bags c hc).1.ok ⟨h1.1,by show kk<=8;omega⟩ hM,(h.bags c hc).2⟩⟩
structure StTo (kk M:Int) (c:Nat) (alive:List Bool) (bags:yLL):Prop where
 la:alive.length=c
 lb:bags.length=c
 skin:0 < c->alive[0]! =true
 bags:∀ j,j < bags.length->ja kk M (bags[j]!)/\(alive[j]! =false->sumL (bags[j]!)<=0)
theorem StTo.nil (kk M:Int):StTo kk M 0 [] []:=⟨rfl,rfl,fun h=>by omega,fun j hj=>by simp at hj⟩
theorem StTo.snoc {alive:List Bool} {bags:yLL} {a:Bool} {b:yLI} (h:StTo kk M c alive bags) (ha:c=0->a=true) (hb:ja kk M b) (hz:a=false->sumL b<=0):StTo kk M (c+1) (alive++[a]) (bags++[b]):=by
 have la:=h.la
 have lb:=h.lb
 refine ⟨by simp [la],by simp [lb],fun _=>?_,fun j hj=>?_⟩
 ·rw [Vb]
  by_cases h0:0 < c
  ·rw [if_pos qf];exact h.skin h0
  ·rw [if_neg qf,if_pos qf];exact ha qf
 ·rw [Vb,Vb]
  by_cases h1:j < c
  ·rw [if_pos qf,if_pos qf];exact h.bags j qf
  ·rw [if_neg qf,if_pos (by simp at hj;omega),if_neg qf,if_pos (by simp at hj;omega)];exact ⟨hb,hz⟩
end
section
instance:qI UInt8 where
 size:=1
 rep:=fun _ F cs x=>F=[]/\cs=[.int .u8 (x.toNat:Int)]
 len:=by rintro w F cs x ⟨_,rfl⟩;rfl
 one:=by rintro w F cs x ⟨_,rfl⟩ u hu;simp only [List.mem_singleton] at hu;subst hu;rfl
 stay:=by rintro w w' F cs x h _;exact h
 lt:=by rintro w F cs x ⟨rfl,_⟩ b hb;simp at hb
section
variable {P : Program} {fI : Array Oper} {Q : Exit -> Act -> World -> Prop} {n : Nat} {ρ : Env} {W0 w : World} {rest : List Oper} {ps : List Prv} {Γ : List Fact}
 {d:Nat} {ty:TypeId} {pos:String} {af:Array Edge} {K:Env->World->Prop}
theorem St.elemByte (H:St W0 w ps Γ) (i:Nat) {l:List UInt8} (hf:Γ[i]? =some (isF fr F (Sv (some ⟨b,o,none⟩) m c) l)) (iv:Int) (k:Nat) (hk:iv.toNat=k) (h0:0<=iv) (h1:iv < l.length):
 w.cell? ⟨b,o+iv.toNat * 1,none⟩=some (.int .u8 (((l[k]!).toNat:Nat):Int)):=by
 obtain ⟨cs,Fk,hc,hr,_⟩:=H.elem i hf iv h0 h1
 rw [hk] at hr
 obtain ⟨_,rfl⟩:=hr
 have:=hc 0 _ rfl
 simpa [qI.size] using this
theorem byte_lt (x:UInt8):((x.toNat:Nat):Int)<=255:=by have:=x.toNat_lt;omega
theorem o_mulU [Dfr] (a b:Int) (hx:ev n ρ x=.int .u64 a) (hy:ev n ρ y=.int .u64 b) (k:∀ r,K (upd ρ d<|.int .u64 r) w):OW P Q ⟨some d,.binOp .mul t x y u,ty,pos,af,none⟩ n ρ w K:=
 QT (.int .u64<|IntKind.u64.wrap<|a * b) (by simp [execOp,hx,hy,eqGuard,binOp,Op.intArith]) (k _)
theorem o_addU [Dfr] (a b:Int) (hx:ev n ρ x=.int .u64 a) (hy:ev n ρ y=.int .u64 b) (k:∀ r,K (upd ρ d<|.int .u64 r) w):OW P Q ⟨some d,.binOp .add t x y u,ty,pos,af,none⟩ n ρ w K:=
 QT (.int .u64<|IntKind.u64.wrap<|a+b) (by simp [execOp,hx,hy,eqGuard,binOp,Op.intArith]) (k _)
theorem o_shrU [Dfr] (a b:Int) (h:0<=b) (hx:ev n ρ x=.int .u64 a) (hy:ev n ρ y=.int .u64 b) (k:∀ r,K (upd ρ d<|.int .u64 r) w):OW P Q ⟨some d,.binOp .shr t x y u,ty,pos,af,none⟩ n ρ w K:=
 QT (.int .u64<|a.fdiv<|2 ^ (min b.toNat IntKind.u64.bits)) (by simp [execOp,hx,hy,eqGuard,binOp,Op.shift,show ¬ b < 0 by omega]) (k _)
theorem and_bd (a:Int):0<=IntKind.u64.wrap ((BitVec.ofInt IntKind.u64.bits a &&& BitVec.ofInt IntKind.u64.bits 255).toNat:Int)/\IntKind.u64.wrap ((BitVec.ofInt IntKind.u64.bits a &&& BitVec.ofInt IntKind.u64.bits 255).toNat:Int)<=255:=by
 have b6:IntKind.u64.bits=64:=rfl
 have s6:IntKind.u64.signed=false:=rfl
 have h:(BitVec.ofInt IntKind.u64.bits a &&& BitVec.ofInt IntKind.u64.bits 255).toNat<=255:=by
  rw [BitVec.toNat_and]
  exact Nat.le_trans Nat.and_le_right qj
 generalize (BitVec.ofInt IntKind.u64.bits a &&& BitVec.ofInt IntKind.u64.bits 255).toNat=m at h ⊢
 simp only [IntKind.wrap,b6,s6,Bool.false_and,Bool.false_eq_true,if_false]
 omega
theorem o_andU [Dfr] (a:Int) (hx:ev n ρ x=.int .u64 a) (hy:ev n ρ y=.int .u64 255) (k:∀ r,0<=r/\r<=255->K (upd ρ d<|.int .u64 r) w):OW P Q ⟨some d,.binOp .and t x y u,ty,pos,af,none⟩ n ρ w K:=
 QT (.int .u64<|IntKind.u64.wrap ((BitVec.ofInt IntKind.u64.bits a &&& BitVec.ofInt IntKind.u64.bits 255).toNat:Int)) (by simp [execOp,hx,hy,eqGuard,binOp,Op.intBits]) (k _<|and_bd a)
theorem o_conv [Dfr] {ds:TypeDesc} {k k' :IntKind} (a:Int) (hs:P.underlying s=some ds) (ht:P.underlying t=some (.int k')) (hx:ev n ρ x=.int k a) (h:K (upd ρ d<|.int k'<|k'.wrap a) w):
 OW P Q ⟨some d,.convert s t x,ty,pos,af,none⟩ n ρ w K:=
 QT _ (by simp [execOp,hx,convert,run_underlying hs,run_underlying ht,Conv.intToInt]) h
theorem o_convI [Dfr] {ds:TypeDesc} {k:IntKind} (a:Int) (hs:P.underlying s=some ds) (ht:P.underlying t=some (.int .i64)) (hx:ev n ρ x=.int k a) (h0:0<=a/\a<=255) (h:K (upd ρ d<|.int .i64 a) w):
 OW P Q ⟨some d,.convert s t x,ty,pos,af,none⟩ n ρ w K:=by
 refine o_conv a hs ht hx ?_
 rw [wrap_in qf]
 exact h
theorem o_convU [Dfr] {ds:TypeDesc} {k:IntKind} (a:Int) (hs:P.underlying s=some ds) (ht:P.underlying t=some (.int .u64)) (hx:ev n ρ x=.int k a) (h:∀ r,K (upd ρ d<|.int .u64 r) w):
 OW P Q ⟨some d,.convert s t x,ty,pos,af,none⟩ n ρ w K:=o_conv a hs ht hx<|h _
end
section
variable {P : Program} {n : Nat} {ρ : Env} {W0 w : World} {ps : List Prv} {Γ : List Fact}
theorem retCTC {fn:Func} {R:Ending->World->Prop} {t u z T U:Nat} {ds:List Value} {tb tc:TypeId} (H:St W0 w ps Γ) (i:Nat) (hp:ps[i]? =some (.box b cs tb)) (x:Value) (j:Nat) (hq:ps[j]? =some (.box c ds tc)) (hr:fn.results=#[.cell t T,.tmp z,.cell u U])
 (ha:∀ w,(isAgg T).run P w=.ok true w) (hs:∀ w,(Go.sizeOf T).run P w=.ok cs.length w) (ha' :∀ w,(isAgg U).run P w=.ok true w) (hs' :∀ w,(Go.sizeOf U).run P w=.ok ds.length w)
 (hv:ev n ρ (.tmp t)=.pointer (some ⟨b,0,none⟩)) (hz:ev n ρ (.tmp z)=x) (hx:ev n ρ (.tmp u)=.pointer (some ⟨c,0,none⟩)) (h:R (.returned<|.tuple #[.agg cs.toArray,x,.agg ds.toArray]) w):bodyPost P fn R .ret (mk n ρ) w:=by
 have hl:=run_loadCells_list (P:=P) w ⟨b,0,none⟩ cs (fun j v hv=>by rw [Addr.add_mid];exact H.cells i hp j v hv)
 have Ez :=run_loadCells_list (P:=P) w ⟨c,0,none⟩ ds (fun k v hv=>by rw [Addr.add_mid];exact H.cells j hq k v hv)
 have e:=congrFun (XB n ρ)<|.tmp t
 have e' :=congrFun (XB n ρ)<|.tmp u
 have e'' :=congrFun (XB n ρ)<|.tmp z
 simp only [Act.eval,Array.getD_eq_getD_getElem?] at e e' e''
 rw [hv] at e
 rw [hx] at e'
 rw [hz] at e''
 exact bodyPost_ret (v:=.tuple #[.agg cs.toArray,x,.agg ds.toArray]) (by simp [results,hr,e,e',e'',asAddr,loadVar,ha,hs,hl,ha',hs',Ez]) rfl h
end
theorem St.rowel_RuleD (H:St W0 w ps Γ) (k:Nat) (hp:ps[k]? =some (.row (Sv (some ⟨b,0,none⟩) nn c) e 9 nn xs)) (j:Nat)
 (hf:Γ[j]? =some (qL fr F xs l)) {iv:Int} (i:Nat) (h:iv.toNat=i) (h1:i < nn):
 ∃ (aN:yOA) (cN:Nat) (FN:yLN) (aH:yOA) (cH:Nat) (FH:yLN) (aL:yOA) (cL:Nat) (FL:yLN) (aE:yOA) (cE:Nat) (FE:yLN) (aO:yOA) (cO:Nat) (FO:yLN) (aI:yOA) (cI:Nat) (FI:yLN),
  (∀ (q:Nat) (v:Value),([.int .i64 (l[i]!).qX,.int .i64 (l[i]!).yQ,Sv aN ((l[i]!).zT.length) cN,Sv aH ((l[i]!).jV.length) cH,Sv aL ((l[i]!).jX.length) cL,Sv aE ((l[i]!).jK.length) cE,Sv aO ((l[i]!).QP.length) cO,Sv aI ((l[i]!).xx.length) cI,Bv (l[i]!).jm]:List Value)[q]? =some v->xs[0+iv.toNat * 9+q]? =some v)∧
  St W0 w ps (isF fr FN (Sv aN ((l[i]!).zT.length) cN) ((l[i]!).zT)::isF fr FH (Sv aH ((l[i]!).jV.length) cH) ((l[i]!).jV)::isF fr FL (Sv aL ((l[i]!).jX.length) cL) ((l[i]!).jX) ::
   isF fr FE (Sv aE ((l[i]!).jK.length) cE) ((l[i]!).jK)::isF fr FO (Sv aO ((l[i]!).QP.length) cO) ((l[i]!).QP)::isF fr FI (Sv aI ((l[i]!).xx.length) cI) ((l[i]!).xx)::Γ):=by
 obtain ⟨cs,G,hc,hr,cX,fj,v1,v2,hv,DS⟩:=St.rowElem (α:=yj) H k hp j hf qj h h1
 obtain ⟨vN,vH,vL,vE,vO,vI,FN,FH,FL,FE,FO,FI,rfl,eg,hN,hH,hL,hE,hO,hI⟩:=id hr
 obtain ⟨aN,cN,rfl⟩:=slice_form hN
 obtain ⟨aH,cH,rfl⟩:=slice_form hH
 obtain ⟨aL,cL,rfl⟩:=slice_form hL
 obtain ⟨aE,cE,rfl⟩:=slice_form hE
 obtain ⟨aO,cO,rfl⟩:=slice_form hO
 obtain ⟨aI,cI,rfl⟩:=slice_form hI
 refine ⟨aN,cN,FN,aH,cH,FH,aL,cL,FL,aE,cE,FE,aO,cO,FO,aI,cI,FI,fun q v hq=>?_,?_⟩
 ·have DS:v1.length=i * 9:=DS
  have nO:q < 9:=by
   rcases Nat.lt_or_ge q 9 with h | h
   ·exact h
   ·rw [List.getElem?_eq_none<|by simpa using h] at hq;cases hq
  rw [hv,List.append_assoc,Nat.zero_add,h,← DS,List.getElem?_append_right qf,Nat.add_sub_cancel_left,List.getElem?_append_left<|by simpa using nO]
  exact hq
 ·have hs:∀ {x:Nat} {X:yLN},x∈X->(∀ y∈X,y∈G)->x∈G:=fun h h' =>h' _ h
  have s6:=H.jF j hf (isF fr FI (Sv aI ((l[i]!).xx.length) cI) ((l[i]!).xx)) ⟨hI,fun e=>(fj e).sub<|by rw [eg];intro x hx;simp [hx]⟩<|fun x hx=>cX x (by rw [eg];have hx:x∈FI:=hx;simp [hx])
  have s5:=s6.jF (j+1) hf (isF fr FO (Sv aO ((l[i]!).QP.length) cO) ((l[i]!).QP)) ⟨hO,fun e=>(fj e).sub<|by rw [eg];intro x hx;simp [hx]⟩<|fun x hx=>cX x (by rw [eg];have hx:x∈FO:=hx;simp [hx])
  have s4:=s5.jF (j+2) hf (isF fr FE (Sv aE ((l[i]!).jK.length) cE) ((l[i]!).jK)) ⟨hE,fun e=>(fj e).sub<|by rw [eg];intro x hx;simp [hx]⟩<|fun x hx=>cX x (by rw [eg];have hx:x∈FE:=hx;simp [hx])
  have s3:=s4.jF (j+3) hf (isF fr FL (Sv aL ((l[i]!).jX.length) cL) ((l[i]!).jX)) ⟨hL,fun e=>(fj e).sub<|by rw [eg];intro x hx;simp [hx]⟩<|fun x hx=>cX x (by rw [eg];have hx:x∈FL:=hx;simp [hx])
  have s2:=s3.jF (j+4) hf (isF fr FH (Sv aH ((l[i]!).jV.length) cH) ((l[i]!).jV)) ⟨hH,fun e=>(fj e).sub<|by rw [eg];intro x hx;simp [hx]⟩<|fun x hx=>cX x (by rw [eg];have hx:x∈FH:=hx;simp [hx])
  exact s2.jF (j+5) hf (isF fr FN (Sv aN ((l[i]!).zT.length) cN) ((l[i]!).zT)) ⟨hN,fun e=>(fj e).sub<|by rw [eg];intro x hx;simp [hx]⟩<|fun x hx=>cX x (by rw [eg];have hx:x∈FN:=hx;simp [hx])
theorem part_lt (h:xs[q]? =some v):q < xs.length:=(List.getElem?_eq_some_iff.1 h).1
theorem part_get {cells:List Value} (hx:∀ (q:Nat) (v:Value),cells[q]? =some v->xs[B+q]? =some v) (j:Nat) (u:Value) (hj:j < cells.length):
 ∀ (q:Nat) (v:Value),(cells.set j u)[q]? =some v->(xs.set (B+j) u)[B+q]? =some v:=fun q v h=>by
 have hl:=part_lt<|hx j _<|List.getElem?_eq_getElem hj
 by_cases e:q=j
 ·subst e
  rw [List.getElem?_set_self hj] at h
  rw [List.getElem?_set_self hl]
  exact h
 ·rw [List.getElem?_set_ne<|fun h=>e h.symm] at h
  rw [List.getElem?_set_ne qf]
  exact hx q v h
section
variable {P : Program} {fI : Array Oper} {Q : Exit -> Act -> World -> Prop} {n : Nat} {ρ : Env} {W0 w : World} {rest : List Oper} {ps : List Prv} {Γ : List Fact}
 {d:Nat} {ty:TypeId} {pos:String} {af:Array Edge} {K:Env->World->Prop}
theorem o_storePart (H:St W0 w ps Γ) (k:Nat) (hp:ps[k]? =some (.row (Sv (some ⟨b,0,none⟩) nn c) e sz nn xs)) (v:Value)
 (hs:∀ w,(Go.sizeOf t).run P w=.ok 1 w) (hx:ev n ρ x=.pointer (some ⟨b,off,none⟩)) (hy:ev n ρ y=v) (h1:v.oneCell' =true) (h2:off < xs.length)
 (kk:∀ w',St W0 w' (ps.set k<|.row (Sv (some ⟨b,0,none⟩) nn c) e sz nn<|xs.set off v) Γ->K ρ w'):
 OW P Q ⟨none,.store t x y,ty,pos,af,none⟩ n ρ w K:=by
 have hc:v.cells=#[v]:=by cases v <;> first | rfl | (simp [Value.oneCell'] at h1)
 refine o_storeRow H k hp v (by simpa [hc] using hs) hx hy (by simp [hc,h1]) (by simp [hc];omega) ?_
 simp only [hc,List.size_toArray,List.length_cons,List.length_nil,Nat.zero_add]
 rw [show xs.take off++[v]++xs.drop (off+1)=xs.set off v by rw [List.set_eq_take_append_cons_drop,if_pos qf];simp]
 exact kk
end
theorem reps_part {α:Type} [qI α] [Inhabited α] {l:List α} {f:α} (i q:Nat) (hi:i < l.length) (hq:q < qI.size α)
 (hr:∀ Fk ck,qI.rep w Fk ck (l[i]!)->∃ F',qI.rep w F' (ck.set q v) f/\∀ b∈F',b∈Fk\/b∈G) (h:reps w F X l):
 ∃ F',reps w F' (X.set (i * qI.size α+q) v) (l.set i f)/\∀ b∈F',b∈F\/b∈G:=by
 obtain ⟨F1,Fk,F2,v1,cs,v2,hF,hv,DT,hlc,h1,h2,h3⟩:=reps_get h i hi
 obtain ⟨F',hr',hs⟩:=hr Fk cs<|by rw [getElem!_pos l i hi];exact h1
 refine ⟨F1++F' ++F2,?_,fun b hb=>?_⟩
 ·rw [hv,← DT,List.append_assoc v1,List.set_append_right _ _ qf,Nat.add_sub_cancel_left,List.set_append_left _ _ qf,List.set_eq_take_append_cons_drop (l:=l),if_pos hi,← List.append_assoc]
  have:=yO (yO h2<|reps_one hr') h3
  simpa using this
 ·simp only [List.mem_append] at hb
  rw [hF]
  rcases hb with (hb | hb) | hb
  ·exact .inl<|by simp [hb]
  ·rcases hs b hb with h | h
   ·exact .inl<|by simp [h]
   ·exact .inr h
  ·exact .inl<|by simp [hb]
section
variable {W0 w : World} {ps : List Prv} {Γ : List Fact}
theorem St.part {β:Type} [qI β] (H:St W0 w ps Γ) (j:Nat) (hf:Γ[j]? =some (qL fr F X l)) (m:Nat) {z:β} (hg:Γ[m]? =some (isF Rm G v z))
 {iv:Int} (i:Nat) (hi:iv.toNat=i) (h1:i < l.length) (q:Nat) (hq:q < 9) (f:yj) (hr:∀ Fk ck,qI.rep w Fk ck (l[i]!)->∃ F',qI.rep w F' (ck.set q v) f/\∀ b∈F',b∈Fk\/b∈G):
 ∃ F',St W0 w ps (qL false F' (X.set (0+iv.toNat * 9+q) v) (l.set i f)::Γ):=by
 subst hi
 obtain ⟨F',h2,h3⟩:=reps_part (α:=yj) iv.toNat q h1 hq hr (H.get j hf).1
 refine ⟨F',H.add _ ⟨by rw [Nat.zero_add];exact h2,by simp⟩ fun b hb=>?_⟩
 rcases h3 b hb with h | h
 ·exact (H.facts _<|List.mem_of_getElem? hf).2 b h
 ·exact (H.facts _<|List.mem_of_getElem? hg).2 b h
theorem St.part_5 (H:St W0 w ps Γ) (j:Nat) (hf:Γ[j]? =some (qL fr F X l)) (m:Nat) (hg:Γ[m]? =some (isF Rm G v z)) (i:Nat) (hi:iv.toNat=i) (h1:i < l.length):
 ∃ F',St W0 w ps (qL false F' (X.set (0+iv.toNat * 9+5) v) (l.set i { l[i]! with jK:=z })::Γ):=by
 refine H.part j hf m hg i hi h1 5 qj _ fun Fk ck hk=>?_
 obtain ⟨v1,v2,v3,v4,v5,v6,F1,F2,F3,F4,F5,F6,rfl,rfl,k1,k2,k3,k4,k5,k6⟩:=hk
 refine ⟨_,⟨v1,v2,v3,v,v5,v6,F1,F2,F3,G,F5,F6,rfl,rfl,k1,k2,k3,(H.get m hg).1,k5,k6⟩,fun b hb=>?_⟩
 simp only [List.mem_append] at hb
 rcases hb with ((((hb | hb) | hb) | hb) | hb) | hb <;> simp [hb]
theorem St.part_8 (H:St W0 w ps Γ) (j:Nat) (hf:Γ[j]? =some (qL fr F X l)) (z:Bool) (i:Nat) (hi:iv.toNat=i) (h1:i < l.length):
 ∃ F',St W0 w ps (qL false F' (X.set (0+iv.toNat * 9+8)<|Bv z) (l.set i { l[i]! with jm:=z })::Γ):=by
 subst hi
 obtain ⟨F',h2,h3⟩:=reps_part (α:=yj) (G:=[]) (v:=Bv z) (f:={ l[iv.toNat]! with jm:=z }) iv.toNat 8 h1 qj (fun Fk ck hk=>by
  obtain ⟨v1,v2,v3,v4,v5,v6,F1,F2,F3,F4,F5,F6,rfl,rfl,k1,k2,k3,k4,k5,k6⟩:=hk
  exact ⟨_,⟨v1,v2,v3,v4,v5,v6,F1,F2,F3,F4,F5,F6,rfl,rfl,k1,k2,k3,k4,k5,k6⟩,fun b hb=>.inl hb⟩) (H.get j hf).1
 refine ⟨F',H.add _ ⟨by rw [Nat.zero_add];exact h2,by simp⟩ fun b hb=>?_⟩
 rcases h3 b hb with h | h
 ·exact (H.facts _<|List.mem_of_getElem? hf).2 b h
 ·simp at h
end
theorem Qk.here {par:yLI} {b:yLI} (h:Qk kk par l) (hi:i < l.length) (hb:ja kk 2 b):Qk kk par (l.set i { l[i]! with jK:=b }):=
 h.set (let r:=h i hi;⟨r.cell,r.rank,r.melts,r.need,r.hav,r.lack,hb,r.out,r.many,r.into⟩)
theorem Qk.out {par:yLI} {b:yLI} (h:Qk kk par l) (hi:i < l.length) (hb:ja kk 2 b):Qk kk par (l.set i { l[i]! with QP:=b }):=
 h.set (let r:=h i hi;⟨r.cell,r.rank,r.melts,r.need,r.hav,r.lack,r.here,hb,r.many,r.into⟩)
theorem Qk.into {par:yLI} (h:Qk kk par l) (hi:i < l.length):Qk kk par (l.set i { l[i]! with xx:=[]}):=
 h.set (let r:=h i hi;⟨r.cell,r.rank,r.melts,r.need,r.hav,r.lack,r.here,r.out,by simp,IntoDr.nil _ _ _ _⟩)
theorem Qk.still {par:yLI} (h:Qk kk par l) (hi:i < l.length):Qk kk par (l.set i { l[i]! with jm:=false }):=
 h.set (let r:=h i hi;⟨r.cell,r.rank,(fun e=>Bool.noConfusion e.1),r.need,r.hav,r.lack,r.here,r.out,r.many,r.into⟩)
theorem SysDr.with {par:yLI} {D5:List yj} (h:SysDr kk par rules) (h1:D5.length<=5) (h2:Qk kk par D5):SysDr kk par D5 :=⟨h.kinds,h.cells,h.skin,h.up,h1,h2⟩
def HereTo (kk:Int) (k:Nat) (l:yLI):Prop:=ja kk 2 l/\∀ j,j < l.length->k<=j+1->l[j]! =0
theorem HereTo.zero {kk:Int} (h0:0<=kk):HereTo kk 1 (List.replicate kk.toNat 0):=⟨ja.zero h0 qf,fun j hj _=>by rw [getElem!_pos (List.replicate kk.toNat (0:Int)) j hj,List.getElem_replicate]⟩
theorem HereTo.go {l:yLI} (h:HereTo kk k l):HereTo kk (k+1) l:=⟨h.1,fun j hj hk=>h.2 j hj qf⟩
theorem HereTo.put {kk:Int} {k i:Nat} {l:yLI} {v:Int} (h:HereTo kk k l) (hi:i < l.length) (hk:i+1=k) (hv:0<=v/\v<=2):HereTo kk (k+1) (l.set i<|l[i]! +v):=by
 have h0:=h.2 i hi qf
 refine ⟨h.1.put qf,fun j hj Bh =>?_⟩
 rw [List.length_set] at hj
 rw [getElem!_pos (l.set i _) j<|by rw [List.length_set];exact hj,List.getElem_set,if_neg qf]
 have:=h.2 j hj qf
 rwa [getElem!_pos l j hj] at this
structure Qo (α β:Type) [qI α] [qI β] (q:Nat) (get:α->β) (put:α->β->α):Prop where
 cut:∀ {w:World} {F:yLN} {cs:List Value} {x:α},qI.rep w F cs x->∃ (c1 cm c2:List Value) (F1 Fm F2:yLN),cs=c1++cm++c2/\c1.length=q/\F=F1++Fm++F2/\qI.rep w Fm cm (get x)∧
  ∀ (w' :World) (F' :yLN) (c' :List Value) (y:β),(∀ b∈F1++F2,w'.heap[b]? =w.heap[b]?)->qI.rep w' F' c' y->qI.rep w' (F1++F' ++F2) (c1++c' ++c2) (put x y)
theorem Qo.refl {α:Type} [qI α]:Qo α α 0 (fun x=>x) (fun _ y=>y):=
 ⟨fun {w F cs x} h=>⟨[],cs,[],[],F,[],by simp,rfl,by simp,h,fun w' F' c' y _ h' =>by simpa using h'⟩⟩
theorem Qo.trans {α β γ:Type} [qI α] [qI β] [qI γ] {r:Nat} {get:α->β} {put:α->β->α} {apJ :β->γ} {aqM :β->γ->β} (S:Qo α β q get put) (T:Qo β γ r apJ aqM):
 Qo α γ (q+r) (fun x=>apJ<|get x) (fun x y=>put x<|aqM (get x) y):=
 ⟨fun {w F cs x} h=>by
  obtain ⟨c1,cm,c2,F1,Fm,F2,rfl,h1,rfl,h2,h3⟩:=S.cut h
  obtain ⟨d1,dm,d2,G1,Gm,G2,rfl,h4,rfl,h5,h6⟩:=T.cut h2
  refine ⟨c1++d1,dm,d2++c2,F1++G1,Gm,G2++F2,by simp,by simp [h1,h4],by simp,h5,fun w' F' c' y hs hr=>?_⟩
  have h7:=h6 w' F' c' y (fun b hb=>hs b (by simp only [List.mem_append] at hb ⊢;rcases hb with hb | hb <;> simp [hb])) hr
  have h8:=h3 w' _ _ _ (fun b hb=>hs b (by simp only [List.mem_append] at hb ⊢;rcases hb with hb | hb <;> simp [hb])) h7
  simpa using h8⟩
section
variable {α β : Type} [qI α] [qI β] [Inhabited α] {q : Nat} {get : α -> β} {put : α -> β -> α}
theorem Qo.el (S:Qo α β q get put) {l:List α} (h:reps w F xs l) (k:Nat) (hk:k < l.length):
 ∃ (c1 cm c2:List Value) (F1 Fm F2:yLN),xs=c1++cm++c2/\c1.length=k * qI.size α+q/\F=F1++Fm++F2/\qI.rep w Fm cm (get<|l[k]!)∧
 ∀ (w' :World) (F' :yLN) (c' :List Value) (y:β),(∀ b∈F1++F2,w'.heap[b]? =w.heap[b]?)->qI.rep w' F' c' y->reps w' (F1++F' ++F2) (c1++c' ++c2) (l.set k<|put (l[k]!) y):=by
 obtain ⟨G1,Gk,G2,v1,cs,v2,rfl,rfl,DT,hl2,hr,hr1,hr2⟩:=reps_get h k hk
 obtain ⟨c1,cm,c2,F1,Fm,F2,rfl,h1,rfl,h2,h3⟩:=S.cut hr
 have ek:l[k]! =l[k]:=getElem!_pos l k hk
 refine ⟨v1++c1,cm,c2++v2,G1++F1,Fm,F2++G2,by simp,by simp [DT,h1],by simp,by rw [ek];exact h2,fun w' F' c' y hs hr' =>?_⟩
 have h4:=h3 w' F' c' y (fun b hb=>hs b (by simp only [List.mem_append] at hb ⊢;rcases hb with hb | hb <;> simp [hb])) hr'
 have h5:=reps_stay hr1 (w' :=w')<|fun b hb=>hs b<|by simp [hb]
 have h6:=reps_stay hr2 (w' :=w')<|fun b hb=>hs b<|by simp [hb]
 rw [ek,List.set_eq_take_append_cons_drop,if_pos hk]
 have h7:=yO h5<|yO (reps_one h4) h6
 simpa using h7
end
def valF {α:Type} [qI α] (fr:Bool) (F:yLN) (cs:List Value) (x:α):Fact where
 F:=F
 φ:=fun w=>qI.rep w F cs x/\(fr=true->jQ w F)
 stay:=fun w w' h hs=>⟨qI.stay h.1 hs,fun e=>(h.2 e).stay hs⟩
section
variable {α β : Type} [qI α] [qI β] [Inhabited α] {q : Nat} {get : α -> β} {put : α -> β -> α}
variable {W0 w : World} {ps : List Prv} {Γ : List Fact}
theorem mid_swap {Fm F2:yLN}:(∀ b∈F1++G++F2,b∈F1++Fm++F2\/b∈G)/\((F1++Fm++F2).Nodup->G.Nodup->(∀ b∈F1++Fm++F2,b∉G)->(F1++G++F2).Nodup):=by
 refine ⟨fun b hb=>?_,fun h1 h2 h3=>?_⟩
 ·simp only [List.mem_append] at hb ⊢
  rcases hb with (hb | hb) | hb <;> simp [hb]
 ·rw [List.append_assoc,List.nodup_append,List.nodup_append] at h1 ⊢
  obtain ⟨a1,⟨a2,a3,a4⟩,a5⟩:=h1
  refine ⟨a1,⟨h2,a3,fun x hx y hy e=>h3 y (by simp [hy])<|e▸hx⟩,fun x hx y hy=>?_⟩
  rcases List.mem_append.1 hy with h | h
  ·exact fun e=>h3 x (by simp [hx])<|e▸h
  ·exact a5 x hx y<|by simp [h]
end
section
variable {α β : Type} [qI α] [qI β] [Inhabited α] {q : Nat} {get : α -> β} {put : α -> β -> α}
variable {P : Program} {Q : Exit -> Act -> World -> Prop} {n : Nat} {ρ : Env} {W0 w : World} {ps : List Prv} {Γ : List Fact}
 {d:Nat} {ty:TypeId} {pos:String} {af:Array Edge} {K:Env->World->Prop}
theorem putPart [Dfr] (S:Qo α β q get put) {xs0:List Value} {l' :List α} (H:St W0 w ps Γ) (k:Nat) (hp:ps[k]? =some (.row (Sv (some ⟨b,0,none⟩) nn c) e sz nn xs0))
 (j:Nat) {F:yLN} {l:List α} (hf:Γ[j]? =some (qL true F xs l)) {G:yLN} {us:List Value} {z:β} (hG:qI.rep w G us z/\jQ w G) (hgo:∀ b∈G,b < w.heap.size/\∀ i,yL ps i≠some b) {v:Value}
 (hv:v.cells.toList=us) (hs:∀ w,(Go.sizeOf t).run P w=.ok v.cells.size w) (hx:ev n ρ x=.pointer (some ⟨b,off,none⟩)) (hy:ev n ρ y=v) (qs:qI.size α=sz) (hz:0 < sz) (i:Nat) (h1:i < nn) (ho:off=i * sz+q) (Ez :l' =l.set i (put (l[i]!) z))
 (hxl:xs0.length=xs.length) (hxx:off+us.length<=xs.length->xs0.take off++us++xs0.drop (off+us.length)=xs.take off++us++xs.drop (off+us.length))
 (kk:∀ w' xd F',((∀ b∈F',b∈F\/b∈G)/\(F.Nodup->G.Nodup->(∀ b∈F,b∉G)->F'.Nodup))->St W0 w' (ps.set k<|.row (Sv (some ⟨b,0,none⟩) nn c) e sz nn xd) (qL true F' xd l'::Γ)->K ρ w'):
 OW P Q ⟨none,.store t x y,ty,pos,af,none⟩ n ρ w K:=by
 subst qs
 subst Ez
 have hl0:=H.rowLen k hp
 have DT:xs.length=l.length * qI.size α:=reps_len (H.get j hf).1
 have hn:nn=l.length:=Nat.eq_of_mul_eq_mul_right hz<|by rw [← hl0,hxl,DT]
 obtain ⟨c1,cm,c2,F1,Fm,F2,rfl,h2,rfl,h3,h4⟩:=S.el (H.get j hf).1 i qf
 have lm:cm.length=us.length:=(qI.len h3).trans (qI.len hG.1).symm
 have lv:v.cells.size=us.length:=by rw [← hv];simp
 have e1:(c1++cm++c2).take off++us++(c1++cm++c2).drop (off+us.length)=c1++us++c2:=by
  rw [ho,← h2,← lm]
  simp
 have hle:off+us.length<=(c1++cm++c2).length:=by rw [ho];simp [h2,lm]
 have e0:=(hxx hle).trans e1
 have H1:St W0 w ps (qL true (F1++G++F2) (c1++us++c2) (l.set i<|put (l[i]!) z)::Γ):=by
  refine H.add _ ⟨h4 w G us z (fun _ _=>rfl) hG.1,fun _ x hx=>?_⟩ fun x hx=>?_
  ·rcases (mid_swap (Fm:=Fm)).1 x hx with h | h
   ·exact (H.get j hf).2 rfl x h
   ·exact hG.2 x h
  ·rcases (mid_swap (Fm:=Fm)).1 x hx with h | h
   ·exact (H.facts _<|List.mem_of_getElem? hf).2 x h
   ·exact hgo x h
 refine o_storeRow H1 k hp v hs hx hy (fun u hu=>qI.one hG.1 u<|hv▸hu) (by rw [lv,hxl];exact hle) fun w' H' =>?_
 rw [lv,hv,e0] at H'
 exact kk w' _ _ mid_swap H'
theorem Xu [Dfr] (S:Qo α β q get put) {l' :List α} (H:St W0 w ps Γ) (k:Nat) (hp:ps[k]? =some (.row (Sv (some ⟨b,0,none⟩) nn c) e sz nn xs))
 (j:Nat) {F:yLN} {l:List α} (hf:Γ[j]? =some (qL true F xs l)) (m:Nat) {G:yLN} {us:List Value} {z:β} (hg:Γ[m]? =some (valF true G us z)) {v:Value}
 (hv:v.cells.toList=us) (hs:∀ w,(Go.sizeOf t).run P w=.ok v.cells.size w) (hx:ev n ρ x=.pointer (some ⟨b,off,none⟩)) (hy:ev n ρ y=v) (qs:qI.size α=sz) (i:Nat) (h1:i < nn) (ho:off=i * sz+q) (Ez :l' =l.set i (put (l[i]!) z))
 (kk:∀ w' xd F',((∀ b∈F',b∈F\/b∈G)/\(F.Nodup->G.Nodup->(∀ b∈F,b∉G)->F'.Nodup))->St W0 w' (ps.set k<|.row (Sv (some ⟨b,0,none⟩) nn c) e sz nn xd) (qL true F' xd l'::Γ)->K ρ w') (hz:0 < sz:=by decide):
 OW P Q ⟨none,.store t x y,ty,pos,af,none⟩ n ρ w K:=
 putPart S H k hp j hf ⟨(H.get m hg).1,(H.get m hg).2 rfl⟩ (H.facts _<|List.mem_of_getElem? hg).2 hv hs hx hy qs hz i h1 ho Ez rfl (fun _=>rfl) kk
theorem o_putBool [Dfr] {get:α->Bool} {put:α->Bool->α} (S:Qo α Bool q get put) {l' :List α} (H:St W0 w ps Γ) (k:Nat) (hp:ps[k]? =some (.row (Sv (some ⟨b,0,none⟩) nn c) e sz nn xs))
 (j:Nat) {F:yLN} {l:List α} (hf:Γ[j]? =some (qL true F xs l)) {z:Bool} (hs:∀ w,(Go.sizeOf t).run P w=.ok 1 w) (hx:ev n ρ x=.pointer (some ⟨b,off,none⟩)) (hy:ev n ρ y=Bv z) (qs:qI.size α=sz) (i:Nat) (h1:i < nn) (ho:off=i * sz+q) (Ez :l' =l.set i (put (l[i]!) z))
 (kk:∀ w' xd F',((∀ b∈F',b∈F\/b∈([]:yLN))/\(F.Nodup->([]:yLN).Nodup->(∀ b∈F,b∉([]:yLN))->F'.Nodup))->St W0 w' (ps.set k<|.row (Sv (some ⟨b,0,none⟩) nn c) e sz nn xd) (qL true F' xd l'::Γ)->K ρ w') (hz:0 < sz:=by decide):
 OW P Q ⟨none,.store t x y,ty,pos,af,none⟩ n ρ w K:=
 putPart (us:=[Bv z]) (G:=[]) (v:=Bv z) S H k hp j hf ⟨⟨rfl,rfl⟩,jQ.nil _⟩ (fun b hb=>by simp at hb) rfl hs hx hy qs hz i h1 ho Ez rfl (fun _=>rfl) kk
end
theorem St.poke (H:St W0 w ps Γ) {w' :World} (ho:w'.os=w.os) (ht:w'.tape=w.tape) (hu:w'.output=w.output) (hz:w'.heap.size=w.heap.size)
 (hh:∀ b,b≠g->w'.heap[b]? =w.heap[b]?) (hg:W0.heap.size<=g) (hp:∀ i,yL ps i≠some g) (Γ' :List Fact) (hΓ:∀ f∈Γ',f∈Γ/\g∉f.F):St W0 w' ps Γ' :=
 ⟨⟨ho.trans H.base.os,ht.trans H.base.tape,hu.trans H.base.output,by rw [hz];exact H.base.size,fun k hk=>(hh k qf).trans<|H.base.block k hk⟩,
  fun p wX =>(H.has p wX).stay fun b hb=>hh b fun e=>by
   obtain ⟨i,hi⟩:=List.getElem?_of_mem wX
   exact hp i<|by simp [yL,hi,hb,e],
  H.dist,fun f hf=>by
   obtain ⟨h1,h2⟩:=hΓ f hf
   have h3:=H.facts f h1
   exact ⟨f.stay w w' h3.1 fun b hb=>hh b fun e=>h2<|e▸hb,fun b hb=>⟨by rw [hz];exact (h3.2 b hb).1,(h3.2 b hb).2⟩⟩⟩
theorem slice_poke {γ:Type} [qI γ] [Inhabited γ] {l:List γ} (h:qI.rep w F [Sv (some ⟨g,o,none⟩) m c] l) (fj:jQ w F) (Mm:F.Nodup) (hp:p < l.length) (hz:0 < qI.size γ) {us:List Value} {z:γ} (hG:qI.rep w G us z) (hGn:G.Nodup) (hd:∀ b∈F,b∉G):
 g∈F/\∃ w' F',(storeCells ⟨g,o+p * qI.size γ,none⟩ us).run P w=.ok () w' /\w'.os=w.os/\w'.tape=w.tape/\w'.output=w.output/\w'.heap.size=w.heap.size/\(∀ b,b≠g->w'.heap[b]? =w.heap[b]?)/\(∃ cs t,w'.heap[g]? =some (.cells cs t (0,0)))∧
  qI.rep w' F' [Sv (some ⟨g,o,none⟩) m c] (l.set p z)/\(∀ b∈F',b∈F\/b∈G)/\F'.Nodup:=by
 obtain ⟨a,gY,hc,hl,ON⟩:=id h
 simp only [List.cons.injEq,Value.slice.injEq,and_true] at hc
 obtain ⟨rfl,rfl,rfl⟩:=hc
 rcases ON with ⟨h0,_⟩ | ⟨b,off,F1,vs,ha,rfl,nO,hr,hcells⟩
 ·rw [h0] at hp;simp at hp
 simp only [Option.some.injEq,Addr.mk.injEq,and_true] at ha
 obtain ⟨rfl,rfl⟩:=ha
 obtain ⟨v1,cm,v2,G1,Gm,G2,rfl,DT,rfl,hr1,Pd⟩:=(Qo.refl (α:=γ)).el hr p hp
 obtain ⟨gZ,t,ab9⟩:=fj g qm
 have Kh:=qI.one hG
 have lg:=qI.len hG
 have lm:cm.length=us.length:=(qI.len hr1).trans lg.symm
 have DP:∀ i v,(v1++cm++v2)[i]? =some v->gZ[o+i]? =some v:=fun i v hi=>by
  have:=hcells i v hi
  rw [World.cell?,ab9] at this
  simpa using this
 have Ip:o+(v1.length+cm.length+v2.length)<=gZ.size:=by
  have h1:v1.length+cm.length+v2.length - 1 < (v1++cm++v2).length:=by simp;omega
  obtain ⟨h2,_⟩:=Array.getElem?_eq_some_iff.1<|DP _ _<|List.getElem?_eq_getElem h1
  omega
 have z6:=run_storeCells_at P g (o+p * qI.size γ) t us 0 gZ w ab9 qf Kh
 simp only [Nat.add_zero] at z6 DT
 have acs:=List.nodup_cons.1 Mm
 have hdF:∀ b∈G1++Gm++G2,b∉G:=fun b hb=>hd b<|List.mem_cons_of_mem _ hb
 have hgG:g∉G:=hd g<|List.mem_cons_self ..
 have aaH:∀ b,b≠g->(w.setRow g (gZ.toList.take (o+p * qI.size γ)++us++gZ.toList.drop (o+p * qI.size γ+us.length)).toArray).heap[b]? =w.heap[b]? :=fun b hb=>by
  simp [World.setRow,Array.getElem?_modify,Ne.symm hb]
 have VS:(w.setRow g (gZ.toList.take (o+p * qI.size γ)++us++gZ.toList.drop (o+p * qI.size γ+us.length)).toArray).heap[g]? =some (.cells (gZ.toList.take (o+p * qI.size γ)++us++gZ.toList.drop (o+p * qI.size γ+us.length)).toArray t (0,0)):=by
  simp [World.setRow,Array.getElem?_modify,ab9]
 have hms:=mid_swap (F1:=G1) (Fm:=Gm) (F2:=G2) (G:=G)
 refine ⟨List.mem_cons_self ..,_,g::(G1++G++G2),z6,rfl,rfl,rfl,by simp [World.setRow],aaH,⟨_,_,VS⟩,⟨_,c,by rw [List.length_set],by rw [List.length_set];exact hl,Or.inr ⟨g,o,_,v1++us++v2,rfl,rfl,?_,?_,?_⟩⟩,fun b hb=>?_,List.nodup_cons.2 ⟨fun hb=>?_,hms.2 acs.2 hGn hdF⟩⟩
 ·simpa [World.setRow] using nO
 ·refine Pd _ G us z (fun b hb=>aaH b fun e=>?_) (qI.stay hG fun b hb=>aaH b fun e=>hgG<|e▸hb)
  subst e
  exact acs.1 (by simp only [List.mem_append] at hb ⊢;rcases hb with hb | hb <;> simp [hb])
 ·intro i v hi
  rw [World.cell?,VS]
  have Bj :i < v1.length+us.length+v2.length:=by
   have:=(List.getElem?_eq_some_iff.1 hi).1
   simpa [Nat.add_assoc] using this
  simp only [Option.bind_some]
  show (gZ.toList.take (o+p * qI.size γ)++us++gZ.toList.drop (o+p * qI.size γ+us.length)).toArray[o+i]? =some v
  rw [List.getElem?_toArray]
  by_cases h1:i < v1.length
  ·rw [List.append_assoc,List.getElem?_append_left qy,List.getElem?_take,if_pos qf,Array.getElem?_toList]
   refine DP i v ?_
   rw [List.append_assoc,List.getElem?_append_left h1] at hi ⊢
   exact hi
  ·by_cases h2:i < v1.length+us.length
   ·rw [List.append_assoc,List.getElem?_append_right qy,List.getElem?_append_left qy]
    rw [List.append_assoc,List.getElem?_append_right qf,List.getElem?_append_left qf] at hi
    rw [← hi];congr 1;simp;omega
   ·rw [List.getElem?_append_right qy,List.getElem?_drop,Array.getElem?_toList]
    have h3:=DP i v (by
     rw [List.getElem?_append_right qy] at hi ⊢
     rw [← hi];congr 1;simp;omega)
    rw [← h3];congr 1;simp;omega
 ·rcases List.mem_cons.1 hb with rfl | hb
  ·exact .inl<|List.mem_cons_self ..
  ·rcases hms.1 b hb with h | h
   ·exact .inl<|List.mem_cons_of_mem _ h
   ·exact .inr h
 ·rcases hms.1 g hb with h | h
  ·exact acs.1 h
  ·exact hgG h
section
variable {α γ : Type} [qI α] [qI γ] [Inhabited α] [Inhabited γ] {q : Nat} {get : α -> List γ} {put : α -> List γ -> α}
variable {P : Program} {Q : Exit -> Act -> World -> Prop} {n : Nat} {ρ : Env} {W0 w : World} {ps : List Prv} {Γ : List Fact}
 {d:Nat} {ty:TypeId} {pos:String} {af:Array Edge} {K:Env->World->Prop}
theorem pokePart [Dfr] (S:Qo α (List γ) q get put) {l l' :List α} (H:St W0 w ps Γ)
 (j:Nat) (hf:Γ[j]? =some (qL true F xs l)) {G:yLN} {L:List yLN} (N:Fresh W0.heap.size (F::G::L)) {us:List Value} {z:γ} (hG:qI.rep w G us z) (hGf:jQ w G) (hGo:∀ b∈G,b < w.heap.size/\∀ i,yL ps i≠some b)
 (Γ' :List Fact) (hΓ:∀ f∈Γ',f∈Γ/\∀ x∈f.F,x∉F) (i:Nat) (h1:i < l.length) {g o m c sz:Nat} (qs:qI.size α=sz) (h2:xs[i * sz+q]? =some (Sv (some ⟨g,o,none⟩) m c)) (p:Nat) (h3:p < (get<|l[i]!).length) (hz:0 < qI.size γ) {v:Value}
 (hv:v.cells.toList=us) (hs:∀ w,(Go.sizeOf t).run P w=.ok v.cells.size w) {off:Nat} (hx:ev n ρ x=.pointer (some ⟨g,off,none⟩)) (ho:off=o+p * qI.size γ) (hy:ev n ρ y=v)
 (Ez :l' =l.set i (put (l[i]!) ((get<|l[i]!).set p z))) (kk:∀ w' F',Fresh W0.heap.size (F'::L)->St W0 w' ps (qL true F' xs l'::Γ')->K ρ w'):
 OW P Q ⟨none,.store t x y,ty,pos,af,none⟩ n ρ w K:=by
 subst qs
 subst Ez
 have eg:=H.facts _<|List.mem_of_getElem? hf
 have hb:∀ b∈F,b < w.heap.size/\∀ i,yL ps i≠some b:=eg.2
 obtain ⟨Ws,abM⟩:=eg.1
 have fj:=abM rfl
 obtain ⟨c1,cm,c2,F1,Fm,F2,rfl,e1,rfl,hr,Pd⟩:=S.el Ws i h1
 have ecm:cm=[Sv (some ⟨g,o,none⟩) m c]:=by
  obtain ⟨a,gY,hc,_⟩:=id hr
  subst hc
  rw [List.append_assoc,List.getElem?_append_right qf,e1] at h2
  simpa using h2
 subst ecm
 have hnF:=N.nd _<|List.mem_cons_self ..
 have hnG:=N.nd G qm
 have hFG:∀ b∈F1++Fm++F2,b∉G:=fun b gO =>(List.pairwise_cons.1 N.dj).1 G qm b gO
 have hnm:Fm.Nodup:=(List.nodup_append.1 (List.nodup_append.1 hnF).1).2.1
 obtain ⟨hg,w',F',z6,k1,k2,k3,k4,k5,k6,k7,k8,k9⟩:=slice_poke hr (fj.sub fun b gO =>by simp [gO]) hnm h3 hz hG hnG (fun b gO =>hFG b<|by simp [gO]) (P:=P)
 have hgb:=hb g<|by simp [hg]
 have auP:∀ b∈F1++F2,w'.heap[b]? =w.heap[b]? :=fun b gO =>k5 b fun e=>by
  subst e
  have h4:=List.nodup_append.1 hnF
  have h5:=List.nodup_append.1 h4.1
  rcases List.mem_append.1 gO with h | h
  ·exact h5.2.2 b h b hg rfl
  ·exact h4.2.2 b (by simp [hg]) b h rfl
 have hms:∀ b∈F1++F' ++F2,b∈F1++Fm++F2\/b∈G:=fun b gO =>by
  simp only [List.mem_append] at gO ⊢
  rcases gO with (h | h) | h
  ·simp [h]
  ·rcases k8 b h with h | h <;> simp [h]
  ·simp [h]
 have N' :Fresh W0.heap.size ((F1++F' ++F2)::L):=N.repl ⟨hms,fun _ _ _=>by
  have h4:=List.nodup_append.1 hnF
  have h5:=List.nodup_append.1 h4.1
  refine List.nodup_append.2 ⟨List.nodup_append.2 ⟨h5.1,k9,fun a ha b gO e=>?_⟩,h4.2.1,fun a ha b gO e=>?_⟩
  ·subst e
   rcases k8 a gO with h | h
   ·exact h5.2.2 a ha a h rfl
   ·exact hFG a (by simp [ha]) h
  ·subst e
   rcases List.mem_append.1 ha with h | h
   ·exact h4.2.2 a (by simp [h]) a gO rfl
   ·rcases k8 a h with h | h
    ·exact h4.2.2 a (by simp [h]) a gO rfl
    ·exact hFG a (by simp [gO]) h⟩
 have H' :=H.poke k1 k2 k3 k4 k5 (N.ge _ (List.mem_cons_self ..) g<|by simp [hg]) hgb.2 Γ' fun f hf' =>⟨(hΓ f hf').1,fun h=>(hΓ f hf').2 g h<|by simp [hg]⟩
 refine o_unit (w' :=w') ?_<|kk w' _ N'<|H'.add _ ⟨Pd w' F' _ _ auP k7,fun _ b gO =>?_⟩ fun b gO =>?_
 ·subst hv
  simp [execOp,hx,hy,Instr.storeAt,Instr.sureAddr,storeVar,hs,ho,z6]
 ·by_cases e:b=g
  ·subst e;exact k6
  ·rw [k5 b e]
   rcases hms b gO with h | h
   ·exact fj b h
   ·exact hGf b h
 ·rw [k4]
  rcases hms b gO with h | h
  ·exact hb b h
  ·exact hGo b h
theorem o_pokePart [Dfr] (S:Qo α (List γ) q get put) {l l' :List α} (H:St W0 w ps Γ)
 (j:Nat) (hf:Γ[j]? =some (qL true F xs l)) (mm:Nat) {G:yLN} {L:List yLN} {v:Value} {z:γ} (hg:Γ[mm]? =some (isF true G v z)) (N:Fresh W0.heap.size (F::G::L))
 (Γ' :List Fact) (hΓ:∀ f∈Γ',f∈Γ/\∀ x∈f.F,x∉F) (i:Nat) (h1:i < l.length) {g o m c sz:Nat} (qs:qI.size α=sz) (h2:xs[i * sz+q]? =some (Sv (some ⟨g,o,none⟩) m c)) (p:Nat) (h3:p < (get<|l[i]!).length) (hz:qI.size γ=1)
 (hs:∀ w,(Go.sizeOf t).run P w=.ok 1 w) {iv:Int} (hx:ev n ρ x=.pointer (some ⟨g,o+iv.toNat * 1,none⟩)) (ho:iv.toNat=p) (hy:ev n ρ y=v)
 (Ez :l' =l.set i (put (l[i]!) ((get<|l[i]!).set p z))) (kk:∀ w' F',Fresh W0.heap.size (F'::L)->St W0 w' ps (qL true F' xs l'::Γ')->K ρ w'):
 OW P Q ⟨none,.store t x y,ty,pos,af,none⟩ n ρ w K:=by
 have hG:=H.facts _<|List.mem_of_getElem? hg
 have h1' :v.oneCell' =true:=qI.one hG.1.1 v<|List.mem_singleton.2 rfl
 have hc:v.cells=#[v]:=by cases v <;> first | rfl | (simp [Value.oneCell'] at h1')
 exact pokePart S H j hf N hG.1.1 (hG.1.2 rfl) hG.2 Γ' hΓ i h1 qs h2 p h3 qf (by rw [hc]) (by simpa [hc] using hs) hx (by rw [hz,ho]) hy Ez kk
theorem o_pokeBool [Dfr] {get:α->List Bool} {put:α->List Bool->α} (S:Qo α (List Bool) q get put) {l l' :List α} (H:St W0 w ps Γ)
 (j:Nat) (hf:Γ[j]? =some (qL true F xs l)) {L:List yLN} {z:Bool} (N:Fresh W0.heap.size (F::L))
 (Γ' :List Fact) (hΓ:∀ f∈Γ',f∈Γ/\∀ x∈f.F,x∉F) (i:Nat) (h1:i < l.length) {g o m c sz:Nat} (qs:qI.size α=sz) (h2:xs[i * sz+q]? =some (Sv (some ⟨g,o,none⟩) m c)) (p:Nat) (h3:p < (get<|l[i]!).length)
 (hs:∀ w,(Go.sizeOf t).run P w=.ok 1 w) {iv:Int} (hx:ev n ρ x=.pointer (some ⟨g,o+iv.toNat * 1,none⟩)) (ho:iv.toNat=p) (hy:ev n ρ y=Bv z)
 (Ez :l' =l.set i (put (l[i]!) ((get<|l[i]!).set p z))) (kk:∀ w' F',Fresh W0.heap.size (F'::L)->St W0 w' ps (qL true F' xs l'::Γ')->K ρ w'):
 OW P Q ⟨none,.store t x y,ty,pos,af,none⟩ n ρ w K:=
 pokePart (γ:=Bool) (v:=Bv z) S H j hf (Fresh.swap N.emp) (show qI.rep w [] [Bv z] z from ⟨rfl,rfl⟩) (jQ.nil _) (fun b hb=>by simp at hb) Γ' hΓ i h1 qs h2 p h3 (show 0 < 1 from Nat.one_pos) rfl hs hx (by rw [ho];rfl) hy Ez kk
end
section
variable {W0 w : World} {ps : List Prv} {Γ : List Fact}
theorem St.xX (H:St W0 w ps Γ) (k:Nat) (hp:ps[k]? =some (.row (Sv (some ⟨b,0,none⟩) nn c) e sz nn xs)) (hv:xs[i]? =some v) (ho:off=i):w.cell? ⟨b,off,none⟩=some v:=by
 subst ho;exact H.rowGet k hp hv
theorem St.takePart {α γ:Type} [qI α] [qI γ] [Inhabited α] {get:α->List γ} {put:α->List γ->α} (S:Qo α (List γ) q get put) (H:St W0 w ps Γ) (j:Nat) {l:List α} (hf:Γ[j]? =some (qL true F xs l))
 {L:List yLN} (N:Fresh W0.heap.size (F::L)) (i:Nat) (h1:i < l.length) {sz:Nat} (qs:qI.size α=sz) {v:Value} (h2:xs[i * sz+q]? =some v):
 ∃ (a:yOA) (c:Nat) (G F' :yLN),v=Sv a (get<|l[i]!).length c/\Fresh W0.heap.size (G::F'::L)/\St W0 w ps (isF true G v (get<|l[i]!)::qL true F' (xs.set (i * sz+q)<|Sv none 0 0) (l.set i<|put (l[i]!) [])::Γ):=by
 subst qs
 have eg:=H.facts _<|List.mem_of_getElem? hf
 have hb:∀ b∈F,b < w.heap.size/\∀ i,yL ps i≠some b:=eg.2
 obtain ⟨Ws,abM⟩:=eg.1
 have fj:=abM rfl
 obtain ⟨c1,cm,c2,F1,Fm,F2,rfl,e1,rfl,hr,Pd⟩:=S.el Ws i h1
 obtain ⟨a,c,rfl,_⟩:=id hr
 have ev:v=Sv a (get<|l[i]!).length c:=by
  rw [List.append_assoc,List.getElem?_append_right qf,e1] at h2
  simpa using h2.symm
 subst ev
 have hnF:=N.nd _<|List.mem_cons_self ..
 have h4:=List.nodup_append.1 hnF
 have h5:=List.nodup_append.1 h4.1
 have oj:(c1++[Value.slice a (get<|l[i]!).length c]++c2).set (i * qI.size α+q) (Sv none 0 0)=c1++[Sv none 0 0]++c2:=by
  rw [← e1,List.append_assoc,List.set_append_right _ _<|Nat.le_refl _];simp
 have hd:=List.pairwise_cons.1 N.dj
 refine ⟨a,c,Fm,F1++F2,rfl,⟨fun K hK=>?_,fun K hK b gO =>?_,List.pairwise_cons.2 ⟨fun K hK b gO =>?_,List.pairwise_cons.2 ⟨fun K hK b gO =>hd.1 K hK b ?_,hd.2⟩⟩⟩,?_⟩
 ·rcases List.mem_cons.1 hK with rfl | hK
  ·exact h5.2.1
  ·rcases List.mem_cons.1 hK with rfl | hK
   ·exact List.nodup_append.2 ⟨h5.1,h4.2.1,fun x hx y hy=>h4.2.2 x (by simp [hx]) y hy⟩
   ·exact N.nd K<|by simp [hK]
 ·rcases List.mem_cons.1 hK with rfl | hK
  ·exact N.ge _ (List.mem_cons_self ..) b<|by simp [gO]
  ·rcases List.mem_cons.1 hK with rfl | hK
   ·exact N.ge _ (List.mem_cons_self ..) b (by simp only [List.mem_append] at gO ⊢;rcases gO with h | h <;> simp [h])
   ·exact N.ge K (by simp [hK]) b gO
 ·rcases List.mem_cons.1 hK with rfl | hK
  ·intro hb2
   rcases List.mem_append.1 hb2 with h | h
   ·exact h5.2.2 b h b gO rfl
   ·exact h4.2.2 b (by simp [gO]) b h rfl
  ·exact hd.1 K hK b<|by simp [gO]
 ·simp only [List.mem_append] at gO ⊢;rcases gO with h | h <;> simp [h]
 ·rw [oj]
  refine (H.add (qL true (F1++F2) (c1++[Sv none 0 0]++c2)<|l.set i<|put (l[i]!) []) ⟨?_,fun _=>fj.sub fun b gO =>?_⟩ fun b gO =>hb b ?_).add (isF true Fm _<|get<|l[i]!) ⟨hr,fun _=>fj.sub fun b gO =>by simp [gO]⟩ fun b gO =>hb b (by have gO :b∈Fm:=gO;simp [gO])
  ·have h6:=Pd w [] [Sv none 0 0] [] (fun _ _=>rfl) ⟨none,0,rfl,by simp,Or.inl ⟨rfl,rfl⟩⟩
   simpa using h6
  ·simp only [List.mem_append] at gO ⊢;rcases gO with h | h <;> simp [h]
  ·have gO :b∈F1++F2:=gO
   simp only [List.mem_append] at gO ⊢;rcases gO with h | h <;> simp [h]
end
section
variable {α β : Type} [qI α] [qI β] [Inhabited α] {q : Nat} {get : α -> β} {put : α -> β -> α}
variable {P : Program} {Q : Exit -> Act -> World -> Prop} {n : Nat} {ρ : Env} {W0 w : World} {ps : List Prv} {Γ : List Fact}
 {d:Nat} {ty:TypeId} {pos:String} {af:Array Edge} {K:Env->World->Prop}
theorem o_putHole [Dfr] (S:Qo α β q get put) {u:Value} {l' :List α} (H:St W0 w ps Γ) (k:Nat) (hp:ps[k]? =some (.row (Sv (some ⟨b,0,none⟩) nn c) e sz nn xs))
 (j:Nat) {F:yLN} {l:List α} (hf:Γ[j]? =some (qL true F (xs.set p u) l)) (m:Nat) {G:yLN} {us:List Value} {z:β} (hg:Γ[m]? =some (valF true G us z)) {v:Value}
 (hv:v.cells.toList=us) (hs:∀ w,(Go.sizeOf t).run P w=.ok v.cells.size w) (hx:ev n ρ x=.pointer (some ⟨b,off,none⟩)) (hy:ev n ρ y=v) (qs:qI.size α=sz) (i:Nat) (h1:i < nn) (ho:off=i * sz+q) (Ez :l' =l.set i (put (l[i]!) z)) (hin:off<=p/\p < off+us.length)
 (kk:∀ w' xd F',((∀ b∈F',b∈F\/b∈G)/\(F.Nodup->G.Nodup->(∀ b∈F,b∉G)->F'.Nodup))->St W0 w' (ps.set k<|.row (Sv (some ⟨b,0,none⟩) nn c) e sz nn xd) (qL true F' xd l'::Γ)->K ρ w') (hz:0 < sz:=by decide):
 OW P Q ⟨none,.store t x y,ty,pos,af,none⟩ n ρ w K:=
 putPart S H k hp j hf ⟨(H.get m hg).1,(H.get m hg).2 rfl⟩ (H.facts _<|List.mem_of_getElem? hg).2 hv hs hx hy qs hz i h1 ho Ez qm (fun _=>by
  rw [List.take_set_of_le hin.1,List.drop_set_of_lt hin.2]) kk
end
theorem Xo (OL:∀ f∈Γ,∀ b∈f.F,b < B) (j:Nat) (hf:Γ[j]? =some f) (N:Fresh B (F::L)):∀ x∈f.F,x∉F:=away_lt (OL f<|List.mem_of_getElem? hf) N
theorem drop_mem {α:Type} {l m:List α} (n:Nat) (h:l.drop n=m) {x:α} (hx:x∈m):x∈l:=List.mem_of_mem_drop<|h▸hx
theorem keeps_old {Γ0:List Fact} (n:Nat) (hn:Γ.drop n=Δ) (OL:∀ f∈Γ0,∀ b∈f.F,b < B) (m:Nat) (hm:Γ0.drop m=Δ) (N:Fresh B (F::L)):∀ f∈Δ,f∈Γ/\∀ x∈f.F,x∉F:=
 fun f hf=>⟨drop_mem n hn hf,away_lt (OL f<|drop_mem m hm hf) N⟩
theorem away_part (sb:∀ G∈L,∀ x∈G,x∈F1) (i:Nat) (h:L[i]? =some G) (hN:∀ x∈F1,x∉F):∀ x∈G,x∉F:=fun x hx=>hN x<|sb G (List.mem_of_getElem? h) x hx
theorem olds_none:∀ f∈([]:List Fact),∀ b∈f.F,b < B:=fun f hf=>by cases hf
theorem zf (h:∀ b∈f.F,b < B) (k:∀ f∈Γ,∀ b∈f.F,b < B):∀ g∈f::Γ,∀ b∈g.F,b < B:=fun g hg=>by
 rcases List.mem_cons.1 hg with rfl | hg
 ·exact h
 ·exact k g hg
theorem zZ (OL:∀ f∈Γ,∀ b∈f.F,b < B) (j:Nat) (hf:Γ[j]? =some f):∀ b∈f.F,b < B:=OL f<|List.mem_of_getElem? hf
theorem olds_drop (OL:∀ f∈Γ,∀ b∈f.F,b < B) (n:Nat) (hn:Γ.drop n=Δ):∀ f∈Δ,∀ b∈f.F,b < B:=fun f hf=>OL f<|drop_mem n hn hf
theorem St.yC {α:Type} [qI α] (H:St W0 w ps Γ) (k:Nat) (hp:ps[k]? =some (.row (Sv (some ⟨b,0,none⟩) nn c) e 1 nn xs)) (j:Nat) {l:List (List α)}
 (hf:Γ[j]? =some (qL fr F xs l)) {iv:Int} (i:Nat) (h:iv.toNat=i) (h1:i < nn):
 ∃ (a:yOA) (c' :Nat) (G:yLN),xs[i * 1+0]? =some (Sv a (l[i]!).length c')/\St W0 w ps (isF fr G (Sv a (l[i]!).length c') (l[i]!)::Γ):=by
 obtain ⟨cs,G,hc,hr,cX,fj,v1,v2,hx,hv⟩:=H.rowElem k hp j hf Nat.one_pos h h1
 obtain ⟨a,c',rfl,hx'⟩:=id hr
 have hxi:xs[i * 1+0]? =some (Sv a (l[i]!).length c'):=by
  have DT:v1.length=i:=by rw [hv];exact Nat.mul_one _
  rw [hx,List.append_assoc,List.getElem?_append_right qf]
  simp [DT]
 exact ⟨a,c',G,hxi,H.jF j hf _ ⟨hr,fj⟩ cX⟩
theorem St.splitLast {α:Type} [qI α] (H:St W0 w ps Γ) (j:Nat) {l:List (List α)} (hf:Γ[j]? =some (isF true G (Sv (some ⟨b,o,none⟩) m c) l)) (N:Fresh W0.heap.size (G::L)) (n:Nat) (hn:l.length=n+1):
 ∃ (a:yOA) (c' :Nat) (G1 G2:yLN),Fresh W0.heap.size (G1::G2::L)/\St W0 w ps (isF true G1 (Sv (some ⟨b,o,none⟩) (l.take n).length c) (l.take n)::isF true G2 (Sv a (l[n]!).length c') (l[n]!)::atF b (o+(n:Int).toNat * 1) [Sv a (l[n]!).length c']::Γ):=by
 have eg:=H.facts _<|List.mem_of_getElem? hf
 have hb:∀ b∈G,b < w.heap.size/\∀ i,yL ps i≠some b:=eg.2
 obtain ⟨⟨a0,c0,hc,⟨hl,acD⟩,ON⟩,fj⟩:=eg.1
 simp only [List.cons.injEq,Value.slice.injEq,and_true] at hc
 obtain ⟨rfl,rfl,rfl⟩:=hc
 rcases ON with ⟨h0,_⟩ | ⟨b',off,F1,vs,ha,rfl,nO,hr,hcells⟩
 ·rw [h0] at hn;simp at hn
 simp only [Option.some.injEq,Addr.mk.injEq,and_true] at ha
 obtain ⟨rfl,rfl⟩:=ha
 obtain ⟨G1,Gk,G2,v1,cs,v2,rfl,rfl,DT,hl2,Ws,hr1,hr2⟩:=reps_get hr n qf
 have ek:l[n]! =l[n]:=getElem!_pos l n qf
 rw [← ek] at Ws
 have hd:l.drop (n+1)=[]:=List.drop_eq_nil_of_le qf
 rw [hd] at hr2
 obtain ⟨rfl,rfl⟩:G2=[]/\v2=[]:=hr2
 obtain ⟨a,c',rfl,_⟩:=id Ws
 simp only [List.append_nil] at N hb fj hr nO hcells
 have fj:=fj trivial
 have ayl :v1.length=n:=by rw [DT];exact Nat.mul_one _
 have Mm:=List.nodup_cons.1<|N.nd _<|List.mem_cons_self ..
 have hna:=List.nodup_append.1 Mm.2
 have hdj:=List.pairwise_cons.1 N.dj
 have ht:(l.take n).length=n:=List.length_take_of_le qf
 refine ⟨a,c',b::G1,Gk,⟨fun K hK=>?_,fun K hK x hx=>?_,List.pairwise_cons.2 ⟨fun K hK x hx=>?_,List.pairwise_cons.2 ⟨fun K hK x hx=>hdj.1 K hK x<|by simp [hx],hdj.2⟩⟩⟩,?_⟩
 ·rcases List.mem_cons.1 hK with rfl | hK
  ·exact List.nodup_cons.2 ⟨fun h=>Mm.1<|by simp [h],hna.1⟩
  ·rcases List.mem_cons.1 hK with rfl | hK
   ·exact hna.2.1
   ·exact N.nd K<|by simp [hK]
 ·rcases List.mem_cons.1 hK with rfl | hK
  ·exact N.ge _ (List.mem_cons_self ..) x (by rcases List.mem_cons.1 hx with rfl | h;exact List.mem_cons_self ..;exact List.mem_cons_of_mem _ (List.mem_append_left _ h))
  ·rcases List.mem_cons.1 hK with rfl | hK
   ·exact N.ge _ (List.mem_cons_self ..) x<|by simp [hx]
   ·exact N.ge K (by simp [hK]) x hx
 ·rcases List.mem_cons.1 hK with rfl | hK
  ·rcases List.mem_cons.1 hx with rfl | h
   ·exact fun h=>Mm.1<|by simp [h]
   ·exact fun h2=>hna.2.2 x h x h2 rfl
  ·exact hdj.1 K hK x (by rcases List.mem_cons.1 hx with rfl | h;exact List.mem_cons_self ..;exact List.mem_cons_of_mem _ (List.mem_append_left _ h))
 ·have Dj:yG w b (o+(n:Int).toNat * 1) [Sv a (l[n]!).length c']:=fun i v hi=>by
   have h1:=hcells (v1.length+i) v<|by rw [List.getElem?_append_right qf,Nat.add_sub_cancel_left];exact hi
   rw [ayl] at h1
   rw [show o+(n:Int).toNat * 1+i=o+(n+i) by omega];exact h1
  refine ((H.add (atF b (o+(n:Int).toNat * 1) _) Dj fun x hx=>hb x ?_).add (isF true Gk _<|l[n]!) ⟨Ws,fun _=>fj.sub fun x hx=>by simp [hx]⟩ fun x hx=>hb x (by have hx:x∈Gk:=hx;simp [hx])).add (isF true (b::G1) _<|l.take n) ⟨⟨_,_,rfl,⟨by omega,by omega⟩,Or.inr ⟨b,o,G1,v1,rfl,rfl,nO,hr1,fun i v hi=>?_⟩⟩,fun _=>fj.sub fun x hx=>?_⟩ fun x hx=>hb x ?_
  ·have hx:x=b:=by simpa [atF] using hx
   simp [hx]
  ·refine hcells i v ?_
   rw [List.getElem?_append_left (List.getElem?_eq_some_iff.1 hi).1];exact hi
  ·rcases List.mem_cons.1 hx with rfl | h
   ·exact List.mem_cons_self ..
   ·exact List.mem_cons_of_mem _<|List.mem_append_left _ h
  ·have hx:x∈b::G1:=hx
   rcases List.mem_cons.1 hx with rfl | h
   ·exact List.mem_cons_self ..
   ·exact List.mem_cons_of_mem _<|List.mem_append_left _ h
theorem o_headV [Dfr] {Q:Exit->Act->World->Prop} {n:Nat} {ρ:Env} {d:Nat} {ty:TypeId} {pos:String} {af:Array Edge} {K:Env->World->Prop}
 {x y:Operand} {t e:TypeId} {z:Value} {sz fJ b off m c:Nat} (kk:Nat) {r:Nat} (hr:r=kk) {iv:Int} (hu:P.underlying t=some (.slice e)) (he:TI P e z sz fJ)
 (hx:ev n ρ x=Sv (some ⟨b,off,none⟩) m c) (hy:ev n ρ y=.int .i64 iv) (hv:iv=kk) (hk:kk<=c) (k:K (upd ρ d<|Sv (some ⟨b,off,none⟩) r c) w):
 OW P Q ⟨some d,.slice t x none (some y) none,ty,pos,af,none⟩ n ρ w K:=by
 subst hr hv
 refine QT _ ?_ k
 have e1:(if c=0 then some ⟨b,off,none⟩ else (some (⟨b,off,none⟩:Addr)).map (·.add (0 * sz)))=some ⟨b,off,none⟩:=by split <;> simp [Addr.add_mid]
 rw [Nat.zero_mul] at e1
 simp [execOp,hx,hy,Instr.sliceAt,Instr.slice,Instr.sliceBounds,Instr.sliceBound,asIntOf,run_underlying hu,he.sizeOf,show r<=c by omega,Addr.add_mid]
end
section
theorem St.partS_DeskD {α:Type} [qI α] [Inhabited α] {get:α->zn} {put:α->zn->α} (S:Qo α zn q get put) (H:St W0 w ps Γ) (k:Nat) (hp:ps[k]? =some (.row (Sv (aa b 0) nn c) e sz nn xs)) (j:Nat) {l:List α}
 (hf:Γ[j]? =some (qL fr F xs l)) (qs:qI.size α=sz) (i:Nat) (h1:i < nn) (hz:0 < sz:=by decide):
 ∃ (fL:yOA) (fS:Nat) (Q5:yLN) (g5:yOA) (g6:Nat) (QL:yLN) (AF:yOA) (Al:Nat) (nA:yLN) (g7:yOA) (g8:Nat) (dX:yLN) (An:yOA) (As:Nat) (ng:yLN) (pU:yOA) (pm:Nat) (gD:yLN),(∀ (r:Nat) (v:Value),([yI (get<|l[i]!).qN,Sv fL (get<|l[i]!).qG.length fS,Sv g5 (get<|l[i]!).qE.length g6,Bv (get<|l[i]!).qQ,Sv AF (get<|l[i]!).vz.length Al,Sv g7 (get<|l[i]!).qJ.length g8,Sv An (get<|l[i]!).vJ.length As,Sv pU (get<|l[i]!).xP.length pm]:List Value)[r]? =some v->xs[i * sz+q+r]? =some v)/\(∀ G∈[Q5,QL,nA,dX,ng,gD],∀ x∈G,x∈F)/\St W0 w ps (isF fr Q5 (Sv fL (get<|l[i]!).qG.length fS) (get<|l[i]!).qG::isF fr QL (Sv g5 (get<|l[i]!).qE.length g6) (get<|l[i]!).qE::isF fr nA (Sv AF (get<|l[i]!).vz.length Al) (get<|l[i]!).vz::isF fr dX (Sv g7 (get<|l[i]!).qJ.length g8) (get<|l[i]!).qJ::isF fr ng (Sv An (get<|l[i]!).vJ.length As) (get<|l[i]!).vJ::isF fr gD (Sv pU (get<|l[i]!).xP.length pm) (get<|l[i]!).xP::Γ):=by
 subst qs
 have hn:nn=l.length:=H.xe (α:=α) k hp j hf hz
 obtain ⟨c1,cm,c2,F1,Fm,F2,hxs,hl,hF,hr,_⟩:=S.el (H.get j hf).1 i qf
 have cX:∀ x∈Fm,x∈F:=fun x hx=>by rw [hF];simp [hx]
 have fj:fr=true->jQ w Fm:=fun e=>((H.get j hf).2 e).sub cX
 obtain ⟨dR,dT,uq,fP,tV,m4,Q5,QL,nA,dX,ng,gD,rfl,eg,Vm,XC,so,fv,r7,lZ⟩:=id hr
 obtain ⟨fL,fS,rfl⟩:=slice_form Vm
 obtain ⟨g5,g6,rfl⟩:=slice_form XC
 obtain ⟨AF,Al,rfl⟩:=slice_form so
 obtain ⟨g7,g8,rfl⟩:=slice_form fv
 obtain ⟨An,As,rfl⟩:=slice_form r7
 obtain ⟨pU,pm,rfl⟩:=slice_form lZ
 refine ⟨fL,fS,Q5,g5,g6,QL,AF,Al,nA,g7,g8,dX,An,As,ng,pU,pm,gD,fun r v hv=>?_,fun G hG x hx=>?_,?_⟩
 ·have nO:=(List.getElem?_eq_some_iff.1 hv).1
  rw [hxs,← hl,List.append_assoc,List.getElem?_append_right qf,Nat.add_sub_cancel_left,List.getElem?_append_left nO]
  exact hv
 ·refine cX x ?_
  rw [eg]
  simp only [List.mem_cons,List.not_mem_nil,or_false] at hG
  try simp only [List.mem_append]
  rcases hG with rfl | rfl | rfl | rfl | rfl | rfl <;> simp [hx]
 ·exact ((((((H.jF (j+0) hf (isF fr gD _ (get<|l[i]!).xP) ⟨lZ,fun e=>(fj e).sub<|by rw [eg];intro x hx;simp [hx]⟩<|fun x hx=>cX x (by rw [eg];have hx:x∈gD:=hx;simp [hx])).jF (j+1) hf (isF fr ng _ (get<|l[i]!).vJ) ⟨r7,fun e=>(fj e).sub<|by rw [eg];intro x hx;simp [hx]⟩<|fun x hx=>cX x (by rw [eg];have hx:x∈ng:=hx;simp [hx])).jF (j+2) hf (isF fr dX _ (get<|l[i]!).qJ) ⟨fv,fun e=>(fj e).sub<|by rw [eg];intro x hx;simp [hx]⟩<|fun x hx=>cX x (by rw [eg];have hx:x∈dX:=hx;simp [hx])).jF (j+3) hf (isF fr nA _ (get<|l[i]!).vz) ⟨so,fun e=>(fj e).sub<|by rw [eg];intro x hx;simp [hx]⟩<|fun x hx=>cX x (by rw [eg];have hx:x∈nA:=hx;simp [hx])).jF (j+4) hf (isF fr QL _ (get<|l[i]!).qE) ⟨XC,fun e=>(fj e).sub<|by rw [eg];intro x hx;simp [hx]⟩<|fun x hx=>cX x (by rw [eg];have hx:x∈QL:=hx;simp [hx])).jF (j+5) hf (isF fr Q5 _ (get<|l[i]!).qG) ⟨Vm,fun e=>(fj e).sub<|by rw [eg];intro x hx;simp [hx]⟩<|fun x hx=>cX x (by rw [eg];have hx:x∈Q5:=hx;simp [hx]))
theorem St.vV {α:Type} [qI α] [Inhabited α] {get:α->zn} {put:α->zn->α} (S:Qo α zn q get put) (H:St W0 w ps Γ) (k:Nat) (hp:ps[k]? =some (.row (Sv (aa b 0) nn c) e sz nn xs)) (j:Nat) {l:List α}
 (hf:Γ[j]? =some (qL fr F xs l)) (qs:qI.size α=sz) (i:Nat) (h1:i < nn) (hz:0 < sz:=by decide):
 ∃ (fL:yOA) (fS:Nat) (Q5:yLN) (g5:yOA) (g6:Nat) (QL:yLN) (AF:yOA) (Al:Nat) (nA:yLN) (g7:yOA) (g8:Nat) (dX:yLN) (An:yOA) (As:Nat) (ng:yLN) (pU:yOA) (pm:Nat) (gD:yLN),(∀ (r:Nat) (v:Value),([yI (get<|l[i]!).qN,Sv fL (get<|l[i]!).qG.length fS,Sv g5 (get<|l[i]!).qE.length g6,Bv (get<|l[i]!).qQ,Sv AF (get<|l[i]!).vz.length Al,Sv g7 (get<|l[i]!).qJ.length g8,Sv An (get<|l[i]!).vJ.length As,Sv pU (get<|l[i]!).xP.length pm]:List Value)[r]? =some v->xs[i * sz+q+r]? =some v)/\St W0 w ps (isF fr Q5 (Sv fL (get<|l[i]!).qG.length fS) (get<|l[i]!).qG::isF fr QL (Sv g5 (get<|l[i]!).qE.length g6) (get<|l[i]!).qE::isF fr nA (Sv AF (get<|l[i]!).vz.length Al) (get<|l[i]!).vz::isF fr dX (Sv g7 (get<|l[i]!).qJ.length g8) (get<|l[i]!).qJ::isF fr ng (Sv An (get<|l[i]!).vJ.length As) (get<|l[i]!).vJ::isF fr gD (Sv pU (get<|l[i]!).xP.length pm) (get<|l[i]!).xP::Γ):=by
 obtain ⟨fL,fS,Q5,g5,g6,QL,AF,Al,nA,g7,g8,dX,An,As,ng,pU,pm,gD,h1,_,h2⟩:=H.partS_DeskD S k hp j hf qs i h1 hz
 exact ⟨fL,fS,Q5,g5,g6,QL,AF,Al,nA,g7,g8,dX,An,As,ng,pU,pm,gD,h1,h2⟩
theorem St.mk_DeskD (H:St W0 w ps Γ) (n0:Int) (tO:Nat) {pT:yLN} {dR:Value} {x3:yLL} (Vm:Γ[tO]? =some (isF true pT dR x3)) (Am:Nat) {sK:yLN} {dT:Value} {Ho:yLI} (XC:Γ[Am]? =some (isF true sK dT Ho)) (Gp:Bool) (aay:Nat) {RQ:yLN} {uq:Value} {afJ:List Bool} (so:Γ[aay]? =some (isF true RQ uq afJ)) (A7:Nat) {sN:yLN} {fP:Value} {HA:yLL} (fv:Γ[A7]? =some (isF true sN fP HA)) (abO:Nat) {Ss:yLN} {tV:Value} {alw:List yLL} (r7:Γ[abO]? =some (isF true Ss tV alw)) (OY:Nat) {GO:yLN} {m4:Value} {Wj:List yLL} (lZ:Γ[OY]? =some (isF true GO m4 Wj)):
 St W0 w ps (valF true (pT++sK++RQ++sN++Ss++GO) [yI n0,dR,dT,Bv Gp,uq,fP,tV,m4] (⟨n0,x3,Ho,Gp,afJ,HA,alw,Wj⟩:zn)::Γ):=by
 refine H.add _ ⟨⟨dR,dT,uq,fP,tV,m4,pT,sK,RQ,sN,Ss,GO,rfl,rfl,(H.get tO Vm).1,(H.get Am XC).1,(H.get aay so).1,(H.get A7 fv).1,(H.get abO r7).1,(H.get OY lZ).1⟩,fun e=>(((((((H.get tO Vm).2 e).app ((H.get Am XC).2 e)).app ((H.get aay so).2 e)).app ((H.get A7 fv).2 e)).app ((H.get abO r7).2 e)).app ((H.get OY lZ).2 e))⟩ fun b hb=>?_
 have h:b∈(pT++sK++RQ++sN++Ss++GO):=hb
 simp only [List.mem_append] at h
 rcases h with (((((h | h) | h) | h) | h) | h)
 ·exact (H.facts _<|List.mem_of_getElem? Vm).2 b h
 ·exact (H.facts _<|List.mem_of_getElem? XC).2 b h
 ·exact (H.facts _<|List.mem_of_getElem? so).2 b h
 ·exact (H.facts _<|List.mem_of_getElem? fv).2 b h
 ·exact (H.facts _<|List.mem_of_getElem? r7).2 b h
 ·exact (H.facts _<|List.mem_of_getElem? lZ).2 b h
theorem part_Server_DeskBags:Qo zA yLL 1 (fun x=>x.qC.qG) (fun x y=>{ x with qC:={ x.qC with qG:=y }}):=
 ⟨fun {w F cs x} h=>by
  obtain ⟨bn,aS,bC,aU,bB,bi,aZ,aC,bm,aD,bj,a6,bf,aA,bo,aB,bq,aX,aM,ay,aW,aw,aY,aK,rfl,rfl,bF,bg,bS,bh,bT,bH,bv,a8,bI,a9,bG,bw⟩:=h
  refine ⟨[yI x.qC.qN],[bn],[aS,Bv x.qC.qQ,bC,aU,bB,bi,yI x.qH.qN,aZ,aC,Bv x.qH.qQ,bm,aD,bj,a6],[],bf,(aA++bo++aB++bq++aX++aM++ay++aW++aw++aY++aK),by simp,rfl,by simp,bF,fun w' F' c' y hs hr=>?_⟩
  obtain ⟨a,c,rfl,_⟩:=id hr
  exact ⟨_,aS,bC,aU,bB,bi,aZ,aC,bm,aD,bj,a6,F',aA,bo,aB,bq,aX,aM,ay,aW,aw,aY,aK,by simp,by simp,hr,qI.stay bg fun b hb=>hs b<|by simp [hb],qI.stay bS fun b hb=>hs b<|by simp [hb],qI.stay bh fun b hb=>hs b<|by simp [hb],qI.stay bT fun b hb=>hs b<|by simp [hb],qI.stay bH fun b hb=>hs b<|by simp [hb],qI.stay bv fun b hb=>hs b<|by simp [hb],qI.stay a8 fun b hb=>hs b<|by simp [hb],qI.stay bI fun b hb=>hs b<|by simp [hb],qI.stay a9 fun b hb=>hs b<|by simp [hb],qI.stay bG fun b hb=>hs b<|by simp [hb],qI.stay bw fun b hb=>hs b<|by simp [hb]⟩⟩
theorem part_Server_DeskWorked:Qo zA Bool 3 (fun x=>x.qC.qQ) (fun x y=>{ x with qC:={ x.qC with qQ:=y }}):=
 ⟨fun {w F cs x} h=>by
  obtain ⟨bn,aS,bC,aU,bB,bi,aZ,aC,bm,aD,bj,a6,bf,aA,bo,aB,bq,aX,aM,ay,aW,aw,aY,aK,rfl,rfl,bF,bg,bS,bh,bT,bH,bv,a8,bI,a9,bG,bw⟩:=h
  refine ⟨[yI x.qC.qN,bn,aS],[Bv x.qC.qQ],[bC,aU,bB,bi,yI x.qH.qN,aZ,aC,Bv x.qH.qQ,bm,aD,bj,a6],(bf++aA),[],(bo++aB++bq++aX++aM++ay++aW++aw++aY++aK),by simp,rfl,by simp,⟨rfl,rfl⟩,fun w' F' c' y hs hr=>?_⟩
  obtain ⟨rfl,rfl⟩:=hr
  exact ⟨bn,aS,bC,aU,bB,bi,aZ,aC,bm,aD,bj,a6,bf,aA,bo,aB,bq,aX,aM,ay,aW,aw,aY,aK,by simp,by simp,qI.stay bF fun b hb=>hs b<|by simp [hb],qI.stay bg fun b hb=>hs b<|by simp [hb],qI.stay bS fun b hb=>hs b<|by simp [hb],qI.stay bh fun b hb=>hs b<|by simp [hb],qI.stay bT fun b hb=>hs b<|by simp [hb],qI.stay bH fun b hb=>hs b<|by simp [hb],qI.stay bv fun b hb=>hs b<|by simp [hb],qI.stay a8 fun b hb=>hs b<|by simp [hb],qI.stay bI fun b hb=>hs b<|by simp [hb],qI.stay a9 fun b hb=>hs b<|by simp [hb],qI.stay bG fun b hb=>hs b<|by simp [hb],qI.stay bw fun b hb=>hs b<|by simp [hb]⟩⟩
theorem Xn:Qo zA (List Bool) 4 (fun x=>x.qC.vz) (fun x y=>{ x with qC:={ x.qC with vz:=y }}):=
 ⟨fun {w F cs x} h=>by
  obtain ⟨bn,aS,bC,aU,bB,bi,aZ,aC,bm,aD,bj,a6,bf,aA,bo,aB,bq,aX,aM,ay,aW,aw,aY,aK,rfl,rfl,bF,bg,bS,bh,bT,bH,bv,a8,bI,a9,bG,bw⟩:=h
  refine ⟨[yI x.qC.qN,bn,aS,Bv x.qC.qQ],[bC],[aU,bB,bi,yI x.qH.qN,aZ,aC,Bv x.qH.qQ,bm,aD,bj,a6],(bf++aA),bo,(aB++bq++aX++aM++ay++aW++aw++aY++aK),by simp,rfl,by simp,bS,fun w' F' c' y hs hr=>?_⟩
  obtain ⟨a,c,rfl,_⟩:=id hr
  exact ⟨bn,aS,_,aU,bB,bi,aZ,aC,bm,aD,bj,a6,bf,aA,F',aB,bq,aX,aM,ay,aW,aw,aY,aK,by simp,by simp,qI.stay bF fun b hb=>hs b<|by simp [hb],qI.stay bg fun b hb=>hs b<|by simp [hb],hr,qI.stay bh fun b hb=>hs b<|by simp [hb],qI.stay bT fun b hb=>hs b<|by simp [hb],qI.stay bH fun b hb=>hs b<|by simp [hb],qI.stay bv fun b hb=>hs b<|by simp [hb],qI.stay a8 fun b hb=>hs b<|by simp [hb],qI.stay bI fun b hb=>hs b<|by simp [hb],qI.stay a9 fun b hb=>hs b<|by simp [hb],qI.stay bG fun b hb=>hs b<|by simp [hb],qI.stay bw fun b hb=>hs b<|by simp [hb]⟩⟩
theorem XA:Qo zA yLL 5 (fun x=>x.qC.qJ) (fun x y=>{ x with qC:={ x.qC with qJ:=y }}):=
 ⟨fun {w F cs x} h=>by
  obtain ⟨bn,aS,bC,aU,bB,bi,aZ,aC,bm,aD,bj,a6,bf,aA,bo,aB,bq,aX,aM,ay,aW,aw,aY,aK,rfl,rfl,bF,bg,bS,bh,bT,bH,bv,a8,bI,a9,bG,bw⟩:=h
  refine ⟨[yI x.qC.qN,bn,aS,Bv x.qC.qQ,bC],[aU],[bB,bi,yI x.qH.qN,aZ,aC,Bv x.qH.qQ,bm,aD,bj,a6],(bf++aA++bo),aB,(bq++aX++aM++ay++aW++aw++aY++aK),by simp,rfl,by simp,bh,fun w' F' c' y hs hr=>?_⟩
  obtain ⟨a,c,rfl,_⟩:=id hr
  exact ⟨bn,aS,bC,_,bB,bi,aZ,aC,bm,aD,bj,a6,bf,aA,bo,F',bq,aX,aM,ay,aW,aw,aY,aK,by simp,by simp,qI.stay bF fun b hb=>hs b<|by simp [hb],qI.stay bg fun b hb=>hs b<|by simp [hb],qI.stay bS fun b hb=>hs b<|by simp [hb],hr,qI.stay bT fun b hb=>hs b<|by simp [hb],qI.stay bH fun b hb=>hs b<|by simp [hb],qI.stay bv fun b hb=>hs b<|by simp [hb],qI.stay a8 fun b hb=>hs b<|by simp [hb],qI.stay bI fun b hb=>hs b<|by simp [hb],qI.stay a9 fun b hb=>hs b<|by simp [hb],qI.stay bG fun b hb=>hs b<|by simp [hb],qI.stay bw fun b hb=>hs b<|by simp [hb]⟩⟩
theorem part_Server_DeskNow:Qo zA (List yLL) 6 (fun x=>x.qC.vJ) (fun x y=>{ x with qC:={ x.qC with vJ:=y }}):=
 ⟨fun {w F cs x} h=>by
  obtain ⟨bn,aS,bC,aU,bB,bi,aZ,aC,bm,aD,bj,a6,bf,aA,bo,aB,bq,aX,aM,ay,aW,aw,aY,aK,rfl,rfl,bF,bg,bS,bh,bT,bH,bv,a8,bI,a9,bG,bw⟩:=h
  refine ⟨[yI x.qC.qN,bn,aS,Bv x.qC.qQ,bC,aU],[bB],[bi,yI x.qH.qN,aZ,aC,Bv x.qH.qQ,bm,aD,bj,a6],(bf++aA++bo++aB),bq,(aX++aM++ay++aW++aw++aY++aK),by simp,rfl,by simp,bT,fun w' F' c' y hs hr=>?_⟩
  obtain ⟨a,c,rfl,_⟩:=id hr
  exact ⟨bn,aS,bC,aU,_,bi,aZ,aC,bm,aD,bj,a6,bf,aA,bo,aB,F',aX,aM,ay,aW,aw,aY,aK,by simp,by simp,qI.stay bF fun b hb=>hs b<|by simp [hb],qI.stay bg fun b hb=>hs b<|by simp [hb],qI.stay bS fun b hb=>hs b<|by simp [hb],qI.stay bh fun b hb=>hs b<|by simp [hb],hr,qI.stay bH fun b hb=>hs b<|by simp [hb],qI.stay bv fun b hb=>hs b<|by simp [hb],qI.stay a8 fun b hb=>hs b<|by simp [hb],qI.stay bI fun b hb=>hs b<|by simp [hb],qI.stay a9 fun b hb=>hs b<|by simp [hb],qI.stay bG fun b hb=>hs b<|by simp [hb],qI.stay bw fun b hb=>hs b<|by simp [hb]⟩⟩
theorem zg:Qo zA zn 0 (fun x=>x.qC) (fun x y=>{ x with qC:=y }):=
 ⟨fun {w F cs x} h=>by
  obtain ⟨bn,aS,bC,aU,bB,bi,aZ,aC,bm,aD,bj,a6,bf,aA,bo,aB,bq,aX,aM,ay,aW,aw,aY,aK,rfl,rfl,bF,bg,bS,bh,bT,bH,bv,a8,bI,a9,bG,bw⟩:=h
  refine ⟨[],[yI x.qC.qN,bn,aS,Bv x.qC.qQ,bC,aU,bB,bi],[yI x.qH.qN,aZ,aC,Bv x.qH.qQ,bm,aD,bj,a6],[],(bf++aA++bo++aB++bq++aX),(aM++ay++aW++aw++aY++aK),by simp,rfl,by simp,⟨bn,aS,bC,aU,bB,bi,bf,aA,bo,aB,bq,aX,rfl,rfl,bF,bg,bS,bh,bT,bH⟩,fun w' F' c' y hs hr=>?_⟩
  obtain ⟨I7,Bu,O5,CD,KN,JI,hX,fG,kO,fE,kF,hZ,rfl,rfl,IE,Br,M5,BO,NF,Jn⟩:=hr
  exact ⟨I7,Bu,O5,CD,KN,JI,aZ,aC,bm,aD,bj,a6,hX,fG,kO,fE,kF,hZ,aM,ay,aW,aw,aY,aK,by simp,by simp,IE,Br,M5,BO,NF,Jn,qI.stay bv fun b hb=>hs b<|by simp [hb],qI.stay a8 fun b hb=>hs b<|by simp [hb],qI.stay bI fun b hb=>hs b<|by simp [hb],qI.stay a9 fun b hb=>hs b<|by simp [hb],qI.stay bG fun b hb=>hs b<|by simp [hb],qI.stay bw fun b hb=>hs b<|by simp [hb]⟩⟩
theorem jI:Qo zA zn 8 (fun x=>x.qH) (fun x y=>{ x with qH:=y }):=
 ⟨fun {w F cs x} h=>by
  obtain ⟨bn,aS,bC,aU,bB,bi,aZ,aC,bm,aD,bj,a6,bf,aA,bo,aB,bq,aX,aM,ay,aW,aw,aY,aK,rfl,rfl,bF,bg,bS,bh,bT,bH,bv,a8,bI,a9,bG,bw⟩:=h
  refine ⟨[yI x.qC.qN,bn,aS,Bv x.qC.qQ,bC,aU,bB,bi],[yI x.qH.qN,aZ,aC,Bv x.qH.qQ,bm,aD,bj,a6],[],(bf++aA++bo++aB++bq++aX),(aM++ay++aW++aw++aY++aK),[],by simp,rfl,by simp,⟨aZ,aC,bm,aD,bj,a6,aM,ay,aW,aw,aY,aK,rfl,rfl,bv,a8,bI,a9,bG,bw⟩,fun w' F' c' y hs hr=>?_⟩
  obtain ⟨E1,zz,IV,AL,JX,ER,gn,eX,hU,eT,ie,f9,rfl,rfl,DY,AO,Jv,AP,JQ,EV⟩:=hr
  exact ⟨bn,aS,bC,aU,bB,bi,E1,zz,IV,AL,JX,ER,bf,aA,bo,aB,bq,aX,gn,eX,hU,eT,ie,f9,by simp,by simp,qI.stay bF fun b hb=>hs b<|by simp [hb],qI.stay bg fun b hb=>hs b<|by simp [hb],qI.stay bS fun b hb=>hs b<|by simp [hb],qI.stay bh fun b hb=>hs b<|by simp [hb],qI.stay bT fun b hb=>hs b<|by simp [hb],qI.stay bH fun b hb=>hs b<|by simp [hb],DY,AO,Jv,AP,JQ,EV⟩⟩
theorem St.partS_ServerD {α:Type} [qI α] [Inhabited α] {get:α->zA} {put:α->zA->α} (S:Qo α zA q get put) (H:St W0 w ps Γ) (k:Nat) (hp:ps[k]? =some (.row (Sv (aa b 0) nn c) e sz nn xs)) (j:Nat) {l:List α}
 (hf:Γ[j]? =some (qL fr F xs l)) (qs:qI.size α=sz) (i:Nat) (h1:i < nn) (hz:0 < sz:=by decide):
 ∃ (eV:yOA) (eW:Nat) (bf:yLN) (dW:yOA) (dV:Nat) (aA:yLN) (fO:yOA) (fN:Nat) (bo:yLN) (dY:yOA) (dU:Nat) (aB:yLN) (fW:yOA) (fU:Nat) (bq:yLN) (fa:yOA) (fd:Nat) (aX:yLN) (es:yOA) (eu:Nat) (aM:yLN) (dE:yOA) (dG:Nat) (ay:yLN) (eY:yOA) (e7:Nat) (aW:yLN) (dF:yOA) (dH:Nat) (aw:yLN) (eU:yOA) (e9:Nat) (aY:yLN) (ey:yOA) (eB:Nat) (aK:yLN),(∀ (r:Nat) (v:Value),([yI (get<|l[i]!).qC.qN,Sv eV (get<|l[i]!).qC.qG.length eW,Sv dW (get<|l[i]!).qC.qE.length dV,Bv (get<|l[i]!).qC.qQ,Sv fO (get<|l[i]!).qC.vz.length fN,Sv dY (get<|l[i]!).qC.qJ.length dU,Sv fW (get<|l[i]!).qC.vJ.length fU,Sv fa (get<|l[i]!).qC.xP.length fd,yI (get<|l[i]!).qH.qN,Sv es (get<|l[i]!).qH.qG.length eu,Sv dE (get<|l[i]!).qH.qE.length dG,Bv (get<|l[i]!).qH.qQ,Sv eY (get<|l[i]!).qH.vz.length e7,Sv dF (get<|l[i]!).qH.qJ.length dH,Sv eU (get<|l[i]!).qH.vJ.length e9,Sv ey (get<|l[i]!).qH.xP.length eB]:List Value)[r]? =some v->xs[i * sz+q+r]? =some v)/\(∀ G∈[bf,aA,bo,aB,bq,aX,aM,ay,aW,aw,aY,aK],∀ x∈G,x∈F)/\St W0 w ps (isF fr bf (Sv eV (get<|l[i]!).qC.qG.length eW) (get<|l[i]!).qC.qG::isF fr aA (Sv dW (get<|l[i]!).qC.qE.length dV) (get<|l[i]!).qC.qE::isF fr bo (Sv fO (get<|l[i]!).qC.vz.length fN) (get<|l[i]!).qC.vz::isF fr aB (Sv dY (get<|l[i]!).qC.qJ.length dU) (get<|l[i]!).qC.qJ::isF fr bq (Sv fW (get<|l[i]!).qC.vJ.length fU) (get<|l[i]!).qC.vJ::isF fr aX (Sv fa (get<|l[i]!).qC.xP.length fd) (get<|l[i]!).qC.xP::isF fr aM (Sv es (get<|l[i]!).qH.qG.length eu) (get<|l[i]!).qH.qG::isF fr ay (Sv dE (get<|l[i]!).qH.qE.length dG) (get<|l[i]!).qH.qE::isF fr aW (Sv eY (get<|l[i]!).qH.vz.length e7) (get<|l[i]!).qH.vz::isF fr aw (Sv dF (get<|l[i]!).qH.qJ.length dH) (get<|l[i]!).qH.qJ::isF fr aY (Sv eU (get<|l[i]!).qH.vJ.length e9) (get<|l[i]!).qH.vJ::isF fr aK (Sv ey (get<|l[i]!).qH.xP.length eB) (get<|l[i]!).qH.xP::Γ):=by
 subst qs
 have hn:nn=l.length:=H.xe (α:=α) k hp j hf hz
 obtain ⟨c1,cm,c2,F1,Fm,F2,hxs,hl,hF,hr,_⟩:=S.el (H.get j hf).1 i qf
 have cX:∀ x∈Fm,x∈F:=fun x hx=>by rw [hF];simp [hx]
 have fj:fr=true->jQ w Fm:=fun e=>((H.get j hf).2 e).sub cX
 obtain ⟨bn,aS,bC,aU,bB,bi,aZ,aC,bm,aD,bj,a6,bf,aA,bo,aB,bq,aX,aM,ay,aW,aw,aY,aK,rfl,eg,bF,bg,bS,bh,bT,bH,bv,a8,bI,a9,bG,bw⟩:=id hr
 obtain ⟨eV,eW,rfl⟩:=slice_form bF
 obtain ⟨dW,dV,rfl⟩:=slice_form bg
 obtain ⟨fO,fN,rfl⟩:=slice_form bS
 obtain ⟨dY,dU,rfl⟩:=slice_form bh
 obtain ⟨fW,fU,rfl⟩:=slice_form bT
 obtain ⟨fa,fd,rfl⟩:=slice_form bH
 obtain ⟨es,eu,rfl⟩:=slice_form bv
 obtain ⟨dE,dG,rfl⟩:=slice_form a8
 obtain ⟨eY,e7,rfl⟩:=slice_form bI
 obtain ⟨dF,dH,rfl⟩:=slice_form a9
 obtain ⟨eU,e9,rfl⟩:=slice_form bG
 obtain ⟨ey,eB,rfl⟩:=slice_form bw
 refine ⟨eV,eW,bf,dW,dV,aA,fO,fN,bo,dY,dU,aB,fW,fU,bq,fa,fd,aX,es,eu,aM,dE,dG,ay,eY,e7,aW,dF,dH,aw,eU,e9,aY,ey,eB,aK,fun r v hv=>?_,fun G hG x hx=>?_,?_⟩
 ·have nO:=(List.getElem?_eq_some_iff.1 hv).1
  rw [hxs,← hl,List.append_assoc,List.getElem?_append_right qf,Nat.add_sub_cancel_left,List.getElem?_append_left nO]
  exact hv
 ·refine cX x ?_
  rw [eg]
  simp only [List.mem_cons,List.not_mem_nil,or_false] at hG
  try simp only [List.mem_append]
  rcases hG with rfl | rfl | rfl | rfl | rfl | rfl | rfl | rfl | rfl | rfl | rfl | rfl <;> simp [hx]
 ·exact ((((((((((((H.jF (j+0) hf (isF fr aK _ (get<|l[i]!).qH.xP) ⟨bw,fun e=>(fj e).sub<|by rw [eg];intro x hx;simp [hx]⟩<|fun x hx=>cX x (by rw [eg];have hx:x∈aK:=hx;simp [hx])).jF (j+1) hf (isF fr aY _ (get<|l[i]!).qH.vJ) ⟨bG,fun e=>(fj e).sub<|by rw [eg];intro x hx;simp [hx]⟩<|fun x hx=>cX x (by rw [eg];have hx:x∈aY:=hx;simp [hx])).jF (j+2) hf (isF fr aw _ (get<|l[i]!).qH.qJ) ⟨a9,fun e=>(fj e).sub<|by rw [eg];intro x hx;simp [hx]⟩<|fun x hx=>cX x (by rw [eg];have hx:x∈aw:=hx;simp [hx])).jF (j+3) hf (isF fr aW _ (get<|l[i]!).qH.vz) ⟨bI,fun e=>(fj e).sub<|by rw [eg];intro x hx;simp [hx]⟩<|fun x hx=>cX x (by rw [eg];have hx:x∈aW:=hx;simp [hx])).jF (j+4) hf (isF fr ay _ (get<|l[i]!).qH.qE) ⟨a8,fun e=>(fj e).sub<|by rw [eg];intro x hx;simp [hx]⟩<|fun x hx=>cX x (by rw [eg];have hx:x∈ay:=hx;simp [hx])).jF (j+5) hf (isF fr aM _ (get<|l[i]!).qH.qG) ⟨bv,fun e=>(fj e).sub<|by rw [eg];intro x hx;simp [hx]⟩<|fun x hx=>cX x (by rw [eg];have hx:x∈aM:=hx;simp [hx])).jF (j+6) hf (isF fr aX _ (get<|l[i]!).qC.xP) ⟨bH,fun e=>(fj e).sub<|by rw [eg];intro x hx;simp [hx]⟩<|fun x hx=>cX x (by rw [eg];have hx:x∈aX:=hx;simp [hx])).jF (j+7) hf (isF fr bq _ (get<|l[i]!).qC.vJ) ⟨bT,fun e=>(fj e).sub<|by rw [eg];intro x hx;simp [hx]⟩<|fun x hx=>cX x (by rw [eg];have hx:x∈bq:=hx;simp [hx])).jF (j+8) hf (isF fr aB _ (get<|l[i]!).qC.qJ) ⟨bh,fun e=>(fj e).sub<|by rw [eg];intro x hx;simp [hx]⟩<|fun x hx=>cX x (by rw [eg];have hx:x∈aB:=hx;simp [hx])).jF (j+9) hf (isF fr bo _ (get<|l[i]!).qC.vz) ⟨bS,fun e=>(fj e).sub<|by rw [eg];intro x hx;simp [hx]⟩<|fun x hx=>cX x (by rw [eg];have hx:x∈bo:=hx;simp [hx])).jF (j+10) hf (isF fr aA _ (get<|l[i]!).qC.qE) ⟨bg,fun e=>(fj e).sub<|by rw [eg];intro x hx;simp [hx]⟩<|fun x hx=>cX x (by rw [eg];have hx:x∈aA:=hx;simp [hx])).jF (j+11) hf (isF fr bf _ (get<|l[i]!).qC.qG) ⟨bF,fun e=>(fj e).sub<|by rw [eg];intro x hx;simp [hx]⟩<|fun x hx=>cX x (by rw [eg];have hx:x∈bf:=hx;simp [hx]))
theorem St.part_ServerD {α:Type} [qI α] [Inhabited α] {get:α->zA} {put:α->zA->α} (S:Qo α zA q get put) (H:St W0 w ps Γ) (k:Nat) (hp:ps[k]? =some (.row (Sv (aa b 0) nn c) e sz nn xs)) (j:Nat) {l:List α}
 (hf:Γ[j]? =some (qL fr F xs l)) (qs:qI.size α=sz) (i:Nat) (h1:i < nn) (hz:0 < sz:=by decide):
 ∃ (eV:yOA) (eW:Nat) (bf:yLN) (dW:yOA) (dV:Nat) (aA:yLN) (fO:yOA) (fN:Nat) (bo:yLN) (dY:yOA) (dU:Nat) (aB:yLN) (fW:yOA) (fU:Nat) (bq:yLN) (fa:yOA) (fd:Nat) (aX:yLN) (es:yOA) (eu:Nat) (aM:yLN) (dE:yOA) (dG:Nat) (ay:yLN) (eY:yOA) (e7:Nat) (aW:yLN) (dF:yOA) (dH:Nat) (aw:yLN) (eU:yOA) (e9:Nat) (aY:yLN) (ey:yOA) (eB:Nat) (aK:yLN),(∀ (r:Nat) (v:Value),([yI (get<|l[i]!).qC.qN,Sv eV (get<|l[i]!).qC.qG.length eW,Sv dW (get<|l[i]!).qC.qE.length dV,Bv (get<|l[i]!).qC.qQ,Sv fO (get<|l[i]!).qC.vz.length fN,Sv dY (get<|l[i]!).qC.qJ.length dU,Sv fW (get<|l[i]!).qC.vJ.length fU,Sv fa (get<|l[i]!).qC.xP.length fd,yI (get<|l[i]!).qH.qN,Sv es (get<|l[i]!).qH.qG.length eu,Sv dE (get<|l[i]!).qH.qE.length dG,Bv (get<|l[i]!).qH.qQ,Sv eY (get<|l[i]!).qH.vz.length e7,Sv dF (get<|l[i]!).qH.qJ.length dH,Sv eU (get<|l[i]!).qH.vJ.length e9,Sv ey (get<|l[i]!).qH.xP.length eB]:List Value)[r]? =some v->xs[i * sz+q+r]? =some v)/\St W0 w ps (isF fr bf (Sv eV (get<|l[i]!).qC.qG.length eW) (get<|l[i]!).qC.qG::isF fr aA (Sv dW (get<|l[i]!).qC.qE.length dV) (get<|l[i]!).qC.qE::isF fr bo (Sv fO (get<|l[i]!).qC.vz.length fN) (get<|l[i]!).qC.vz::isF fr aB (Sv dY (get<|l[i]!).qC.qJ.length dU) (get<|l[i]!).qC.qJ::isF fr bq (Sv fW (get<|l[i]!).qC.vJ.length fU) (get<|l[i]!).qC.vJ::isF fr aX (Sv fa (get<|l[i]!).qC.xP.length fd) (get<|l[i]!).qC.xP::isF fr aM (Sv es (get<|l[i]!).qH.qG.length eu) (get<|l[i]!).qH.qG::isF fr ay (Sv dE (get<|l[i]!).qH.qE.length dG) (get<|l[i]!).qH.qE::isF fr aW (Sv eY (get<|l[i]!).qH.vz.length e7) (get<|l[i]!).qH.vz::isF fr aw (Sv dF (get<|l[i]!).qH.qJ.length dH) (get<|l[i]!).qH.qJ::isF fr aY (Sv eU (get<|l[i]!).qH.vJ.length e9) (get<|l[i]!).qH.vJ::isF fr aK (Sv ey (get<|l[i]!).qH.xP.length eB) (get<|l[i]!).qH.xP::Γ):=by
 obtain ⟨eV,eW,bf,dW,dV,aA,fO,fN,bo,dY,dU,aB,fW,fU,bq,fa,fd,aX,es,eu,aM,dE,dG,ay,eY,e7,aW,dF,dH,aw,eU,e9,aY,ey,eB,aK,h1,_,h2⟩:=H.partS_ServerD S k hp j hf qs i h1 hz
 exact ⟨eV,eW,bf,dW,dV,aA,fO,fN,bo,dY,dU,aB,fW,fU,bq,fa,fd,aX,es,eu,aM,dE,dG,ay,eY,e7,aW,dF,dH,aw,eU,e9,aY,ey,eB,aK,h1,h2⟩
theorem St.partS_ParcelD {α:Type} [qI α] [Inhabited α] {get:α->zk} {put:α->zk->α} (S:Qo α zk q get put) (H:St W0 w ps Γ) (k:Nat) (hp:ps[k]? =some (.row (Sv (aa b 0) nn c) e sz nn xs)) (j:Nat) {l:List α}
 (hf:Γ[j]? =some (qL fr F xs l)) (qs:qI.size α=sz) (i:Nat) (h1:i < nn) (hz:0 < sz:=by decide):
 ∃ (fL:yOA) (fS:Nat) (Q5:yLN),(∀ (r:Nat) (v:Value),([yI (get<|l[i]!).qN,yI (get<|l[i]!).XZ,yI (get<|l[i]!).fTo,Sv fL (get<|l[i]!).qG.length fS]:List Value)[r]? =some v->xs[i * sz+q+r]? =some v)/\(∀ G∈[Q5],∀ x∈G,x∈F)/\St W0 w ps (isF fr Q5 (Sv fL (get<|l[i]!).qG.length fS) (get<|l[i]!).qG::Γ):=by
 subst qs
 have hn:nn=l.length:=H.xe (α:=α) k hp j hf hz
 obtain ⟨c1,cm,c2,F1,Fm,F2,hxs,hl,hF,hr,_⟩:=S.el (H.get j hf).1 i qf
 have cX:∀ x∈Fm,x∈F:=fun x hx=>by rw [hF];simp [hx]
 have fj:fr=true->jQ w Fm:=fun e=>((H.get j hf).2 e).sub cX
 obtain ⟨dR,Q5,rfl,eg,Vm⟩:=id hr
 obtain ⟨fL,fS,rfl⟩:=slice_form Vm
 refine ⟨fL,fS,Q5,fun r v hv=>?_,fun G hG x hx=>?_,?_⟩
 ·have nO:=(List.getElem?_eq_some_iff.1 hv).1
  rw [hxs,← hl,List.append_assoc,List.getElem?_append_right qf,Nat.add_sub_cancel_left,List.getElem?_append_left nO]
  exact hv
 ·refine cX x ?_
  rw [eg]
  simp only [List.mem_cons,List.not_mem_nil,or_false] at hG
  try simp only [List.mem_append]
  rcases hG with rfl <;> simp [hx]
 ·exact (H.jF (j+0) hf (isF fr Q5 _ (get<|l[i]!).qG) ⟨Vm,fun e=>(fj e).sub<|by rw [eg];intro x hx;simp [hx]⟩<|fun x hx=>cX x (by rw [eg];have hx:x∈Q5:=hx;simp [hx]))
theorem St.part_ParcelD {α:Type} [qI α] [Inhabited α] {get:α->zk} {put:α->zk->α} (S:Qo α zk q get put) (H:St W0 w ps Γ) (k:Nat) (hp:ps[k]? =some (.row (Sv (aa b 0) nn c) e sz nn xs)) (j:Nat) {l:List α}
 (hf:Γ[j]? =some (qL fr F xs l)) (qs:qI.size α=sz) (i:Nat) (h1:i < nn) (hz:0 < sz:=by decide):
 ∃ (fL:yOA) (fS:Nat) (Q5:yLN),(∀ (r:Nat) (v:Value),([yI (get<|l[i]!).qN,yI (get<|l[i]!).XZ,yI (get<|l[i]!).fTo,Sv fL (get<|l[i]!).qG.length fS]:List Value)[r]? =some v->xs[i * sz+q+r]? =some v)/\St W0 w ps (isF fr Q5 (Sv fL (get<|l[i]!).qG.length fS) (get<|l[i]!).qG::Γ):=by
 obtain ⟨fL,fS,Q5,h1,_,h2⟩:=H.partS_ParcelD S k hp j hf qs i h1 hz
 exact ⟨fL,fS,Q5,h1,h2⟩
end
section
theorem dNext_ok (ah:List UInt8) (ip:Int) (sd:Int) (bs:Nat) (ac:yOA) (cc:Nat) (Fc:yLN) (H:St W0 w ((.box bs [Sv ac ah.length cc,yI ip,.int .u64 sd] 116)::ps) ((sF false Fc ac cc ah)::Γ)) (N:Fresh W0.heap.size (Ns)) (K0:Kept Ns Γ) (q0:0<=ip/\ip<=100000):Calls Tryz.prog 100 #[pp bs 0] w (fun e w' =>∃ v,e=.returned v/\∃ (lx:Int) (AN:Int) (v_:Int),(ip<=lx/\lx<=ip+1)/\(0<=v_/\v_<=255)/\v=yI v_/\Fresh W0.heap.size (Ns)/\St W0 w' ((.box bs [Sv ac ah.length cc,yI lx,.int .u64 AN] 116)::ps) ((sF false Fc ac cc ah)::Γ)):=by
 refine en func100 ntmps100 ?_
 have mw:=qO (H.get 0 rfl).1
 refine zcr<|sp (yI 0)<|zjc<|sp (yI 0)<|zjn<|xH<|xH<|c_drawK2 rfl H [0] [0] fun H=>?_
 have S:=H.zK [0] [0]
 refine rtl 0 S ?_
 refine rtl 1 S ?_
 refine tF 2 rfl rfl S ?_
 refine tL 3 rfl rfl (fun _ h=>h.cell 0 rfl rfl) S ?_
 refine rtl 4 S ?_
 refine rtl 5 S ?_
 refine tF 6 rfl rfl S ?_
 refine tL 7 rfl rfl (fun _ h=>h.cell 0 rfl rfl) S ?_
 refine tN 8 rfl rfl S ?_
 refine rtl 9 S ?_
 refine xy qh<|t_n<|cD rfl (fun h2=>?_)<|fun h2=>?_
 ·refine c_drawK2 rfl H [0] [0] fun H=>?_
  have S:=H.zK [0] [0]
  refine rtl 0 S ?_
  refine rtl 1 S ?_
  refine tF 2 rfl rfl S ?_
  refine tL 3 rfl rfl (fun _ h=>h.cell 0 rfl rfl) S ?_
  refine rtl 4 S ?_
  refine rtl 5 S ?_
  refine tF 6 rfl rfl S ?_
  refine tL 7 rfl rfl (fun _ h=>h.cell 0 rfl rfl) S ?_
  obtain ⟨b4,o5,rfl⟩:=H.addr 0 rfl qf
  refine tI 8 rfl rfl rfl (H.pick [0] [0])<|ro 9 rfl ?_
  have hb7:=byte_lt<|ah[ip.toNat]!
  refine zB (.int .u8 (((ah[ip.toNat]!).toNat:Nat):Int)) isAgg5 rfl (H.elemByte 0 rfl ip ip.toNat qf qf qf)<|⟨H.pick [0] [0],(ro 10 rfl<|o_convI (((ah[ip.toNat]!).toNat:Nat):Int) underlying5 underlying3 rfl qf<|⟨H.pick [0] [0],(rtl 11 (H.pick [0] [0]) ?_)⟩)⟩
  refine xy qh<|t_n<|zcr<|sq 2<|oF rfl<|oL rfl (H.cell 0 rfl rfl)<|sw<|zV ip 1 rfl rfl qf<|sq 1<|oF rfl<|sw<|xO H 0 [Sv (aa b4 o5) ah.length cc,yI<|ip+1,.int .u64 sd] sizeOf3 fun w8 H=>?_
  try dsimp only [List.set] at H
  refine zjc<|sq 3<|oF rfl<|oL rfl (H.cell 0 rfl rfl)<|sw<|o_mulU sd 6364136223846793005 rfl rfl fun r9=>sq 1<|sw<|o_convU (((ah[ip.toNat]!).toNat:Nat):Int) underlying3 underlying114 rfl fun r10=>sw<|o_addU r9 r10 rfl rfl fun r11=>sw<|o_addU r11 1442695040888963407 rfl rfl fun r12=>sq 1<|oF rfl<|sw<|xO H 0 [Sv (aa b4 o5) ah.length cc,yI<|ip+1,.int .u64 r12] sizeOf114 fun II H=>?_
  try dsimp only [List.set] at H
  refine zjn<|xH<|xH<|c_drawK2 rfl H [0] [0] fun H=>?_
  have S:=H.zK [0] [0]
  refine rtl 0 S ?_
  refine rtl 1 S ?_
  refine tF 2 rfl rfl S ?_
  refine tL 3 rfl rfl (fun _ h=>h.cell 0 rfl rfl) S ?_
  refine rtl 4 S ?_
  refine rtl 5 S ?_
  refine tF 6 rfl rfl S ?_
  refine tL 7 rfl rfl (fun _ h=>h.cell 0 rfl rfl) S ?_
  refine tN 8 rfl rfl S ?_
  refine rtl 9 S ?_
  refine xy qh<|t_n<|cD rfl (fun h15=>?_)<|fun h15=>?_
  ·refine zcr<|sq 2<|zjr<|t_r<|ret1 (yI (((ah[ip.toNat]!).toNat:Nat):Int)) rfl rfl ⟨_,rfl,(⟨ip+1,r12,(((ah[ip.toNat]!).toNat:Nat):Int),qf,qf,rfl,N,H.qY 1 1 [0] [0] (by simp only [List.length_cons,List.length_append];omega)<|by simp only [List.length_cons,List.length_append];omega⟩)⟩
  refine xk<|t_n<|zcr<|sq 2<|oF rfl<|oL rfl (H.cell 0 rfl rfl)<|sw<|o_shrU r12 40 qj rfl rfl fun r16=>sw<|o_andU r16 rfl rfl fun r17 aHi=>sw<|o_convI r17 underlying114 underlying2 rfl qf<|sq 1<|zjr<|ret1 (yI r17) rfl rfl ⟨_,rfl,(⟨ip+1,r12,r17,qf,qf,rfl,N,H.qY 1 1 [0] [0] (by simp only [List.length_cons,List.length_append];omega)<|by simp only [List.length_cons,List.length_append];omega⟩)⟩
 refine xk<|t_n<|zcr<|sq 2<|oF rfl<|oL rfl (H.cell 0 rfl rfl)<|sw<|zV ip 1 rfl rfl qf<|sq 1<|oF rfl<|sw<|xO H 0 [Sv ac ah.length cc,yI<|ip+1,.int .u64 sd] sizeOf3 fun ZH H=>?_
 try dsimp only [List.set] at H
 refine zjc<|sq 3<|oF rfl<|oL rfl (H.cell 0 rfl rfl)<|sw<|o_mulU sd 6364136223846793005 rfl rfl fun r19=>sp (yI 0)<|sw<|o_convU 0 underlying3 underlying114 rfl fun r20=>sw<|o_addU r19 r20 rfl rfl fun r21=>sw<|o_addU r21 1442695040888963407 rfl rfl fun r22=>sq 1<|oF rfl<|sw<|xO H 0 [Sv ac ah.length cc,yI<|ip+1,.int .u64 r22] sizeOf114 fun Nw H=>?_
 try dsimp only [List.set] at H
 refine zjn<|xH<|xH<|c_drawK2 rfl H [0] [0] fun H=>?_
 have S:=H.zK [0] [0]
 refine rtl 0 S ?_
 refine rtl 1 S ?_
 refine tF 2 rfl rfl S ?_
 refine tL 3 rfl rfl (fun _ h=>h.cell 0 rfl rfl) S ?_
 refine rtl 4 S ?_
 refine rtl 5 S ?_
 refine tF 6 rfl rfl S ?_
 refine tL 7 rfl rfl (fun _ h=>h.cell 0 rfl rfl) S ?_
 refine tN 8 rfl rfl S ?_
 refine rtl 9 S ?_
 refine xy qh<|t_n<|cD rfl (fun h25=>?_)<|fun h25=>?_
 ·refine zcr<|sp (yI 0)<|sp (yI 0)<|zjr<|t_r<|ret1 (yI 0) rfl rfl ⟨_,rfl,(⟨ip+1,r22,0,qf,qf,rfl,N,H.qY 1 1 [0] [0] (by simp only [List.length_cons,List.length_append];omega)<|by simp only [List.length_cons,List.length_append];omega⟩)⟩
 refine xk<|t_n<|zcr<|sq 2<|oF rfl<|oL rfl (H.cell 0 rfl rfl)<|sw<|o_shrU r22 40 qj rfl rfl fun r26=>sw<|o_andU r26 rfl rfl fun r27 aFw=>sw<|o_convI r27 underlying114 underlying2 rfl qf<|sq 1<|zjr<|ret1 (yI r27) rfl rfl ⟨_,rfl,(⟨ip+1,r22,r27,qf,qf,rfl,N,H.qY 1 1 [0] [0] (by simp only [List.length_cons,List.length_append];omega)<|by simp only [List.length_cons,List.length_append];omega⟩)⟩
theorem yM (ah:List UInt8) (ip:Int) (sd:Int) (bs:Nat) (ac:yOA) (cc:Nat) (Fc:yLN) (nn:Int) (H:St W0 w ((.box bs [Sv ac ah.length cc,yI ip,.int .u64 sd] 116)::ps) ((sF false Fc ac cc ah)::Γ)) (N:Fresh W0.heap.size (Ns)) (K0:Kept Ns Γ) (q0:0<=ip/\ip<=90000):Calls Tryz.prog 59 #[pp bs 0,yI nn] w (fun e w' =>∃ v,e=.returned v/\∃ (lx:Int) (AN:Int) (v_:Int),(ip<=lx/\lx<=ip+2)/\(0<=v_/\(v_ < nn\/v_=0))/\v=yI v_/\Fresh W0.heap.size (Ns)/\St W0 w' ((.box bs [Sv ac ah.length cc,yI lx,.int .u64 AN] 116)::ps) ((sF false Fc ac cc ah)::Γ)):=by
 refine en func59 ntmps59 ?_
 have mw:=qO (H.get 0 rfl).1
 refine zcr<|sp (yI 0)<|zjcc<|sp (yI nn)<|sp (Bv<|decide ((nn:Int)<=1))<|zjn<|cD rfl (fun h1=>?_)<|fun h1=>?_
 ·refine zcr<|sp (yI 0)<|zjr<|t_r<|ret1 (yI 0) rfl rfl ⟨_,rfl,(⟨ip,sd,0,qf,(by first | omega | exact ⟨hm _,.inl<|TM _⟩),rfl,N,H.qY 1 1 [0] [0] (by simp only [List.length_cons,List.length_append];omega)<|by simp only [List.length_cons,List.length_append];omega⟩)⟩
 refine xk<|t_n<|zcr<|sq 1 ?_
 have H1:=H.yw 1 1 [0] [0] (by simp only [List.length_cons,List.length_append];omega)<|by simp only [List.length_cons,List.length_append];omega
 have N1:Fresh _ (Ns):=N
 have K1:Kept (Ns) (Γ):=K0.behind 0 rfl
 refine sw<|zy #[pp bs 0] rfl rfl call100 (dNext_ok ah ip sd bs ac cc Fc H1 N1 K1 qg) ?_
 clear H H1 N1 K1
 rintro _ w2 ⟨zi6,I8,Gs,hx4,hx5,rfl,N,H⟩
 refine sq 1<|zjcc<|sp (yI nn)<|sp (Bv<|decide ((nn:Int) > 200))<|zjn<|cD rfl (fun h9=>?_)<|fun h9=>?_
 ·refine xZ (sq 1<|sw<|o_mul Gs 256 rfl rfl qf<|sq 1 ?_)
  have H1:=H.yw 1 1 [0] [0] (by simp only [List.length_cons,List.length_append];omega)<|by simp only [List.length_cons,List.length_append];omega
  have N1:Fresh _ (Ns):=N
  have K1:Kept (Ns) (Γ):=K0.behind 0 rfl
  refine sw<|zy #[pp bs 0] rfl rfl call100 (dNext_ok ah zi6 I8 bs ac cc Fc H1 N1 K1 qg) ?_
  clear H H1 N1 K1
  rintro _ DN ⟨ats,wK,gE,avl,BS,rfl,N,H⟩
  refine sw<|zV (Gs * 256) gE rfl rfl qf<|sq 1<|zjc<|sq 1<|sp (yI nn)<|sw<|o_rem ((Gs * 256)+gE) nn rfl rfl qf qf qf<|sq 1<|zjr<|ret1 (yI (((Gs * 256)+gE) % nn)) rfl rfl ⟨_,rfl,?_⟩
  have hm:=fun (x:Int)=>Int.emod_nonneg x<|show nn≠0 by omega
  have TM:=fun (x:Int)=>Int.emod_lt_of_pos x<|show 0 < nn by omega
  exact ⟨ats,wK,((Gs * 256)+gE) % nn,qf,(by first | omega | exact ⟨hm _,.inl<|TM _⟩),rfl,N,H.qY 1 1 [0] [0] (by simp only [List.length_cons,List.length_append];omega)<|by simp only [List.length_cons,List.length_append];omega⟩
 refine xk<|t_n<|zcr<|sq 1<|sp (yI nn)<|sw<|o_rem Gs nn rfl rfl qf qf qf<|sq 1<|zjr<|ret1 (yI<|Gs % nn) rfl rfl ⟨_,rfl,?_⟩
 have hm:=fun (x:Int)=>Int.emod_nonneg x<|show nn≠0 by omega
 have TM:=fun (x:Int)=>Int.emod_lt_of_pos x<|show 0 < nn by omega
 exact ⟨zi6,I8,Gs % nn,qf,(by first | omega | exact ⟨hm _,.inl<|TM _⟩),rfl,N,H.qY 1 1 [0] [0] (by simp only [List.length_cons,List.length_append];omega)<|by simp only [List.length_cons,List.length_append];omega⟩
theorem dOne_ok (ah:List UInt8) (ip:Int) (sd:Int) (bs:Nat) (ac:yOA) (cc:Nat) (Fc:yLN) (nn:Int) (H:St W0 w ((.box bs [Sv ac ah.length cc,yI ip,.int .u64 sd] 116)::ps) ((sF false Fc ac cc ah)::Γ)) (N:Fresh W0.heap.size (Ns)) (K0:Kept Ns Γ) (q0:0<=ip/\ip<=90000):Calls Tryz.prog 58 #[pp bs 0,yI nn] w (fun e w' =>∃ v,e=.returned v/\∃ (lx:Int) (AN:Int) (v_:Bool),(ip<=lx/\lx<=ip+2)/\v=Bv v_/\Fresh W0.heap.size (Ns)/\St W0 w' ((.box bs [Sv ac ah.length cc,yI lx,.int .u64 AN] 116)::ps) ((sF false Fc ac cc ah)::Γ)):=by
 refine en func58 ntmps58 ?_
 have mw:=qO (H.get 0 rfl).1
 refine zcr<|sp (Bv false)<|zjc<|sq 1<|sp (yI nn) ?_
 have H1:=H.yw 1 1 [0] [0] (by simp only [List.length_cons,List.length_append];omega)<|by simp only [List.length_cons,List.length_append];omega
 have N1:Fresh _ (Ns):=N
 have K1:Kept (Ns) (Γ):=K0.behind 0 rfl
 refine sw<|zy #[pp bs 0,yI nn] rfl rfl call59 (yM ah ip sd bs ac cc Fc nn H1 N1 K1 qg) ?_
 clear H H1 N1 K1
 rintro _ w1 ⟨P2,zi6,I8,wQ,hx4,rfl,N,H⟩
 refine sp (Bv ((I8:Int) == 0))<|sp (Bv ((I8:Int) == 0))<|zjr<|ret1 (Bv ((I8:Int) == 0)) rfl rfl ⟨_,rfl,(⟨P2,zi6,(I8:Int) == 0,qf,rfl,N,H.qY 1 1 [0] [0] (by simp only [List.length_cons,List.length_append];omega)<|by simp only [List.length_cons,List.length_append];omega⟩)⟩
theorem dFew_ok (ah:List UInt8) (ip:Int) (sd:Int) (bs:Nat) (ac:yOA) (cc:Nat) (Fc:yLN) (kk:Int) (fi:Int) (H:St W0 w ((.box bs [Sv ac ah.length cc,yI ip,.int .u64 sd] 116)::ps) ((sF false Fc ac cc ah)::Γ)) (N:Fresh W0.heap.size (Ns)) (K0:Kept Ns Γ) (q0:0<=ip/\ip<=80000) (q1:1<=kk/\kk<=8) (q2:1<=fi/\fi<=6):Calls Tryz.prog 61 #[pp bs 0,yI kk,yI fi] w (fun e w' =>∃ v,e=.returned v/\∃ (lx:Int) (AN:Int) (nh:yLI) (K4:yOA) (KP:Nat) (Lh:Nat),(ip<=lx/\lx<=ip+20)/\(ja kk fi nh)/\v=Sv K4 KP Lh/\Fresh W0.heap.size (Ns)/\St W0 w' ((.box bs [Sv ac ah.length cc,yI lx,.int .u64 AN] 116)::(rr K4 KP Lh 2 1<|nh.map<|Value.int .i64)::ps) ((sF false Fc ac cc ah)::Γ)):=by
 refine en func61 ntmps61 ?_
 have mw:=qO (H.get 0 rfl).1
 refine zcr<|sq 1<|zjc<|sp (yI kk)<|sw<|jE H underlying24 ti2 kk.toNat rfl rfl qf qf qf fun b1 w2 H=>sq 1<|zjcc<|sq 2<|sw<|zV fi 1 rfl rfl qf ?_
 have H1:=H.yw 2 1 [1,0] [0] (by simp only [List.length_cons,List.length_append];omega)<|by simp only [List.length_cons,List.length_append];omega
 have N1:Fresh _ (Ns):=N
 have K1:Kept (Ns) (Γ):=K0.behind 0 rfl
 refine sw<|zy #[pp bs 0,yI<|fi+1] rfl rfl call59 (yM ah ip sd bs ac cc Fc (fi+1) H1 N1 K1 qg) ?_
 clear H H1 N1 K1
 rintro _ w3 ⟨I8,Gs,fo,hx5,hx6,rfl,N,H⟩
 refine sq 1<|zjn<|xg<|zU ((fun Z0=>fun m' ρ DN=>∃ (xI:Env) (k:Int) (eH:Int) (dA:Int) (out:yLI),ρ=upd (upd (upd (upd xI 0<|pp bs 0) 1<|yI kk) 7<|Sv (aa b1 0) kk.toNat kk.toNat) 8 (yI k)/\(0<=k/\k<=fi)/\(ip<=eH/\eH+2 * k<=ip+20)/\(ja kk (fi - k) out)/\m' =k.toNat/\Fresh W0.heap.size (Ns)/\St W0 DN ((.box bs [Sv ac ah.length cc,yI eH,.int .u64 dA] 116)::(rr (aa b1 0) kk.toNat kk.toNat 2 1<|out.map<|Value.int .i64)::ps) (Z0::Γ)) _) (fo.toNat) ⟨_,fo,I8,Gs,(List.replicate kk.toNat (0:Int)),uE4,qf,qf,(by exact ja.zero qf qf),rfl,N,H⟩ ?_
 clear H N
 rintro m' ρ KD ⟨xI,k,eH,dA,out,rfl,i1,i2,i3,rfl,N,H⟩
 have Vq:=H.Qc 1 rfl
 have i4:=i3.len qf
 refine zcc<|sp (yI k)<|sp (Bv<|decide ((k:Int) > 0))<|zjn<|cD rfl (fun qb=>?_)<|fun qb=>?_
 ·refine xk (t_n<|xH<|xg<|xZ<|sq 2<|sp (yI kk) ?_)
  have H1:=H.yw 2 1 [0,1] [0] (by simp only [List.length_cons,List.length_append];omega)<|by simp only [List.length_cons,List.length_append];omega
  have N1:Fresh _ (Ns):=N
  have K1:Kept (Ns) (Γ):=K0.behind 0 rfl
  refine sw<|zy #[pp bs 0,yI kk] rfl rfl call59 (yM ah eH dA bs ac cc Fc kk H1 N1 K1 qg) ?_
  clear H H1 N1 K1
  rintro _ II ⟨mJ,Ab,Dv,abJ,aHO,rfl,N,H⟩
  have i5:=i3.2 Dv.toNat qf
  refine oI rfl rfl<|oL rfl (H.rowInt 1 rfl (iv:=Dv) (i:=Dv.toNat) qf qf)<|sw<|zV (out[Dv.toNat]!) 1 rfl rfl qf<|oI rfl rfl<|sw<|o_storeInt H 1 rfl ((out[Dv.toNat]!)+1) sizeOf2 rfl rfl (i:=Dv.toNat) qf qf fun Rr H=>?_
  try dsimp only [List.set] at H
  refine xW<|b_n<|t_n<|xZ<|sp (yI k)<|sw<|o_sub k 1 rfl rfl qf<|sq 1<|xW<|xq (m' :=(k - 1).toNat) qf ⟨_,_,_,_,_,uE4,?_,?_,?_,rfl,N,H⟩
  ·omega
  ·omega
  ·exact i3.up qf qf
 refine zx4<|zcr<|sq 2<|zjr<|ret1 (Sv (aa b1 0) kk.toNat kk.toNat) rfl rfl ⟨_,rfl,(⟨eH,dA,out,(aa b1 0),kk.toNat,kk.toNat,qf,(by rw [show fi=fi - k by omega];exact i3),rfl,N,H.qY 2 1 [0,1] [0] (by simp only [List.length_cons,List.length_append];omega)<|by simp only [List.length_cons,List.length_append];omega⟩)⟩
theorem QX (ah:List UInt8) (ip:Int) (sd:Int) (bs:Nat) (ac:yOA) (cc:Nat) (Fc:yLN) (kk:Int) (fi:Int) (H:St W0 w ((.box bs [Sv ac ah.length cc,yI ip,.int .u64 sd] 116)::ps) ((sF false Fc ac cc ah)::Γ)) (N:Fresh W0.heap.size (Ns)) (K0:Kept Ns Γ) (q0:0<=ip/\ip<=70000) (q1:1<=kk/\kk<=8) (q2:1<=fi/\fi<=6):Calls Tryz.prog 146 #[pp bs 0,yI kk,yI fi] w (fun e w' =>∃ v,e=.returned v/\∃ (lx:Int) (AN:Int) (nh:yLI) (K4:yOA) (KP:Nat) (Lh:Nat),(ip<=lx/\lx<=ip+24)/\(ja kk fi nh/\sumL nh≠0)/\v=Sv K4 KP Lh/\Fresh W0.heap.size (Ns)/\St W0 w' ((.box bs [Sv ac ah.length cc,yI lx,.int .u64 AN] 116)::(rr K4 KP Lh 2 1<|nh.map<|Value.int .i64)::ps) ((sF false Fc ac cc ah)::Γ)):=by
 refine en func146 ntmps146 ?_
 have mw:=qO (H.get 0 rfl).1
 refine zcr<|sq 1<|zjc<|sq 1<|sp (yI kk)<|sq 1 ?_
 have H1:=H.yw 1 1 [0] [0] (by simp only [List.length_cons,List.length_append];omega)<|by simp only [List.length_cons,List.length_append];omega
 have N1:Fresh _ (Ns):=N
 have K1:Kept (Ns) (Γ):=K0.behind 0 rfl
 refine sw<|zy #[pp bs 0,yI kk,yI fi] rfl rfl call61 (dFew_ok ah ip sd bs ac cc Fc kk fi H1 N1 K1 qg qg qg) ?_
 clear H H1 N1 K1
 rintro _ w1 ⟨P2,zi6,RO,mc,rn9,kp,wQ,hx4,rfl,N,H⟩
 obtain rfl:=H.Qc 1 rfl
 have j1:=(‹ja kk fi _›:ja kk fi RO)
 have j2:=j1.small q1 qf
 have j3:=j1.len qf
 refine sq 1<|zjcc<|sq 1 ?_
 obtain ⟨G11,aJn,JM⟩:=H.rowIsI 1 rfl
 refine sw<|oq (l01Size_ok _ RO JM<|by first | assumption | exact jc ql | exact bag_small ql) H fun w14 H=>sp (Bv ((sumL RO:Int) == 0))<|zjn<|cE rfl (fun UD=>?_)<|fun UD=>?_
 ·refine xZ (sq 2<|sp (yI kk) ?_)
  have H1:=H.yw 2 1 [0,1] [0] (by simp only [List.length_cons,List.length_append];omega)<|by simp only [List.length_cons,List.length_append];omega
  have N1:Fresh _ (Ns):=N
  have K1:Kept (Ns) (Γ):=K0.behind 0 rfl
  refine sw<|zy #[pp bs 0,yI kk] rfl rfl call59 (yM ah P2 zi6 bs ac cc Fc kk H1 N1 K1 qg) ?_
  clear H H1 N1 K1
  rintro _ Tr ⟨Eb,Ti,Eh,aca,ajk,rfl,N,H⟩
  obtain ⟨TH,rfl⟩:=H.jg 1 rfl qf
  refine oI rfl rfl<|sw<|o_storeInt H 1 rfl 1 sizeOf2 rfl rfl (i:=Eh.toNat) qf qf fun Ea H=>?_
  try dsimp only [List.set] at H
  refine zjc<|sq 2<|zjr<|ret1 (Sv (aa TH 0) RO.length kp) rfl rfl ⟨_,rfl,(⟨Eb,Ti,(RO.set Eh.toNat 1),(aa TH 0),RO.length,kp,qf,(by first | exact ⟨j1,by assumption⟩ | exact ⟨j1.put qf,j1.one q1 qf ‹_› qf⟩),rfl,N,H.qY 2 1 [0,1] [0] (by simp only [List.length_cons,List.length_append];omega)<|by simp only [List.length_cons,List.length_append];omega⟩)⟩
 refine xk<|t_n<|zcr<|sq 2<|zjr<|ret1 (Sv mc RO.length kp) rfl rfl ⟨_,rfl,(⟨P2,zi6,RO,mc,RO.length,kp,qf,(by first | exact ⟨j1,by assumption⟩ | exact ⟨j1.put qf,j1.one q1 qf ‹_› qf⟩),rfl,N,H.qY 2 1 [0,1] [0] (by simp only [List.length_cons,List.length_append];omega)<|by simp only [List.length_cons,List.length_append];omega⟩)⟩
theorem dRule_ok (ah:List UInt8) (ip:Int) (sd:Int) (bs:Nat) (ac:yOA) (cc:Nat) (Fc:yLN) (kk:Int) (par:yLI) (rules:List yj) (bY:Nat) (kZ:yOA) (rnp:Nat) (lc:Nat) (k0:yOA) (rnR:Nat) (ld:Nat) (eF:List Value) (bX:yLN) (H:St W0 w ((.box bs [Sv ac ah.length cc,yI ip,.int .u64 sd] 116)::(.box bY [yI kk,Sv kZ rnp lc,Sv k0 rnR ld] 27)::(rr kZ rnp lc 2 1<|par.map<|Value.int .i64)::(rr k0 rnR ld 110 9 eF)::ps) ((sF false Fc ac cc ah)::(qL true bX eF rules)::Γ)) (N:Fresh W0.heap.size (bX::Ns)) (K0:Kept Ns Γ) (q0:0<=ip/\ip<=60000) (f0:yK (⟨kk,par,rules⟩:qM)):Calls Tryz.prog 99 #[pp bs 0,pp bY 0] w (fun e w' =>∃ v,e=.returned v/\∃ (lx:Int) (AN:Int) (U4:Int) (Yj:Int) (T8:yLI) (Yi:yLI) (Vz:yLI) (W8:yLI) (nh:yLI) (UZ:List IntoD) (Od:Bool) (raN:yOA) (rnN:Nat) (rcN:Nat) (raH:yOA) (rnH:Nat) (rcH:Nat) (raL:yOA) (rnL:Nat) (rcL:Nat) (raE:yOA) (rnE:Nat) (rcE:Nat) (raO:yOA) (rnO:Nat) (rcO:Nat) (raI:yOA) (rnI:Nat) (rcI:Nat) (rxI:List Value) (rFI:yLN),(ip<=lx/\lx<=ip+300)/\(RuleDr kk par ⟨U4,Yj,T8,Yi,Vz,W8,nh,UZ,Od⟩)/\v=.agg #[yI U4,yI Yj,Sv raN rnN rcN,Sv raH rnH rcH,Sv raL rnL rcL,Sv raE rnE rcE,Sv raO rnO rcO,Sv raI rnI rcI,Bv Od]/\Fresh W0.heap.size (bX::rFI::Ns)/\St W0 w' ((.box bs [Sv ac ah.length cc,yI lx,.int .u64 AN] 116)::(.box bY [yI kk,Sv kZ rnp lc,Sv k0 rnR ld] 27)::(rr kZ rnp lc 2 1<|par.map<|Value.int .i64)::(rr k0 rnR ld 110 9 eF)::(rr raN rnN rcN 2 1<|T8.map<|Value.int .i64)::(rr raH rnH rcH 2 1<|Yi.map<|Value.int .i64)::(rr raL rnL rcL 2 1<|Vz.map<|Value.int .i64)::(rr raE rnE rcE 2 1<|W8.map<|Value.int .i64)::(rr raO rnO rcO 2 1<|nh.map<|Value.int .i64)::(rr raI rnI rcI 161 2 rxI)::ps) ((sF false Fc ac cc ah)::(qL true bX eF rules)::(qL true rFI rxI UZ)::Γ)):=by
 refine en func99 ntmps99 ?_
 have mw:=qO (H.get 0 rfl).1
 obtain rfl:=H.Qc 2 rfl
 obtain rfl:=H.xe (α:=yj) 3 rfl 1 rfl qj
 have f1:1<=kk/\kk<=8:=f0.1
 have f2:1<=par.length/\par.length<=6:=f0.2.1
 refine zcr<|sw<|xU H ti110 [yI 0,yI 0,yN,yN,yN,yN,yN,yN,Bv false] fun b1 w2 H=>zjc<|sq 2<|oF rfl<|oL rfl (H.cell 2 rfl rfl)<|oN rfl<|sq 1<|zjn<|xH<|c_cut (fun ρ II=>∃ (xI:Env) (zi3:Int) (nK:Int) (P2:Int) (l6:yLI) (b7:Nat) (mc:yOA) (lX:Nat) (yv:Nat) (sI:Nat) (R1:Int),ρ=upd (upd (upd (upd (upd xI 0<|pp bs 0) 1<|pp bY 0) 4<|pp b1 0) 5<|yI par.length) 6 (pp b7 0)/\(ip<=zi3/\zi3<=ip+2)/\(0<=nK/\(nK < par.length\/nK=0))/\(zi3<=P2/\P2<=zi3+24)/\(ja kk (2:Int) l6/\sumL l6≠0)/\Fresh W0.heap.size (bX::Ns)/\St W0 II ((.box b7 [yI nK,yI 0,Sv mc l6.length lX,Sv (aa yv 0) kk.toNat kk.toNat,Sv (aa sI 0) kk.toNat kk.toNat,yN,yN,yN,Bv false] 110)::(rr (aa sI 0) kk.toNat kk.toNat 2 1 ((List.replicate kk.toNat (0:Int)).map<|Value.int .i64))::(rr (aa yv 0) kk.toNat kk.toNat 2 1 ((List.replicate kk.toNat (0:Int)).map<|Value.int .i64))::(.box bs [Sv ac ah.length cc,yI P2,.int .u64 R1] 116)::(rr mc l6.length lX 2 1<|l6.map<|Value.int .i64)::(.box b1 [yI 0,yI 0,yN,yN,yN,yN,yN,yN,Bv false] 110)::(.box bY [yI kk,Sv kZ par.length lc,Sv k0 rules.length ld] 27)::(rr kZ par.length lc 2 1<|par.map<|Value.int .i64)::(rr k0 rules.length ld 110 9 eF)::ps) ((sF false Fc ac cc ah)::(qL true bX eF rules)::Γ)) ?_ ?_
 ·refine c_drawK2 rfl H [0,2,3,4] [0,1] fun H=>?_
  refine yR (fun ρ Ea=>∃ (xI:Env) (wK:Int) (gE:Int) (mJ:Int) (mb:yLI) (u0:yOA) (nZ:Nat) (ws:Nat) (wt:Nat) (Eh:Int),ρ=upd (upd (upd (upd (upd (upd (upd (upd xI 0<|pp bs 0) 1<|pp bY 0) 4<|pp b1 0) 5<|yI par.length) 15<|yI gE) 21<|Sv u0 mb.length nZ) 26<|Sv (aa ws 0) kk.toNat kk.toNat) 31 (Sv (aa wt 0) kk.toNat kk.toNat)/\(ip<=wK/\wK<=ip+2)/\(0<=gE/\(gE < par.length\/gE=0))/\(wK<=mJ/\mJ<=wK+24)/\(ja kk (2:Int) mb/\sumL mb≠0)/\Fresh W0.heap.size (bX::Ns)/\St W0 Ea ((rr (aa wt 0) kk.toNat kk.toNat 2 1 ((List.replicate kk.toNat (0:Int)).map<|Value.int .i64))::(rr (aa ws 0) kk.toNat kk.toNat 2 1 ((List.replicate kk.toNat (0:Int)).map<|Value.int .i64))::(.box bs [Sv ac ah.length cc,yI mJ,.int .u64 Eh] 116)::(rr u0 mb.length nZ 2 1<|mb.map<|Value.int .i64)::(.box b1 [yI 0,yI 0,yN,yN,yN,yN,yN,yN,Bv false] 110)::(.box bY [yI kk,Sv kZ par.length lc,Sv k0 rules.length ld] 27)::(rr kZ par.length lc 2 1<|par.map<|Value.int .i64)::(rr k0 rules.length ld 110 9 eF)::ps) ((sF false Fc ac cc ah)::(qL true bX eF rules)::Γ)) 3 #[true,true,true,true,true,true,true,true,true,true,true,true,true,true,true,true,true,true,true,false,false,false] ?_ fun L24=>?_
  ·rintro ρ Ky ⟨xI,wK,gE,mJ,mb,u0,nZ,ws,wt,Eh,rfl,amt,aaW,DM,E9,N,H⟩
   refine jw [19,20] qh qm<|jT rfl ?_<|jT rfl ?_ jy
   ·refine jb [yI gE,yI 0,Sv u0 mb.length nZ,Sv (aa ws 0) kk.toNat kk.toNat,Sv (aa wt 0) kk.toNat kk.toNat,yN,yN,yN,Bv false] [(0,yI gE),(2,Sv u0 mb.length nZ),(3,Sv (aa ws 0) kk.toNat kk.toNat),(4,Sv (aa wt 0) kk.toNat kk.toNat)] (⟨H.pick (zR 4 4) [0,1],(ro 20 rfl<|xU H ti110 [yI 0,yI 0,yN,yN,yN,yN,yN,yN,Bv false] fun b31 Sb H=>⟨H.pick (zR 5 4) [0,1],(ro 21 rfl ?_)⟩)⟩)
    refine zC H 0 [yI gE,yI 0,Sv u0 mb.length nZ,Sv (aa ws 0) kk.toNat kk.toNat,Sv (aa wt 0) kk.toNat kk.toNat,yN,yN,yN,Bv false] sizeOf110 fun w33 H=>?_
    try dsimp only [List.set] at H
    refine ⟨H.pick (zR 5 4) [0,1],(xy qh ((meet ⟨_,wK,gE,mJ,mb,b31,u0,nZ,ws,wt,Eh,uE5,amt,aaW,DM,E9,N,H⟩)))⟩
   refine xU H ti110 [yI 0,yI 0,yN,yN,yN,yN,yN,yN,Bv false] fun b34 P7 H=>⟨H.pick (zR 5 4) [0,1],(ro 19 rfl<|jb [yI gE,yI 0,Sv u0 mb.length nZ,Sv (aa ws 0) kk.toNat kk.toNat,Sv (aa wt 0) kk.toNat kk.toNat,yN,yN,yN,Bv false] [(0,yI gE),(2,Sv u0 mb.length nZ),(3,Sv (aa ws 0) kk.toNat kk.toNat),(4,Sv (aa wt 0) kk.toNat kk.toNat)]<|⟨H.pick (zR 5 4) [0,1],(ro 21 rfl ?_)⟩)⟩
   refine zC H 0 [yI gE,yI 0,Sv u0 mb.length nZ,Sv (aa ws 0) kk.toNat kk.toNat,Sv (aa wt 0) kk.toNat kk.toNat,yN,yN,yN,Bv false] sizeOf110 fun PJ H=>?_
   try dsimp only [List.set] at H
   refine ⟨H.pick (zR 5 4) [0,1],(xy qh ((meet ⟨_,wK,gE,mJ,mb,b34,u0,nZ,ws,wt,Eh,uE5,amt,aaW,DM,E9,N,H⟩)))⟩
  refine yR (fun ρ S8=>∃ (xI:Env) (wU:Int) (pd:Int) (IB:Int) (ud:yLI) (Cu:yOA) (sZ:Nat) (SR:Nat) (R4:Int),ρ=upd (upd (upd (upd (upd (upd (upd (upd xI 0<|pp bs 0) 1<|pp bY 0) 4<|pp b1 0) 5<|yI par.length) 15<|yI pd) 21<|Sv Cu ud.length sZ) 26<|Sv (aa SR 0) kk.toNat kk.toNat) 30 (yI kk)/\(ip<=wU/\wU<=ip+2)/\(0<=pd/\(pd < par.length\/pd=0))/\(wU<=IB/\IB<=wU+24)/\(ja kk (2:Int) ud/\sumL ud≠0)/\Fresh W0.heap.size (bX::Ns)/\St W0 S8 ((rr (aa SR 0) kk.toNat kk.toNat 2 1 ((List.replicate kk.toNat (0:Int)).map<|Value.int .i64))::(.box bs [Sv ac ah.length cc,yI IB,.int .u64 R4] 116)::(rr Cu ud.length sZ 2 1<|ud.map<|Value.int .i64)::(.box b1 [yI 0,yI 0,yN,yN,yN,yN,yN,yN,Bv false] 110)::(.box bY [yI kk,Sv kZ par.length lc,Sv k0 rules.length ld] 27)::(rr kZ par.length lc 2 1<|par.map<|Value.int .i64)::(rr k0 rules.length ld 110 9 eF)::ps) ((sF false Fc ac cc ah)::(qL true bX eF rules)::Γ)) 4 #[true,true,true,true,true,true,true,true,true,true,true,true,true,true,true,true,true,true,false,false,false,false] ?_ fun L45=>?_
  ·rintro ρ w47 ⟨xI,wU,pd,IB,ud,Cu,sZ,SR,R4,rfl,Ag,R6,aeR,aoY,N,H⟩
   refine jw [18,20] qh qm<|jT rfl ?_<|jT rfl ?_ jy
   ·refine jE H underlying24 ti2 kk.toNat rfl rfl qf qf qf fun b52 w53 H=>⟨H.pick (zR 4 4) [0,1],(je L24 ⟨_,wU,pd,IB,ud,Cu,sZ,SR,b52,R4,uE8,Ag,R6,aeR,aoY,N,H⟩)⟩
   refine xU H ti110 [yI 0,yI 0,yN,yN,yN,yN,yN,yN,Bv false] fun Wh w55 H=>⟨H.pick (zR 4 4) [0,1],(ro 18 rfl<|jE H underlying24 ti2 kk.toNat rfl rfl qf qf qf fun b56 w57 H=>⟨H.pick (zR 5 4) [0,1],(ro 19 rfl ?_)⟩)⟩
   refine jb [yI pd,yI 0,Sv Cu ud.length sZ,Sv (aa SR 0) kk.toNat kk.toNat,Sv (aa b56 0) kk.toNat kk.toNat,yN,yN,yN,Bv false] [(0,yI pd),(2,Sv Cu ud.length sZ),(3,Sv (aa SR 0) kk.toNat kk.toNat),(4,Sv (aa b56 0) kk.toNat kk.toNat)]<|⟨H.pick (zR 5 4) [0,1],(ro 21 rfl ?_)⟩
   refine zC H 1 [yI pd,yI 0,Sv Cu ud.length sZ,Sv (aa SR 0) kk.toNat kk.toNat,Sv (aa b56 0) kk.toNat kk.toNat,yN,yN,yN,Bv false] sizeOf110 fun w58 H=>?_
   try dsimp only [List.set] at H
   refine ⟨H.pick (zR 5 4) [0,1],(xy qh ((meet ⟨_,wU,pd,IB,ud,Wh,Cu,sZ,SR,b56,R4,uE5,Ag,R6,aeR,aoY,N,H.qY 9 2 (1::0::zR 2 7) [0,1] (by simp only [List.length_cons,List.length_append];omega)<|by simp only [List.length_cons,List.length_append];omega⟩)))⟩
  refine yR (fun ρ w68=>∃ (xI:Env) (Ba:Int) (sn:Int) (CT:Int) (tJ:yLI) (fK:yOA) (Bw:Nat) (NK:Nat) (Rl:Int),ρ=upd (upd (upd (upd (upd (upd (upd (upd xI 0<|pp bs 0) 1<|pp bY 0) 4<|pp b1 0) 5<|yI par.length) 15<|yI sn) 21<|Sv fK tJ.length Bw) 25<|yI kk) 31 (Sv (aa NK 0) kk.toNat kk.toNat)/\(ip<=Ba/\Ba<=ip+2)/\(0<=sn/\(sn < par.length\/sn=0))/\(Ba<=CT/\CT<=Ba+24)/\(ja kk (2:Int) tJ/\sumL tJ≠0)/\Fresh W0.heap.size (bX::Ns)/\St W0 w68 ((rr (aa NK 0) kk.toNat kk.toNat 2 1 ((List.replicate kk.toNat (0:Int)).map<|Value.int .i64))::(.box bs [Sv ac ah.length cc,yI CT,.int .u64 Rl] 116)::(rr fK tJ.length Bw 2 1<|tJ.map<|Value.int .i64)::(.box b1 [yI 0,yI 0,yN,yN,yN,yN,yN,yN,Bv false] 110)::(.box bY [yI kk,Sv kZ par.length lc,Sv k0 rules.length ld] 27)::(rr kZ par.length lc 2 1<|par.map<|Value.int .i64)::(rr k0 rules.length ld 110 9 eF)::ps) ((sF false Fc ac cc ah)::(qL true bX eF rules)::Γ)) 4 #[true,true,true,true,true,true,true,true,true,true,true,true,true,false,true,true,true,true,true,false,false,false] ?_ fun L67=>?_
  ·rintro ρ w69 ⟨xI,Ba,sn,CT,tJ,fK,Bw,NK,Rl,rfl,akr,an7,ahv,akv,N,H⟩
   refine jw [13,20] qh qm<|jT rfl ?_<|jT rfl ?_ jy
   ·refine jE H underlying24 ti2 kk.toNat rfl rfl qf qf qf fun b74 w75 H=>⟨H.pick (zR 4 4) [0,1],(je L24 ⟨_,Ba,sn,CT,tJ,fK,Bw,b74,NK,Rl,uE8,akr,an7,ahv,akv,N,H.qY 8 2 (1::0::zR 2 6) [0,1] (by simp only [List.length_cons,List.length_append];omega)<|by simp only [List.length_cons,List.length_append];omega⟩)⟩
   refine xU H ti110 [yI 0,yI 0,yN,yN,yN,yN,yN,yN,Bv false] fun b76 w77 H=>⟨H.pick (zR 4 4) [0,1],(ro 13 rfl<|jE H underlying24 ti2 kk.toNat rfl rfl qf qf qf fun kx w79 H=>⟨H.pick (zR 5 4) [0,1],(ro 19 rfl ?_)⟩)⟩
   refine jb [yI sn,yI 0,Sv fK tJ.length Bw,Sv (aa kx 0) kk.toNat kk.toNat,Sv (aa NK 0) kk.toNat kk.toNat,yN,yN,yN,Bv false] [(0,yI sn),(2,Sv fK tJ.length Bw),(3,Sv (aa kx 0) kk.toNat kk.toNat),(4,Sv (aa NK 0) kk.toNat kk.toNat)]<|⟨H.pick (zR 5 4) [0,1],(ro 21 rfl ?_)⟩
   refine zC H 1 [yI sn,yI 0,Sv fK tJ.length Bw,Sv (aa kx 0) kk.toNat kk.toNat,Sv (aa NK 0) kk.toNat kk.toNat,yN,yN,yN,Bv false] sizeOf110 fun WH H=>?_
   try dsimp only [List.set] at H
   refine ⟨H.pick (zR 5 4) [0,1],(xy qh ((meet ⟨_,Ba,sn,CT,tJ,b76,fK,Bw,kx,NK,Rl,uE5,akr,an7,ahv,akv,N,H.qY 9 2 (1::2::0::zR 3 6) [0,1] (by simp only [List.length_cons,List.length_append];omega)<|by simp only [List.length_cons,List.length_append];omega⟩)))⟩
  refine yR (fun ρ VP=>∃ (xI:Env) (Ei:Int) (rk:Int) (I0:Int) (pE:yLI) (qe:yOA) (ux:Nat) (b87:Nat) (Ec:Int),ρ=upd (upd (upd (upd (upd (upd (upd (upd (upd xI 0<|pp bs 0) 1<|pp bY 0) 4<|pp b1 0) 5<|yI par.length) 6<|pp b87 0) 15<|yI rk) 21<|Sv qe pE.length ux) 25<|yI kk) 30 (yI kk)/\(ip<=Ei/\Ei<=ip+2)/\(0<=rk/\(rk < par.length\/rk=0))/\(Ei<=I0/\I0<=Ei+24)/\(ja kk (2:Int) pE/\sumL pE≠0)/\Fresh W0.heap.size (bX::Ns)/\St W0 VP ((.box b87 [yI 0,yI 0,yN,yN,yN,yN,yN,yN,Bv false] 110)::(.box bs [Sv ac ah.length cc,yI I0,.int .u64 Ec] 116)::(rr qe pE.length ux 2 1<|pE.map<|Value.int .i64)::(.box b1 [yI 0,yI 0,yN,yN,yN,yN,yN,yN,Bv false] 110)::(.box bY [yI kk,Sv kZ par.length lc,Sv k0 rules.length ld] 27)::(rr kZ par.length lc 2 1<|par.map<|Value.int .i64)::(rr k0 rules.length ld 110 9 eF)::ps) ((sF false Fc ac cc ah)::(qL true bX eF rules)::Γ)) 4 #[true,true,true,true,true,true,true,true,true,true,true,true,true,false,true,true,true,true,false,false,true,false] ?_ fun L89=>?_
  ·rintro ρ w91 ⟨xI,Ei,rk,I0,pE,qe,ux,b87,Ec,rfl,anP,Kj,EL,ahm,N,H⟩
   refine jw [13,18] qh qm<|jT rfl ?_<|jT rfl ?_ jy
   ·refine jE H underlying24 ti2 kk.toNat rfl rfl qf qf qf fun b96 w97 H=>⟨H.pick (zR 4 4) [0,1],(ro 18 rfl<|jE H underlying24 ti2 kk.toNat rfl rfl qf qf qf fun tT w99 H=>⟨H.pick (zR 5 4) [0,1],(ro 19 rfl<|jb [yI rk,yI 0,Sv qe pE.length ux,Sv (aa b96 0) kk.toNat kk.toNat,Sv (aa tT 0) kk.toNat kk.toNat,yN,yN,yN,Bv false] [(0,yI rk),(2,Sv qe pE.length ux),(3,Sv (aa b96 0) kk.toNat kk.toNat),(4,Sv (aa tT 0) kk.toNat kk.toNat)] ?_)⟩)⟩
    refine ⟨H.pick (zR 5 4) [0,1],(ro 21 rfl<|zC H 2 [yI rk,yI 0,Sv qe pE.length ux,Sv (aa b96 0) kk.toNat kk.toNat,Sv (aa tT 0) kk.toNat kk.toNat,yN,yN,yN,Bv false] sizeOf110 fun an4 H=>?_)⟩
    try dsimp only [List.set] at H
    refine ⟨H.pick (zR 5 4) [0,1],(xy qh ((meet ⟨_,Ei,rk,I0,pE,b87,qe,ux,b96,tT,Ec,uE5,anP,Kj,EL,ahm,N,H.qY 9 2 (2::0::1::zR 3 6) [0,1] (by simp only [List.length_cons,List.length_append];omega)<|by simp only [List.length_cons,List.length_append];omega⟩)))⟩
   refine jE H underlying24 ti2 kk.toNat rfl rfl qf qf qf fun Nt agP H=>⟨H.pick (zR 4 4) [0,1],(ro 13 rfl<|jE H underlying24 ti2 kk.toNat rfl rfl qf qf qf fun PR Lc H=>⟨H.pick (zR 5 4) [0,1],(ro 19 rfl<|jb [yI rk,yI 0,Sv qe pE.length ux,Sv (aa PR 0) kk.toNat kk.toNat,Sv (aa Nt 0) kk.toNat kk.toNat,yN,yN,yN,Bv false] [(0,yI rk),(2,Sv qe pE.length ux),(3,Sv (aa PR 0) kk.toNat kk.toNat),(4,Sv (aa Nt 0) kk.toNat kk.toNat)] ?_)⟩)⟩
   refine ⟨H.pick (zR 5 4) [0,1],(ro 21 rfl<|zC H 2 [yI rk,yI 0,Sv qe pE.length ux,Sv (aa PR 0) kk.toNat kk.toNat,Sv (aa Nt 0) kk.toNat kk.toNat,yN,yN,yN,Bv false] sizeOf110 fun ajW H=>?_)⟩
   try dsimp only [List.set] at H
   refine ⟨H.pick (zR 5 4) [0,1],(xy qh ((meet ⟨_,Ei,rk,I0,pE,b87,qe,ux,PR,Nt,Ec,uE5,anP,Kj,EL,ahm,N,H.qY 9 2 (2::1::0::zR 3 6) [0,1] (by simp only [List.length_cons,List.length_append];omega)<|by simp only [List.length_cons,List.length_append];omega⟩)))⟩
  refine yR (fun ρ Zg=>∃ (xI:Env) (rU:Int) (nR:Int) (f5:Nat) (Cw:Nat) (FQ:Int),ρ=upd (upd (upd (upd (upd (upd (upd (upd (upd xI 0<|pp bs 0) 1<|pp bY 0) 4<|pp b1 0) 5<|yI par.length) 15<|yI nR) 16<|pp bs 0) 20<|yI kk) 26<|Sv (aa f5 0) kk.toNat kk.toNat) 31 (Sv (aa Cw 0) kk.toNat kk.toNat)/\(ip<=rU/\rU<=ip+2)/\(0<=nR/\(nR < par.length\/nR=0))/\Fresh W0.heap.size (bX::Ns)/\St W0 Zg ((rr (aa Cw 0) kk.toNat kk.toNat 2 1 ((List.replicate kk.toNat (0:Int)).map<|Value.int .i64))::(rr (aa f5 0) kk.toNat kk.toNat 2 1 ((List.replicate kk.toNat (0:Int)).map<|Value.int .i64))::(.box bs [Sv ac ah.length cc,yI rU,.int .u64 FQ] 116)::(.box b1 [yI 0,yI 0,yN,yN,yN,yN,yN,yN,Bv false] 110)::(.box bY [yI kk,Sv kZ par.length lc,Sv k0 rules.length ld] 27)::(rr kZ par.length lc 2 1<|par.map<|Value.int .i64)::(rr k0 rules.length ld 110 9 eF)::ps) ((sF false Fc ac cc ah)::(qL true bX eF rules)::Γ)) 4 #[true,true,true,true,true,true,true,true,false,true,true,true,true,true,true,true,true,true,true,false,false,false] ?_ fun acH=>?_
  ·rintro ρ abz ⟨xI,rU,nR,f5,Cw,FQ,rfl,Y1,UL,N,H⟩
   refine jw [8,20] qh qm<|jT rfl ?_<|jT rfl ?_ jy
   ·have H1:=H.yw 7 2 [2,0,1,3,4,5,6] [0,1] (by simp only [List.length_cons,List.length_append];omega) (by simp only [List.length_cons,List.length_append];omega)
    have N1:Fresh _ (bX::Ns):=N
    have K1:Kept (Ns) ((qL true bX eF rules)::Γ):=K0.behind 1 rfl
    replace K1:=K1.cons (F:=bX) 0 rfl rfl
    refine zy #[pp bs 0,yI kk,yI 2] rfl rfl call146 (QX ah rU FQ bs ac cc Fc kk (2:Int) H1 N1 K1 qg qg qg) ?_
    clear H H1 N1 K1
    rintro _ avC ⟨ahX,ap5,aiZ,agS,aBM,akJ,aiS,ag0,rfl,N,H⟩
    obtain rfl:=H.Qc 1 rfl
    refine ⟨H.pick (zR 4 4) [0,1],(je L24 ⟨_,rU,nR,ahX,aiZ,agS,akJ,f5,Cw,ap5,uE8,Y1,UL,aiS,ag0,N,H.qY 8 2 [2,3,0,1,4,5,6,7] [0,1] (by simp only [List.length_cons,List.length_append];omega)<|by simp only [List.length_cons,List.length_append];omega⟩)⟩
   refine xU H ti110 [yI 0,yI 0,yN,yN,yN,yN,yN,yN,Bv false] fun ayH alq H=>⟨H.pick (zR 4 4) [0,1],(ro 8 rfl ?_)⟩
   have H1:=H.yw 8 2 [3,0,1,2,4,5,6,7] [0,1] (by simp only [List.length_cons,List.length_append];omega)<|by simp only [List.length_cons,List.length_append];omega
   have N1:Fresh _ (bX::Ns):=N
   have K1:Kept (Ns) ((qL true bX eF rules)::Γ):=K0.behind 1 rfl
   replace K1:=K1.cons (F:=bX) 0 rfl rfl
   refine zy #[pp bs 0,yI kk,yI 2] rfl rfl call146 (QX ah rU FQ bs ac cc Fc kk (2:Int) H1 N1 K1 qg qg qg) ?_
   clear H H1 N1 K1
   rintro _ abw ⟨aeK,ahT,tM,Hs,aCi,FF,ap8,aj4,rfl,N,H⟩
   obtain rfl:=H.Qc 1 rfl
   refine ⟨H.pick (zR 5 4) [0,1],(ro 19 rfl<|jb [yI nR,yI 0,Sv Hs tM.length FF,Sv (aa f5 0) kk.toNat kk.toNat,Sv (aa Cw 0) kk.toNat kk.toNat,yN,yN,yN,Bv false] [(0,yI nR),(2,Sv Hs tM.length FF),(3,Sv (aa f5 0) kk.toNat kk.toNat),(4,Sv (aa Cw 0) kk.toNat kk.toNat)]<|⟨H.pick (zR 5 4) [0,1],(ro 21 rfl ?_)⟩)⟩
   refine zC H 2 [yI nR,yI 0,Sv Hs tM.length FF,Sv (aa f5 0) kk.toNat kk.toNat,Sv (aa Cw 0) kk.toNat kk.toNat,yN,yN,yN,Bv false] sizeOf110 fun an2 H=>?_
   try dsimp only [List.set] at H
   refine ⟨H.pick (zR 5 4) [0,1],(xy qh ((meet ⟨_,rU,nR,aeK,tM,ayH,Hs,FF,f5,Cw,ahT,uE5,Y1,UL,ap8,aj4,N,H.qY 9 2 [2,3,4,0,1,5,6,7,8] [0,1] (by simp only [List.length_cons,List.length_append];omega)<|by simp only [List.length_cons,List.length_append];omega⟩)))⟩
  refine yR (fun ρ OF=>∃ (xI:Env) (rW:Int) (kL:Int) (nP:Nat) (Ly:Nat) (FK:Int),ρ=upd (upd (upd (upd (upd (upd (upd (upd (upd (upd xI 0<|pp bs 0) 1<|pp bY 0) 4<|pp b1 0) 5<|yI par.length) 6<|pp Ly 0) 15<|yI kL) 16<|pp bs 0) 20<|yI kk) 26<|Sv (aa nP 0) kk.toNat kk.toNat) 30 (yI kk)/\(ip<=rW/\rW<=ip+2)/\(0<=kL/\(kL < par.length\/kL=0))/\Fresh W0.heap.size (bX::Ns)/\St W0 OF ((.box Ly [yI 0,yI 0,yN,yN,yN,yN,yN,yN,Bv false] 110)::(rr (aa nP 0) kk.toNat kk.toNat 2 1 ((List.replicate kk.toNat (0:Int)).map<|Value.int .i64))::(.box bs [Sv ac ah.length cc,yI rW,.int .u64 FK] 116)::(.box b1 [yI 0,yI 0,yN,yN,yN,yN,yN,yN,Bv false] 110)::(.box bY [yI kk,Sv kZ par.length lc,Sv k0 rules.length ld] 27)::(rr kZ par.length lc 2 1<|par.map<|Value.int .i64)::(rr k0 rules.length ld 110 9 eF)::ps) ((sF false Fc ac cc ah)::(qL true bX eF rules)::Γ)) 4 #[true,true,true,true,true,true,true,true,false,true,true,true,true,true,true,true,true,true,false,false,true,false] ?_ fun Kl=>?_
  ·rintro ρ NP ⟨xI,rW,kL,nP,Ly,FK,rfl,VJ,Ul,N,H⟩
   refine jw [8,18] qh qm<|jT rfl ?_<|jT rfl ?_ jy
   ·have H1:=H.yw 7 2 [2,0,1,3,4,5,6] [0,1] (by simp only [List.length_cons,List.length_append];omega) (by simp only [List.length_cons,List.length_append];omega)
    have N1:Fresh _ (bX::Ns):=N
    have K1:Kept (Ns) ((qL true bX eF rules)::Γ):=K0.behind 1 rfl
    replace K1:=K1.cons (F:=bX) 0 rfl rfl
    refine zy #[pp bs 0,yI kk,yI 2] rfl rfl call146 (QX ah rW FK bs ac cc Fc kk (2:Int) H1 N1 K1 qg qg qg) ?_
    clear H H1 N1 K1
    rintro _ atb ⟨ag5,agB,G7,F8,aCZ,Gj,afU,ajr,rfl,N,H⟩
    obtain rfl:=H.Qc 1 rfl
    refine ⟨H.pick (zR 4 4) [0,1],(ro 18 rfl<|jE H underlying24 ti2 kk.toNat rfl rfl qf qf qf fun J9 abK H=>⟨H.pick (zR 5 4) [0,1],(ro 19 rfl<|jb [yI kL,yI 0,Sv F8 G7.length Gj,Sv (aa nP 0) kk.toNat kk.toNat,Sv (aa J9 0) kk.toNat kk.toNat,yN,yN,yN,Bv false] [(0,yI kL),(2,Sv F8 G7.length Gj),(3,Sv (aa nP 0) kk.toNat kk.toNat),(4,Sv (aa J9 0) kk.toNat kk.toNat)]<|⟨H.pick (zR 5 4) [0,1],(ro 21 rfl ?_)⟩)⟩)⟩
    refine zC H 3 [yI kL,yI 0,Sv F8 G7.length Gj,Sv (aa nP 0) kk.toNat kk.toNat,Sv (aa J9 0) kk.toNat kk.toNat,yN,yN,yN,Bv false] sizeOf110 fun ajx H=>?_
    try dsimp only [List.set] at H
    refine ⟨H.pick (zR 5 4) [0,1],(xy qh ((meet ⟨_,rW,kL,ag5,G7,Ly,F8,Gj,nP,J9,agB,uE5,VJ,Ul,afU,ajr,N,H.qY 9 2 [3,0,4,1,2,5,6,7,8] [0,1] (by simp only [List.length_cons,List.length_append];omega)<|by simp only [List.length_cons,List.length_append];omega⟩)))⟩
   refine jE H underlying24 ti2 kk.toNat rfl rfl qf qf qf fun Kq axO H=>⟨H.pick (zR 4 4) [0,1],(ro 8 rfl ?_)⟩
   have H1:=H.yw 8 2 [3,0,1,2,4,5,6,7] [0,1] (by simp only [List.length_cons,List.length_append];omega)<|by simp only [List.length_cons,List.length_append];omega
   have N1:Fresh _ (bX::Ns):=N
   have K1:Kept (Ns) ((qL true bX eF rules)::Γ):=K0.behind 1 rfl
   replace K1:=K1.cons (F:=bX) 0 rfl rfl
   refine zy #[pp bs 0,yI kk,yI 2] rfl rfl call146 (QX ah rW FK bs ac cc Fc kk (2:Int) H1 N1 K1 qg qg qg) ?_
   clear H H1 N1 K1
   rintro _ ayh ⟨amj,alo,G4,FP,aA8,xS,apF,Wg,rfl,N,H⟩
   obtain rfl:=H.Qc 1 rfl
   refine ⟨H.pick (zR 5 4) [0,1],(ro 19 rfl<|jb [yI kL,yI 0,Sv FP G4.length xS,Sv (aa nP 0) kk.toNat kk.toNat,Sv (aa Kq 0) kk.toNat kk.toNat,yN,yN,yN,Bv false] [(0,yI kL),(2,Sv FP G4.length xS),(3,Sv (aa nP 0) kk.toNat kk.toNat),(4,Sv (aa Kq 0) kk.toNat kk.toNat)]<|⟨H.pick (zR 5 4) [0,1],(ro 21 rfl ?_)⟩)⟩
   refine zC H 3 [yI kL,yI 0,Sv FP G4.length xS,Sv (aa nP 0) kk.toNat kk.toNat,Sv (aa Kq 0) kk.toNat kk.toNat,yN,yN,yN,Bv false] sizeOf110 fun axx H=>?_
   try dsimp only [List.set] at H
   refine ⟨H.pick (zR 5 4) [0,1],(xy qh ((meet ⟨_,rW,kL,amj,G4,Ly,FP,xS,nP,Kq,alo,uE5,VJ,Ul,apF,Wg,N,H.qY 9 2 [3,2,4,0,1,5,6,7,8] [0,1] (by simp only [List.length_cons,List.length_append];omega)<|by simp only [List.length_cons,List.length_append];omega⟩)))⟩
  refine yR (fun ρ aoC=>∃ (xI:Env) (r4:Int) (kD:Int) (mo:Nat) (tC:Nat) (FJ:Int),ρ=upd (upd (upd (upd (upd (upd (upd (upd (upd (upd xI 0<|pp bs 0) 1<|pp bY 0) 4<|pp b1 0) 5<|yI par.length) 6<|pp tC 0) 15<|yI kD) 16<|pp bs 0) 20<|yI kk) 25<|yI kk) 31 (Sv (aa mo 0) kk.toNat kk.toNat)/\(ip<=r4/\r4<=ip+2)/\(0<=kD/\(kD < par.length\/kD=0))/\Fresh W0.heap.size (bX::Ns)/\St W0 aoC ((.box tC [yI 0,yI 0,yN,yN,yN,yN,yN,yN,Bv false] 110)::(rr (aa mo 0) kk.toNat kk.toNat 2 1 ((List.replicate kk.toNat (0:Int)).map<|Value.int .i64))::(.box bs [Sv ac ah.length cc,yI r4,.int .u64 FJ] 116)::(.box b1 [yI 0,yI 0,yN,yN,yN,yN,yN,yN,Bv false] 110)::(.box bY [yI kk,Sv kZ par.length lc,Sv k0 rules.length ld] 27)::(rr kZ par.length lc 2 1<|par.map<|Value.int .i64)::(rr k0 rules.length ld 110 9 eF)::ps) ((sF false Fc ac cc ah)::(qL true bX eF rules)::Γ)) 4 #[true,true,true,true,true,true,true,true,false,true,true,true,true,false,true,true,true,true,true,false,true,false] ?_ fun Zv=>?_
  ·rintro ρ aiQ ⟨xI,r4,kD,mo,tC,FJ,rfl,UN,Y5,N,H⟩
   refine jw [8,13] qh qm<|jT rfl ?_<|jT rfl ?_ jy
   ·have H1:=H.yw 7 2 [2,0,1,3,4,5,6] [0,1] (by simp only [List.length_cons,List.length_append];omega) (by simp only [List.length_cons,List.length_append];omega)
    have N1:Fresh _ (bX::Ns):=N
    have K1:Kept (Ns) ((qL true bX eF rules)::Γ):=K0.behind 1 rfl
    replace K1:=K1.cons (F:=bX) 0 rfl rfl
    refine zy #[pp bs 0,yI kk,yI 2] rfl rfl call146 (QX ah r4 FJ bs ac cc Fc kk (2:Int) H1 N1 K1 qg qg qg) ?_
    clear H H1 N1 K1
    rintro _ at2 ⟨alx,am5,H9,pM,apV,pn,ph,akl,rfl,N,H⟩
    obtain rfl:=H.Qc 1 rfl
    refine ⟨H.pick (zR 4 4) [0,1],(ro 13 rfl<|jE H underlying24 ti2 kk.toNat rfl rfl qf qf qf fun Oo NE H=>⟨H.pick (zR 5 4) [0,1],(ro 19 rfl<|jb [yI kD,yI 0,Sv pM H9.length pn,Sv (aa Oo 0) kk.toNat kk.toNat,Sv (aa mo 0) kk.toNat kk.toNat,yN,yN,yN,Bv false] [(0,yI kD),(2,Sv pM H9.length pn),(3,Sv (aa Oo 0) kk.toNat kk.toNat),(4,Sv (aa mo 0) kk.toNat kk.toNat)]<|⟨H.pick (zR 5 4) [0,1],(ro 21 rfl ?_)⟩)⟩)⟩
    refine zC H 3 [yI kD,yI 0,Sv pM H9.length pn,Sv (aa Oo 0) kk.toNat kk.toNat,Sv (aa mo 0) kk.toNat kk.toNat,yN,yN,yN,Bv false] sizeOf110 fun aeG H=>?_
    try dsimp only [List.set] at H
    refine ⟨H.pick (zR 5 4) [0,1],(xy qh ((meet ⟨_,r4,kD,alx,H9,tC,pM,pn,Oo,mo,am5,uE5,UN,Y5,ph,akl,N,H.qY 9 2 [3,4,0,1,2,5,6,7,8] [0,1] (by simp only [List.length_cons,List.length_append];omega)<|by simp only [List.length_cons,List.length_append];omega⟩)))⟩
   refine jE H underlying24 ti2 kk.toNat rfl rfl qf qf qf fun Ja apn H=>⟨H.pick (zR 4 4) [0,1],(ro 8 rfl ?_)⟩
   have H1:=H.yw 8 2 [3,0,1,2,4,5,6,7] [0,1] (by simp only [List.length_cons,List.length_append];omega)<|by simp only [List.length_cons,List.length_append];omega
   have N1:Fresh _ (bX::Ns):=N
   have K1:Kept (Ns) ((qL true bX eF rules)::Γ):=K0.behind 1 rfl
   replace K1:=K1.cons (F:=bX) 0 rfl rfl
   refine zy #[pp bs 0,yI kk,yI 2] rfl rfl call146 (QX ah r4 FJ bs ac cc Fc kk (2:Int) H1 N1 K1 qg qg qg) ?_
   clear H H1 N1 K1
   rintro _ aJL ⟨akH,aeY,Hq,na,ans,pO,al0,afN,rfl,N,H⟩
   obtain rfl:=H.Qc 1 rfl
   refine ⟨H.pick (zR 5 4) [0,1],(ro 19 rfl<|jb [yI kD,yI 0,Sv na Hq.length pO,Sv (aa Ja 0) kk.toNat kk.toNat,Sv (aa mo 0) kk.toNat kk.toNat,yN,yN,yN,Bv false] [(0,yI kD),(2,Sv na Hq.length pO),(3,Sv (aa Ja 0) kk.toNat kk.toNat),(4,Sv (aa mo 0) kk.toNat kk.toNat)]<|⟨H.pick (zR 5 4) [0,1],(ro 21 rfl ?_)⟩)⟩
   refine zC H 3 [yI kD,yI 0,Sv na Hq.length pO,Sv (aa Ja 0) kk.toNat kk.toNat,Sv (aa mo 0) kk.toNat kk.toNat,yN,yN,yN,Bv false] sizeOf110 fun aGT H=>?_
   try dsimp only [List.set] at H
   refine ⟨H.pick (zR 5 4) [0,1],(xy qh ((meet ⟨_,r4,kD,akH,Hq,tC,na,pO,Ja,mo,aeY,uE5,UN,Y5,al0,afN,N,H.qY 9 2 [3,4,2,0,1,5,6,7,8] [0,1] (by simp only [List.length_cons,List.length_append];omega)<|by simp only [List.length_cons,List.length_append];omega⟩)))⟩
  refine yR (fun ρ amz=>∃ (xI:Env) (rZ:Int) (r3:Int) (CP:Nat) (C0:Int),ρ=upd (upd (upd (upd (upd (upd (upd (upd (upd xI 0<|pp bs 0) 1<|pp bY 0) 4<|pp b1 0) 5<|yI par.length) 15<|yI r3) 16<|pp bs 0) 20<|yI kk) 26<|Sv (aa CP 0) kk.toNat kk.toNat) 30 (yI kk)/\(ip<=rZ/\rZ<=ip+2)/\(0<=r3/\(r3 < par.length\/r3=0))/\Fresh W0.heap.size (bX::Ns)/\St W0 amz ((rr (aa CP 0) kk.toNat kk.toNat 2 1 ((List.replicate kk.toNat (0:Int)).map<|Value.int .i64))::(.box bs [Sv ac ah.length cc,yI rZ,.int .u64 C0] 116)::(.box b1 [yI 0,yI 0,yN,yN,yN,yN,yN,yN,Bv false] 110)::(.box bY [yI kk,Sv kZ par.length lc,Sv k0 rules.length ld] 27)::(rr kZ par.length lc 2 1<|par.map<|Value.int .i64)::(rr k0 rules.length ld 110 9 eF)::ps) ((sF false Fc ac cc ah)::(qL true bX eF rules)::Γ)) 5 #[true,true,true,true,true,true,true,true,false,true,true,true,true,true,true,true,true,true,false,false,false,false] ?_ fun alf=>?_
  ·rintro ρ akh ⟨xI,rZ,r3,CP,C0,rfl,Oe,NH,N,H⟩
   refine jw [8,18,20] qh qm<|jT rfl ?_<|jT rfl ?_<|jT rfl ?_ jy
   ·have H1:=H.yw 6 2 [1,0,2,3,4,5] [0,1] (by simp only [List.length_cons,List.length_append];omega) (by simp only [List.length_cons,List.length_append];omega)
    have N1:Fresh _ (bX::Ns):=N
    have K1:Kept (Ns) ((qL true bX eF rules)::Γ):=K0.behind 1 rfl
    replace K1:=K1.cons (F:=bX) 0 rfl rfl
    refine zy #[pp bs 0,yI kk,yI 2] rfl rfl call146 (QX ah rZ C0 bs ac cc Fc kk (2:Int) H1 N1 K1 qg qg qg) ?_
    clear H H1 N1 K1
    rintro _ ao9 ⟨af1,afC,ahV,aeM,azH,ah2,agu,aho,rfl,N,H⟩
    obtain rfl:=H.Qc 1 rfl
    refine ⟨H.pick (zR 3 4) [0,1],(je L45 ⟨_,rZ,r3,af1,ahV,aeM,ah2,CP,afC,uE8,Oe,NH,agu,aho,N,H.qY 7 2 [2,0,1,3,4,5,6] [0,1] (by simp only [List.length_cons,List.length_append];omega)<|by simp only [List.length_cons,List.length_append];omega⟩)⟩
   ·refine jE H underlying24 ti2 kk.toNat rfl rfl qf qf qf fun ZB azg H=>⟨H.pick (zR 3 4) [0,1],(je acH ⟨_,rZ,r3,CP,ZB,C0,uE9,Oe,NH,N,H⟩)⟩
   refine xU H ti110 [yI 0,yI 0,yN,yN,yN,yN,yN,yN,Bv false] fun aym alm H=>⟨H.pick (zR 3 4) [0,1],(je Kl ⟨_,rZ,r3,CP,aym,C0,uE10,Oe,NH,N,H⟩)⟩
  refine yR (fun ρ w239=>∃ (xI:Env) (rR:Int) (rY:Int) (CJ:Nat) (CW:Int),ρ=upd (upd (upd (upd (upd (upd (upd (upd (upd xI 0<|pp bs 0) 1<|pp bY 0) 4<|pp b1 0) 5<|yI par.length) 15<|yI rY) 16<|pp bs 0) 20<|yI kk) 25<|yI kk) 31 (Sv (aa CJ 0) kk.toNat kk.toNat)/\(ip<=rR/\rR<=ip+2)/\(0<=rY/\(rY < par.length\/rY=0))/\Fresh W0.heap.size (bX::Ns)/\St W0 w239 ((rr (aa CJ 0) kk.toNat kk.toNat 2 1 ((List.replicate kk.toNat (0:Int)).map<|Value.int .i64))::(.box bs [Sv ac ah.length cc,yI rR,.int .u64 CW] 116)::(.box b1 [yI 0,yI 0,yN,yN,yN,yN,yN,yN,Bv false] 110)::(.box bY [yI kk,Sv kZ par.length lc,Sv k0 rules.length ld] 27)::(rr kZ par.length lc 2 1<|par.map<|Value.int .i64)::(rr k0 rules.length ld 110 9 eF)::ps) ((sF false Fc ac cc ah)::(qL true bX eF rules)::Γ)) 5 #[true,true,true,true,true,true,true,true,false,true,true,true,true,false,true,true,true,true,true,false,false,false] ?_ fun an6=>?_
  ·rintro ρ atO ⟨xI,rR,rY,CJ,CW,rfl,Pg,Mh,N,H⟩
   refine jw [8,13,20] qh qm<|jT rfl ?_<|jT rfl ?_<|jT rfl ?_ jy
   ·have H1:=H.yw 6 2 [1,0,2,3,4,5] [0,1] (by simp only [List.length_cons,List.length_append];omega) (by simp only [List.length_cons,List.length_append];omega)
    have N1:Fresh _ (bX::Ns):=N
    have K1:Kept (Ns) ((qL true bX eF rules)::Γ):=K0.behind 1 rfl
    replace K1:=K1.cons (F:=bX) 0 rfl rfl
    refine zy #[pp bs 0,yI kk,yI 2] rfl rfl call146 (QX ah rR CW bs ac cc Fc kk (2:Int) H1 N1 K1 qg qg qg) ?_
    clear H H1 N1 K1
    rintro _ ama ⟨ai3,apB,alA,ahj,aDk,ajI,apI,aor,rfl,N,H⟩
    obtain rfl:=H.Qc 1 rfl
    refine ⟨H.pick (zR 3 4) [0,1],(je L67 ⟨_,rR,rY,ai3,alA,ahj,ajI,CJ,apB,uE8,Pg,Mh,apI,aor,N,H.qY 7 2 [2,0,1,3,4,5,6] [0,1] (by simp only [List.length_cons,List.length_append];omega)<|by simp only [List.length_cons,List.length_append];omega⟩)⟩
   ·refine jE H underlying24 ti2 kk.toNat rfl rfl qf qf qf fun awo aJ4 H=>⟨H.pick (zR 3 4) [0,1],(je acH ⟨_,rR,rY,awo,CJ,CW,uE9,Pg,Mh,N,H.qY 7 2 (1::0::zR 2 5) [0,1] (by simp only [List.length_cons,List.length_append];omega)<|by simp only [List.length_cons,List.length_append];omega⟩)⟩
   refine xU H ti110 [yI 0,yI 0,yN,yN,yN,yN,yN,yN,Bv false] fun av0 aJq H=>⟨H.pick (zR 3 4) [0,1],(je Zv ⟨_,rR,rY,CJ,av0,CW,uE10,Pg,Mh,N,H⟩)⟩
  refine yR (fun ρ amb=>∃ (xI:Env) (rX:Int) (rV:Int) (If:Nat) (BQ:Int),ρ=upd (upd (upd (upd (upd (upd (upd (upd (upd (upd xI 0<|pp bs 0) 1<|pp bY 0) 4<|pp b1 0) 5<|yI par.length) 6<|pp If 0) 15<|yI rV) 16<|pp bs 0) 20<|yI kk) 25<|yI kk) 30 (yI kk)/\(ip<=rX/\rX<=ip+2)/\(0<=rV/\(rV < par.length\/rV=0))/\Fresh W0.heap.size (bX::Ns)/\St W0 amb ((.box If [yI 0,yI 0,yN,yN,yN,yN,yN,yN,Bv false] 110)::(.box bs [Sv ac ah.length cc,yI rX,.int .u64 BQ] 116)::(.box b1 [yI 0,yI 0,yN,yN,yN,yN,yN,yN,Bv false] 110)::(.box bY [yI kk,Sv kZ par.length lc,Sv k0 rules.length ld] 27)::(rr kZ par.length lc 2 1<|par.map<|Value.int .i64)::(rr k0 rules.length ld 110 9 eF)::ps) ((sF false Fc ac cc ah)::(qL true bX eF rules)::Γ)) 5 #[true,true,true,true,true,true,true,true,false,true,true,true,true,false,true,true,true,true,false,false,true,false] ?_ fun ahf=>?_
  ·rintro ρ ahq ⟨xI,rX,rV,If,BQ,rfl,KR,M1,N,H⟩
   refine jw [8,13,18] qh qm<|jT rfl ?_<|jT rfl ?_<|jT rfl ?_ jy
   ·have H1:=H.yw 6 2 [1,0,2,3,4,5] [0,1] (by simp only [List.length_cons,List.length_append];omega) (by simp only [List.length_cons,List.length_append];omega)
    have N1:Fresh _ (bX::Ns):=N
    have K1:Kept (Ns) ((qL true bX eF rules)::Γ):=K0.behind 1 rfl
    replace K1:=K1.cons (F:=bX) 0 rfl rfl
    refine zy #[pp bs 0,yI kk,yI 2] rfl rfl call146 (QX ah rX BQ bs ac cc Fc kk (2:Int) H1 N1 K1 qg qg qg) ?_
    clear H H1 N1 K1
    rintro _ aKx ⟨ahS,ahr,agj,ahM,aBQ,akb,ak2,apR,rfl,N,H⟩
    obtain rfl:=H.Qc 1 rfl
    refine ⟨H.pick (zR 3 4) [0,1],(je L89 ⟨_,rX,rV,ahS,agj,ahM,akb,If,ahr,uE9,KR,M1,ak2,apR,N,H.qY 7 2 [2,0,1,3,4,5,6] [0,1] (by simp only [List.length_cons,List.length_append];omega)<|by simp only [List.length_cons,List.length_append];omega⟩)⟩
   ·refine jE H underlying24 ti2 kk.toNat rfl rfl qf qf qf fun awg aIb H=>⟨H.pick (zR 3 4) [0,1],(je Kl ⟨_,rX,rV,awg,If,BQ,uE10,KR,M1,N,H.qY 7 2 (1::0::zR 2 5) [0,1] (by simp only [List.length_cons,List.length_append];omega)<|by simp only [List.length_cons,List.length_append];omega⟩)⟩
   refine jE H underlying24 ti2 kk.toNat rfl rfl qf qf qf fun atf aIW H=>⟨H.pick (zR 3 4) [0,1],(je Zv ⟨_,rX,rV,atf,If,BQ,uE10,KR,M1,N,H.qY 7 2 (1::0::zR 2 5) [0,1] (by simp only [List.length_cons,List.length_append];omega)<|by simp only [List.length_cons,List.length_append];omega⟩)⟩
  refine yR (fun ρ aiN=>∃ (xI:Env) (pS:Nat) (DH:Nat),ρ=upd (upd (upd (upd (upd (upd (upd (upd (upd (upd xI 0<|pp bs 0) 1<|pp bY 0) 4<|pp b1 0) 5<|yI par.length) 13<|pp bs 0) 14<|yI par.length) 16<|pp bs 0) 20<|yI kk) 26<|Sv (aa pS 0) kk.toNat kk.toNat) 31 (Sv (aa DH 0) kk.toNat kk.toNat)/\Fresh W0.heap.size (bX::Ns)/\St W0 aiN ((rr (aa DH 0) kk.toNat kk.toNat 2 1 ((List.replicate kk.toNat (0:Int)).map<|Value.int .i64))::(rr (aa pS 0) kk.toNat kk.toNat 2 1 ((List.replicate kk.toNat (0:Int)).map<|Value.int .i64))::(.box b1 [yI 0,yI 0,yN,yN,yN,yN,yN,yN,Bv false] 110)::(.box bs [Sv ac ah.length cc,yI ip,.int .u64 sd] 116)::(.box bY [yI kk,Sv kZ par.length lc,Sv k0 rules.length ld] 27)::(rr kZ par.length lc 2 1<|par.map<|Value.int .i64)::(rr k0 rules.length ld 110 9 eF)::ps) ((sF false Fc ac cc ah)::(qL true bX eF rules)::Γ)) 5 #[true,true,false,true,true,true,true,true,false,true,true,true,true,true,true,true,true,true,true,false,false,false] ?_ fun ahZ=>?_
  ·rintro ρ at0 ⟨xI,pS,DH,rfl,N,H⟩
   refine jw [2,20] qh qm<|jT rfl ?_<|jT rfl ?_ jy
   ·have H1:=H.yw 7 2 [3,0,1,2,4,5,6] [0,1] (by simp only [List.length_cons,List.length_append];omega) (by simp only [List.length_cons,List.length_append];omega)
    have N1:Fresh _ (bX::Ns):=N
    have K1:Kept (Ns) ((qL true bX eF rules)::Γ):=K0.behind 1 rfl
    replace K1:=K1.cons (F:=bX) 0 rfl rfl
    refine zy #[pp bs 0,yI par.length] rfl rfl call59 (yM ah ip sd bs ac cc Fc par.length H1 N1 K1 qg) ?_
    clear H H1 N1 K1
    rintro _ ax4 ⟨af9,anj,agn,amI,alg,rfl,N,H⟩
    refine ⟨H.pick (zR 3 4) [0,1],(je acH ⟨_,af9,agn,pS,DH,anj,uE9,amI,alg,N,H.qY 7 2 [1,2,0,3,4,5,6] [0,1] (by simp only [List.length_cons,List.length_append];omega)<|by simp only [List.length_cons,List.length_append];omega⟩)⟩
   refine xU H ti110 [yI 0,yI 0,yN,yN,yN,yN,yN,yN,Bv false] fun ayQ aqZ H=>⟨H.pick [3,5,6,7] [0,1],(ro 2 rfl ?_)⟩
   have H1:=H.yw 8 2 [4,0,1,2,3,5,6,7] [0,1] (by simp only [List.length_cons,List.length_append];omega)<|by simp only [List.length_cons,List.length_append];omega
   have N1:Fresh _ (bX::Ns):=N
   have K1:Kept (Ns) ((qL true bX eF rules)::Γ):=K0.behind 1 rfl
   replace K1:=K1.cons (F:=bX) 0 rfl rfl
   refine zy #[pp bs 0,yI par.length] rfl rfl call59 (yM ah ip sd bs ac cc Fc par.length H1 N1 K1 qg) ?_
   clear H H1 N1 K1
   rintro _ axr ⟨UX,ahn,Ft,akW,akf,rfl,N,H⟩
   refine ⟨H.pick (zR 4 4) [0,1],(ro 8 rfl ?_)⟩
   have H1:=H.yw 8 2 [0,1,2,3,4,5,6,7] [0,1] (by simp only [List.length_cons,List.length_append];omega)<|by simp only [List.length_cons,List.length_append];omega
   have N1:Fresh _ (bX::Ns):=N
   have K1:Kept (Ns) ((qL true bX eF rules)::Γ):=K0.behind 1 rfl
   replace K1:=K1.cons (F:=bX) 0 rfl rfl
   refine zy #[pp bs 0,yI kk,yI 2] rfl rfl call146 (QX ah UX ahn bs ac cc Fc kk (2:Int) H1 N1 K1 qg qg qg) ?_
   clear H H1 N1 K1
   rintro _ aIA ⟨aj0,ahJ,Fh,HC,aAs,GL,aeF,ajn,rfl,N,H⟩
   obtain rfl:=H.Qc 1 rfl
   refine ⟨H.pick (zR 5 4) [0,1],(ro 19 rfl<|jb [yI Ft,yI 0,Sv HC Fh.length GL,Sv (aa pS 0) kk.toNat kk.toNat,Sv (aa DH 0) kk.toNat kk.toNat,yN,yN,yN,Bv false] [(0,yI Ft),(2,Sv HC Fh.length GL),(3,Sv (aa pS 0) kk.toNat kk.toNat),(4,Sv (aa DH 0) kk.toNat kk.toNat)]<|⟨H.pick (zR 5 4) [0,1],(ro 21 rfl ?_)⟩)⟩
   refine zC H 2 [yI Ft,yI 0,Sv HC Fh.length GL,Sv (aa pS 0) kk.toNat kk.toNat,Sv (aa DH 0) kk.toNat kk.toNat,yN,yN,yN,Bv false] sizeOf110 fun ag8 H=>?_
   try dsimp only [List.set] at H
   refine ⟨H.pick (zR 5 4) [0,1],(xy qh ((meet ⟨_,UX,Ft,aj0,Fh,ayQ,HC,GL,pS,DH,ahJ,uE5,akW,akf,aeF,ajn,N,H.qY 9 2 [2,3,4,0,1,5,6,7,8] [0,1] (by simp only [List.length_cons,List.length_append];omega)<|by simp only [List.length_cons,List.length_append];omega⟩)))⟩
  refine yR (fun ρ w315=>∃ (xI:Env) (BR:Nat) (Cb:Nat),ρ=upd (upd (upd (upd (upd (upd (upd (upd (upd (upd (upd xI 0<|pp bs 0) 1<|pp bY 0) 4<|pp b1 0) 5<|yI par.length) 6<|pp Cb 0) 13<|pp bs 0) 14<|yI par.length) 16<|pp bs 0) 20<|yI kk) 26<|Sv (aa BR 0) kk.toNat kk.toNat) 30 (yI kk)/\Fresh W0.heap.size (bX::Ns)/\St W0 w315 ((.box Cb [yI 0,yI 0,yN,yN,yN,yN,yN,yN,Bv false] 110)::(rr (aa BR 0) kk.toNat kk.toNat 2 1 ((List.replicate kk.toNat (0:Int)).map<|Value.int .i64))::(.box b1 [yI 0,yI 0,yN,yN,yN,yN,yN,yN,Bv false] 110)::(.box bs [Sv ac ah.length cc,yI ip,.int .u64 sd] 116)::(.box bY [yI kk,Sv kZ par.length lc,Sv k0 rules.length ld] 27)::(rr kZ par.length lc 2 1<|par.map<|Value.int .i64)::(rr k0 rules.length ld 110 9 eF)::ps) ((sF false Fc ac cc ah)::(qL true bX eF rules)::Γ)) 5 #[true,true,false,true,true,true,true,true,false,true,true,true,true,true,true,true,true,true,false,false,true,false] ?_ fun amm=>?_
  ·rintro ρ aze ⟨xI,BR,Cb,rfl,N,H⟩
   refine jw [2,18] qh qm<|jT rfl ?_<|jT rfl ?_ jy
   ·have H1:=H.yw 7 2 [3,0,1,2,4,5,6] [0,1] (by simp only [List.length_cons,List.length_append];omega) (by simp only [List.length_cons,List.length_append];omega)
    have N1:Fresh _ (bX::Ns):=N
    have K1:Kept (Ns) ((qL true bX eF rules)::Γ):=K0.behind 1 rfl
    replace K1:=K1.cons (F:=bX) 0 rfl rfl
    refine zy #[pp bs 0,yI par.length] rfl rfl call59 (yM ah ip sd bs ac cc Fc par.length H1 N1 K1 qg) ?_
    clear H H1 N1 K1
    rintro _ axQ ⟨aqm,aij,aja,ai9,aeE,rfl,N,H⟩
    refine ⟨H.pick (zR 3 4) [0,1],(je Kl ⟨_,aqm,aja,BR,Cb,aij,uE10,ai9,aeE,N,H.qY 7 2 [1,2,0,3,4,5,6] [0,1] (by simp only [List.length_cons,List.length_append];omega)<|by simp only [List.length_cons,List.length_append];omega⟩)⟩
   refine jE H underlying24 ti2 kk.toNat rfl rfl qf qf qf fun Sf amX H=>⟨H.pick [3,5,6,7] [0,1],(ro 2 rfl ?_)⟩
   have H1:=H.yw 8 2 [4,0,1,2,3,5,6,7] [0,1] (by simp only [List.length_cons,List.length_append];omega)<|by simp only [List.length_cons,List.length_append];omega
   have N1:Fresh _ (bX::Ns):=N
   have K1:Kept (Ns) ((qL true bX eF rules)::Γ):=K0.behind 1 rfl
   replace K1:=K1.cons (F:=bX) 0 rfl rfl
   refine zy #[pp bs 0,yI par.length] rfl rfl call59 (yM ah ip sd bs ac cc Fc par.length H1 N1 K1 qg) ?_
   clear H H1 N1 K1
   rintro _ ayF ⟨UB,aqH,Hp,Mz,ah7,rfl,N,H⟩
   refine ⟨H.pick (zR 4 4) [0,1],(ro 8 rfl ?_)⟩
   have H1:=H.yw 8 2 [0,1,2,3,4,5,6,7] [0,1] (by simp only [List.length_cons,List.length_append];omega)<|by simp only [List.length_cons,List.length_append];omega
   have N1:Fresh _ (bX::Ns):=N
   have K1:Kept (Ns) ((qL true bX eF rules)::Γ):=K0.behind 1 rfl
   replace K1:=K1.cons (F:=bX) 0 rfl rfl
   refine zy #[pp bs 0,yI kk,yI 2] rfl rfl call146 (QX ah UB aqH bs ac cc Fc kk (2:Int) H1 N1 K1 qg qg qg) ?_
   clear H H1 N1 K1
   rintro _ aJh ⟨alr,afa,G9,Hf,aCS,FD,afq,Lo,rfl,N,H⟩
   obtain rfl:=H.Qc 1 rfl
   refine ⟨H.pick (zR 5 4) [0,1],(ro 19 rfl<|jb [yI Hp,yI 0,Sv Hf G9.length FD,Sv (aa BR 0) kk.toNat kk.toNat,Sv (aa Sf 0) kk.toNat kk.toNat,yN,yN,yN,Bv false] [(0,yI Hp),(2,Sv Hf G9.length FD),(3,Sv (aa BR 0) kk.toNat kk.toNat),(4,Sv (aa Sf 0) kk.toNat kk.toNat)]<|⟨H.pick (zR 5 4) [0,1],(ro 21 rfl ?_)⟩)⟩
   refine zC H 3 [yI Hp,yI 0,Sv Hf G9.length FD,Sv (aa BR 0) kk.toNat kk.toNat,Sv (aa Sf 0) kk.toNat kk.toNat,yN,yN,yN,Bv false] sizeOf110 fun aHI H=>?_
   try dsimp only [List.set] at H
   refine ⟨H.pick (zR 5 4) [0,1],(xy qh ((meet ⟨_,UB,Hp,alr,G9,Cb,Hf,FD,BR,Sf,afa,uE5,Mz,ah7,afq,Lo,N,H.qY 9 2 [3,2,4,0,1,5,6,7,8] [0,1] (by simp only [List.length_cons,List.length_append];omega)<|by simp only [List.length_cons,List.length_append];omega⟩)))⟩
  refine yR (fun ρ w347=>∃ (xI:Env) (BC:Nat) (EI:Nat),ρ=upd (upd (upd (upd (upd (upd (upd (upd (upd (upd (upd xI 0<|pp bs 0) 1<|pp bY 0) 4<|pp b1 0) 5<|yI par.length) 6<|pp EI 0) 13<|pp bs 0) 14<|yI par.length) 16<|pp bs 0) 20<|yI kk) 25<|yI kk) 31 (Sv (aa BC 0) kk.toNat kk.toNat)/\Fresh W0.heap.size (bX::Ns)/\St W0 w347 ((.box EI [yI 0,yI 0,yN,yN,yN,yN,yN,yN,Bv false] 110)::(rr (aa BC 0) kk.toNat kk.toNat 2 1 ((List.replicate kk.toNat (0:Int)).map<|Value.int .i64))::(.box b1 [yI 0,yI 0,yN,yN,yN,yN,yN,yN,Bv false] 110)::(.box bs [Sv ac ah.length cc,yI ip,.int .u64 sd] 116)::(.box bY [yI kk,Sv kZ par.length lc,Sv k0 rules.length ld] 27)::(rr kZ par.length lc 2 1<|par.map<|Value.int .i64)::(rr k0 rules.length ld 110 9 eF)::ps) ((sF false Fc ac cc ah)::(qL true bX eF rules)::Γ)) 5 #[true,true,false,true,true,true,true,true,false,true,true,true,true,false,true,true,true,true,true,false,true,false] ?_ fun ajV=>?_
  ·rintro ρ aJp ⟨xI,BC,EI,rfl,N,H⟩
   refine jw [2,13] qh qm<|jT rfl ?_<|jT rfl ?_ jy
   ·have H1:=H.yw 7 2 [3,0,1,2,4,5,6] [0,1] (by simp only [List.length_cons,List.length_append];omega) (by simp only [List.length_cons,List.length_append];omega)
    have N1:Fresh _ (bX::Ns):=N
    have K1:Kept (Ns) ((qL true bX eF rules)::Γ):=K0.behind 1 rfl
    replace K1:=K1.cons (F:=bX) 0 rfl rfl
    refine zy #[pp bs 0,yI par.length] rfl rfl call59 (yM ah ip sd bs ac cc Fc par.length H1 N1 K1 qg) ?_
    clear H H1 N1 K1
    rintro _ aFN ⟨anz,agd,akA,anr,Gl,rfl,N,H⟩
    refine ⟨H.pick (zR 3 4) [0,1],(je Zv ⟨_,anz,akA,BC,EI,agd,uE10,anr,Gl,N,H.qY 7 2 [1,2,0,3,4,5,6] [0,1] (by simp only [List.length_cons,List.length_append];omega)<|by simp only [List.length_cons,List.length_append];omega⟩)⟩
   refine jE H underlying24 ti2 kk.toNat rfl rfl qf qf qf fun R3 aHb H=>⟨H.pick [3,5,6,7] [0,1],(ro 2 rfl ?_)⟩
   have H1:=H.yw 8 2 [4,0,1,2,3,5,6,7] [0,1] (by simp only [List.length_cons,List.length_append];omega)<|by simp only [List.length_cons,List.length_append];omega
   have N1:Fresh _ (bX::Ns):=N
   have K1:Kept (Ns) ((qL true bX eF rules)::Γ):=K0.behind 1 rfl
   replace K1:=K1.cons (F:=bX) 0 rfl rfl
   refine zy #[pp bs 0,yI par.length] rfl rfl call59 (yM ah ip sd bs ac cc Fc par.length H1 N1 K1 qg) ?_
   clear H H1 N1 K1
   rintro _ aJ0 ⟨Ub,aoG,HM,age,aox,rfl,N,H⟩
   refine ⟨H.pick (zR 4 4) [0,1],(ro 8 rfl ?_)⟩
   have H1:=H.yw 8 2 [0,1,2,3,4,5,6,7] [0,1] (by simp only [List.length_cons,List.length_append];omega)<|by simp only [List.length_cons,List.length_append];omega
   have N1:Fresh _ (bX::Ns):=N
   have K1:Kept (Ns) ((qL true bX eF rules)::Γ):=K0.behind 1 rfl
   replace K1:=K1.cons (F:=bX) 0 rfl rfl
   refine zy #[pp bs 0,yI kk,yI 2] rfl rfl call146 (QX ah Ub aoG bs ac cc Fc kk (2:Int) H1 N1 K1 qg qg qg) ?_
   clear H H1 N1 K1
   rintro _ aJg ⟨ajF,aiO,HF,GG,aCU,H7,aj2,HQ,rfl,N,H⟩
   obtain rfl:=H.Qc 1 rfl
   refine ⟨H.pick (zR 5 4) [0,1],(ro 19 rfl<|jb [yI HM,yI 0,Sv GG HF.length H7,Sv (aa R3 0) kk.toNat kk.toNat,Sv (aa BC 0) kk.toNat kk.toNat,yN,yN,yN,Bv false] [(0,yI HM),(2,Sv GG HF.length H7),(3,Sv (aa R3 0) kk.toNat kk.toNat),(4,Sv (aa BC 0) kk.toNat kk.toNat)]<|⟨H.pick (zR 5 4) [0,1],(ro 21 rfl ?_)⟩)⟩
   refine zC H 3 [yI HM,yI 0,Sv GG HF.length H7,Sv (aa R3 0) kk.toNat kk.toNat,Sv (aa BC 0) kk.toNat kk.toNat,yN,yN,yN,Bv false] sizeOf110 fun aET H=>?_
   try dsimp only [List.set] at H
   refine ⟨H.pick (zR 5 4) [0,1],(xy qh ((meet ⟨_,Ub,HM,ajF,HF,EI,GG,H7,R3,BC,aiO,uE5,age,aox,aj2,HQ,N,H.qY 9 2 [3,4,2,0,1,5,6,7,8] [0,1] (by simp only [List.length_cons,List.length_append];omega)<|by simp only [List.length_cons,List.length_append];omega⟩)))⟩
  have S:=H.zK [0,2,3,4] [0,1]
  refine rtl 0 S ?_
  refine rtl 1 S ?_
  refine rtl 3 S ?_
  refine rtl 4 S ?_
  refine rtl 5 S ?_
  refine tF 6 rfl rfl S ?_
  refine tL 7 rfl rfl (fun _ h=>h.cell 1 rfl rfl) S ?_
  refine rtl 9 S ?_
  refine rtl 10 S ?_
  refine tF 11 rfl rfl S ?_
  refine tL 12 rfl rfl (fun _ h=>h.cell 1 rfl rfl) S ?_
  refine rtl 14 S ?_
  refine rtl 15 S ?_
  refine tF 16 rfl rfl S ?_
  refine tL 17 rfl rfl (fun _ h=>h.cell 1 rfl rfl) S ?_
  refine jw [2,13,18,20] qh qm<|jT rfl ?_<|jT rfl ?_<|jT rfl ?_<|jT rfl ?_ jy
  ·have H1:=H.yw 5 2 [1,0,2,3,4] [0,1] (by simp only [List.length_cons,List.length_append];omega) (by simp only [List.length_cons,List.length_append];omega)
   have N1:Fresh _ (bX::Ns):=N
   have K1:Kept (Ns) ((qL true bX eF rules)::Γ):=K0.behind 1 rfl
   replace K1:=K1.cons (F:=bX) 0 rfl rfl
   refine zy #[pp bs 0,yI par.length] rfl rfl call59 (yM ah ip sd bs ac cc Fc par.length H1 N1 K1 qg) ?_
   clear H H1 N1 K1
   rintro _ aJd ⟨vy,HK,wV,xD,ya,rfl,N,H⟩
   refine ⟨H.pick (zR 1 4) [0,1],(jw [8,13,18,20] qh qm<|jT rfl ?_<|jT rfl ?_<|jT rfl ?_<|jT rfl ?_ jy)⟩
   ·have H1:=H.yw 5 2 [0,1,2,3,4] [0,1] (by simp only [List.length_cons,List.length_append];omega) (by simp only [List.length_cons,List.length_append];omega)
    have N1:Fresh _ (bX::Ns):=N
    have K1:Kept (Ns) ((qL true bX eF rules)::Γ):=K0.behind 1 rfl
    replace K1:=K1.cons (F:=bX) 0 rfl rfl
    refine zy #[pp bs 0,yI kk,yI 2] rfl rfl call146 (QX ah vy HK bs ac cc Fc kk (2:Int) H1 N1 K1 qg qg qg) ?_
    clear H H1 N1 K1
    rintro _ aGZ ⟨OX,MT,My,O0,aC9,NY,Nj,MQ,rfl,N,H⟩
    obtain rfl:=H.Qc 1 rfl
    refine ⟨H.pick (zR 2 4) [0,1],(jw [13,18,20] qh qm<|jT rfl ?_<|jT rfl ?_<|jT rfl ?_ jy)⟩
    ·refine jE H underlying24 ti2 kk.toNat rfl rfl qf qf qf fun axh aEu H=>⟨H.pick (zR 3 4) [0,1],(je L45 ⟨_,vy,wV,OX,My,O0,NY,axh,MT,uE8,xD,ya,Nj,MQ,N,H⟩)⟩
    ·refine jE H underlying24 ti2 kk.toNat rfl rfl qf qf qf fun ali aFO H=>⟨H.pick (zR 3 4) [0,1],(je L67 ⟨_,vy,wV,OX,My,O0,NY,ali,MT,uE8,xD,ya,Nj,MQ,N,H⟩)⟩
    refine xU H ti110 [yI 0,yI 0,yN,yN,yN,yN,yN,yN,Bv false] fun auM aE1 H=>⟨H.pick (zR 3 4) [0,1],(je L89 ⟨_,vy,wV,OX,My,O0,NY,auM,MT,uE9,xD,ya,Nj,MQ,N,H⟩)⟩
   ·refine jE H underlying24 ti2 kk.toNat rfl rfl qf qf qf fun auy aFc H=>⟨H.pick (zR 2 4) [0,1],(je alf ⟨_,vy,wV,auy,HK,uE9,xD,ya,N,H⟩)⟩
   ·refine jE H underlying24 ti2 kk.toNat rfl rfl qf qf qf fun axd aGW H=>⟨H.pick (zR 2 4) [0,1],(je an6 ⟨_,vy,wV,axd,HK,uE9,xD,ya,N,H⟩)⟩
   refine xU H ti110 [yI 0,yI 0,yN,yN,yN,yN,yN,yN,Bv false] fun ax0 aG8 H=>⟨H.pick (zR 2 4) [0,1],(je ahf ⟨_,vy,wV,ax0,HK,uE10,xD,ya,N,H⟩)⟩
  ·refine jE H underlying24 ti2 kk.toNat rfl rfl qf qf qf fun acw auv H=>⟨H.pick [1,3,4,5] [0,1],(jw [2,18,20] qh qm<|jT rfl ?_<|jT rfl ?_<|jT rfl ?_ jy)⟩
   ·have H1:=H.yw 6 2 [2,0,1,3,4,5] [0,1] (by simp only [List.length_cons,List.length_append];omega) (by simp only [List.length_cons,List.length_append];omega)
    have N1:Fresh _ (bX::Ns):=N
    have K1:Kept (Ns) ((qL true bX eF rules)::Γ):=K0.behind 1 rfl
    replace K1:=K1.cons (F:=bX) 0 rfl rfl
    refine zy #[pp bs 0,yI par.length] rfl rfl call59 (yM ah ip sd bs ac cc Fc par.length H1 N1 K1 qg) ?_
    clear H H1 N1 K1
    rintro _ aFu ⟨aoc,apU,al1,aou,anb,rfl,N,H⟩
    refine ⟨H.pick (zR 2 4) [0,1],(je alf ⟨_,aoc,al1,acw,apU,uE9,aou,anb,N,H.qY 6 2 [1,0,2,3,4,5] [0,1] (by simp only [List.length_cons,List.length_append];omega)<|by simp only [List.length_cons,List.length_append];omega⟩)⟩
   ·refine jE H underlying24 ti2 kk.toNat rfl rfl qf qf qf fun avN aJG H=>⟨H.pick [2,4,5,6] [0,1],(je ahZ ⟨_,acw,avN,uE10,N,H⟩)⟩
   refine xU H ti110 [yI 0,yI 0,yN,yN,yN,yN,yN,yN,Bv false] fun axu auh H=>⟨H.pick [2,4,5,6] [0,1],(je amm ⟨_,acw,axu,uE11,N,H⟩)⟩
  ·refine jE H underlying24 ti2 kk.toNat rfl rfl qf qf qf fun CX aHt H=>⟨H.pick [1,3,4,5] [0,1],(jw [2,13,20] qh qm<|jT rfl ?_<|jT rfl ?_<|jT rfl ?_ jy)⟩
   ·have H1:=H.yw 6 2 [2,0,1,3,4,5] [0,1] (by simp only [List.length_cons,List.length_append];omega) (by simp only [List.length_cons,List.length_append];omega)
    have N1:Fresh _ (bX::Ns):=N
    have K1:Kept (Ns) ((qL true bX eF rules)::Γ):=K0.behind 1 rfl
    replace K1:=K1.cons (F:=bX) 0 rfl rfl
    refine zy #[pp bs 0,yI par.length] rfl rfl call59 (yM ah ip sd bs ac cc Fc par.length H1 N1 K1 qg) ?_
    clear H H1 N1 K1
    rintro _ aE3 ⟨aoX,ahA,aqJ,KV,aoV,rfl,N,H⟩
    refine ⟨H.pick (zR 2 4) [0,1],(je an6 ⟨_,aoX,aqJ,CX,ahA,uE9,KV,aoV,N,H.qY 6 2 [1,0,2,3,4,5] [0,1] (by simp only [List.length_cons,List.length_append];omega)<|by simp only [List.length_cons,List.length_append];omega⟩)⟩
   ·refine jE H underlying24 ti2 kk.toNat rfl rfl qf qf qf fun ayj aHJ H=>⟨H.pick [2,4,5,6] [0,1],(je ahZ ⟨_,ayj,CX,uE10,N,H.qY 7 2 (1::0::zR 2 5) [0,1] (by simp only [List.length_cons,List.length_append];omega)<|by simp only [List.length_cons,List.length_append];omega⟩)⟩
   refine xU H ti110 [yI 0,yI 0,yN,yN,yN,yN,yN,yN,Bv false] fun avD avf H=>⟨H.pick [2,4,5,6] [0,1],(je ajV ⟨_,CX,avD,uE11,N,H⟩)⟩
  refine xU H ti110 [yI 0,yI 0,yN,yN,yN,yN,yN,yN,Bv false] fun aaZ ayw H=>⟨H.pick [1,3,4,5] [0,1],(jw [2,13,18] qh qm<|jT rfl ?_<|jT rfl ?_<|jT rfl ?_ jy)⟩
  ·have H1:=H.yw 6 2 [2,0,1,3,4,5] [0,1] (by simp only [List.length_cons,List.length_append];omega) (by simp only [List.length_cons,List.length_append];omega)
   have N1:Fresh _ (bX::Ns):=N
   have K1:Kept (Ns) ((qL true bX eF rules)::Γ):=K0.behind 1 rfl
   replace K1:=K1.cons (F:=bX) 0 rfl rfl
   refine zy #[pp bs 0,yI par.length] rfl rfl call59 (yM ah ip sd bs ac cc Fc par.length H1 N1 K1 qg) ?_
   clear H H1 N1 K1
   rintro _ aEV ⟨afy,alt,afQ,aiw,apM,rfl,N,H⟩
   refine ⟨H.pick (zR 2 4) [0,1],(je ahf ⟨_,afy,afQ,aaZ,alt,uE10,aiw,apM,N,H.qY 6 2 [1,0,2,3,4,5] [0,1] (by simp only [List.length_cons,List.length_append];omega)<|by simp only [List.length_cons,List.length_append];omega⟩)⟩
  ·refine jE H underlying24 ti2 kk.toNat rfl rfl qf qf qf fun ayS aJ5 H=>⟨H.pick [2,4,5,6] [0,1],(je amm ⟨_,ayS,aaZ,uE11,N,H.qY 7 2 (1::0::zR 2 5) [0,1] (by simp only [List.length_cons,List.length_append];omega)<|by simp only [List.length_cons,List.length_append];omega⟩)⟩
  refine jE H underlying24 ti2 kk.toNat rfl rfl qf qf qf fun at3 aJZ H=>⟨H.pick [2,4,5,6] [0,1],(je ajV ⟨_,at3,aaZ,uE11,N,H.qY 7 2 (1::0::zR 2 5) [0,1] (by simp only [List.length_cons,List.length_append];omega)<|by simp only [List.length_cons,List.length_append];omega⟩)⟩
 clear H N
 rintro ρ aIl ⟨xI,zi3,nK,P2,l6,b7,mc,lX,yv,sI,R1,rfl,aDa,aBJ,azx,az1,N,H⟩
 refine t_n<|zcr<|sq 3<|oF rfl<|oL rfl (H.cell 6 rfl rfl) ?_
 have H1:=H.yw 9 2 [3,0,1,2,4,5,6,7,8] [0,1] (by simp only [List.length_cons,List.length_append];omega)<|by simp only [List.length_cons,List.length_append];omega
 have N1:Fresh _ (bX::Ns):=N
 have K1:Kept (Ns) ((qL true bX eF rules)::Γ):=K0.behind 1 rfl
 replace K1:=K1.cons (F:=bX) 0 rfl rfl
 refine sw<|zy #[pp bs 0,yI kk,yI 2] rfl rfl call61 (dFew_ok ah P2 R1 bs ac cc Fc kk (2:Int) H1 N1 K1 qg qg qg) ?_
 clear H H1 N1 K1
 rintro _ aFa ⟨ah1,ait,dJ,er,aDu,ep,aBU,azT,rfl,N,H⟩
 obtain rfl:=H.Qc 1 rfl
 refine oF rfl<|sw<|xO H 2 [yI nK,yI 0,Sv mc l6.length lX,Sv (aa yv 0) kk.toNat kk.toNat,Sv (aa sI 0) kk.toNat kk.toNat,Sv er dJ.length ep,yN,yN,Bv false] sizeOf24 fun aHY H=>?_
 try dsimp only [List.set] at H
 refine zjc<|sq 3<|oF rfl<|oL rfl (H.cell 7 rfl rfl) ?_
 have H1:=H.yw 10 2 [0,1,2,3,4,5,6,7,8,9] [0,1] (by simp only [List.length_cons,List.length_append];omega)<|by simp only [List.length_cons,List.length_append];omega
 have N1:Fresh _ (bX::Ns):=N
 have K1:Kept (Ns) ((qL true bX eF rules)::Γ):=K0.behind 1 rfl
 replace K1:=K1.cons (F:=bX) 0 rfl rfl
 refine sw<|zy #[pp bs 0,yI kk,yI 1] rfl rfl call61 (dFew_ok ah ah1 ait bs ac cc Fc kk (1:Int) H1 N1 K1 qg qg qg) ?_
 clear H H1 N1 K1
 rintro _ aJx ⟨afm,al2,dP,eC,aBy,eD,aC1,azA,rfl,N,H⟩
 obtain rfl:=H.Qc 1 rfl
 refine oF rfl<|sw<|xO H 3 [yI nK,yI 0,Sv mc l6.length lX,Sv (aa yv 0) kk.toNat kk.toNat,Sv (aa sI 0) kk.toNat kk.toNat,Sv er dJ.length ep,Sv eC dP.length eD,yN,Bv false] sizeOf24 fun aDM H=>?_
 try dsimp only [List.set] at H
 refine zjcc<|sq 1 ?_
 have H1:=H.yw 11 2 [0,1,2,3,4,5,6,7,8,9,10] [0,1] (by simp only [List.length_cons,List.length_append];omega)<|by simp only [List.length_cons,List.length_append];omega
 have N1:Fresh _ (bX::Ns):=N
 have K1:Kept (Ns) ((qL true bX eF rules)::Γ):=K0.behind 1 rfl
 replace K1:=K1.cons (F:=bX) 0 rfl rfl
 refine sw<|zy #[pp bs 0,yI 5] rfl rfl call58 (dOne_ok ah afm al2 bs ac cc Fc (5:Int) H1 N1 K1 qg) ?_
 clear H H1 N1 K1
 rintro _ aEJ ⟨V5,WE,aAf,aDn,rfl,N,H⟩
 refine zjn<|c_cut (fun ρ w477=>∃ (xI:Env) (eH:Int) (dA:Int) (Qj:yOA) (Qh:Nat) (Qi:Nat) (nl:yLI),ρ=upd (upd (upd (upd (upd xI 0<|pp bs 0) 1<|pp bY 0) 4<|pp b1 0) 5<|yI par.length) 6 (pp b7 0)/\(ja kk 1 nl)/\(ip<=eH/\eH<=ip+92)/\Fresh W0.heap.size (bX::Ns)/\St W0 w477 ((.box bs [Sv ac ah.length cc,yI eH,.int .u64 dA] 116)::(rr eC dP.length eD 2 1<|dP.map<|Value.int .i64)::(rr er dJ.length ep 2 1<|dJ.map<|Value.int .i64)::(.box b7 [yI nK,yI 0,Sv mc l6.length lX,Sv Qj Qh Qi,Sv (aa sI 0) kk.toNat kk.toNat,Sv er dJ.length ep,Sv eC dP.length eD,yN,Bv false] 110)::(rr (aa sI 0) kk.toNat kk.toNat 2 1 ((List.replicate kk.toNat (0:Int)).map<|Value.int .i64))::(rr Qj Qh Qi 2 1<|nl.map<|Value.int .i64)::(rr mc l6.length lX 2 1<|l6.map<|Value.int .i64)::(.box b1 [yI 0,yI 0,yN,yN,yN,yN,yN,yN,Bv false] 110)::(.box bY [yI kk,Sv kZ par.length lc,Sv k0 rules.length ld] 27)::(rr kZ par.length lc 2 1<|par.map<|Value.int .i64)::(rr k0 rules.length ld 110 9 eF)::ps) ((sF false Fc ac cc ah)::(qL true bX eF rules)::Γ)) ?_ ?_
 ·refine vk _ rfl (fun ay9=>?_) (fun ay9=>?_)
  ·refine xZ (sq 3<|oF rfl<|oL rfl (H.cell 8 rfl rfl) ?_)
   have H1:=H.yw 11 2 [0,1,2,3,4,5,6,7,8,9,10] [0,1] (by simp only [List.length_cons,List.length_append];omega)<|by simp only [List.length_cons,List.length_append];omega
   have N1:Fresh _ (bX::Ns):=N
   have K1:Kept (Ns) ((qL true bX eF rules)::Γ):=K0.behind 1 rfl
   replace K1:=K1.cons (F:=bX) 0 rfl rfl
   refine sw<|zy #[pp bs 0,yI kk,yI 1] rfl rfl call146 (QX ah V5 WE bs ac cc Fc kk (1:Int) H1 N1 K1 qg qg qg) ?_
   clear H H1 N1 K1
   rintro _ aHA ⟨ajw,anT,Lz,Wq,aAz,Ut,az4,aCe,rfl,N,H⟩
   obtain rfl:=H.Qc 1 rfl
   refine oF rfl<|sw<|xO H 4 [yI nK,yI 0,Sv mc l6.length lX,Sv Wq Lz.length Ut,Sv (aa sI 0) kk.toNat kk.toNat,Sv er dJ.length ep,Sv eC dP.length eD,yN,Bv false] sizeOf24 fun aGo H=>?_
   try dsimp only [List.set] at H
   refine xW<|meet ⟨_,ajw,anT,Wq,Lz.length,Ut,Lz,uE5,?_,?_,N,H.qY 12 2 [0,2,3,4,5,1,7,8,9,10,11] [0,1] (by simp only [List.length_cons,List.length_append];omega)<|by simp only [List.length_cons,List.length_append];omega⟩
   ·first | exact (‹ja kk 1 _/\_›).1 | exact ja.zero qf qf
   ·first | assumption | omega
  refine xk<|meet ⟨_,V5,WE,(aa yv 0),kk.toNat,kk.toNat,(List.replicate kk.toNat (0:Int)),uE5,?_,?_,N,H⟩
  ·first | exact (‹ja kk 1 _/\_›).1 | exact ja.zero qf qf
  ·first | assumption | omega
 clear H N
 rintro ρ aGN ⟨xI,eH,dA,Qj,Qh,Qi,nl,rfl,jh,jhp,N,H⟩
 have adg:=H.Qc 5 rfl
 refine t_n<|zcc<|sq 1 ?_
 have H1:=H.yw 11 2 [0,1,2,3,4,5,6,7,8,9,10] [0,1] (by simp only [List.length_cons,List.length_append];omega)<|by simp only [List.length_cons,List.length_append];omega
 have N1:Fresh _ (bX::Ns):=N
 have K1:Kept (Ns) ((qL true bX eF rules)::Γ):=K0.behind 1 rfl
 replace K1:=K1.cons (F:=bX) 0 rfl rfl
 refine sw<|zy #[pp bs 0,yI 5] rfl rfl call58 (dOne_ok ah eH dA bs ac cc Fc (5:Int) H1 N1 K1 qg) ?_
 clear H H1 N1 K1
 rintro _ aIz ⟨Yu,Vv,aBw,aBn,rfl,N,H⟩
 refine zjn<|c_cut (fun ρ w497=>∃ (xI:Env) (dl:Int) (dp:Int) (Qz:yOA) (Qw:Nat) (Qx:Nat) (og:yLI),ρ=upd (upd (upd (upd (upd xI 0<|pp bs 0) 1<|pp bY 0) 4<|pp b1 0) 5<|yI par.length) 6 (pp b7 0)/\(ja kk 1 og)/\(ip<=dl/\dl<=ip+118)/\Fresh W0.heap.size (bX::Ns)/\St W0 w497 ((.box bs [Sv ac ah.length cc,yI dl,.int .u64 dp] 116)::(rr eC dP.length eD 2 1<|dP.map<|Value.int .i64)::(rr er dJ.length ep 2 1<|dJ.map<|Value.int .i64)::(.box b7 [yI nK,yI 0,Sv mc l6.length lX,Sv Qj Qh Qi,Sv Qz Qw Qx,Sv er dJ.length ep,Sv eC dP.length eD,yN,Bv false] 110)::(rr Qz Qw Qx 2 1<|og.map<|Value.int .i64)::(rr Qj Qh Qi 2 1<|nl.map<|Value.int .i64)::(rr mc l6.length lX 2 1<|l6.map<|Value.int .i64)::(.box b1 [yI 0,yI 0,yN,yN,yN,yN,yN,yN,Bv false] 110)::(.box bY [yI kk,Sv kZ par.length lc,Sv k0 rules.length ld] 27)::(rr kZ par.length lc 2 1<|par.map<|Value.int .i64)::(rr k0 rules.length ld 110 9 eF)::ps) ((sF false Fc ac cc ah)::(qL true bX eF rules)::Γ)) ?_ ?_
 ·refine vk _ rfl (fun ato=>?_) (fun ato=>?_)
  ·refine xZ (sq 3<|oF rfl<|oL rfl (H.cell 8 rfl rfl) ?_)
   have H1:=H.yw 11 2 [0,1,2,3,4,5,6,7,8,9,10] [0,1] (by simp only [List.length_cons,List.length_append];omega)<|by simp only [List.length_cons,List.length_append];omega
   have N1:Fresh _ (bX::Ns):=N
   have K1:Kept (Ns) ((qL true bX eF rules)::Γ):=K0.behind 1 rfl
   replace K1:=K1.cons (F:=bX) 0 rfl rfl
   refine sw<|zy #[pp bs 0,yI kk,yI 1] rfl rfl call146 (QX ah Yu Vv bs ac cc Fc kk (1:Int) H1 N1 K1 qg qg qg) ?_
   clear H H1 N1 K1
   rintro _ aF9 ⟨akc,aow,LC,V6,aAy,Y2,aBP,aCf,rfl,N,H⟩
   obtain rfl:=H.Qc 1 rfl
   refine oF rfl<|sw<|xO H 4 [yI nK,yI 0,Sv mc l6.length lX,Sv Qj Qh Qi,Sv V6 LC.length Y2,Sv er dJ.length ep,Sv eC dP.length eD,yN,Bv false] sizeOf24 fun aGB H=>?_
   try dsimp only [List.set] at H
   refine xW<|meet ⟨_,akc,aow,V6,LC.length,Y2,LC,uE5,?_,?_,N,H.qY 12 2 (0::2::3::4::1::zR 6 6) [0,1] (by simp only [List.length_cons,List.length_append];omega)<|by simp only [List.length_cons,List.length_append];omega⟩
   ·first | exact (‹ja kk 1 _/\_›).1 | exact ja.zero qf qf
   ·first | assumption | omega
  refine xk<|meet ⟨_,Yu,Vv,(aa sI 0),kk.toNat,kk.toNat,(List.replicate kk.toNat (0:Int)),uE5,?_,?_,N,H⟩
  ·first | exact (‹ja kk 1 _/\_›).1 | exact ja.zero qf qf
  ·first | assumption | omega
 clear H N
 rintro ρ aIh ⟨xI,dl,dp,Qz,Qw,Qx,og,rfl,jl,jlp,N,H⟩
 have adv:=H.Qc 4 rfl
 refine t_n<|zcc<|sq 1 ?_
 have H1:=H.yw 11 2 [0,1,2,3,4,5,6,7,8,9,10] [0,1] (by simp only [List.length_cons,List.length_append];omega)<|by simp only [List.length_cons,List.length_append];omega
 have N1:Fresh _ (bX::Ns):=N
 have K1:Kept (Ns) ((qL true bX eF rules)::Γ):=K0.behind 1 rfl
 replace K1:=K1.cons (F:=bX) 0 rfl rfl
 refine sw<|zy #[pp bs 0,yI 4] rfl rfl call58 (dOne_ok ah dl dp bs ac cc Fc (4:Int) H1 N1 K1 qg) ?_
 clear H H1 N1 K1
 rintro _ aJN ⟨VM,Yk,aAC,aDs,rfl,N,H⟩
 refine zjn<|c_cut (fun ρ w517=>∃ (xI:Env) (ez:Int) (fc:Int) (eE:Int),ρ=upd (upd (upd (upd (upd xI 0<|pp bs 0) 1<|pp bY 0) 4<|pp b1 0) 5<|yI par.length) 6 (pp b7 0)/\(0<=eE/\eE<=2)/\(ip<=ez/\ez<=ip+122)/\Fresh W0.heap.size (bX::Ns)/\St W0 w517 ((.box bs [Sv ac ah.length cc,yI ez,.int .u64 fc] 116)::(rr eC dP.length eD 2 1<|dP.map<|Value.int .i64)::(rr er dJ.length ep 2 1<|dJ.map<|Value.int .i64)::(.box b7 [yI nK,yI eE,Sv mc l6.length lX,Sv Qj Qh Qi,Sv Qz Qw Qx,Sv er dJ.length ep,Sv eC dP.length eD,yN,Bv false] 110)::(rr Qz Qw Qx 2 1<|og.map<|Value.int .i64)::(rr Qj Qh Qi 2 1<|nl.map<|Value.int .i64)::(rr mc l6.length lX 2 1<|l6.map<|Value.int .i64)::(.box b1 [yI 0,yI 0,yN,yN,yN,yN,yN,yN,Bv false] 110)::(.box bY [yI kk,Sv kZ par.length lc,Sv k0 rules.length ld] 27)::(rr kZ par.length lc 2 1<|par.map<|Value.int .i64)::(rr k0 rules.length ld 110 9 eF)::ps) ((sF false Fc ac cc ah)::(qL true bX eF rules)::Γ)) ?_ ?_
 ·refine vk _ rfl (fun ax5=>?_) (fun ax5=>?_)
  ·refine xZ (sq 1 ?_)
   have H1:=H.yw 11 2 [0,1,2,3,4,5,6,7,8,9,10] [0,1] (by simp only [List.length_cons,List.length_append];omega)<|by simp only [List.length_cons,List.length_append];omega
   have N1:Fresh _ (bX::Ns):=N
   have K1:Kept (Ns) ((qL true bX eF rules)::Γ):=K0.behind 1 rfl
   replace K1:=K1.cons (F:=bX) 0 rfl rfl
   refine sw<|zy #[pp bs 0,yI 3] rfl rfl call59 (yM ah VM Yk bs ac cc Fc (3:Int) H1 N1 K1 qg) ?_
   clear H H1 N1 K1
   rintro _ aJK ⟨aqa,alB,Yv,aA2,aAH,rfl,N,H⟩
   refine oF rfl<|sw<|xO H 3 [yI nK,yI Yv,Sv mc l6.length lX,Sv Qj Qh Qi,Sv Qz Qw Qx,Sv er dJ.length ep,Sv eC dP.length eD,yN,Bv false] sizeOf2 fun aHy H=>?_
   try dsimp only [List.set] at H
   refine xW<|meet ⟨_,aqa,alB,Yv,uE5,?_,?_,N,H⟩
   ·first | assumption | omega
   ·first | assumption | omega
  refine xk<|meet ⟨_,VM,Yk,0,uE5,?_,?_,N,H⟩
  ·first | assumption | omega
  ·first | assumption | omega
 clear H N
 rintro ρ aEf ⟨xI,ez,fc,eE,rfl,jr,jrp,N,H⟩
 refine t_n<|zcc<|sp (yI 1)<|zjn<|xg ?_
 replace H:=H.nilRow 161 2
 replace H:=H.jZ (α:=IntoD)
 refine zU ((fun Z0 Z1 Z2 Z3 Z4 Z5 Z6 Z7 Z8 Z9 fH=>fun m' ρ axc=>∃ (xI:Env) (c:Nat) (lE:Int) (kR:Int) (Xb:yOA) (yU:Nat) (Q9:Nat) (iP:List IntoD) (eS:List Value) (yA:yLN),ρ=upd (upd (upd (upd (upd (upd xI 0<|pp bs 0) 1<|pp bY 0) 4<|pp b1 0) 5<|yI par.length) 6<|pp b7 0) 7 (yI c)/\((c:Int)<=par.length)/\(ip<=lE/\lE<=ip+126+26 * c)/\(1<=(c:Int))/\(iP.length<=3/\IntoDr kk par nK iP c)/\m' =(par.length - (c:Int)).toNat/\Fresh W0.heap.size (bX::yA::Ns)/\St W0 axc ((rr Xb yU Q9 161 2 eS)::(.box bs [Sv ac ah.length cc,yI lE,.int .u64 kR] 116)::Z0::Z1::(.box b7 [yI nK,yI eE,Sv mc l6.length lX,Sv Qj Qh Qi,Sv Qz Qw Qx,Sv er dJ.length ep,Sv eC dP.length eD,Sv Xb yU Q9,Bv false] 110)::Z2::Z3::Z4::Z5::Z6::Z7::Z8::ps) ((qL true yA eS iP)::Z9::fH::Γ)) _ _ _ _ _ _ _ _ _ _ _) ((par.length - (1:Int)).toNat) ⟨_,1,ez,fc,none,0,0,([]:List IntoD),[],[],uE6,qf,qf,qf,(by exact ⟨by simp,IntoDr.nil _ _ _ _⟩),rfl,(N.emp.qY 2 [1,0]<|by simp only [List.length_cons,List.length_append];omega),H⟩ ?_
 clear H N
 rintro m' ρ aF8 ⟨xI,c,lE,kR,Xb,yU,Q9,iP,eS,yA,rfl,i0,i1,i2,i3,rfl,N,H⟩
 have ad6:=H.xe (α:=IntoD) 0 rfl 0 rfl qj
 refine zcc<|sp (yI c)<|sq 2<|zjn<|cD rfl (fun atq=>?_)<|fun atq=>?_
 ·refine xk (t_n<|xH<|xg<|zcr<|sq 1<|sp (yI c)<|oF rfl<|oL rfl (H.cell 4 rfl rfl) ?_)
  obtain ⟨aGU,aBf,aup⟩:=H.rowIsI 10 rfl
  obtain ⟨aGA,aAF,auG⟩:=H.rowIsR (α:=yj) 11 rfl 2 rfl qj
  have c1:CellIn (⟨kk,par,rules⟩:qM) c:=⟨by show (0:Int)<=c;omega,by show (c:Int)<=(par.length:Int) - 1;omega⟩
  refine sw<|oq (l02In_ok _ (⟨kk,par,rules⟩:qM) c nK (qK (H.cells 9 rfl) 0 3) aup auG ql ql) H fun aHq H=>sp (Bv<|dec<|Lies (⟨kk,par,rules⟩:qM).qA nK c) ?_
  cases TA:(dec (Lies (⟨kk,par,rules⟩:qM).qA nK c))
  ·replace TA:=Qd TA
   refine zM (zR 81 4)<|sp (Bv false)<|sp (Bv false)<|zM [87,88]<|sp (Bv false)<|zjn<|cFr rfl<|xk<|b_n<|t_n<|xZ<|sp (yI c)<|sw<|zV c 1 rfl rfl qf<|sq 1<|xW<|xq (m' :=(par.length - ((c+1):Int)).toNat) qf ⟨_,c+1,_,_,_,_,_,_,_,_,uE6,?_,?_,?_,?_,rfl,N,H⟩
   ·omega
   ·omega
   ·omega
   ·first | exact ⟨by omega,i3.2.mono qf⟩ | exact ⟨by simp;omega,i3.2.snoc qf ‹Lies par _ _› (‹ja kk 1 _/\_›).1 (‹ja kk 1 _/\_›).2⟩
  replace TA:=of_dec TA
  refine qV 80 rfl rfl<|oF rfl<|qV 80 rfl rfl<|oL rfl (H.cell 4 rfl rfl)<|qV 80 rfl rfl<|oN rfl<|qV 80 rfl rfl<|sp (Bv<|decide ((yU:Int) < 3))<|sp (Bv<|decide ((yU:Int) < 3))<|sp (Bv<|decide ((yU:Int) < 3)) ?_
  cases Ry:(decide ((yU:Int) < 3))
  ·replace Ry:=of_decide_eq_false Ry
   refine zM [87,88]<|sp (Bv false)<|zjn<|cFr rfl<|xk<|b_n<|t_n<|xZ<|sp (yI c)<|sw<|zV c 1 rfl rfl qf<|sq 1<|xW<|xq (m' :=(par.length - ((c+1):Int)).toNat) qf ⟨_,c+1,_,_,_,_,_,_,_,_,uE6,?_,?_,?_,?_,rfl,N,H⟩
   ·omega
   ·omega
   ·omega
   ·first | exact ⟨by omega,i3.2.mono qf⟩ | exact ⟨by simp;omega,i3.2.snoc qf ‹Lies par _ _› (‹ja kk 1 _/\_›).1 (‹ja kk 1 _/\_›).2⟩
  replace Ry:=of_decide_eq_true Ry
  refine qV 86 rfl rfl<|sq 1<|qV 86 rfl rfl ?_
  have H1:=H.yw 12 3 [1,0,2,3,4,5,6,7,8,9,10,11] [1,0,2] (by simp only [List.length_cons,List.length_append];omega)<|by simp only [List.length_cons,List.length_append];omega
  have N1:Fresh _ (bX::yA::Ns):=N
  have K1:Kept (Ns) ((qL true yA eS iP)::(qL true bX eF rules)::Γ):=K0.behind 2 rfl
  replace K1:=K1.cons (F:=yA) 0 rfl rfl
  replace K1:=K1.cons (F:=bX) 1 rfl rfl
  refine sw<|zy #[pp bs 0,yI 3] rfl rfl call58 (dOne_ok ah lE kR bs ac cc Fc (3:Int) H1 N1 K1 qg) ?_
  clear H H1 N1 K1
  rintro _ aIS ⟨Gb,Yq,YU,azn,rfl,N,H⟩
  refine sp (Bv YU)<|zjn<|vk _ rfl (fun aud=>?_)<|fun aud=>?_
  ·refine c_cut (fun ρ w556=>∃ (xI:Env) (FY:Int) (tm:yLI) (Ym:Int) (aam:yOA) (Zy:Nat) (Hd:yOA) (HG:Nat) (RK:yLN),ρ=upd (upd (upd (upd (upd (upd (upd (upd (upd (upd (upd (upd xI 0<|pp bs 0) 1<|pp bY 0) 4<|pp b1 0) 5<|yI par.length) 6<|pp b7 0) 7<|yI c) 81<|pp b7<|0+7) 82<|Sv Xb yU Q9) 83<|yI yU) 84<|Bv true) 87<|pp bs 0) 88 (Bv YU)/\(Gb<=FY/\FY<=Gb+24)/\(ja kk (1:Int) tm/\sumL tm≠0)/\Fresh W0.heap.size ((yA++RK)::bX::Ns)/\St W0 w556 ((.box bs [Sv ac ah.length cc,yI FY,.int .u64 Ym] 116)::(rr aam (yU+1) Zy 161 2<|eS++[yI c,Sv Hd tm.length HG])::(rr eC dP.length eD 2 1<|dP.map<|Value.int .i64)::(rr er dJ.length ep 2 1<|dJ.map<|Value.int .i64)::(.box b7 [yI nK,yI eE,Sv mc l6.length lX,Sv Qj Qh Qi,Sv Qz Qw Qx,Sv er dJ.length ep,Sv eC dP.length eD,Sv aam (yU+1) Zy,Bv false] 110)::(rr Qz Qw Qx 2 1<|og.map<|Value.int .i64)::(rr Qj Qh Qi 2 1<|nl.map<|Value.int .i64)::(rr mc l6.length lX 2 1<|l6.map<|Value.int .i64)::(.box b1 [yI 0,yI 0,yN,yN,yN,yN,yN,yN,Bv false] 110)::(.box bY [yI kk,Sv kZ par.length lc,Sv k0 rules.length ld] 27)::(rr kZ par.length lc 2 1<|par.map<|Value.int .i64)::(rr k0 rules.length ld 110 9 eF)::ps) ((qL true (yA++RK) (eS++[yI c,Sv Hd tm.length HG])<|iP++[(⟨c,tm⟩:IntoD)])::(sF true RK Hd HG tm)::(sF false Fc ac cc ah)::(qL true bX eF rules)::Γ)) ?_ ?_
   ·refine c_drawK2 rfl H [2,3,5,6,7,8,9,10,11] [0,1,2] fun H=>?_
    have S:=H.zK (2::3::zR 5 7) [0,1,2]
    refine tF 0 rfl rfl S ?_
    refine rtp 2 (yI c) S ?_
    refine rtl 3 S ?_
    refine rtl 4 S ?_
    refine rtl 5 S ?_
    refine tF 6 rfl rfl S ?_
    refine tL 7 rfl rfl (fun _ h=>h.cell 6 rfl rfl) S ?_
    refine jw [1,8] qh qm<|jT rfl ?_<|jT rfl ?_ jy
    ·refine zB (Sv Xb yU Q9) isAgg108 rfl (H.cell 4 rfl rfl) (⟨H.pick (2::3::zR 5 7) [0,1,2],(ro 8 rfl ?_)⟩)
     have H1:=H.yw 12 3 [0,1,2,3,4,5,6,7,8,9,10,11] [0,1,2] (by simp only [List.length_cons,List.length_append];omega)<|by simp only [List.length_cons,List.length_append];omega
     have N1:Fresh _ (bX::yA::Ns):=N
     have K1:Kept (Ns) ((qL true yA eS iP)::(qL true bX eF rules)::Γ):=K0.behind 2 rfl
     replace K1:=K1.cons (F:=yA) 0 rfl rfl
     replace K1:=K1.cons (F:=bX) 1 rfl rfl
     refine zy #[pp bs 0,yI kk,yI 1] rfl rfl call146 (QX ah Gb Yq bs ac cc Fc kk (1:Int) H1 N1 K1 qg qg qg) ?_
     clear H H1 N1 K1
     rintro _ aGM ⟨aih,aiY,Gd,Hl,aAX,HZ,akI,afT,rfl,N,H⟩
     obtain rfl:=H.Qc 1 rfl
     refine ⟨H.pick (3::4::zR 6 7) [0,1,2],(ro 9 rfl<|jb [yI c,Sv Hl Gd.length HZ] [(0,yI c),(1,Sv Hl Gd.length HZ)]<|⟨H.pick (3::4::zR 6 7) [0,1,2],(ro 10 rfl<|zx H underlying108 ti161 [yI c,Sv Hl Gd.length HZ] fun aFd aJV H=>⟨H.pick (4::5::zR 7 7) [0,1,2],(ro 11 rfl ?_)⟩)⟩)⟩
     obtain ⟨apO,N,aCm,H⟩:=H.ve 2 rfl N<|fun F hF b hb=>(List.mem_append.1<|show F∈[bX,yA]++Ns from hF).elim (fun h=>(H.vg (L:=[bX,yA]) [2,1]) F h b hb) fun h=>H.jH (K0.behind 3 rfl) F h b hb
     try dsimp only [List.set] at H
     refine zJ H 3 rfl 0 rfl underlying108 ti161 rfl qj rfl rfl rfl qw qp qf fun ae8 ajJ aE0 H=>?_
     try dsimp only [List.set] at H
     replace H:=H.snoc_IntoD 2 rfl c 0 rfl
     replace N:Fresh W0.heap.size ((yA++apO)::bX::Ns):=(N.qY 3 [2,0,1]<|by simp only [List.length_cons,List.length_append];omega).join
     refine ⟨H.pick (4::5::zR 7 7) [2,3,4],(tF 12 rfl rfl (H.pick (4::5::zR 7 7) [2,3,4]) ?_)⟩
     refine ro 13 rfl<|xO H 6 [yI nK,yI eE,Sv mc l6.length lX,Sv Qj Qh Qi,Sv Qz Qw Qx,Sv er dJ.length ep,Sv eC dP.length eD,Sv ae8 (yU+1) ajJ,Bv false] sizeOf108 fun aFm H=>?_
     try dsimp only [List.set] at H
     refine ⟨H.pick (4::5::zR 7 7) [2,3,4],(xy qh ((meet ⟨_,aih,Gd,aiY,ae8,ajJ,Hl,HZ,apO,uE12,akI,afT,N,H.qY 14 5 (1::zR 3 11) [0,1,2,4] (by simp only [List.length_cons,List.length_append];omega)<|by simp only [List.length_cons,List.length_append];omega⟩)))⟩
    have H1:=H.yw 12 3 [0,1,2,3,4,5,6,7,8,9,10,11] [0,1,2] (by simp only [List.length_cons,List.length_append];omega)<|by simp only [List.length_cons,List.length_append];omega
    have N1:Fresh _ (bX::yA::Ns):=N
    have K1:Kept (Ns) ((qL true yA eS iP)::(qL true bX eF rules)::Γ):=K0.behind 2 rfl
    replace K1:=K1.cons (F:=yA) 0 rfl rfl
    replace K1:=K1.cons (F:=bX) 1 rfl rfl
    refine zy #[pp bs 0,yI kk,yI 1] rfl rfl call146 (QX ah Gb Yq bs ac cc Fc kk (1:Int) H1 N1 K1 qg qg qg) ?_
    clear H H1 N1 K1
    rintro _ aJv ⟨OS,OC,nT,nX,azV,nY,NG,NB,rfl,N,H⟩
    obtain rfl:=H.Qc 1 rfl
    refine ⟨H.pick (3::4::zR 6 7) [0,1,2],(jw [1,9] qh qm<|jT rfl ?_<|jT rfl ?_ jy)⟩
    ·refine zB (Sv Xb yU Q9) isAgg108 rfl (H.cell 5 rfl rfl) (⟨H.pick (3::4::zR 6 7) [0,1,2],(ro 9 rfl<|jb [yI c,Sv nX nT.length nY] [(0,yI c),(1,Sv nX nT.length nY)]<|⟨H.pick (3::4::zR 6 7) [0,1,2],(ro 10 rfl<|zx H underlying108 ti161 [yI c,Sv nX nT.length nY] fun aFV aFj H=>⟨H.pick (4::5::zR 7 7) [0,1,2],(ro 11 rfl ?_)⟩)⟩)⟩)
     obtain ⟨aoe,N,aCy,H⟩:=H.ve 2 rfl N<|fun F hF b hb=>(List.mem_append.1<|show F∈[bX,yA]++Ns from hF).elim (fun h=>(H.vg (L:=[bX,yA]) [2,1]) F h b hb) fun h=>H.jH (K0.behind 3 rfl) F h b hb
     try dsimp only [List.set] at H
     refine zJ H 3 rfl 0 rfl underlying108 ti161 rfl qj rfl rfl rfl qw qp qf fun aj5 agt aHU H=>?_
     try dsimp only [List.set] at H
     replace H:=H.snoc_IntoD 2 rfl c 0 rfl
     replace N:Fresh W0.heap.size ((yA++aoe)::bX::Ns):=(N.qY 3 [2,0,1]<|by simp only [List.length_cons,List.length_append];omega).join
     refine ⟨H.pick (4::5::zR 7 7) [2,3,4],(tF 12 rfl rfl (H.pick (4::5::zR 7 7) [2,3,4]) ?_)⟩
     refine ro 13 rfl<|xO H 6 [yI nK,yI eE,Sv mc l6.length lX,Sv Qj Qh Qi,Sv Qz Qw Qx,Sv er dJ.length ep,Sv eC dP.length eD,Sv aj5 (yU+1) agt,Bv false] sizeOf108 fun aEL H=>?_
     try dsimp only [List.set] at H
     refine ⟨H.pick (4::5::zR 7 7) [2,3,4],(xy qh ((meet ⟨_,OS,nT,OC,aj5,agt,nX,nY,aoe,uE12,NG,NB,N,H.qY 14 5 (1::zR 3 11) [0,1,2,4] (by simp only [List.length_cons,List.length_append];omega)<|by simp only [List.length_cons,List.length_append];omega⟩)))⟩
    refine jb [yI c,Sv nX nT.length nY] [(0,yI c),(1,Sv nX nT.length nY)]<|⟨H.pick (3::4::zR 6 7) [0,1,2],(jw [1,10] qh qm<|jT rfl ?_<|jT rfl ?_ jy)⟩
    ·refine zB (Sv Xb yU Q9) isAgg108 rfl (H.cell 5 rfl rfl) (⟨H.pick (3::4::zR 6 7) [0,1,2],(ro 10 rfl<|zx H underlying108 ti161 [yI c,Sv nX nT.length nY] fun aJR aIq H=>⟨H.pick (4::5::zR 7 7) [0,1,2],(ro 11 rfl ?_)⟩)⟩)
     obtain ⟨alv,N,aBu,H⟩:=H.ve 2 rfl N<|fun F hF b hb=>(List.mem_append.1<|show F∈[bX,yA]++Ns from hF).elim (fun h=>(H.vg (L:=[bX,yA]) [2,1]) F h b hb) fun h=>H.jH (K0.behind 3 rfl) F h b hb
     try dsimp only [List.set] at H
     refine zJ H 3 rfl 0 rfl underlying108 ti161 rfl qj rfl rfl rfl qw qp qf fun ahN aiF aEc H=>?_
     try dsimp only [List.set] at H
     replace H:=H.snoc_IntoD 2 rfl c 0 rfl
     replace N:Fresh W0.heap.size ((yA++alv)::bX::Ns):=(N.qY 3 [2,0,1]<|by simp only [List.length_cons,List.length_append];omega).join
     refine ⟨H.pick (4::5::zR 7 7) [2,3,4],(tF 12 rfl rfl (H.pick (4::5::zR 7 7) [2,3,4]) ?_)⟩
     refine ro 13 rfl<|xO H 6 [yI nK,yI eE,Sv mc l6.length lX,Sv Qj Qh Qi,Sv Qz Qw Qx,Sv er dJ.length ep,Sv eC dP.length eD,Sv ahN (yU+1) aiF,Bv false] sizeOf108 fun aII H=>?_
     try dsimp only [List.set] at H
     refine ⟨H.pick (4::5::zR 7 7) [2,3,4],(xy qh ((meet ⟨_,OS,nT,OC,ahN,aiF,nX,nY,alv,uE12,NG,NB,N,H.qY 14 5 (1::zR 3 11) [0,1,2,4] (by simp only [List.length_cons,List.length_append];omega)<|by simp only [List.length_cons,List.length_append];omega⟩)))⟩
    refine zx H underlying108 ti161 [yI c,Sv nX nT.length nY] fun aHf aH1 H=>⟨H.pick (4::5::zR 7 7) [0,1,2],(ro 1 rfl<|zB (Sv Xb yU Q9) isAgg108 rfl (H.cell 6 rfl rfl)<|⟨H.pick (4::5::zR 7 7) [0,1,2],(ro 11 rfl ?_)⟩)⟩
    obtain ⟨aia,N,aCL,H⟩:=H.ve 2 rfl N<|fun F hF b hb=>(List.mem_append.1<|show F∈[bX,yA]++Ns from hF).elim (fun h=>(H.vg (L:=[bX,yA]) [2,1]) F h b hb) fun h=>H.jH (K0.behind 3 rfl) F h b hb
    try dsimp only [List.set] at H
    refine zJ H 3 rfl 0 rfl underlying108 ti161 rfl qj rfl rfl rfl qw qp qf fun amf afL aFQ H=>?_
    try dsimp only [List.set] at H
    replace H:=H.snoc_IntoD 2 rfl c 0 rfl
    replace N:Fresh W0.heap.size ((yA++aia)::bX::Ns):=(N.qY 3 [2,0,1]<|by simp only [List.length_cons,List.length_append];omega).join
    refine ⟨H.pick (4::5::zR 7 7) [2,3,4],(tF 12 rfl rfl (H.pick (4::5::zR 7 7) [2,3,4]) ?_)⟩
    refine ro 13 rfl<|xO H 6 [yI nK,yI eE,Sv mc l6.length lX,Sv Qj Qh Qi,Sv Qz Qw Qx,Sv er dJ.length ep,Sv eC dP.length eD,Sv amf (yU+1) afL,Bv false] sizeOf108 fun aGa H=>?_
    try dsimp only [List.set] at H
    refine ⟨H.pick (4::5::zR 7 7) [2,3,4],(xy qh ((meet ⟨_,OS,nT,OC,amf,afL,nX,nY,aia,uE12,NG,NB,N,H.qY 14 5 (1::zR 3 11) [0,1,2,4] (by simp only [List.length_cons,List.length_append];omega)<|by simp only [List.length_cons,List.length_append];omega⟩)))⟩
   clear H N
   rintro ρ aHd ⟨xI,FY,tm,Ym,aam,Zy,Hd,HG,RK,rfl,aDr,aCQ,N,H⟩
   refine b_n<|t_n<|xZ<|sp (yI c)<|sw<|zV c 1 rfl rfl qf<|sq 1<|xW<|xq (m' :=(par.length - ((c+1):Int)).toNat) qf ⟨_,c+1,_,_,_,_,_,_,_,_,uE6,?_,?_,?_,?_,rfl,(N.qY 2 [1,0]<|by simp only [List.length_cons,List.length_append];omega),H.qY 12 4 (1::0::zR 2 10) [0,2,3] (by simp only [List.length_cons,List.length_append];omega)<|by simp only [List.length_cons,List.length_append];omega⟩
   ·omega
   ·omega
   ·omega
   ·first | exact ⟨by omega,i3.2.mono qf⟩ | exact ⟨by simp;omega,i3.2.snoc qf ‹Lies par _ _› (‹ja kk 1 _/\_›).1 (‹ja kk 1 _/\_›).2⟩
  refine xk<|b_n<|t_n<|xZ<|sp (yI c)<|sw<|zV c 1 rfl rfl qf<|sq 1<|xW<|xq (m' :=(par.length - ((c+1):Int)).toNat) qf ⟨_,c+1,_,_,_,_,_,_,_,_,uE6,?_,?_,?_,?_,rfl,N,H.qY 12 3 (1::0::zR 2 10) [1,0,2] (by simp only [List.length_cons,List.length_append];omega)<|by simp only [List.length_cons,List.length_append];omega⟩
  ·omega
  ·omega
  ·omega
  ·first | exact ⟨by omega,i3.2.mono qf⟩ | exact ⟨by simp;omega,i3.2.snoc qf ‹Lies par _ _› (‹ja kk 1 _/\_›).1 (‹ja kk 1 _/\_›).2⟩
 refine zx4<|zcr<|oF rfl<|oL rfl (H.cell 4 rfl rfl)<|sp (Bv<|decide ((nK:Int) > 0))<|sp (Bv<|decide ((nK:Int) > 0)) ?_
 cases Tw:(decide ((nK:Int) > 0))
 ·replace Tw:=of_decide_eq_false Tw
  refine zM [107,108]<|sp (Bv false)<|oF rfl<|sw<|xO H 4 [yI nK,yI eE,Sv mc l6.length lX,Sv Qj Qh Qi,Sv Qz Qw Qx,Sv er dJ.length ep,Sv eC dP.length eD,Sv Xb yU Q9,Bv false] sizeOf4 fun aIZ H=>?_
  try dsimp only [List.set] at H
  refine zjc<|sw<|zi [yI nK,yI eE,Sv mc l6.length lX,Sv Qj Qh Qi,Sv Qz Qw Qx,Sv er dJ.length ep,Sv eC dP.length eD,Sv Xb yU Q9,Bv false] isAgg110 sizeOf110 rfl (qK (H.cells 4 rfl) 0 9)<|sw<|zC H 8 [yI nK,yI eE,Sv mc l6.length lX,Sv Qj Qh Qi,Sv Qz Qw Qx,Sv er dJ.length ep,Sv eC dP.length eD,Sv Xb yU Q9,Bv false] sizeOf110 fun aGq H=>?_
  try dsimp only [List.set] at H
  refine zjr<|retC H 8 rfl rfl isAgg110 sizeOf110 rfl ⟨_,rfl,?_⟩
  have he:(c:Int)=par.length:=by omega
  exact ⟨lE,kR,nK,eE,l6,nl,og,dJ,dP,iP,false,mc,l6.length,lX,Qj,Qh,Qi,Qz,Qw,Qx,er,dJ.length,ep,eC,dP.length,eD,Xb,yU,Q9,eS,yA,qf,(by exact ruleDr_of qf qg (by first | exact (fun _=>by omega) | exact (fun h=>by cases h)) ql jh jl ql ql ⟨i3.1,he▸i3.2⟩),rfl,N,H.qY 12 3 [1,9,10,11,7,6,5,3,2,0] [1,2,0] (by simp only [List.length_cons,List.length_append];omega)<|by simp only [List.length_cons,List.length_append];omega⟩
 replace Tw:=of_decide_eq_true Tw
 refine qV 106 rfl rfl<|sq 1<|qV 106 rfl rfl ?_
 have H1:=H.yw 12 3 [1,0,2,3,4,5,6,7,8,9,10,11] [1,0,2] (by simp only [List.length_cons,List.length_append];omega)<|by simp only [List.length_cons,List.length_append];omega
 have N1:Fresh _ (bX::yA::Ns):=N
 have K1:Kept (Ns) ((qL true yA eS iP)::(qL true bX eF rules)::Γ):=K0.behind 2 rfl
 replace K1:=K1.cons (F:=yA) 0 rfl rfl
 replace K1:=K1.cons (F:=bX) 1 rfl rfl
 refine sw<|zy #[pp bs 0,yI 6] rfl rfl call58 (dOne_ok ah lE kR bs ac cc Fc (6:Int) H1 N1 K1 qg) ?_
 clear H H1 N1 K1
 rintro _ aGr ⟨ah6,agD,B9,aCV,rfl,N,H⟩
 refine sp (Bv B9)<|oF rfl<|sw<|xO H 4 [yI nK,yI eE,Sv mc l6.length lX,Sv Qj Qh Qi,Sv Qz Qw Qx,Sv er dJ.length ep,Sv eC dP.length eD,Sv Xb yU Q9,Bv B9] sizeOf4 fun aFf H=>?_
 try dsimp only [List.set] at H
 refine zjc<|sw<|zi [yI nK,yI eE,Sv mc l6.length lX,Sv Qj Qh Qi,Sv Qz Qw Qx,Sv er dJ.length ep,Sv eC dP.length eD,Sv Xb yU Q9,Bv B9] isAgg110 sizeOf110 rfl (qK (H.cells 4 rfl) 0 9)<|sw<|zC H 8 [yI nK,yI eE,Sv mc l6.length lX,Sv Qj Qh Qi,Sv Qz Qw Qx,Sv er dJ.length ep,Sv eC dP.length eD,Sv Xb yU Q9,Bv B9] sizeOf110 fun aIO H=>?_
 try dsimp only [List.set] at H
 refine zjr<|retC H 8 rfl rfl isAgg110 sizeOf110 rfl ⟨_,rfl,?_⟩
 have he:(c:Int)=par.length:=by omega
 exact ⟨ah6,agD,nK,eE,l6,nl,og,dJ,dP,iP,B9,mc,l6.length,lX,Qj,Qh,Qi,Qz,Qw,Qx,er,dJ.length,ep,eC,dP.length,eD,Xb,yU,Q9,eS,yA,qf,(by exact ruleDr_of qf qg (by first | exact (fun _=>by omega) | exact (fun h=>by cases h)) ql jh jl ql ql ⟨i3.1,he▸i3.2⟩),rfl,N,H.qY 12 3 [0,9,10,11,7,6,5,3,2,1] [0,2,1] (by simp only [List.length_cons,List.length_append];omega)<|by simp only [List.length_cons,List.length_append];omega⟩
theorem dSystem_ok (ah:List UInt8) (ip:Int) (sd:Int) (bs:Nat) (ac:yOA) (cc:Nat) (Fc:yLN) (H:St W0 w ((.box bs [Sv ac ah.length cc,yI ip,.int .u64 sd] 116)::ps) ((sF false Fc ac cc ah)::Γ)) (N:Fresh W0.heap.size (Ns)) (K0:Kept Ns Γ) (q0:0<=ip/\ip<=50000):Calls Tryz.prog 57 #[pp bs 0] w (fun e w' =>∃ v,e=.returned v/\∃ (lx:Int) (AN:Int) (Ra:Int) (sx:yLI) (gK:List yj) (VN:yOA) (Ur:Nat) (WY:Nat) (eG:yOA) (eo:Nat) (cC:Nat) (bZ:List Value) (aF:yLN),(ip<=lx/\lx<=ip+2000)/\(SysDr Ra sx gK)/\v=.agg #[yI Ra,Sv VN Ur WY,Sv eG eo cC]/\Fresh W0.heap.size (aF::Ns)/\St W0 w' ((.box bs [Sv ac ah.length cc,yI lx,.int .u64 AN] 116)::(rr VN Ur WY 2 1<|sx.map<|Value.int .i64)::(rr eG eo cC 110 9 bZ)::ps) ((sF false Fc ac cc ah)::(qL true aF bZ gK)::Γ)):=by
 refine en func57 ntmps57 ?_
 have mw:=qO (H.get 0 rfl).1
 refine zcr<|sw<|xU H ti27 [yI 0,yN,yN] fun b1 w2 H=>zjc<|sq 1 ?_
 have H1:=H.yw 2 1 [1,0] [0] (by simp only [List.length_cons,List.length_append];omega)<|by simp only [List.length_cons,List.length_append];omega
 have N1:Fresh _ (Ns):=N
 have K1:Kept (Ns) (Γ):=K0.behind 0 rfl
 refine sw<|zy #[pp bs 0,yI 3] rfl rfl call59 (yM ah ip sd bs ac cc Fc (3:Int) H1 N1 K1 qg) ?_
 clear H H1 N1 K1
 rintro _ w3 ⟨I8,Gs,fo,hx5,hx6,rfl,N,H⟩
 refine sw<|zV 1 fo rfl rfl qf<|sw<|zx H underlying24 ti2 [yI (-1)] fun yv KD H=>sw<|jb [yI<|1+fo,Sv (aa yv 0) 1 1,yN] [(0,yI<|1+fo),(1,Sv (aa yv 0) 1 1)]<|sw<|xU H ti27 [yI 0,yN,yN] fun sH II H=>sw<|zC H 0 [yI<|1+fo,Sv (aa yv 0) 1 1,yN] sizeOf27 fun w14 H=>?_
 try dsimp only [List.set] at H
 refine zjcc<|sq 1 ?_
 have H1:=H.yw 4 1 [2,0,1,3] [0] (by simp only [List.length_cons,List.length_append];omega)<|by simp only [List.length_cons,List.length_append];omega
 have N1:Fresh _ (Ns):=N
 have K1:Kept (Ns) (Γ):=K0.behind 0 rfl
 refine sw<|zy #[pp bs 0,yI 3] rfl rfl call59 (yM ah I8 Gs bs ac cc Fc (3:Int) H1 N1 K1 qg) ?_
 clear H H1 N1 K1
 rintro _ PG ⟨Dv,RF,Eb,aIc,Jb,rfl,N,H⟩
 refine sq 1<|zjn<|xg ?_
 replace H:=H.boxRowI 2 [(-1)] 1
 try dsimp only [List.set] at H
 refine zU ((fun Z0 Z1=>fun m' ρ Ot=>∃ (xI:Env) (c:Int) (eH:Int) (dA:Int) (yg:yOA) (zW:Nat) (yf:Nat) (dM:yLI),ρ=upd (upd (upd (upd xI 0<|pp bs 0) 2<|pp b1 0) 3<|pp sH 0) 4 (yI c)/\(ip<=eH/\eH+2 * c<=ip+8)/\(0<=c/\(dM.length:Int)+c<=3)/\(ParDr dM)/\m' =c.toNat/\Fresh W0.heap.size (Ns)/\St W0 Ot ((.box bs [Sv ac ah.length cc,yI eH,.int .u64 dA] 116)::(.box sH [yI<|1+fo,Sv yg zW yf,yN] 27)::(rr yg zW yf 2 1<|dM.map<|Value.int .i64)::Z0::ps) (Z1::Γ)) _ _) (Eb.toNat) ⟨_,Eb,Dv,RF,(aa yv 0),1,1,[(-1)],uE4,qf,qy,(by exact ParDr.one),rfl,N,H⟩ ?_
 clear H N
 rintro m' ρ Nw ⟨xI,c,eH,dA,yg,zW,yf,dM,rfl,i1,i2,i3,rfl,N,H⟩
 have Rq:=H.Qc 2 rfl
 have i4:=i3.1
 refine zcc<|sp (yI c)<|sp (Bv<|decide ((c:Int) > 0))<|zjn<|cD rfl (fun Th=>?_)<|fun Th=>?_
 ·refine xk (t_n<|xH<|xg<|c_cut (fun ρ w30=>∃ (xI:Env) (R5:Int) (M2:Int) (akE:Int) (a28:yOA) (c29:Nat),ρ=upd (upd (upd (upd xI 0<|pp bs 0) 2<|pp b1 0) 3<|pp sH 0) 4 (yI c)/\(eH<=R5/\R5<=eH+2)/\(0<=M2/\(M2 < zW\/M2=0))/\Fresh W0.heap.size (Ns)/\St W0 w30 ((.box bs [Sv ac ah.length cc,yI R5,.int .u64 akE] 116)::(.box sH [yI<|1+fo,Sv a28 (zW+1) c29,yN] 27)::(rr a28 (zW+1) c29 2 1 ((dM++[M2]).map<|Value.int .i64))::(.box b1 [yI 0,yN,yN] 27)::ps) ((sF false Fc ac cc ah)::Γ)) ?_ ?_)
  ·refine c_drawK2 rfl H [3] [0] fun H=>?_
   have S:=H.zK [3] [0]
   refine tF 0 rfl rfl S ?_
   refine rtl 2 S ?_
   refine tF 3 rfl rfl S ?_
   refine jw [1,4] qh qm<|jT rfl ?_<|jT rfl ?_ jy
   ·refine zB (Sv yg zW yf) isAgg24 rfl (H.cell 1 rfl rfl) (⟨H.pick [3] [0],(ro 4 rfl<|zB (Sv yg zW yf) isAgg24 rfl (H.cell 1 rfl rfl)<|⟨H.pick [3] [0],(tN 5 rfl rfl (H.pick [3] [0]) ?_)⟩)⟩)
    refine ro 6 rfl ?_
    have H1:=H.yw 4 1 [0,1,2,3] [0] (by simp only [List.length_cons,List.length_append];omega)<|by simp only [List.length_cons,List.length_append];omega
    have N1:Fresh _ (Ns):=N
    have K1:Kept (Ns) (Γ):=K0.behind 0 rfl
    refine zy #[pp bs 0,yI zW] rfl rfl call59 (yM ah eH dA bs ac cc Fc zW H1 N1 K1 qg) ?_
    clear H H1 N1 K1
    rintro _ Sb ⟨awa,wU,pd,awJ,ayf,rfl,N,H⟩
    refine ⟨H.pick [3] [0],(ro 7 rfl<|zx H underlying24 ti2 [yI pd] fun sa w40 H=>⟨H.pick [4] [0],(ro 8 rfl<|zJ H 3 rfl 0 rfl underlying24 ti2 rfl qj rfl rfl rfl qw qp qf fun a41 c42 w43 H=>?_)⟩)⟩
    rw [snocI] at H
    try dsimp only [List.set] at H
    refine ⟨H.pick [4] [0],(tF 9 rfl rfl (H.pick [4] [0]) ?_)⟩
    refine ro 10 rfl<|xO H 2 [yI<|1+fo,Sv a41 (zW+1) c42,yN] sizeOf24 fun ka H=>?_
    try dsimp only [List.set] at H
    refine ⟨H.pick [4] [0],(xy qh ((meet ⟨_,awa,pd,wU,a41,c42,uE4,awJ,ayf,N,H.qY 5 1 (zR 1 4) [0] (by simp only [List.length_cons,List.length_append];omega)<|by simp only [List.length_cons,List.length_append];omega⟩)))⟩
   refine zB (Sv yg zW yf) isAgg24 rfl (H.cell 1 rfl rfl)<|⟨H.pick [3] [0],(tN 5 rfl rfl (H.pick [3] [0]) ?_)⟩
   refine jw [1,6] qh qm<|jT rfl ?_<|jT rfl ?_ jy
   ·refine zB (Sv yg zW yf) isAgg24 rfl (H.cell 1 rfl rfl) (⟨H.pick [3] [0],(ro 6 rfl ?_)⟩)
    have H1:=H.yw 4 1 [0,1,2,3] [0] (by simp only [List.length_cons,List.length_append];omega)<|by simp only [List.length_cons,List.length_append];omega
    have N1:Fresh _ (Ns):=N
    have K1:Kept (Ns) (Γ):=K0.behind 0 rfl
    refine zy #[pp bs 0,yI zW] rfl rfl call59 (yM ah eH dA bs ac cc Fc zW H1 N1 K1 qg) ?_
    clear H H1 N1 K1
    rintro _ w45 ⟨ZN,aaF,Ef,L8,Ag,rfl,N,H⟩
    refine ⟨H.pick [3] [0],(ro 7 rfl<|zx H underlying24 ti2 [yI Ef] fun b52 w53 H=>⟨H.pick [4] [0],(ro 8 rfl<|zJ H 3 rfl 0 rfl underlying24 ti2 rfl qj rfl rfl rfl qw qp qf fun a54 c55 w56 H=>?_)⟩)⟩
    rw [snocI] at H
    try dsimp only [List.set] at H
    refine ⟨H.pick [4] [0],(tF 9 rfl rfl (H.pick [4] [0]) ?_)⟩
    refine ro 10 rfl<|xO H 2 [yI<|1+fo,Sv a54 (zW+1) c55,yN] sizeOf24 fun w57 H=>?_
    try dsimp only [List.set] at H
    refine ⟨H.pick [4] [0],(xy qh ((meet ⟨_,ZN,Ef,aaF,a54,c55,uE4,L8,Ag,N,H.qY 5 1 (zR 1 4) [0] (by simp only [List.length_cons,List.length_append];omega)<|by simp only [List.length_cons,List.length_append];omega⟩)))⟩
   have H1:=H.yw 4 1 [0,1,2,3] [0] (by simp only [List.length_cons,List.length_append];omega)<|by simp only [List.length_cons,List.length_append];omega
   have N1:Fresh _ (Ns):=N
   have K1:Kept (Ns) (Γ):=K0.behind 0 rfl
   refine zy #[pp bs 0,yI zW] rfl rfl call59 (yM ah eH dA bs ac cc Fc zW H1 N1 K1 qg) ?_
   clear H H1 N1 K1
   rintro _ w58 ⟨pe,ajE,Sq,ane,Zk,rfl,N,H⟩
   refine ⟨H.pick [3] [0],(jw [1,7] qh qm<|jT rfl ?_<|jT rfl ?_ jy)⟩
   ·refine zB (Sv yg zW yf) isAgg24 rfl (H.cell 1 rfl rfl) (⟨H.pick [3] [0],(ro 7 rfl<|zx H underlying24 ti2 [yI Sq] fun NK w66 H=>⟨H.pick [4] [0],(ro 8 rfl<|zJ H 3 rfl 0 rfl underlying24 ti2 rfl qj rfl rfl rfl qw qp qf fun VX U3 w69 H=>?_)⟩)⟩)
    rw [snocI] at H
    try dsimp only [List.set] at H
    refine ⟨H.pick [4] [0],(tF 9 rfl rfl (H.pick [4] [0]) ?_)⟩
    refine ro 10 rfl<|xO H 2 [yI<|1+fo,Sv VX (zW+1) U3,yN] sizeOf24 fun w70 H=>?_
    try dsimp only [List.set] at H
    refine ⟨H.pick [4] [0],(xy qh ((meet ⟨_,pe,Sq,ajE,VX,U3,uE4,ane,Zk,N,H.qY 5 1 (zR 1 4) [0] (by simp only [List.length_cons,List.length_append];omega)<|by simp only [List.length_cons,List.length_append];omega⟩)))⟩
   refine zx H underlying24 ti2 [yI Sq] fun b71 Rh H=>⟨H.pick [4] [0],(ro 1 rfl<|zB (Sv yg zW yf) isAgg24 rfl (H.cell 2 rfl rfl)<|⟨H.pick [4] [0],(ro 8 rfl<|zJ H 3 rfl 0 rfl underlying24 ti2 rfl qj rfl rfl rfl qw qp qf fun a73 c74 w75 H=>?_)⟩)⟩
   rw [snocI] at H
   try dsimp only [List.set] at H
   refine ⟨H.pick [4] [0],(tF 9 rfl rfl (H.pick [4] [0]) ?_)⟩
   refine ro 10 rfl<|xO H 2 [yI<|1+fo,Sv a73 (zW+1) c74,yN] sizeOf24 fun w76 H=>?_
   try dsimp only [List.set] at H
   refine ⟨H.pick [4] [0],(xy qh ((meet ⟨_,pe,Sq,ajE,a73,c74,uE4,ane,Zk,N,H.qY 5 1 (zR 1 4) [0] (by simp only [List.length_cons,List.length_append];omega)<|by simp only [List.length_cons,List.length_append];omega⟩)))⟩
  clear H N
  rintro ρ w77 ⟨xI,R5,M2,akE,a28,c29,rfl,aEq,aF5,N,H⟩
  refine b_n<|t_n<|xZ<|sp (yI c)<|sw<|o_sub c 1 rfl rfl qf<|sq 1<|xW<|xq (m' :=(c - 1).toNat) qf ⟨_,_,_,_,_,_,_,_,uE4,?_,?_,?_,rfl,N,H⟩
  ·omega
  ·simp;omega
  ·exact i3.snoc (by have:=i3.1;omega)
 refine zx4<|zcc<|sq 1 ?_
 have H1:=H.yw 4 1 [0,1,2,3] [0] (by simp only [List.length_cons,List.length_append];omega)<|by simp only [List.length_cons,List.length_append];omega
 have N1:Fresh _ (Ns):=N
 have K1:Kept (Ns) (Γ):=K0.behind 0 rfl
 refine sw<|zy #[pp bs 0,yI 6] rfl rfl call59 (yM ah eH dA bs ac cc Fc (6:Int) H1 N1 K1 qg) ?_
 clear H H1 N1 K1
 rintro _ WH ⟨atZ,ayk,af6,aI0,aEg,rfl,N,H⟩
 refine sq 1<|zjn<|xg ?_
 replace H:=H.nilRow 110 9
 replace H:=H.jZ (α:=yj)
 refine zU ((fun Z0 Z1 Z2=>fun m' ρ w87=>∃ (xI:Env) (k:Int) (dl:Int) (dp:Int) (XT:yOA) (QF:Nat) (XO:Nat) (au:List yj) (yl:List Value) (zh:yLN),ρ=upd (upd (upd (upd xI 0<|pp bs 0) 2<|pp b1 0) 3<|pp sH 0) 5 (yI k)/\(ip<=dl/\dl+300 * k<=ip+1600)/\(0<=k/\(au.length:Int)+k<=5)/\(Qk (1+fo) dM au)/\m' =k.toNat/\Fresh W0.heap.size (zh::Ns)/\St W0 w87 ((rr XT QF XO 110 9 yl)::(.box bs [Sv ac ah.length cc,yI dl,.int .u64 dp] 116)::(.box sH [yI<|1+fo,Sv yg zW yf,Sv XT QF XO] 27)::Z0::Z1::ps) ((qL true zh yl au)::Z2::Γ)) _ _ _) (af6.toNat) ⟨_,af6,atZ,ayk,none,0,0,([]:List yj),[],[],uE4,qf,qy,(by exact Qk.nil _ _),rfl,N.emp,H⟩ ?_
 clear H N
 rintro m' ρ w88 ⟨xI,k,dl,dp,XT,QF,XO,au,yl,zh,rfl,j1,j2,j3,rfl,N,H⟩
 have EH:=H.xe (α:=yj) 0 rfl 0 rfl qj
 refine zcc<|sp (yI k)<|sp (Bv<|decide ((k:Int) > 0))<|zjn<|cD rfl (fun h89=>?_)<|fun h89=>?_
 ·refine xk (t_n<|xH<|xg<|c_cut (fun ρ abX=>∃ (xI:Env) (MN:Int) (Et:Int) (Ex:Int) (Kk:yLI) (IZ:yLI) (In:yLI) (Iw:yLI) (Js:yLI) (Kr:List IntoD) (Mt:Bool) (V1:Int) (aav:yOA) (aao:Nat) (Hy:yOA) (GE:Nat) (yd:yOA) (BX:Nat) (Ia:yOA) (GU:Nat) (yb:yOA) (Gr:Nat) (HY:yOA) (F9:Nat) (Gz:yOA) (HD:Nat) (OK:yLN) (MV:yLN) (Lq:yLN) (Sx:yLN) (wD:yLN) (SG:yLN),ρ=upd (upd (upd (upd xI 0<|pp bs 0) 2<|pp b1 0) 3<|pp sH 0) 5 (yI k)/\(dl<=MN/\MN<=dl+300)/\(RuleDr (1+fo) dM ⟨Et,Ex,Kk,IZ,In,Iw,Js,Kr,Mt⟩)/\Fresh W0.heap.size ((zh++(OK++MV++Lq++Sx++wD++SG))::Ns)/\St W0 abX ((.box bs [Sv ac ah.length cc,yI MN,.int .u64 V1] 116)::(.box sH [yI<|1+fo,Sv yg zW yf,Sv aav (QF+1) aao] 27)::(rr yg zW yf 2 1<|dM.map<|Value.int .i64)::(rr aav (QF+1) aao 110 9<|yl++[yI Et,yI Ex,Sv Hy Kk.length GE,Sv yd IZ.length BX,Sv Ia In.length GU,Sv yb Iw.length Gr,Sv HY Js.length F9,Sv Gz Kr.length HD,Bv Mt])::(.box b1 [yI 0,yN,yN] 27)::ps) ((qL true (zh++(OK++MV++Lq++Sx++wD++SG)) (yl++[yI Et,yI Ex,Sv Hy Kk.length GE,Sv yd IZ.length BX,Sv Ia In.length GU,Sv yb Iw.length Gr,Sv HY Js.length F9,Sv Gz Kr.length HD,Bv Mt])<|au++[(⟨Et,Ex,Kk,IZ,In,Iw,Js,Kr,Mt⟩:yj)])::(sF true SG Gz HD Kr)::(sF true wD HY F9 Js)::(sF true Sx yb Gr Iw)::(sF true Lq Ia GU In)::(sF true MV yd BX IZ)::(sF true OK Hy GE Kk)::(sF false Fc ac cc ah)::Γ)) ?_ ?_)
  ·refine c_drawK2 rfl H [3,4] [0,1] fun H=>?_
   have S:=H.zK [3,4] [0,1]
   refine tF 0 rfl rfl S ?_
   refine rtl 2 S ?_
   refine jw [1,3] qh qm<|jT rfl ?_<|jT rfl ?_ jy
   ·refine zB (Sv XT QF XO) isAgg25 rfl (H.cell 2 rfl rfl) (⟨H.pick [3,4] [0,1],(ro 3 rfl ?_)⟩)
    have f0:yK (⟨1+fo,dM,au⟩:qM):=frame_of i3 qf qf
    have H1:=H.yw 5 2 [1,2,3,0,4] [1,0] (by simp only [List.length_cons,List.length_append];omega)<|by simp only [List.length_cons,List.length_append];omega
    have N1:Fresh _ (zh::Ns):=N
    have K1:Kept (Ns) (Γ):=K0.behind 0 rfl
    refine zy #[pp bs 0,pp sH 0] rfl rfl call99 (dRule_ok ah dl dp bs ac cc Fc (1+fo) dM au sH yg zW yf XT QF XO yl zh H1 N1 K1 qg qg) ?_
    clear H H1 N1 K1
    rintro _ Lu ⟨LD,agI,PL,MM,Wl,Uj,Uz,tM,Zb,UO,PM,V0,Wd,VH,VF,azt,Uq,Yh,aoH,Vx,uU,apt,uM,Zc,aDm,TZ,Wc,aCO,Vn,aAc,nU,PP,alI,rfl,N,H⟩
    obtain rfl:=H.Qc 4 rfl
    obtain rfl:=H.Qc 5 rfl
    obtain rfl:=H.Qc 6 rfl
    obtain rfl:=H.Qc 7 rfl
    obtain rfl:=H.Qc 8 rfl
    obtain rfl:=H.xe (α:=IntoD) 9 rfl 2 rfl qj
    refine ⟨H.pick [2,10] [1,0],(ro 4 rfl<|zx H underlying25 ti110 [yI PL,yI MM,Sv V0 Wl.length VH,Sv VF Uj.length Uq,Sv Yh Uz.length Vx,Sv uU tM.length uM,Sv Zc Zb.length TZ,Sv Wc UO.length Vn,Bv PM] fun awr ajO H=>⟨H.pick [3,11] [1,0],(ro 5 rfl ?_)⟩)⟩
    obtain ⟨mH,N,al5,H⟩:=H.ve 5 rfl N<|fun F hF b hb=>(List.mem_append.1<|show F∈[zh,nU]++Ns from hF).elim (fun h=>(H.vg (L:=[zh,nU]) [1,2]) F h b hb) fun h=>H.jH (K0.behind 3 rfl) F h b hb
    try dsimp only [List.set] at H
    obtain ⟨ss,N,ani,H⟩:=H.ve 6 rfl N<|fun F hF b hb=>(List.mem_append.1<|show F∈[mH,zh,nU]++Ns from hF).elim (fun h=>(H.vg (L:=[mH,zh,nU]) [0,2,3]) F h b hb) fun h=>H.jH (K0.behind 4 rfl) F h b hb
    try dsimp only [List.set] at H
    obtain ⟨Ai,N,aBL,H⟩:=H.ve 7 rfl N<|fun F hF b hb=>(List.mem_append.1<|show F∈[ss,mH,zh,nU]++Ns from hF).elim (fun h=>(H.vg (L:=[ss,mH,zh,nU]) [0,1,3,4]) F h b hb) fun h=>H.jH (K0.behind 5 rfl) F h b hb
    try dsimp only [List.set] at H
    obtain ⟨EQ,N,aCw,H⟩:=H.ve 8 rfl N<|fun F hF b hb=>(List.mem_append.1<|show F∈[Ai,ss,mH,zh,nU]++Ns from hF).elim (fun h=>(H.vg (L:=[Ai,ss,mH,zh,nU]) [0,1,2,4,5]) F h b hb) fun h=>H.jH (K0.behind 6 rfl) F h b hb
    try dsimp only [List.set] at H
    obtain ⟨KS,N,aDq,H⟩:=H.ve 9 rfl N<|fun F hF b hb=>(List.mem_append.1<|show F∈[EQ,Ai,ss,mH,zh,nU]++Ns from hF).elim (fun h=>(H.vg (L:=[EQ,Ai,ss,mH,zh,nU]) [0,1,2,3,5,6]) F h b hb) fun h=>H.jH (K0.behind 7 rfl) F h b hb
    try dsimp only [List.set] at H
    have H0:=H
    obtain ⟨Kg,VO,U8,H⟩:=H.vK (α:=IntoD) 10 rfl 7 rfl qj
    replace N:Fresh W0.heap.size (Kg::KS::EQ::Ai::ss::mH::zh::Ns):=Fresh.ice (N.qY 7 (6::zR 0 6)<|by simp only [List.length_cons,List.length_append];omega) H0 10 VO.1 VO.2<|fun F hF b hb=>(List.mem_append.1<|show F∈[KS,EQ,Ai,ss,mH,zh]++Ns from hF).elim (fun h=>(H0.vg (L:=[KS,EQ,Ai,ss,mH,zh]) [0,1,2,3,4,6]) F h b hb) fun h=>H0.jH (K0.behind 8 rfl) F h b hb
    clear H0
    try dsimp only [List.set] at H
    refine zJ H 4 rfl 0 rfl underlying25 ti110 rfl qj rfl rfl rfl qw qp qf fun N8 M4 alV H=>?_
    try dsimp only [List.set] at H
    replace H:=H.snoc_RuleD 7 rfl PL MM 5 rfl 4 rfl 3 rfl 2 rfl 1 rfl 0 rfl PM
    replace N:Fresh W0.heap.size ((zh++(mH++ss++Ai++EQ++KS++Kg))::Ns):=(N.qY 7 [5,4,3,2,1,0,6]<|by simp only [List.length_cons,List.length_append];omega).join.join.join.join.join.swap.join
    refine ⟨H.pick [3,11] [8,7],(tF 6 rfl rfl (H.pick [3,11] [8,7]) ?_)⟩
    refine ro 7 rfl<|xO H 2 [yI<|1+fo,Sv yg zW yf,Sv N8 (QF+1) M4] sizeOf25 fun ax2 H=>?_
    try dsimp only [List.set] at H
    refine ⟨H.pick [3,11] [8,7],(xy qh ((meet ⟨_,LD,PL,MM,Wl,Uj,Uz,tM,Zb,UO,PM,agI,N8,M4,V0,VH,VF,Uq,Yh,Vx,uU,uM,Zc,TZ,Wc,Vn,mH,ss,Ai,EQ,KS,Kg,uE4,PP,alI,N,H.qY 12 10 [1,2,3,4,11] (zR 0 8) (by simp only [List.length_cons,List.length_append];omega)<|by simp only [List.length_cons,List.length_append];omega⟩)))⟩
   have f0:yK (⟨1+fo,dM,au⟩:qM):=frame_of i3 qf qf
   have H1:=H.yw 5 2 [1,2,3,0,4] [1,0] (by simp only [List.length_cons,List.length_append];omega)<|by simp only [List.length_cons,List.length_append];omega
   have N1:Fresh _ (zh::Ns):=N
   have K1:Kept (Ns) (Γ):=K0.behind 0 rfl
   refine zy #[pp bs 0,pp sH 0] rfl rfl call99 (dRule_ok ah dl dp bs ac cc Fc (1+fo) dM au sH yg zW yf XT QF XO yl zh H1 N1 K1 qg qg) ?_
   clear H H1 N1 K1
   rintro _ auR ⟨VA,Ua,xc,xi,HL,Hb,Gc,Ge,Gu,Hg,xa,pM,apV,pn,Hk,aDo,FSz,Gh,aAT,G3,Gq,aCT,Hm,HH,aql,He,na,ans,pO,azU,fy,T3,WP,rfl,N,H⟩
   obtain rfl:=H.Qc 4 rfl
   obtain rfl:=H.Qc 5 rfl
   obtain rfl:=H.Qc 6 rfl
   obtain rfl:=H.Qc 7 rfl
   obtain rfl:=H.Qc 8 rfl
   obtain rfl:=H.xe (α:=IntoD) 9 rfl 2 rfl qj
   refine ⟨H.pick [2,10] [1,0],(jw [1,4] qh qm<|jT rfl ?_<|jT rfl ?_ jy)⟩
   ·refine zB (Sv XT QF XO) isAgg25 rfl (H.cell 1 rfl rfl) (⟨H.pick [2,10] [1,0],(ro 4 rfl<|zx H underlying25 ti110 [yI xc,yI xi,Sv pM HL.length pn,Sv Hk Hb.length FSz,Sv Gh Gc.length G3,Sv Gq Ge.length Hm,Sv HH Gu.length He,Sv na Hg.length pO,Bv xa] fun aJi ack H=>⟨H.pick [3,11] [1,0],(ro 5 rfl ?_)⟩)⟩)
    obtain ⟨oC,N,ajB,H⟩:=H.ve 5 rfl N<|fun F hF b hb=>(List.mem_append.1<|show F∈[zh,fy]++Ns from hF).elim (fun h=>(H.vg (L:=[zh,fy]) [1,2]) F h b hb) fun h=>H.jH (K0.behind 3 rfl) F h b hb
    try dsimp only [List.set] at H
    obtain ⟨wc,N,aBt,H⟩:=H.ve 6 rfl N<|fun F hF b hb=>(List.mem_append.1<|show F∈[oC,zh,fy]++Ns from hF).elim (fun h=>(H.vg (L:=[oC,zh,fy]) [0,2,3]) F h b hb) fun h=>H.jH (K0.behind 4 rfl) F h b hb
    try dsimp only [List.set] at H
    obtain ⟨AK,N,aCl,H⟩:=H.ve 7 rfl N<|fun F hF b hb=>(List.mem_append.1<|show F∈[wc,oC,zh,fy]++Ns from hF).elim (fun h=>(H.vg (L:=[wc,oC,zh,fy]) [0,1,3,4]) F h b hb) fun h=>H.jH (K0.behind 5 rfl) F h b hb
    try dsimp only [List.set] at H
    obtain ⟨EK,N,azF,H⟩:=H.ve 8 rfl N<|fun F hF b hb=>(List.mem_append.1<|show F∈[AK,wc,oC,zh,fy]++Ns from hF).elim (fun h=>(H.vg (L:=[AK,wc,oC,zh,fy]) [0,1,2,4,5]) F h b hb) fun h=>H.jH (K0.behind 6 rfl) F h b hb
    try dsimp only [List.set] at H
    obtain ⟨Nc,N,aCJ,H⟩:=H.ve 9 rfl N<|fun F hF b hb=>(List.mem_append.1<|show F∈[EK,AK,wc,oC,zh,fy]++Ns from hF).elim (fun h=>(H.vg (L:=[EK,AK,wc,oC,zh,fy]) [0,1,2,3,5,6]) F h b hb) fun h=>H.jH (K0.behind 7 rfl) F h b hb
    try dsimp only [List.set] at H
    have H0:=H
    obtain ⟨mE,B8,afD,H⟩:=H.vK (α:=IntoD) 10 rfl 7 rfl qj
    replace N:Fresh W0.heap.size (mE::Nc::EK::AK::wc::oC::zh::Ns):=Fresh.ice (N.qY 7 (6::zR 0 6)<|by simp only [List.length_cons,List.length_append];omega) H0 10 B8.1 B8.2<|fun F hF b hb=>(List.mem_append.1<|show F∈[Nc,EK,AK,wc,oC,zh]++Ns from hF).elim (fun h=>(H0.vg (L:=[Nc,EK,AK,wc,oC,zh]) [0,1,2,3,4,6]) F h b hb) fun h=>H0.jH (K0.behind 8 rfl) F h b hb
    clear H0
    try dsimp only [List.set] at H
    refine zJ H 4 rfl 0 rfl underlying25 ti110 rfl qj rfl rfl rfl qw qp qf fun ai0 agH amz H=>?_
    try dsimp only [List.set] at H
    replace H:=H.snoc_RuleD 7 rfl xc xi 5 rfl 4 rfl 3 rfl 2 rfl 1 rfl 0 rfl xa
    replace N:Fresh W0.heap.size ((zh++(oC++wc++AK++EK++Nc++mE))::Ns):=(N.qY 7 [5,4,3,2,1,0,6]<|by simp only [List.length_cons,List.length_append];omega).join.join.join.join.join.swap.join
    refine ⟨H.pick [3,11] [8,7],(tF 6 rfl rfl (H.pick [3,11] [8,7]) ?_)⟩
    refine ro 7 rfl<|xO H 2 [yI<|1+fo,Sv yg zW yf,Sv ai0 (QF+1) agH] sizeOf25 fun aku H=>?_
    try dsimp only [List.set] at H
    refine ⟨H.pick [3,11] [8,7],(xy qh ((meet ⟨_,VA,xc,xi,HL,Hb,Gc,Ge,Gu,Hg,xa,Ua,ai0,agH,pM,pn,Hk,FSz,Gh,G3,Gq,Hm,HH,He,na,pO,oC,wc,AK,EK,Nc,mE,uE4,T3,WP,N,H.qY 12 10 [1,2,3,4,11] (zR 0 8) (by simp only [List.length_cons,List.length_append];omega)<|by simp only [List.length_cons,List.length_append];omega⟩)))⟩
   refine zx H underlying25 ti110 [yI xc,yI xi,Sv pM HL.length pn,Sv Hk Hb.length FSz,Sv Gh Gc.length G3,Sv Gq Ge.length Hm,Sv HH Gu.length He,Sv na Hg.length pO,Bv xa] fun aHu aDz H=>⟨H.pick [3,11] [1,0],(ro 1 rfl<|zB (Sv XT QF XO) isAgg25 rfl (H.cell 2 rfl rfl)<|⟨H.pick [3,11] [1,0],(ro 5 rfl ?_)⟩)⟩
   obtain ⟨rp,N,aCj,H⟩:=H.ve 5 rfl N<|fun F hF b hb=>(List.mem_append.1<|show F∈[zh,fy]++Ns from hF).elim (fun h=>(H.vg (L:=[zh,fy]) [1,2]) F h b hb) fun h=>H.jH (K0.behind 3 rfl) F h b hb
   try dsimp only [List.set] at H
   obtain ⟨pg,N,aie,H⟩:=H.ve 6 rfl N<|fun F hF b hb=>(List.mem_append.1<|show F∈[rp,zh,fy]++Ns from hF).elim (fun h=>(H.vg (L:=[rp,zh,fy]) [0,2,3]) F h b hb) fun h=>H.jH (K0.behind 4 rfl) F h b hb
   try dsimp only [List.set] at H
   obtain ⟨wz,N,aj9,H⟩:=H.ve 7 rfl N<|fun F hF b hb=>(List.mem_append.1<|show F∈[pg,rp,zh,fy]++Ns from hF).elim (fun h=>(H.vg (L:=[pg,rp,zh,fy]) [0,1,3,4]) F h b hb) fun h=>H.jH (K0.behind 5 rfl) F h b hb
   try dsimp only [List.set] at H
   obtain ⟨vD,N,aB1,H⟩:=H.ve 8 rfl N<|fun F hF b hb=>(List.mem_append.1<|show F∈[wz,pg,rp,zh,fy]++Ns from hF).elim (fun h=>(H.vg (L:=[wz,pg,rp,zh,fy]) [0,1,2,4,5]) F h b hb) fun h=>H.jH (K0.behind 6 rfl) F h b hb
   try dsimp only [List.set] at H
   obtain ⟨Nl,N,azy,H⟩:=H.ve 9 rfl N<|fun F hF b hb=>(List.mem_append.1<|show F∈[vD,wz,pg,rp,zh,fy]++Ns from hF).elim (fun h=>(H.vg (L:=[vD,wz,pg,rp,zh,fy]) [0,1,2,3,5,6]) F h b hb) fun h=>H.jH (K0.behind 7 rfl) F h b hb
   try dsimp only [List.set] at H
   have H0:=H
   obtain ⟨Je,VQ,azI,H⟩:=H.vK (α:=IntoD) 10 rfl 7 rfl qj
   replace N:Fresh W0.heap.size (Je::Nl::vD::wz::pg::rp::zh::Ns):=Fresh.ice (N.qY 7 (6::zR 0 6)<|by simp only [List.length_cons,List.length_append];omega) H0 10 VQ.1 VQ.2<|fun F hF b hb=>(List.mem_append.1<|show F∈[Nl,vD,wz,pg,rp,zh]++Ns from hF).elim (fun h=>(H0.vg (L:=[Nl,vD,wz,pg,rp,zh]) [0,1,2,3,4,6]) F h b hb) fun h=>H0.jH (K0.behind 8 rfl) F h b hb
   clear H0
   try dsimp only [List.set] at H
   refine zJ H 4 rfl 0 rfl underlying25 ti110 rfl qj rfl rfl rfl qw qp qf fun agx aqQ auA H=>?_
   try dsimp only [List.set] at H
   replace H:=H.snoc_RuleD 7 rfl xc xi 5 rfl 4 rfl 3 rfl 2 rfl 1 rfl 0 rfl xa
   replace N:Fresh W0.heap.size ((zh++(rp++pg++wz++vD++Nl++Je))::Ns):=(N.qY 7 [5,4,3,2,1,0,6]<|by simp only [List.length_cons,List.length_append];omega).join.join.join.join.join.swap.join
   refine ⟨H.pick [3,11] [8,7],(tF 6 rfl rfl (H.pick [3,11] [8,7]) ?_)⟩
   refine ro 7 rfl<|xO H 2 [yI<|1+fo,Sv yg zW yf,Sv agx (QF+1) aqQ] sizeOf25 fun aza H=>?_
   try dsimp only [List.set] at H
   refine ⟨H.pick [3,11] [8,7],(xy qh ((meet ⟨_,VA,xc,xi,HL,Hb,Gc,Ge,Gu,Hg,xa,Ua,agx,aqQ,pM,pn,Hk,FSz,Gh,G3,Gq,Hm,HH,He,na,pO,rp,pg,wz,vD,Nl,Je,uE4,T3,WP,N,H.qY 12 10 [1,2,3,4,11] (zR 0 8) (by simp only [List.length_cons,List.length_append];omega)<|by simp only [List.length_cons,List.length_append];omega⟩)))⟩
  clear H N
  rintro ρ apH ⟨xI,MN,Et,Ex,Kk,IZ,In,Iw,Js,Kr,Mt,V1,aav,aao,Hy,GE,yd,BX,Ia,GU,yb,Gr,HY,F9,Gz,HD,OK,MV,Lq,Sx,wD,SG,rfl,aA4,YB,N,H⟩
  refine b_n<|t_n<|xZ<|sp (yI k)<|sw<|o_sub k 1 rfl rfl qf<|sq 1<|xW<|xq (m' :=(k - 1).toNat) qf ⟨_,_,_,_,_,_,_,_,_,_,uE4,?_,?_,?_,rfl,N,H.qY 5 8 [3,0,1,2,4] [0,7] (by simp only [List.length_cons,List.length_append];omega)<|by simp only [List.length_cons,List.length_append];omega⟩
  ·omega
  ·simp;omega
  ·exact j3.snoc ql
 refine zx4<|zcr<|sw<|zi [yI<|1+fo,Sv yg zW yf,Sv XT QF XO] isAgg27 sizeOf27 rfl (qK (H.cells 2 rfl) 0 3)<|sw<|zC H 4 [yI<|1+fo,Sv yg zW yf,Sv XT QF XO] sizeOf27 fun aF2 H=>?_
 try dsimp only [List.set] at H
 refine zjr<|retC H 4 rfl rfl isAgg27 sizeOf27 rfl ⟨_,rfl,(⟨dl,dp,1+fo,dM,au,yg,zW,yf,XT,QF,XO,yl,zh,qf,(by exact sysDr_of i3 qf qf qf j3),rfl,N,H.qY 5 2 [1,3,0] [1,0] (by simp only [List.length_cons,List.length_append];omega)<|by simp only [List.length_cons,List.length_append];omega⟩)⟩
end
section
def atV (ah:List UInt8) (i n:Int):Int:=if i>=ah.length\/n < 1 then 0 else (((ah[i.toNat]!).toNat:Nat):Int) % n
theorem atV_no {i:Int} (h:i>=ah.length\/n < 1):atV ah i n=0:=by rw [atV,if_pos h]
theorem atV_yes {i:Int} (h:¬ i>=ah.length) (h1:¬ n < 1):atV ah i n=(((ah[i.toNat]!).toNat:Nat):Int) % n:=by rw [atV,if_neg qf]
theorem atV_bd (ah:List UInt8) (i:Int) (h:1<=n):0<=atV ah i n/\atV ah i n<=n - 1:=by
 rw [atV]
 split
 ·omega
 ·have h1:=Int.emod_nonneg (((ah[i.toNat]!).toNat:Nat):Int) (show n≠0 by omega)
  have h2:=Int.emod_lt_of_pos (((ah[i.toNat]!).toNat:Nat):Int)<|show 0 < n by omega
  omega
def CodeBad (s:qM) (t:xh) (cs:yLL) (k:Nat):Prop:=(stepBy s t<|cs[k]!).2≠0
def NoBad (s:qM) (t:xh) (cs:yLL) (k:Nat):Prop:=∀ j,j < k->¬ CodeBad s t cs j
theorem NoBad.succ {s:qM} {t:xh} {cs:yLL} (h:NoBad s t cs k) (h1:(stepBy s t<|cs[k]!).2=0):NoBad s t cs (k+1):=fun j hj=>by
 by_cases e:j=k
 ·subst e;exact fun x=>x h1
 ·exact h j qf
def NotIn (l:List xh) (u:xh) (k:Nat):Prop:=∀ j,j < k->l[j]! ≠u
theorem NotIn.succ {l:List xh} {u:xh} (h:NotIn l u k) (h1:l[k]! ≠u):NotIn l u (k+1):=fun j hj=>by
 by_cases e:j=k
 ·subst e;exact h1
 ·exact h j qf
theorem NotIn.out {l:List xh} {u:xh} (h:NotIn l u l.length):¬ u∈l:=fun hm=>by
 obtain ⟨k,hk,e⟩:=List.mem_iff_getElem.1 hm
 exact h k hk<|by rw [getElem!_pos l k hk];exact e
end
section
theorem a2At_ok (w:World) (ah:List UInt8) (q:Int) (n:Int) {dK:yOA} {dI:Nat} {ee:yLN} (uZ:zP w ee dK dI ah) (p0:0<=q):Calls Tryz.prog 11 #[Sv dK ah.length dI,yI q,yI n] w (Ret (fun v w' =>v=yI (atV ah q n)) w):=by
 refine en func11 ntmps11 ?_
 have H:=(St.start w).arg uZ
 have aax:=qO uZ
 clear uZ
 have N:=Fresh.nil w.heap.size
 refine zcr<|sp (yI 0)<|zjcc<|sp (yI q)<|sq 1<|oN rfl<|sp (Bv<|decide ((q:Int)>=ah.length))<|sp (Bv<|decide ((q:Int)>=ah.length)) ?_
 cases h1:(decide ((q:Int)>=ah.length))
 ·replace h1:=of_decide_eq_false h1
  refine qV 11 rfl rfl<|sp (yI n)<|qV 11 rfl rfl<|sp (Bv<|decide ((n:Int) < 1))<|sp (Bv<|decide ((n:Int) < 1))<|zjn<|cD rfl (fun h2=>?_)<|fun h2=>?_
  ·refine zcr (sp (yI 0)<|zjr<|t_r<|rH1 (yI 0) H ?_)
   rw [atV_no qf]
  have rm:=fun (x:Int)=>Int.emod_nonneg x<|show n≠0 by omega
  have rl:=fun (x:Int)=>Int.emod_lt_of_pos x<|show 0 < n by omega
  refine xk<|t_n<|zcr<|sq 1<|sp (yI q) ?_
  obtain ⟨b3,o4,rfl⟩:=H.addr 0 rfl qf
  refine oI rfl rfl ?_
  have hb6:=byte_lt<|ah[q.toNat]!
  refine oL rfl (H.elemByte 0 rfl q q.toNat qf qf qf)<|sw<|o_convI (((ah[q.toNat]!).toNat:Nat):Int) underlying5 underlying2 rfl qf<|sp (yI n)<|sw<|o_rem (((ah[q.toNat]!).toNat:Nat):Int) n rfl rfl qf qf qf<|sq 1<|zjr<|rH1 (yI ((((ah[q.toNat]!).toNat:Nat):Int) % n)) H ?_
  rw [atV_yes ‹_› ‹_›]
 replace h1:=of_decide_eq_true h1
 refine zM [12,13]<|sp (Bv true)<|zjn<|cTr rfl<|zcr<|sp (yI 0)<|zjr<|t_r<|rH1 (yI 0) H ?_
 rw [atV_no qf]
theorem l00Same_ok (w:World) (a:yLI) (b:yLI) {aa:yOA} {ca:Nat} {Fa:yLN} {ab:yOA} {cb:Nat} {Fb:yLN} (ha:zP w Fa aa ca a) (hb:zP w Fb ab cb b):Calls Tryz.prog 30 #[Sv aa a.length ca,Sv ab b.length cb] w (Ret (fun v w' =>v=Bv (decide<|a=b)) w):=by
 refine en func30 ntmps30 ?_
 have H:=((St.start w).arg hb).arg ha
 have nha:=qO ha
 have nhb:=qO hb
 clear ha hb
 have N:=Fresh.nil w.heap.size
 refine zcr<|sp (Bv false)<|zjcc<|sq 1<|oN rfl<|sq 1<|oN rfl<|sq 1<|zjn<|vk _ rfl (fun h1=>?_)<|fun h1=>?_
 ·replace h1:=bne_iff_ne.1 h1
  refine zcr<|sp (Bv false)<|zjr<|t_r<|rH1 (Bv false) H ?_
  first | rw [decide_eq_false (fun e=>by subst e;omega)] | rw [decide_eq_false<|X5 (k:=i) ‹_›] | rw [decide_eq_false<|X5 (k:=i)<|by simpa using ‹_›]
 replace h1:=xR h1
 refine xk<|t_n<|zcc<|sp (yI 0)<|zjn<|xg<|zU ((fun Z0 Z1=>fun m' ρ w2=>∃ (xI:Env) (i:Nat),ρ=upd (upd (upd xI 0<|Sv aa a.length ca) 1<|Sv ab b.length cb) 5 (yI i)/\((i:Int)<=a.length)/\(a.take i=b.take i)/\m' =(a.length - (i:Int)).toNat/\Fresh w.heap.size []/\St w w2 [] [Z0,Z1]) _ _) ((a.length - (0:Int)).toNat) ⟨_,0,uE3,qf,(by rfl),rfl,N,H⟩ ?_
 clear H N
 rintro m' ρ w3 ⟨xI,i,rfl,i0,i1,rfl,N,H⟩
 refine zcc<|sp (yI i)<|sq 1<|oN rfl<|sq 1<|zjn<|cD rfl (fun h4=>?_)<|fun h4=>?_
 ·refine xk (t_n<|xH<|xg<|xH<|Xj rfl H fun H=>rtl 0 H ?_)
  refine rtp 1 (yI i) H ?_
  obtain ⟨b6,o7,rfl⟩:=H.addr 0 rfl qf
  refine tI 2 rfl rfl rfl H ?_
  refine tL 3 rfl rfl (fun _ h=>h.jd 0 rfl i qf) H ?_
  refine rtl 4 H ?_
  refine rtp 5 (yI i) H ?_
  obtain ⟨b9,o10,rfl⟩:=H.addr 1 rfl qf
  refine tI 6 rfl rfl rfl H ?_
  refine tL 7 rfl rfl (fun _ h=>h.jd 1 rfl i qf) H ?_
  refine rtl 8 H ?_
  refine xy qh<|t_n<|vk _ rfl (fun qb=>?_)<|fun qb=>?_
  ·replace qb:=bne_iff_ne.1 qb
   refine zcr<|sp (Bv false)<|zjr<|zr5<|rH1 (Bv false) H ?_
   first | rw [decide_eq_false (fun e=>by subst e;omega)] | rw [decide_eq_false<|X5 (k:=i) ‹_›] | rw [decide_eq_false<|X5 (k:=i)<|by simpa using ‹_›]
  replace qb:=xR qb
  refine xk<|b_n<|t_n<|xZ<|sp (yI i)<|sw<|zV i 1 rfl rfl qf<|sq 1<|xW<|xq (m' :=(a.length - ((i+1):Int)).toNat) qf ⟨_,i+1,uE3,?_,?_,rfl,N,H⟩
  ·omega
  ·exact eqTo_succ qf qf i1 qg
 refine zx4<|zcr<|sp (Bv true)<|zjr<|rH1 (Bv true) H ?_
 rw [decide_eq_true<|Vr (k:=i) qf qf i1]
end
section
@[irreducible] def LQ (P : Program) (o : Oper) (Q : Exit -> Act -> World -> Prop) (a : Act) (w : World) : Prop := o.wp P a w (fun a w => Q .normal a w) Q \/ (o.asks P a w /\ LetsOut Q)
def lateQ (P:Program) (o:Oper) (Q:Exit->Act->World->Prop):Exit->Act->World->Prop
 | .normal,a,w=>LQ P o Q a w
 | e,a,w=>Q e a w
def aft (l:List Oper) (i:Nat):List Edge:=match l[i]? with | some o=>o.after.toList | none=>[]
def lateOk (l:List Oper) (o:Oper):Bool:=
 o.guard.isNone && ((List.range<|l.length+1).all fun i=>(aft (l++[o]) i).all fun e=> !Region.binds .any e || Nat.blt e.on i) &&
 ((List.range l.length).all fun i=>(List.range<|l.length+1).any fun j=>Nat.blt i j && (aft (l++[o]) j).any fun e=>Region.binds .any e && Nat.beq e.on i)
section
variable {P : Program} {Q : Exit -> Act -> World -> Prop} {l : List Oper} {o : Oper}
structure LateP (l:List Oper) (o:Oper):Prop where
 gd:o.guard=none
 back:∀ i e,i<=l.length->e∈aft (l++[o]) i->Region.binds .any e=true->e.on < i
 wait:∀ i,i < l.length->∃ j e,i < j/\j<=l.length/\e∈aft (l++[o]) j/\Region.binds .any e=true/\e.on=i
theorem lateP (h:lateOk l o=true):LateP l o:=by
 simp only [lateOk,Bool.and_eq_true,List.all_eq_true,List.any_eq_true,List.mem_range,Bool.or_eq_true,Bool.not_eq_true'] at h
 obtain ⟨⟨h1,h2⟩,h3⟩:=h
 refine ⟨Option.isNone_iff_eq_none.1 h1,fun i e hi he hb=>?_,fun i hi=>?_⟩
 ·rcases h2 i qf e he with h | h
  ·rw [hb] at h;cases h
  ·exact Nat.le_of_ble_eq_true h
 ·obtain ⟨j,hj,hij,e,he,hb,ho⟩:=h3 i hi
  exact ⟨j,e,Nat.le_of_ble_eq_true hij,by omega,he,hb,Nat.eq_of_beq_eq_true ho⟩
theorem Xg {fI:Array Oper}:i∈Region.ready .any fI ae<->ae.getD i true=false/\∃ o,fI[i]? =some o/\∀ e∈o.after,Region.binds .any e=true->ae.getD e.on false=true:=mem_ready
def Closed (l:List Oper) (ae:Array Bool):Prop:=∀ i,i < l.length->ae.getD i false=true->∀ e∈aft l i,Region.binds .any e=true->ae.getD e.on false=true
theorem aft_left (h:i < l.length):aft (l++[o]) i=aft l i:=by unfold aft;rw [List.getElem?_append_left h]
theorem aft_last:aft (l++[o]) l.length=o.after.toList:=by unfold aft;simp
theorem late_all (p:LateP l o) (hc:Closed l ae) (hr:∀ e∈o.after,Region.binds .any e=true->ae.getD e.on false=true):∀ k i,l.length - i=k->i < l.length->ae.getD i false=true:=by
 intro k
 induction k using Nat.strongRecOn with
 | _ k ih=>
  intro i hk hi
  obtain ⟨j,e,hij,hj,he,hb,rfl⟩:=p.wait i hi
  by_cases hjl:j=l.length
  ·subst hjl
   rw [aft_last] at he
   exact hr e (by simpa using he) hb
  ·have hjl:j < l.length:=by omega
   rw [aft_left hjl] at he
   exact hc j hjl (ih (l.length - j) qf j rfl hjl) e he hb
theorem none_all (p:LateP l o) (hs:ae.size=l.length) (hr:Region.ready .any l.toArray ae=[]):∀ i,i < l.length->ae.getD i false=true:=by
 intro i
 induction i using Nat.strongRecOn with
 | _ i ih=>
  intro hi
  by_cases h:ae.getD i false=true
  ·exact h
  ·exfalso
   have hm:i∈Region.ready .any l.toArray ae:=Xg.2 ⟨by
    simp only [Array.getD_eq_getD_getElem?] at h ⊢
    rw [Array.getElem?_eq_getElem qf] at h ⊢
    simpa using h,l[i],by simp [hi],fun e he hb=>by
     have h1:=p.back i e qf (by rw [aft_left hi];unfold aft;rw [List.getElem?_eq_getElem hi];simpa using he) hb
     exact ih e.on h1 qf⟩
   rw [hr] at hm;cases hm
theorem getD_push {a:Array Bool} (d:Bool) (h:i < a.size):(a.push false).getD i d=a.getD i d:=by
 simp [Array.getD_eq_getD_getElem?,Array.getElem?_push_lt h,Array.getElem?_eq_getElem h]
theorem ready_push (hs:ae.size=l.length) (p:LateP l o) (hi:i < l.length):i∈Region.ready .any (l++[o]).toArray (ae.push false)<->i∈Region.ready .any l.toArray ae:=by
 rw [Xg,Xg,getD_push true qf]
 have e1:(l++[o]).toArray[i]? =l.toArray[i]? :=by simp [List.getElem?_append_left hi]
 rw [e1]
 refine and_congr Iff.rfl<|exists_congr fun q=>and_congr_right fun hq=>forall_congr' fun e=>forall_congr' fun he=>forall_congr' fun hb=>?_
 have h1:=p.back i e qf (by rw [aft_left hi];unfold aft;rw [show l[i]? =some q by simpa using hq];simpa using he) hb
 rw [getD_push false qf]
theorem yield_push {tmps:Array Value} (hj:j < l.length):yielded (l++[o]).toArray tmps j=yielded l.toArray tmps j:=by
 unfold yielded
 rw [show (l++[o]).toArray[j]? =l.toArray[j]? by simp [List.getElem?_append_left hj]]
theorem lets_late:LetsOut (lateQ P o Q)->LetsOut Q:=fun ⟨a,w,h⟩=>⟨a,w,h⟩
theorem wp_Q {Q' :Exit->Act->World->Prop} (hq:∀ c a w,Q' (.panic c) a w->Q (.panic c) a w) (ho:∀ a w,Q' .outgrown a w->Q .outgrown a w) {q:Oper} {a:Act} {K:Act->World->Prop} (h:q.wp P a w K Q'):q.wp P a w K Q:=by
 have hl:LetsOut Q' ->LetsOut Q:=fun ⟨a,w,h⟩=>⟨a,w,ho a w h⟩
 unfold Oper.wp at *
 generalize (execOp a.eval q).run P w=r at *
 cases r with
 | ok n w' =>
  cases n <;> simp only [Oper.upon] at h ⊢ <;>
   first
    | exact h
    | exact Calls.mono h (fun e w'' he=>by cases e <;> first | exact he | exact hq _ _ _ he | exact hl he)
 | halt x w' =>cases x <;> simp only [Oper.upon] at h ⊢ <;> first | exact h | exact hq _ _ _ h
theorem wp_late {q:Oper} {a:Act} {K:Act->World->Prop} (h:q.wp P a w K (lateQ P o Q)):q.wp P a w K Q:=wp_Q (fun _ _ _ h=>h) (fun _ _ h=>h) h
theorem wpAny_Q {Q' :Exit->Act->World->Prop} (hq:∀ e a w,Q' e a w->Q e a w) {fI:Array Oper}:∀ (fuel:Nat) (ae:Array Bool) (a:Act) (w:World),wpAny P .any fI Q' fuel ae a w->wpAny P .any fI Q fuel ae a w
 | 0,_,_,_,h=>⟨h.1,hq _ _ _ h.2⟩
 | fuel+1,ae,a,w,h=>⟨fun h0=>hq _ _ _<|h.1 h0,fun i hi=>by
  have h2:=h.2 i hi
  have h3:=wpOp_mono (wpAny_Q hq fuel<|ae.setIfInBounds i true) h2
  unfold wpOp at h3 ⊢
  split
  ·simp_all
  ·rename_i q hq2
   rw [hq2] at h3
   simp only at h3
   split
   ·rename_i hw
    rw [if_pos hw] at h3
    rcases h3 with h3 | ⟨h3,a',w',h4⟩
    ·exact .inl (wp_Q (fun _ _ _=>hq _ _ _) (fun _ _=>hq _ _ _) h3)
    ·exact .inr ⟨h3,a',w',hq _ _ _ h4⟩
   ·rename_i hw
    rw [if_neg hw] at h3
    exact h3⟩
theorem wpAny_late (p:LateP l o) (hg:∀ (i:Nat) (q:Oper) (j:Nat) (b:Bool),l[i]? =some q->q.guard=some (j,b)->j < l.length):∀ (fuel:Nat) (ae:Array Bool) (a:Act) (w:World),ae.size=l.length->Closed l ae→
 wpAny P .any l.toArray (lateQ P o Q) fuel ae a w->wpAny P .any (l++[o]).toArray Q (fuel+1) (ae.push false) a w:=by
 have last:∀ (fuel:Nat) (ae:Array Bool) (a:Act) (w:World),ae.size=l.length->(∀ i,i < l.length->ae.getD i false=true)->lateQ P o Q .normal a w->wpAny P .any (l++[o]).toArray Q (fuel+1) (ae.push false) a w:=by
  intro fuel ae a w hs EU hq
  have hm:l.length∈Region.ready .any (l++[o]).toArray (ae.push false):=Xg.2 ⟨by rw [← hs];simp [Array.getD_eq_getD_getElem?],o,by simp,fun e he hb=>by
   have h1:=p.back l.length e (Nat.le_refl _) (by rw [aft_last];simpa using he) hb
   rw [getD_push false qf];exact EU _ h1⟩
  have amK:∀ i∈Region.ready .any (l++[o]).toArray (ae.push false),i=l.length:=fun i hi=>by
   obtain ⟨h1,q,h2,_⟩:=Xg.1 hi
   have nO:i < (l++[o]).length:=by have:=(Array.getElem?_eq_some_iff.1 h2).1;simpa using this
   rw [List.length_append,List.length_singleton] at nO
   by_cases e:i=l.length
   ·exact e
   ·rw [getD_push true qf] at h1
    have h3:=EU i qf
    simp only [Array.getD_eq_getD_getElem?] at h1 h3
    rw [Array.getElem?_eq_getElem qf] at h1 h3
    simp only [Option.getD_some] at h1 h3
    rw [h1] at h3;cases h3
  refine ⟨fun h=>(by rw [h] at hm;cases hm),fun i hi=>?_⟩
  obtain rfl:=amK i hi
  have T1:Region.ready .any (l++[o]).toArray ((ae.push false).setIfInBounds l.length true)=[]:=List.eq_nil_iff_forall_not_mem.2 fun i hi=>by
   obtain ⟨h1,q,h2,_⟩:=Xg.1 hi
   have nO:i < (l++[o]).length:=by have:=(Array.getElem?_eq_some_iff.1 h2).1;simpa using this
   rw [List.length_append,List.length_singleton] at nO
   by_cases e:i=l.length
   ·subst e
    simp [Array.getD_eq_getD_getElem?,hs] at h1
   ·have h3:=EU i qf
    simp only [Array.getD_eq_getD_getElem?] at h1 h3
    rw [Array.getElem?_setIfInBounds_ne<|Ne.symm e,Array.getElem?_push_lt qf] at h1
    rw [Array.getElem?_eq_getElem qf] at h3
    simp only [Option.getD_some] at h1 h3
    rw [h1] at h3;cases h3
  unfold wpOp
  rw [show (l++[o]).toArray[l.length]? =some o by simp]
  simp only [Region.wanted,p.gd,if_true]
  have hq:LQ P o Q a w:=hq
  unfold LQ at hq
  refine hq.imp (Oper.wp_mono fun a' w' h=>?_) id
  cases fuel with
  | zero=>exact ⟨T1,h⟩
  | succ f=>exact ⟨fun _=>h,by rw [T1];exact fun i hi=>by cases hi⟩
 intro fuel
 induction fuel with
 | zero=>intro ae a w hs hc h;exact last 0 ae a w hs (none_all p hs h.1) h.2
 | succ fuel ih=>
  intro ae a w hs hc h
  by_cases hr:Region.ready .any l.toArray ae=[]
  ·exact last (fuel+1) ae a w hs (none_all p hs hr)<|h.1 hr
  ·have hnl:l.length∉Region.ready .any (l++[o]).toArray (ae.push false):=fun hm=>by
    obtain ⟨_,q,h2,h3⟩:=Xg.1 hm
    obtain rfl:o=q:=by simpa using h2
    have EU:=late_all p hc (fun e he hb=>by
     have h1:=p.back l.length e (Nat.le_refl _) (by rw [aft_last];simpa using he) hb
     have h4:=h3 e he hb
     rwa [getD_push false qf] at h4)
    apply hr
    refine List.eq_nil_iff_forall_not_mem.2 fun i hi=>?_
    obtain ⟨h5,q,h6,_⟩:=Xg.1 hi
    have nO:i < l.length:=by have:=(Array.getElem?_eq_some_iff.1 h6).1;simpa using this
    have h7:=EU (l.length - i) i rfl nO
    simp only [Array.getD_eq_getD_getElem?] at h5 h7
    rw [Array.getElem?_eq_getElem qf] at h5 h7
    simp only [Option.getD_some] at h5 h7
    rw [h5] at h7;cases h7
   have hin:∀ i∈Region.ready .any (l++[o]).toArray (ae.push false),i < l.length:=fun i hi=>by
    obtain ⟨_,q,h2,_⟩:=Xg.1 hi
    have nO:i < (l++[o]).length:=by have:=(Array.getElem?_eq_some_iff.1 h2).1;simpa using this
    rw [List.length_append,List.length_singleton] at nO
    by_cases e:i=l.length
    ·subst e;exact absurd hi hnl
    ·omega
   refine ⟨fun h0=>absurd (List.eq_nil_iff_forall_not_mem.2 fun i hi=>?_) hr,fun i hi=>?_⟩
   ·have nO:i < l.length:=by
     obtain ⟨_,q,h2,_⟩:=Xg.1 hi
     have:=(Array.getElem?_eq_some_iff.1 h2).1;simpa using this
    have:=(ready_push hs p nO).2 hi
    rw [h0] at this;cases this
   ·have nO:=hin i hi
    have hi0:=(ready_push hs p nO).1 hi
    have h2:=h.2 i hi0
    obtain ⟨_,q,h3,h4⟩:=Xg.1 hi0
    have h3' :l[i]? =some q:=by simpa using h3
    unfold wpOp at h2 ⊢
    rw [show (l++[o]).toArray[i]? =some q by simp [List.getElem?_append_left nO,h3']]
    rw [h3] at h2
    simp only at h2 ⊢
    have hw:Region.wanted q (yielded (l++[o]).toArray a.tmps)=Region.wanted q (yielded l.toArray a.tmps):=by
     unfold Region.wanted
     split
     ·rfl
     ·rename_i j b hgd
      rw [yield_push<|hg i q j b h3' hgd]
    have hc' :Closed l (ae.setIfInBounds i true):=fun j hj hlj e he hb=>by
     have oj:∀ x,ae.getD x false=true->(ae.setIfInBounds i true).getD x false=true:=fun x hx=>by
      simp only [Array.getD_eq_getD_getElem?,Array.getElem?_setIfInBounds] at hx ⊢
      split
      ·rename_i e;subst e;split <;> simp_all
      ·exact hx
     by_cases hji:j=i
     ·subst hji
      exact oj _<|h4 e (by have he' :=he;unfold aft at he';rw [h3'] at he';simpa using he') hb
     ·refine oj _ (hc j hj ?_ e he hb)
      simp only [Array.getD_eq_getD_getElem?,Array.getElem?_setIfInBounds_ne<|Ne.symm hji] at hlj ⊢
      exact hlj
    have step:∀ a' w',wpAny P .any l.toArray (lateQ P o Q) fuel (ae.setIfInBounds i true) a' w' ->wpAny P .any (l++[o]).toArray Q (fuel+1) ((ae.push false).setIfInBounds i true) a' w' :=fun a' w' h5=>by
     have h6:=ih (ae.setIfInBounds i true) a' w' (by simp [hs]) hc' h5
     have e1:(ae.push false).setIfInBounds i true=(ae.setIfInBounds i true).push false:=by
      apply Array.ext_getElem?
      intro x
      simp only [Array.getElem?_setIfInBounds,Array.getElem?_push,Array.size_push,Array.size_setIfInBounds]
      by_cases hx:i=x
      ·subst hx
       have:i < ae.size:=by omega
       simp [show i < ae.size+1 by omega,this,Nat.ne_of_lt this]
      ·simp [hx]
     rw [e1];exact h6
    rw [hw]
    split
    ·rename_i hwt
     rw [if_pos hwt] at h2
     rcases h2 with h2 | ⟨h2,h5⟩
     ·exact .inl<|Oper.wp_mono step<|wp_late h2
     ·exact .inr ⟨h2,lets_late h5⟩
    ·rename_i hwt
     rw [if_neg hwt] at h2
     exact step _ _ h2
end
theorem wpAnyH_Q {P:Program} {Q Q' :Exit->Act->World->Prop} {S:World->Prop} (hq:∀ e a w,Q' e a w->Q e a w) {fI:Array Oper}:∀ (fuel:Nat) (ae:Array Bool) (a:Act) (w:World),wpAnyH P .any fI Q' S fuel ae a w->wpAnyH P .any fI Q S fuel ae a w
 | 0,_,_,_,h=>⟨h.1,hq _ _ _ h.2⟩
 | fuel+1,ae,a,w,h=>⟨fun h0=>hq _ _ _<|h.1 h0,fun i hi=>by
  have h2:=h.2 i hi
  have h3:=wpOp_mono (fun a' w' (h' :S w' /\_)=>(⟨h'.1,wpAnyH_Q hq fuel (ae.setIfInBounds i true) a' w' h'.2⟩:S w' /\wpAnyH P .any fI Q S fuel (ae.setIfInBounds i true) a' w')) h2
  unfold wpOp at h3 ⊢
  split
  ·simp_all
  ·rename_i q hq2
   rw [hq2] at h3
   simp only at h3
   split
   ·rename_i hw
    rw [if_pos hw] at h3
    rcases h3 with h3 | ⟨h3,a',w',h4⟩
    ·exact .inl (wp_Q (fun _ _ _=>hq _ _ _) (fun _ _=>hq _ _ _) h3)
    ·exact .inr ⟨h3,a',w',hq _ _ _ h4⟩
   ·rename_i hw
    rw [if_neg hw] at h3
    exact h3⟩
def gdOk (l:List Oper):Bool:=l.all fun q=>match q.guard with | some (j,_)=>Nat.blt j l.length | none=>true
@[irreducible] def LL (P : Program) (fI : Array Oper) (os : List Oper) (Q : Exit -> Act -> World -> Prop) (a : Act) (w : World) : Prop := wpList P fI Q os a w
def latesQ (P:Program) (fI:Array Oper) (os:List Oper) (Q:Exit->Act->World->Prop):Exit->Act->World->Prop
 | .normal,a,w=>LL P fI os Q a w
 | e,a,w=>Q e a w
def latesOk (l:List Oper):List Oper->Bool
 | []=>true
 | o::os=>lateOk l o && latesOk (l++[o]) os
theorem wpAny_lates {P:Program} {fI:Array Oper} {Q:Exit->Act->World->Prop}:∀ (os l:List Oper) (_:latesOk l os=true) (_:gdOk l=true) (fuel:Nat) (ae:Array Bool) (a:Act) (w:World) (_:ae.size=l.length) (_:Closed l ae) (_:wpAny P .any l.toArray (latesQ P fI os Q) fuel ae a w),
 wpAny P .any (l++os).toArray Q (fuel+os.length) (ae++Array.replicate os.length false) a w
 | [],l,_,_,fuel,ae,a,w,_,_,h=>by
  have h2:wpAny P .any l.toArray Q fuel ae a w:=wpAny_Q (fun e a w h=>by
   cases e with
   | normal=>have h:LL P fI [] Q a w:=h;unfold LL at h;exact h
   | _=>exact h) _ _ _ _ h
  simpa using h2
 | o::os,l,hk,hg,fuel,ae,a,w,hs,hc,h=>by
  rw [latesOk,Bool.and_eq_true] at hk
  have hgd:=(lateP hk.1).gd
  have h2:wpAny P .any l.toArray (lateQ P o<|latesQ P fI os Q) fuel ae a w:=wpAny_Q (fun e a w h=>by
   cases e with
   | normal=>
    have h:LL P fI (o::os) Q a w:=h
    unfold LL at h
    show LQ _ _ _ _ _
    unfold LQ
    unfold wpList at h
    rw [if_pos<|by simp [Region.wanted,hgd]] at h
    rcases h with h | ⟨h,a',w',h3⟩
    ·refine .inl (wp_Q (fun _ _ _ h=>h) (fun _ _ h=>h)<|Oper.wp_mono (fun a w h=>?_) h)
     show LL _ _ _ _ _ _
     unfold LL;exact h
    ·exact .inr ⟨h,a',w',h3⟩
   | _=>exact h) _ _ _ _ h
  have hg1:∀ (i:Nat) (q:Oper) (j:Nat) (b:Bool),l[i]? =some q->q.guard=some (j,b)->j < l.length:=fun i q j b hi hgd=>by
   have:=List.all_eq_true.1 hg q<|List.mem_of_getElem? hi
   rw [hgd] at this
   exact Nat.le_of_ble_eq_true this
  have h3:=wpAny_late (lateP hk.1) hg1 fuel ae a w hs hc h2
  have hc' :Closed (l++[o]) (ae.push false):=fun i hi hl e he hb=>by
   rw [List.length_append,List.length_singleton] at hi
   by_cases ei:i=l.length
   ·subst ei;rw [← hs] at hl;simp [Array.getD_eq_getD_getElem?] at hl
   ·rw [getD_push false qf] at hl
    rw [aft_left qf] at he
    have h4:=hc i qf hl e he hb
    have h5:e.on < ae.size:=by
     by_cases hx:e.on < ae.size
     ·exact hx
     ·simp [Array.getD_eq_getD_getElem?,Array.getElem?_eq_none<|Nat.le_of_not_lt hx] at h4
    rw [getD_push false h5];exact h4
  have hg' :gdOk (l++[o])=true:=by
   unfold gdOk at hg ⊢
   rw [List.all_eq_true] at hg ⊢
   intro q hq
   rcases List.mem_append.1 hq with hq | hq
   ·have:=hg q hq
    split at this
    ·rename_i j b hj
     have:=Nat.le_of_ble_eq_true this
     exact Nat.ble_eq_true_of_le<|by rw [List.length_append,List.length_singleton];omega
    ·rfl
   ·rw [List.mem_singleton] at hq
    subst hq;rw [hgd]
  have h6:=wpAny_lates os (l++[o]) hk.2 hg' (fuel+1) (ae.push false) a w (by simp [hs]) hc' h3
  have e1:(ae.push false)++Array.replicate os.length false=ae++Array.replicate (o::os).length false:=by
   rw [List.length_cons,show Array.replicate (os.length+1) false=#[false]++Array.replicate os.length false by rw [Nat.add_comm];exact (Array.replicate_append_replicate (n:=1)).symm,← Array.append_assoc]
   rfl
  rw [e1,List.append_assoc] at h6
  rw [List.length_cons,show fuel+(os.length+1)=fuel+1+os.length by omega]
  exact h6
section
variable {P : Program} {Q : Exit -> Act -> World -> Prop} {n : Nat} {ρ : Env} {W0 w : World} {ps : List Prv} {Γ : List Fact} {l : List Oper}
def yE {α:Type}:List α->List α
 | []=>[]
 | [_]=>[]
 | a::b::l=>a::yE (b::l)
def jR {α:Type}:Nat->List α->List α
 | 0,l=>l
 | k+1,l=>yE<|jR k l
theorem c_late [Dfr] {L os:List Oper} {l:List Oper} (S:World->Prop) (hm:P.follows .mixedOrders=true) (hS:S w.drew)
 (h:RW P l (latesQ P L.toArray os Q) S n l.toArray.size (Array.replicate l.toArray.size false) ρ w.drew) (hL:L=l++os) (hk:latesOk l os=true) (hg:gdOk l=true):(Code.region id L.toArray true).wp P Q (mk n ρ) w:=by
 refine wp_region_any hm ?_
 unfold RW at h
 have h1:=wpAny_lates os l hk hg _ (Array.replicate l.toArray.size false) _ _ qm (fun i hi hl=>by simp [Array.getD_eq_getD_getElem?,hi] at hl)<|wpAny_of_held _ _ _ _ h
 rw [Array.replicate_append_replicate,← hL] at h1
 have e2:L.toArray.size=l.toArray.size+os.length:=by
  have:=congrArg List.length hL
  simpa using this
 rw [e2]
 exact h1
theorem zY [Dfr] {id:Nat} {L os:List Oper} (k:Nat) (hm:P.follows .mixedOrders=true) (H:St W0 w ps Γ) (is js:yLN)
 (kk:St W0 w.drew ps Γ->RW P (jR k L) (latesQ P L.toArray os Q) (fun w=>St W0 w (is.filterMap fun i=>ps[i]?)<|js.filterMap fun i=>Γ[i]?) n (jR k L).toArray.size (Array.replicate (jR k L).toArray.size false) ρ w.drew)
 (hL:L=jR k L++os:=by exact rfl) (hk:latesOk (jR k L) os=true:=by kernel_rfl) (hg:gdOk (jR k L)=true:=by kernel_rfl)
 (hi:is.all (fun i=>Nat.blt i ps.length)=true:=by simp) (hj:js.all (fun i=>Nat.blt i Γ.length)=true:=by simp) (hd:is.Nodup:=by decide):(Code.region id L.toArray true).wp P Q (mk n ρ) w:=by
 have H' :=H.ext<|ext_drew _
 exact c_late (fun w=>St W0 w (is.filterMap fun i=>ps[i]?)<|js.filterMap fun i=>Γ[i]?) hm (H'.pick is js (XM ps is hi) (XM Γ js hj) hd) (kk H') hL hk hg
theorem c_lateC [Dfr] {id:Nat} {L os:List Oper} (k:Nat) (A:Env->World->Prop) (hm:P.follows .mixedOrders=true) (H:St W0 w ps Γ) (is js:yLN)
 (kk:St W0 w.drew ps Γ->RW P (jR k L) (Meet A n) (fun w=>St W0 w (is.filterMap fun i=>ps[i]?)<|js.filterMap fun i=>Γ[i]?) n (jR k L).toArray.size (Array.replicate (jR k L).toArray.size false) ρ w.drew)
 (h2:∀ ρ w,A ρ w->WL P L.toArray Q n os ρ w)
 (hL:L=jR k L++os:=by exact rfl) (hk:latesOk (jR k L) os=true:=by kernel_rfl) (hg:gdOk (jR k L)=true:=by kernel_rfl)
 (hi:is.all (fun i=>Nat.blt i ps.length)=true:=by simp) (hj:js.all (fun i=>Nat.blt i Γ.length)=true:=by simp) (hd:is.Nodup:=by decide):(Code.region id L.toArray true).wp P Q (mk n ρ) w:=by
 have H' :=H.ext<|ext_drew _
 have h:=kk H'
 refine c_late (fun w=>St W0 w (is.filterMap fun i=>ps[i]?)<|js.filterMap fun i=>Γ[i]?) hm (H'.pick is js (XM ps is hi) (XM Γ js hj) hd) ?_ hL hk hg
 unfold RW at h ⊢
 refine wpAnyH_Q (fun e a w h=>?_) _ _ _ _ h
 cases e with
 | normal=>
  obtain ⟨ρ,rfl,hA⟩:=h
  show LL _ _ _ _ _ _
  unfold LL
  exact (h2 ρ w hA).out
 | exit _=>exact h.elim
 | goto _=>exact h.elim
 | ret=>exact h.elim
 | panic _=>exact h.elim
 | outgrown=>exact h.elim
theorem xM [Dfr] {fI:Array Oper} {os:List Oper} (h:WL P fI Q n os ρ w):latesQ P fI os Q .normal (mk n ρ) w:=by
 show LL _ _ _ _ _ _
 unfold LL
 exact h.out
end
end
end Go.Proofs.YtghikkinnchndaaGreat
