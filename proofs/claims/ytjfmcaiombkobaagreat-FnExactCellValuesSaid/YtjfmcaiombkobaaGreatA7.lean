/- Walks and laws, printed by program and by hand: what each function comes to, for all arguments, part 7. -/
import Derived.Test.YtjfmcaiombkobaaGreatA6
import Derived.Shelf.SortG.Plain
import Derived.Shelf.SortG.SortNone
import Derived.Ground.SlgnProg
import Derived.Shelf.SlicesG.CompactI
import Derived.Test.YtjfmcaiombkobaaGreatRows
import Derived.ProofKit
import Derived.OpenShut
import Derived.Carry
import Derived.BigQuiet
import Derived.Lib.SmallJoins
namespace Go.Proofs.YtjfmcaiombkobaaGreat
open Go.Proofs.Tryz
set_option linter.unusedVariables false
set_option linter.unusedSimpArgs false
set_option maxRecDepth 100000
set_option maxHeartbeats 4000000
open Go.RowKit
open Go.Proofs.Tryz
open Go.Proofs.YtjfmcaiombkobaaGreat.Tot (tot)
open Go.Proofs.YtjfmcaiombkobaaGreat.Mark (cnt mrk mkd mkd_mark cnt_mark)
variable {FpOrders Fregs:yLN} {L:List qH} {P:Program} {a apOrders aregs:yOA} {b0 c i k m nn:Nat} {cs:List Value} {cur:Array Value} {d:Array Int} {e t:TypeId} {held:Bool} {l:yLI} {n:Int} {s:qG} {v:Value} {w:World}
section
open Go.RowKit Go.Shelf Go.Lib Go.Sort
def sortI (l:yLI):yLI:=l.mergeSort fun x y=>decide (x<=y)
theorem sortI_perm (l:yLI):(sortI l).Perm l:=List.mergeSort_perm _ _
theorem sortI_len (l:yLI):(sortI l).length=l.length:=(sortI_perm l).length_eq
section
variable {W0 w : World} {ps : List Prv} {Γ : List Fact}
theorem sw_blockI {α:Type} [Inhabited α] {enc:α->Value} {blk:Nat} {d:Array α} {os:Array Obj} (hk:k < w.heap.size) (hne:k≠blk):(grow (putRow enc (Sort.ahead w m) blk 0 d) os).heap[k]? =w.heap[k]? :=by
 unfold putRow mapBlock grow
 show ((Sort.ahead w m).heap.modify blk _++os)[k]? =_
 have hs:((Sort.ahead w m).heap.modify blk (onCells (putCells enc 0 d))).size=w.heap.size:=by rw [Array.size_modify];rfl
 rw [Array.getElem?_append_left (by rw [hs];exact hk),Array.getElem?_modify,if_neg (Ne.symm hne)]
 rfl
theorem sw_rowI {α:Type} [Inhabited α] {enc:α->Value} {blk:Nat} {d:Array α} {os:Array Obj} (h:w.heap[blk]? =some (.cells cur e (0,0))):(grow (putRow enc (Sort.ahead w m) blk 0 d) os).heap[blk]? =some (.cells (putCells enc 0 d cur) e (0,0)):=by
 have hk:blk < w.heap.size:=(Array.getElem?_eq_some_iff.1 h).1
 unfold putRow mapBlock grow
 show ((Sort.ahead w m).heap.modify blk _++os)[blk]? =_
 have hs:((Sort.ahead w m).heap.modify blk (onCells (putCells enc 0 d))).size=w.heap.size:=by rw [Array.size_modify];rfl
 rw [Array.getElem?_append_left (by rw [hs];exact hk),Array.getElem?_modify,if_pos rfl]
 show (w.heap[blk]?).map _=_
 rw [h]
 rfl
theorem sortRowS {ρ:Ren} (L:SlLaysN.n53 P ρ) (H:St W0 w ps Γ) (k:Nat) {b:Nat} (hp:ps[k]? =some (.row (Sv (some ⟨b,0,none⟩) nn c) e 1 nn (l.map (Value.int .i64)))) (hsz:l.length < 4611686018427387904):
 Calls P (ρ.f 53) #[Sv (some ⟨b,0,none⟩) nn c] w fun e' w' =>∃ v,e' =.returned v/\v=.tuple #[]∧
  St W0 w' (ps.set k (.row (Sv (some ⟨b,0,none⟩) nn c) e 1 nn ((sortI l).map (Value.int .i64)))) Γ:=by
 have ho:=(H.has _ (List.mem_of_getElem? hp):w.ownsRow W0.heap.size e 1 _ nn (l.map (Value.int .i64)))
 have hnn:nn=l.length:=by have:=ho.1;simp at this;omega
 subst hnn
 obtain ⟨hl,h | ⟨g',cap,cur,hv,hB,hg,hn,hm,hcs,ht⟩⟩:=ho
 ·simp at h
 simp only [Value.slice.injEq,Option.some.injEq,Addr.mk.injEq,and_true] at hv
 obtain ⟨rfl,_,rfl⟩:=hv
 have hcx:∀ i,i < l.length->cur[i]? =some (.int .i64 (l[i]!)):=fun i hi=>by
  have h1:(l.map (Value.int .i64))[i]? =some (.int .i64 (l[i]!)):=by
   rw [List.getElem?_map,List.getElem?_eq_getElem hi,getElem!_pos l i hi];rfl
  rw [← ht,List.getElem?_take,if_pos qf] at h1
  simpa using h1
 have hH:Holds (Value.int .i64) w b 0 l.toArray:=fun i hi=>by
  have hi' :i < l.length:=by simpa using hi
  have e1:l.toArray[i]! =l[i]! :=by rw [getElem!_pos l.toArray i hi,getElem!_pos l i hi'];simp
  rw [e1,Nat.zero_add]
  constructor
  ·rw [World.cell?,hg];exact hcx i hi'
  ·rw [World.frozen?,hg];simp
 have hblk:b < w.heap.size:=(Array.getElem?_eq_some_iff.1 hg).1
 refine (AnyG.slices_Sort_int L b 0 c l w hH hblk hsz).mono fun e' w' ⟨he,n,os,hw⟩=>⟨_,he,rfl,?_⟩
 subst hw
 have sl:(sortI l).length=l.length:=sortI_len l
 have hown:(grow (putRow (Value.int .i64) (Sort.ahead w n) b 0 (sortI l).toArray) os).ownsRow W0.heap.size e 1 (Sv (some ⟨b,0,none⟩) l.length c) l.length ((sortI l).map (Value.int .i64)):=by
  refine ⟨by simp [sl],Or.inr ⟨b,c,putCells (Value.int .i64) 0 (sortI l).toArray cur,rfl,hB,sw_rowI hg,hn,hm,by unfold putCells;rw [Array.size_mapIdx];exact hcs,?_⟩⟩
  rw [Nat.mul_one]
  refine List.ext_getElem? fun q=>?_
  rw [List.getElem?_take]
  split
  ·next hq=>
   rw [Array.getElem?_toList]
   unfold putCells
   rw [Array.getElem?_mapIdx,hcx q hq,List.getElem?_map,List.getElem?_eq_getElem qf]
   simp only [Option.map_some,Nat.zero_le,true_and,Nat.zero_add,List.size_toArray,sl,if_pos hq,Nat.sub_zero]
   rw [getElem!_pos (sortI l).toArray q qy]
   simp
  ·next hq=>rw [List.getElem?_eq_none qy]
 have hsize:w.heap.size<=(grow (putRow (Value.int .i64) (Sort.ahead w n) b 0 (sortI l).toArray) os).heap.size:=by
  unfold putRow mapBlock grow
  show _<=((Sort.ahead w n).heap.modify b _++os).size
  rw [Array.size_append,Array.size_modify]
  exact Nat.le_add_right _ _
 exact H.change k hp (p' :=.row (Sv (some ⟨b,0,none⟩) l.length c) e 1 l.length ((sortI l).map (Value.int .i64))) rfl rfl rfl hsize (fun i hi hne=>sw_blockI hi (fun e2=>hne (by subst e2;rfl))) hown (Or.inl rfl)
theorem set_sameI {α:Type} {l:List α} {x:α} (h:l[k]? =some x):l.set k x=l:=by
 refine List.ext_getElem? fun i=>?_
 by_cases e:k=i
 ·subst e
  have hk:k < l.length:=(List.getElem?_eq_some_iff.1 h).1
  rw [List.getElem?_set_self hk,h]
 ·rw [List.getElem?_set_ne e]
theorem sortRowI {ρ:Ren} (L:SlLaysN.n53 P ρ) (H:St W0 w ps Γ) (k:Nat) (hp:ps[k]? =some (.row (Sv a nn c) e 1 nn (l.map (Value.int .i64)))) (hsz:l.length < 4611686018427387904):
 Calls P (ρ.f 53) #[Sv a nn c] w fun e' w' =>∃ v,e' =.returned v/\v=.tuple #[]∧
  St W0 w' (ps.set k (.row (Sv a nn c) e 1 nn ((sortI l).map (Value.int .i64)))) Γ:=by
 have ho:=(H.has _ (List.mem_of_getElem? hp):w.ownsRow W0.heap.size e 1 _ nn (l.map (Value.int .i64)))
 have hnn:nn=l.length:=by have:=ho.1;simp at this;omega
 subst hnn
 by_cases h0:l.length=0
 ·obtain rfl:=List.eq_nil_of_length_eq_zero h0
  refine (AnyG.slices_Sort_int_none L a c w).mono fun e' w' ⟨he,hw⟩=>⟨_,he,rfl,?_⟩
  subst hw
  have:sortI []=[]:=by simp [sortI]
  rw [this,set_sameI hp]
  exact H
 ·obtain ⟨hl,⟨h,_⟩ | ⟨g',cap,cur,hv,_⟩⟩:=ho
  ·simp only [Value.slice.injEq] at h
   exact absurd h.2.1 h0
  ·simp only [Value.slice.injEq] at hv
   obtain ⟨rfl,_,_⟩:=hv
   exact sortRowS L H k hp hsz
end
def compI (l:yLI):yLI:=Lib.compact l
theorem compUpTo_le (d:Array Int):∀ m,(compactUpTo d m).length<=m
 | 0=>by simp [compactUpTo]
 | m+1=>by
  have:=compUpTo_le d m
  rw [compactUpTo_succ,List.length_append]
  split <;> simp <;> omega
theorem compI_len (l:yLI):(compI l).length<=l.length:=compUpTo_le _ _
section
variable {W0 w : World} {ps : List Prv} {Γ : List Fact}
theorem pc_blockI {enc:Int->Value} {blk:Nat} (hne:k≠blk):(putRow enc (Sort.ahead w m) blk 0 d).heap[k]? =w.heap[k]? :=by
 unfold putRow mapBlock
 show ((Sort.ahead w m).heap.modify blk _)[k]? =_
 rw [Array.getElem?_modify,if_neg (Ne.symm hne)]
 rfl
theorem pc_rowI {enc:Int->Value} {blk:Nat} (h:w.heap[blk]? =some (.cells cur e (0,0))):(putRow enc (Sort.ahead w m) blk 0 d).heap[blk]? =some (.cells (putCells enc 0 d cur) e (0,0)):=by
 unfold putRow mapBlock
 show ((Sort.ahead w m).heap.modify blk _)[blk]? =_
 rw [Array.getElem?_modify,if_pos rfl]
 show (w.heap[blk]?).map _=_
 rw [h]
 rfl
theorem compRowI {ρ:Ren} (L:SlLaysN.n43 P ρ) (H:St W0 w ps Γ) (k:Nat) (hp:ps[k]? =some (.row (Sv a nn c) e 1 nn (l.map (Value.int .i64)))):
 Calls P (ρ.f 43) #[Sv a nn c] w fun e' w' =>∃ v,e' =.returned v/\v=Sv a (compI l).length c∧
  St W0 w' (ps.set k (.row (Sv a (compI l).length c) e 1 (compI l).length ((compI l).map (Value.int .i64)))) Γ:=by
 have ho:=(H.has _ (List.mem_of_getElem? hp):w.ownsRow W0.heap.size e 1 _ nn (l.map (Value.int .i64)))
 have hnn:nn=l.length:=by have:=ho.1;simp at this;omega
 subst hnn
 by_cases h0:l.length=0
 ·obtain rfl:=List.eq_nil_of_length_eq_zero h0
  refine (AnyG.slices_Compact_int_empty L a c w).mono fun e' w' ⟨he,hw⟩=>⟨_,he,rfl,?_⟩
  subst hw
  have e0:compI []=[]:=by simp [compI,Lib.compact,compactUpTo]
  rw [e0,set_sameI (by exact hp)]
  exact H
 obtain ⟨hl,⟨h,_⟩ | ⟨b,cap,cur,hv,hB,hg,hn,hm,hcs,ht⟩⟩:=ho
 ·simp only [Value.slice.injEq] at h
  exact absurd h.2.1 h0
 simp only [Value.slice.injEq] at hv
 obtain ⟨rfl,_,rfl⟩:=hv
 have hcx:∀ i,i < l.length->cur[i]? =some (.int .i64 (l[i]!)):=fun i hi=>by
  have h1:(l.map (Value.int .i64))[i]? =some (.int .i64 (l[i]!)):=by
   rw [List.getElem?_map,List.getElem?_eq_getElem hi,getElem!_pos l i hi];rfl
  rw [← ht,List.getElem?_take,if_pos qf] at h1
  simpa using h1
 have hH:Holds (Value.int .i64) w b 0 l.toArray:=fun i hi=>by
  have hi' :i < l.length:=by simpa using hi
  have e1:l.toArray[i]! =l[i]! :=by rw [getElem!_pos l.toArray i hi,getElem!_pos l i hi'];simp
  rw [e1,Nat.zero_add]
  constructor
  ·rw [World.cell?,hg];exact hcx i hi'
  ·rw [World.frozen?,hg];simp
 have cl:=compI_len l
 have hcl:cur.size=c:=by simpa using hcs
 unfold maxLen at hm
 refine (AnyG.slices_Compact_int L b 0 c l w hH qf qf).mono fun e' w' ⟨he,q,hw⟩=>⟨_,he,rfl,?_⟩
 subst hw
 show St W0 (putRow (Value.int .i64) (Sort.ahead w q) b 0 (compI l++List.replicate (l.length - (compI l).length) 0).toArray) _ _
 have hown:(putRow (Value.int .i64) (Sort.ahead w q) b 0 (compI l++List.replicate (l.length - (compI l).length) 0).toArray).ownsRow W0.heap.size e 1 (Sv (some ⟨b,0,none⟩) (compI l).length c) (compI l).length ((compI l).map (Value.int .i64)):=by
  refine ⟨by simp,Or.inr ⟨b,c,putCells (Value.int .i64) 0 (compI l++List.replicate (l.length - (compI l).length) 0).toArray cur,rfl,hB,pc_rowI hg,by omega,by unfold maxLen;omega,by unfold putCells;rw [Array.size_mapIdx];exact hcs,?_⟩⟩
  rw [Nat.mul_one]
  refine List.ext_getElem? fun i=>?_
  rw [List.getElem?_take]
  split
  ·next hq=>
   rw [Array.getElem?_toList]
   unfold putCells
   rw [Array.getElem?_mapIdx,hcx i qf,List.getElem?_map,List.getElem?_eq_getElem hq]
   have hsz:(compI l++List.replicate (l.length - (compI l).length) (0:Int)).length=l.length:=by rw [List.length_append,List.length_replicate];omega
   simp only [Option.map_some,Nat.zero_le,true_and,Nat.zero_add,List.size_toArray,hsz,if_pos (show i < l.length by omega),Nat.sub_zero]
   rw [getElem!_pos _ i qy]
   simp [hq]
  ·next hq=>rw [List.getElem?_eq_none qy]
 have hsize:w.heap.size<=(putRow (Value.int .i64) (Sort.ahead w q) b 0 (compI l++List.replicate (l.length - (compI l).length) 0).toArray).heap.size:=by
  unfold putRow mapBlock
  show _<=((Sort.ahead w q).heap.modify b _).size
  rw [Array.size_modify]
  exact Nat.le_refl _
 exact H.change k hp (p' :=.row (Sv (some ⟨b,0,none⟩) (compI l).length c) e 1 (compI l).length ((compI l).map (Value.int .i64))) rfl rfl rfl hsize (fun i hi hne=>pc_blockI (fun e2=>hne (by subst e2;rfl))) hown (Or.inl rfl)
end
def putL (n:Int):yLI->yLI
 | []=>[n]
 | x::l=>if x < n then x::putL n l else if x=n then x::l else n::x::l
theorem mem_putL {n x:Int}:∀ {l:yLI},x∈putL n l<->x=n\/x∈l
 | []=>by simp [putL]
 | y::l=>by
  rw [putL]
  split
  ·rw [List.mem_cons,mem_putL,List.mem_cons]
   constructor
   ·rintro (h | h | h)
    ·exact .inr (.inl h)
    ·exact .inl h
    ·exact .inr (.inr h)
   ·rintro (h | h | h)
    ·exact .inr (.inl h)
    ·exact .inl h
    ·exact .inr (.inr h)
  ·split
   ·rename_i e
    subst e
    rw [List.mem_cons]
    constructor
    ·exact .inr
    ·rintro (h | h)
     ·exact .inl h
     ·exact h
   ·rw [List.mem_cons]
theorem putL_len (n:Int):∀ l:yLI,(putL n l).length<=l.length+1
 | []=>by simp [putL]
 | x::l=>by
  rw [putL]
  have:=putL_len n l
  split
  ·simp only [List.length_cons];omega
  ·split <;> simp
theorem putL_asc {n:Int}:∀ {l:yLI},l.Pairwise (· < ·)->(putL n l).Pairwise (· < ·)
 | [],_=>by simp [putL]
 | x::l,h=>by
  have h1:=List.pairwise_cons.1 h
  rw [putL]
  split
  ·rename_i hx
   refine List.pairwise_cons.2 ⟨fun y hy=>?_,putL_asc h1.2⟩
   rcases mem_putL.1 hy with rfl | hy
   ·exact hx
   ·exact h1.1 y hy
  ·split
   ·exact h
   ·refine List.pairwise_cons.2 ⟨fun y hy=>?_,h⟩
    rcases List.mem_cons.1 hy with rfl | hy
    ·omega
    ·have:=h1.1 y hy;omega
def XF (row:yLI):yLI:=row.foldl (fun acc x=>putL x acc) []
theorem putAll_snoc (row:yLI) (x:Int):XF (row++[x])=putL x (XF row):=by simp [XF]
theorem putAll_len (row:yLI):(XF row).length<=row.length:=by
 have key:∀ (row acc:yLI),(row.foldl (fun acc x=>putL x acc) acc).length<=acc.length+row.length:=by
  intro row
  induction row with
  | nil=>intro acc;simp
  | cons x row ih=>intro acc;have h1:=ih (putL x acc);have h2:=putL_len x acc;simp only [List.foldl_cons,List.length_cons];omega
 have:=key row []
 simpa [XF] using this
theorem putAll_all (row:yLI):(XF row).Pairwise (· < ·)/\∀ x,x∈XF row<->x∈row:=by
 have key:∀ (row acc:yLI),acc.Pairwise (· < ·)->(row.foldl (fun acc x=>putL x acc) acc).Pairwise (· < ·)/\∀ x,x∈row.foldl (fun acc x=>putL x acc) acc<->x∈row\/x∈acc:=by
  intro row
  induction row with
  | nil=>intro acc h;exact ⟨h,by simp⟩
  | cons x row ih=>
   intro acc h
   obtain ⟨h1,h2⟩:=ih (putL x acc) (putL_asc h)
   refine ⟨h1,fun y=>?_⟩
   rw [List.foldl_cons,h2 y,mem_putL,List.mem_cons]
   constructor
   ·rintro (h | h | h)
    ·exact .inl (.inr h)
    ·exact .inl (.inl h)
    ·exact .inr h
   ·rintro ((h | h) | h)
    ·exact .inr (.inl h)
    ·exact .inl h
    ·exact .inr (.inr h)
 obtain ⟨h1,h2⟩:=key row [] List.Pairwise.nil
 exact ⟨h1,fun x=>(h2 x).trans qm⟩
theorem asc_eq:∀ {l m:yLI},l.Pairwise (· < ·)->m.Pairwise (· < ·)->(∀ x,x∈l<->x∈m)->l=m
 | [],[],_,_,_=>rfl
 | [],y::m,_,_,h=>by have:=(h y).2 qm;simp at this
 | x::l,[],_,_,h=>by have:=(h x).1 qm;simp at this
 | x::l,y::m,hl,hm,h=>by
  have h1:=List.pairwise_cons.1 hl
  have h2:=List.pairwise_cons.1 hm
  have e:x=y:=by
   rcases List.mem_cons.1 ((h x).1 qm) with e | hx
   ·exact e
   ·rcases List.mem_cons.1 ((h y).2 qm) with e | hy
    ·exact e.symm
    ·have:=h2.1 x hx;have:=h1.1 y hy;omega
  subst e
  rw [asc_eq h1.2 h2.2 fun z=>⟨fun hz=>by
   rcases List.mem_cons.1 ((h z).1 (List.mem_cons_of_mem _ hz)) with e | h3
   ·have:=h1.1 z hz;omega
   ·exact h3,fun hz=>by
   rcases List.mem_cons.1 ((h z).2 (List.mem_cons_of_mem _ hz)) with e | h3
   ·have:=h2.1 z hz;omega
   ·exact h3⟩]
theorem comp_all {d:Array Int} (hd:∀ i j,i<=j->j < d.size->d[i]! <=d[j]!):∀ m,m<=d.size->(compactUpTo d m).Pairwise (· < ·)/\∀ x,x∈compactUpTo d m<->∃ j,j < m/\d[j]! =x
 | 0,_=>by simp [compactUpTo]
 | m+1,hm=>by
  obtain ⟨h1,h2⟩:=comp_all hd m qf
  rw [compactUpTo_succ]
  by_cases hk:keeps d m=true
  ·rw [if_pos hk]
   refine ⟨List.pairwise_append.2 ⟨h1,by simp,fun x hx y hy=>?_⟩,fun x=>?_⟩
   ·obtain rfl:=List.mem_singleton.1 hy
    obtain ⟨j,hj,rfl⟩:=(h2 x).1 hx
    have h3:=hd j (m - 1) qf qf
    have h4:=hd (m - 1) m qf qf
    have h5:d[m]! ≠d[m - 1]! :=fun e=>by have:=keeps_neg (d:=d) (m:=m) qf e;rw [this] at hk;cases hk
    omega
   ·rw [List.mem_append,List.mem_singleton,h2]
    constructor
    ·rintro (⟨j,hj,e⟩ | e)
     ·exact ⟨j,by omega,e⟩
     ·exact ⟨m,by omega,e.symm⟩
    ·rintro ⟨j,hj,e⟩
     by_cases ej:j=m
     ·subst ej;exact .inr e.symm
     ·exact .inl ⟨j,by omega,e⟩
  ·rw [if_neg hk,List.append_nil]
   refine ⟨h1,fun x=>?_⟩
   rw [h2]
   have hm0:0 < m:=by
    rcases Nat.eq_zero_or_pos m with e | e
    ·subst e;exact absurd (keeps_lt_one d 0 qf) hk
    ·exact e
   have he:d[m]! =d[m - 1]! :=Classical.byContradiction fun h=>hk (keeps_pos h)
   constructor
   ·rintro ⟨j,hj,e⟩;exact ⟨j,by omega,e⟩
   ·rintro ⟨j,hj,e⟩
    by_cases ej:j=m
    ·subst ej;exact ⟨j - 1,by omega,he▸e⟩
    ·exact ⟨j,by omega,e⟩
theorem sorted_get (l:yLI):∀ i j,i<=j->j < (sortI l).toArray.size->(sortI l).toArray[i]! <=(sortI l).toArray[j]! :=fun i j hij hj=>by
 have hs:(sortI l).Pairwise fun x y=>decide (x<=y)=true:=List.pairwise_mergeSort (fun a b c h1 h2=>by simp at *;omega) (fun a b=>by simp;omega) l
 rw [List.size_toArray] at hj
 rw [getElem!_pos _ i qy,getElem!_pos _ j qy]
 simp only [List.getElem_toArray]
 by_cases e:i=j
 ·subst e;exact Int.le_refl _
 ·have:=(List.pairwise_iff_getElem.1 hs) i j qf hj qf
  exact of_decide_eq_true this
theorem comp_sort (l:yLI):compI (sortI l)=XF l:=by
 have h1:=comp_all (sorted_get l) (sortI l).toArray.size (Nat.le_refl _)
 have h2:=putAll_all l
 unfold compI Lib.compact
 rw [List.size_toArray] at h1
 refine asc_eq h1.1 h2.1 fun x=>?_
 rw [h1.2,h2.2,← (sortI_perm l).mem_iff]
 constructor
 ·rintro ⟨j,hj,rfl⟩
  rw [getElem!_pos _ j (by simpa using hj)]
  simp
 ·intro hx
  obtain ⟨j,hj,rfl⟩:=List.getElem_of_mem hx
  exact ⟨j,hj,by rw [getElem!_pos _ j (by simpa using hj)];simp⟩
theorem compSortRow {W0:World} {ps:List Prv} {Γ:List Fact} {ρ:Ren} (L:SlLaysN.n43 P ρ) (H:St W0 w ps Γ) (k:Nat) (hp:ps[k]? =some (.row (Sv a nn c) e 1 nn ((sortI l).map (Value.int .i64)))):
 Calls P (ρ.f 43) #[Sv a nn c] w fun e' w' =>∃ v,e' =.returned v/\v=Sv a (XF l).length c∧
  St W0 w' (ps.set k (.row (Sv a (XF l).length c) e 1 (XF l).length ((XF l).map (Value.int .i64)))) Γ:=by
 have h:=compRowI L H k hp
 rw [comp_sort] at h
 exact h
end
section
instance:CntTot Q8:=⟨fun x=>by rw [cnt_OrderD];omega⟩
def valsTo (L:List qH) (k:Nat):yLI:=(L.take k).map fun u=>(u.qP[0]!)[0]!
theorem vals_len (L:List qH) (k:Nat):(valsTo L k).length<=L.length:=by unfold valsTo;rw [List.length_map,List.length_take];omega
theorem vals_next (h:k < L.length):valsTo L k++[((L[k]!).qP[0]!)[0]!]=valsTo L (k+1):=map_snoc! (f:=fun u:qH=>(u.qP[0]!)[0]!) h
theorem vals_put (h:k < L.length):putL ((L[k]!).qP[0]!)[0]! (XF (valsTo L k))=XF (valsTo L (k+1)):=by rw [← vals_next h,putAll_snoc]
section
variable (p : zF) (mode : Int) (regs : yLI)
open Classical in
noncomputable def yf:yLI×Int:=
 if mdCode p mode (vk p.qA regs)=0 then (if (yc (zC p mode) (zq p mode ⟨0,regs⟩)).2=0 then (XF (valsTo (yc (zC p mode) (zq p mode ⟨0,regs⟩)).1 (yc (zC p mode) (zq p mode ⟨0,regs⟩)).1.length),0) else ([],(yc (zC p mode) (zq p mode ⟨0,regs⟩)).2)) else ([],mdCode p mode (vk p.qA regs))
end
section
variable {p : zF} {mode : Int} {regs : yLI}
theorem cv_1 (h:¬ yw p):yf p mode regs=([],1):=by unfold yf;rw [md_1 h,if_neg qj]
theorem cv_2 (h:yw p) (h2:¬ (PMode mode/\vk p.qA regs)):yf p mode regs=([],2):=by unfold yf;rw [md_2 h h2,if_neg qj]
theorem cv_3 (h:yw p) (h2:PMode mode) (h3:vk p.qA regs) (h4:8 < qQ p mode\/8 < (jO p mode).length):yf p mode regs=([],3):=by unfold yf;rw [md_3 h h2 h3 h4,if_neg qj]
theorem cv_c (h:yw p) (h2:PMode mode) (h3:vk p.qA regs) (h4:qQ p mode<=8) (h5:(jO p mode).length<=8) (h6:(yc (zC p mode) (zq p mode ⟨0,regs⟩)).2≠0):yf p mode regs=([],(yc (zC p mode) (zq p mode ⟨0,regs⟩)).2):=by
 unfold yf;rw [md_0 h h2 h3 h4 h5,if_pos rfl,if_neg h6]
theorem cv_0 (h:yw p) (h2:PMode mode) (h3:vk p.qA regs) (h4:qQ p mode<=8) (h5:(jO p mode).length<=8) (h6:(yc (zC p mode) (zq p mode ⟨0,regs⟩)).2=0) (hi:i=(yc (zC p mode) (zq p mode ⟨0,regs⟩)).1.length):yf p mode regs=(XF (valsTo (yc (zC p mode) (zq p mode ⟨0,regs⟩)).1 i),0):=by
 subst hi
 unfold yf;rw [md_0 h h2 h3 h4 h5,if_pos rfl,if_pos h6]
end
theorem hsq_code {t:qH}:(yc s t).2=(exRes s t).2:=by
 by_cases h:(exRes s t).2=0
 ·rw [hs_0 h];exact h.symm
 ·rw [hs_c h]
theorem hsq_ok {t:qH} (h:(yc s t).2=0):(∀ u∈(yc s t).1,zV s u)/\(yc s t).1.length<=300/\(exRes s t).2=0:=by
 rw [hsq_code] at h
 have ga:=ex_all h
 rw [hs_0 h]
 exact ⟨fun u hu=>ga.st u (List.mem_of_mem_take (List.mem_filter.1 hu).1),Nat.le_trans (ends_len ..) ga.le,h⟩
theorem hs_bags {t:qH} (h:(yc s t).2=0):(yc s t).1.length<=300/\∀ k,k < (yc s t).1.length->1<=((yc s t).1[k]!).qP.length/\1<=(((yc s t).1[k]!).qP[0]!).length:=by
 obtain ⟨h1,h2,h3⟩:=hsq_ok h
 have hs:=(ex_valid h3).1
 refine ⟨h2,fun k hk=>?_⟩
 have hu:=h1 _ (mem_at (k:=k) hk rfl)
 have hl:=hu.2.1
 have hp:=hs.1.2.1
 have h0:=(hu.2.2.2.2 0 qf).1.1.2
 omega
theorem few_cv (p:zF) (mode:Int) (regs:yLI):cnt (yf p mode regs).1<=300:=by
 have key:(yf p mode regs).1.length<=300:=by
  unfold yf
  split
  ·split
   ·rename_i h
    have h1:=putAll_len (valsTo (yc (zC p mode) (zq p mode ⟨0,regs⟩)).1 (yc (zC p mode) (zq p mode ⟨0,regs⟩)).1.length)
    have h2:=vals_len (yc (zC p mode) (zq p mode ⟨0,regs⟩)).1 (yc (zC p mode) (zq p mode ⟨0,regs⟩)).1.length
    have h3:=(hs_bags h).1
    show (XF _).length<=300
    omega
   ·exact Nat.zero_le _
  ·exact Nat.zero_le _
 rw [cnt_ints];exact key
end
section
def PutTo (n:Int) (l out:yLI) (done:Bool) (i:Nat):Prop:=out.length<=i+(if done=true then 1 else 0)/\(if done=true then out++l.drop i else out++putL n (l.drop i))=putL n l
theorem drop_at (h:i < l.length):l.drop i=l[i]! :: l.drop (i+1):=by
 rw [getElem!_pos l i h];exact List.drop_eq_getElem_cons h
theorem PutTo.zero (n:Int) (l:yLI):PutTo n l [] false 0:=⟨by simp,by simp⟩
theorem PutTo.on {out:yLI} {done:Bool} (h:PutTo n l out done i) (hd:done=true) (hi:i < l.length):PutTo n l (out++[l[i]!]) done (i+1):=by
 subst hd
 have h1:=h.1
 have h2:=h.2
 rw [if_pos rfl] at h1 h2
 refine ⟨by rw [if_pos rfl];simp;omega,?_⟩
 rw [if_pos rfl,← h2,drop_at hi,List.append_assoc];rfl
theorem PutTo.less {out:yLI} {done:Bool} (h:PutTo n l out done i) (hd:done=false) (hi:i < l.length) (h3:¬ l[i]! >=n):PutTo n l (out++[l[i]!]) done (i+1):=by
 subst hd
 have h1:=h.1
 have h2:=h.2
 rw [if_neg qj] at h1 h2
 refine ⟨by rw [if_neg qj];simp;omega,?_⟩
 rw [if_neg qj,← h2,drop_at hi,putL,if_pos qf,List.append_assoc];rfl
theorem PutTo.same {out:yLI} {done:Bool} (h:PutTo n l out done i) (hd:done=false) (hi:i < l.length) (h3:l[i]! >=n) (h4:¬ l[i]! > n):PutTo n l (out++[l[i]!]) true (i+1):=by
 subst hd
 have h1:=h.1
 have h2:=h.2
 rw [if_neg qj] at h1 h2
 refine ⟨by rw [if_pos rfl];simp;omega,?_⟩
 rw [if_pos rfl,← h2,drop_at hi,putL,if_neg qf,if_pos qf,List.append_assoc];rfl
theorem PutTo.more {out:yLI} {done:Bool} (h:PutTo n l out done i) (hd:done=false) (hi:i < l.length) (h4:l[i]! > n):PutTo n l (out++[n]++[l[i]!]) true (i+1):=by
 subst hd
 have h1:=h.1
 have h2:=h.2
 rw [if_neg qj] at h1 h2
 refine ⟨by rw [if_pos rfl];simp;omega,?_⟩
 rw [if_pos rfl,← h2,drop_at hi,putL,if_neg qf,if_neg qf,List.append_assoc,List.append_assoc];rfl
theorem PutTo.bd {out:yLI} {done:Bool} (h:PutTo n l out done i):out.length<=i+1:=by
 have:=h.1
 split at this <;> omega
theorem PutTo.yes {out:yLI} {done:Bool} (h:PutTo n l out done i) (hd:done=true) (hi:i=l.length):out=putL n l:=by
 subst hd
 have h2:=h.2
 rw [if_pos rfl,hi,List.drop_length,List.append_nil] at h2
 exact h2
theorem PutTo.no {out:yLI} {done:Bool} (h:PutTo n l out done i) (hd:done=false) (hi:i=l.length):out++[n]=putL n l:=by
 subst hd
 have h2:=h.2
 rw [if_neg qj,hi,List.drop_length,putL] at h2
 exact h2
end
section
variable {cpOrders cregs : Nat}
def sortLI_ren:Go.Shelf.Ren:=⟨fun | 53=>103 | 64=>146 | 63=>145 | 78=>186 | 79=>187 | 70=>177 | 71=>178 | 72=>179 | 73=>180 | 74=>181 | 75=>182 | 59=>183 | 76=>184 | 77=>185 | 88=>204 | 89=>205 | 90=>206 | 91=>207 | 92=>208 | 68=>209 | 96=>230 | n=>n,fun | 22=>27 | 23=>2 | 3=>3 | 51=>181 | 0=>0 | 67=>227 | 69=>136 | 4=>4 | 61=>219 | 60=>218 | 44=>224 | 5=>5 | 9=>9 | 75=>240 | 79=>244 | 83=>259 | 84=>260 | n=>n,fun | n=>n⟩
theorem sortLI:Go.Proofs.SlLaysN.n53 Tryz.prog sortLI_ren:={
 mixed:=by kernel_rfl
 f53:=⟨Tryz.f103.name,by decide,Tryz.func103.trans (congrArg some (by kernel_rfl))⟩
 f59:=⟨Tryz.f183.name,by decide,Tryz.func183.trans (congrArg some (by kernel_rfl))⟩
 f63:=⟨Tryz.f145.name,by decide,Tryz.func145.trans (congrArg some (by kernel_rfl))⟩
 f64:=Tryz.func146.trans (congrArg some (by kernel_rfl))
 f68:=⟨Tryz.f209.name,by decide,Tryz.func209.trans (congrArg some (by kernel_rfl))⟩
 f70:=⟨Tryz.f177.name,by decide,Tryz.func177.trans (congrArg some (by kernel_rfl))⟩
 f71:=⟨Tryz.f178.name,by decide,Tryz.func178.trans (congrArg some (by kernel_rfl))⟩
 f72:=⟨Tryz.f179.name,by decide,Tryz.func179.trans (congrArg some (by kernel_rfl))⟩
 f73:=⟨Tryz.f180.name,by decide,Tryz.func180.trans (congrArg some (by kernel_rfl))⟩
 f74:=⟨Tryz.f181.name,by decide,Tryz.func181.trans (congrArg some (by kernel_rfl))⟩
 f75:=⟨Tryz.f182.name,by decide,Tryz.func182.trans (congrArg some (by kernel_rfl))⟩
 f76:=⟨Tryz.f184.name,by decide,Tryz.func184.trans (congrArg some (by kernel_rfl))⟩
 f77:=⟨Tryz.f185.name,by decide,Tryz.func185.trans (congrArg some (by kernel_rfl))⟩
 f78:=Tryz.func186.trans (congrArg some (by kernel_rfl))
 f79:=Tryz.func187.trans (congrArg some (by kernel_rfl))
 f88:=⟨Tryz.f204.name,by decide,Tryz.func204.trans (congrArg some (by kernel_rfl))⟩
 f89:=Tryz.func205.trans (congrArg some (by kernel_rfl))
 f90:=Tryz.func206.trans (congrArg some (by kernel_rfl))
 f91:=⟨Tryz.f207.name,by decide,Tryz.func207.trans (congrArg some (by kernel_rfl))⟩
 f92:=⟨Tryz.f208.name,by decide,Tryz.func208.trans (congrArg some (by kernel_rfl))⟩
 f96:=⟨Tryz.f230.name,by decide,Tryz.func230.trans (congrArg some (by kernel_rfl))⟩
 t0:=underlying0
 a0:=isAgg0
 z0:=sizeOf0
 v0:=zeroValue0
 t3:=underlying3
 a3:=isAgg3
 z3:=sizeOf3
 v3:=zeroValue3
 t4:=underlying4
 a4:=isAgg4
 z4:=sizeOf4
 v4:=zeroValue4
 t5:=underlying5
 a5:=isAgg5
 z5:=sizeOf5
 v5:=zeroValue5
 t9:=underlying9
 a9:=isAgg9
 z9:=sizeOf9
 v9:=zeroValue9
 t22:=underlying27
 a22:=isAgg27
 z22:=sizeOf27
 v22:=zeroValue27
 t23:=underlying2
 a23:=isAgg2
 z23:=sizeOf2
 v23:=zeroValue2
 t44:=underlying224
 a44:=isAgg224
 z44:=sizeOf224
 v44:=zeroValue224
 t51:=underlying181
 a51:=isAgg181
 z51:=sizeOf181
 v51:=zeroValue181
 t60:=underlying218
 a60:=isAgg218
 z60:=sizeOf218
 v60:=zeroValue218
 t61:=underlying219
 a61:=isAgg219
 z61:=sizeOf219
 v61:=zeroValue219
 t67:=underlying227
 a67:=isAgg227
 z67:=sizeOf227
 v67:=zeroValue227
 t69:=underlying136
 a69:=isAgg136
 z69:=sizeOf136
 v69:=zeroValue136
 t75:=underlying240
 a75:=isAgg240
 z75:=sizeOf240
 v75:=zeroValue240
 t79:=underlying244
 a79:=isAgg244
 z79:=sizeOf244
 v79:=zeroValue244
 t83:=underlying259
 a83:=isAgg259
 z83:=sizeOf259
 v83:=zeroValue259
 t84:=underlying260
 a84:=isAgg260
 z84:=sizeOf260
 v84:=zeroValue260 }
def compLI_ren:Go.Shelf.Ren:=⟨fun | 43=>104 | n=>n,fun | 22=>27 | 23=>2 | 3=>3 | 4=>4 | 0=>0 | n=>n,fun | n=>n⟩
theorem compLI:Go.Proofs.SlLaysN.n43 Tryz.prog compLI_ren:={
 mixed:=by kernel_rfl
 f43:=⟨Tryz.f104.name,by decide,Tryz.func104.trans (congrArg some (by kernel_rfl))⟩
 t0:=underlying0
 a0:=isAgg0
 z0:=sizeOf0
 v0:=zeroValue0
 t3:=underlying3
 a3:=isAgg3
 z3:=sizeOf3
 v3:=zeroValue3
 t4:=underlying4
 a4:=isAgg4
 z4:=sizeOf4
 v4:=zeroValue4
 t22:=underlying27
 a22:=isAgg27
 z22:=sizeOf27
 v22:=zeroValue27
 t23:=underlying2
 a23:=isAgg2
 z23:=sizeOf2
 v23:=zeroValue2
 i23:=by kernel_rfl }
theorem l00Put_ok (w:World) (l:yLI) (n:Int) {al:yOA} {cl:Nat} {Fl:yLN} (hl:zP w Fl al cl l) (p0:l.length<=1000000):Calls Tryz.prog 51 #[Sv al l.length cl,yI n] w (Ret (fun v w' =>∃ (ra:yOA) (rn:Nat) (rc:Nat),v=Sv ra rn rc/\Fresh w.heap.size []/\St w w' [rr ra rn rc 2 1 ((putL n l).map (Value.int .i64))] []) w):=by
 refine en func51 ntmps51 ?_
 have H:=(St.start w).arg hl
 have nhl:=qO hl
 clear hl
 have N:=Fresh.nil w.heap.size
 refine zcr (sq 1 (zjc (sw (zW H underlying27 ti2 fun b1 w2 H=>sq 1 (zjc (sp (Bv false) (zjcc (sp (yI 0) (zjn (qV ?_))))))))))
 replace H:=H.vI 0 [] 0
 refine zA ((fun Z0=>fun m' ρ w3=>∃ (xQ:Env) (jl:yOA) (vC:Nat) (jh:Nat) (out:yLI) (done:Bool) (i:Nat),ρ=upd (upd (upd (upd (upd xQ 0 (Sv al l.length cl)) 1 (yI n)) 5 (Sv jl vC jh)) 6 (Bv done)) 7 (yI i)/\((i:Int)<=l.length)/\(PutTo n l out done i)/\m' =(l.length - (i:Int)).toNat/\Fresh w.heap.size []/\St w w3 [rr jl vC jh 2 1 (out.map (Value.int .i64))] [Z0]) _) ((l.length - (0:Int)).toNat) ⟨_,(aa b1 0),0,0,([]:yLI),false,0,uE5,qf,(by exact PutTo.zero n l),rfl,N,H⟩ ?_
 clear H N
 rintro m' ρ w4 ⟨xQ,jl,vC,jh,out,done,i,rfl,i0,i1,rfl,N,H⟩
 have hn_out:=H.yt 0 rfl
 have ob:=i1.bd
 refine zcc (sp (yI i) (sq 1 (oN rfl (sq 1 (zjn (cD rfl (fun h5=>?_) (fun h5=>?_)))))))
 ·refine qU (t_n (xU (qV (zcc (sp (Bv done) (sp (Bv !done) (sp (Bv !done) ?_)))))))
  cases h6:(!done)
  ·replace h6:=qY h6
   refine xR (zR 18 6) (sp (Bv false) (zjn (cFr rfl (qU (t_n (xK (sq 2 (sp (yI i) ?_))))))))
   obtain ⟨b7,o8,rfl⟩:=H.addr 0 rfl qf
   refine oI rfl rfl (oL rfl (H.zB 0 rfl i qf) (sw (xx H underlying27 ti2 [yI (l[i]!)] fun b10 w11 H=>sw (zG H 1 rfl 0 rfl underlying27 ti2 rfl qj rfl rfl rfl qw qp qf fun a12 c13 w14 H=>?_))))
   rw [snocI] at H
   refine sq 1 (xP (b_n (t_n (xK (sp (yI i) (sw (zi i 1 rfl rfl qf (sq 1 (xP (qW (m' :=(l.length - ((i+1):Int)).toNat) qf ⟨_,_,_,_,_,_,i+1,uE5,?_,?_,rfl,N,H.pick [1] [0]⟩))))))))))
   ·omega
   ·first | exact i1.on ql qf | exact i1.less ql qf ql | exact i1.same ql qf ql ql | exact i1.more ql qf ql
  replace h6:=xm h6
  refine qJ 17 rfl rfl (sq 1 (qJ 17 rfl rfl (sp (yI i) (qJ 17 rfl rfl ?_))))
  obtain ⟨b15,o16,rfl⟩:=H.addr 0 rfl qf
  refine oI rfl rfl (qJ 17 rfl rfl (oL rfl (H.zB 0 rfl i qf) (qJ 17 rfl rfl (sp (yI n) (qJ 17 rfl rfl (sq 2 (zjn (cD rfl (fun h18=>?_) (fun h18=>?_)))))))))
  ·refine zcr (sp (Bv true) (zjc (sq 1 (sp (yI i) (oI rfl rfl (oL rfl (H.zB 0 rfl i qf) (sp (yI n) (sq 1 (zjn (cD rfl (fun h19=>?_) (fun h19=>?_)))))))))))
   ·refine xK (sq 1 (sp (yI n) (sw (xx H underlying27 ti2 [yI n] fun b20 w21 H=>sw (zG H 1 rfl 0 rfl underlying27 ti2 rfl qj rfl rfl rfl qw qp qf fun a22 c23 w24 H=>?_)))))
    rw [snocI] at H
    refine sq 1 (zjn (xK (sq 2 (sp (yI i) (oI rfl rfl (oL rfl (H.zB 0 rfl i qf) (sw (xx H underlying27 ti2 [yI (l[i]!)] fun b25 w26 H=>sw (zG H 2 rfl 0 rfl underlying27 ti2 rfl qj rfl rfl rfl qw qp qf fun a27 c28 w29 H=>?_)))))))))
    rw [snocI] at H
    refine sq 1 (xP (b_n (t_n (xK (sp (yI i) (sw (zi i 1 rfl rfl qf (sq 1 (xP (qW (m' :=(l.length - ((i+1):Int)).toNat) qf ⟨_,_,_,_,_,_,i+1,uE5,?_,?_,rfl,N,H.pick [2] [0]⟩))))))))))
    ·omega
    ·first | exact i1.on ql qf | exact i1.less ql qf ql | exact i1.same ql qf ql ql | exact i1.more ql qf ql
   refine qU (t_n (xK (sq 2 (sp (yI i) (oI rfl rfl (oL rfl (H.zB 0 rfl i qf) (sw (xx H underlying27 ti2 [yI (l[i]!)] fun b30 w31 H=>sw (zG H 1 rfl 0 rfl underlying27 ti2 rfl qj rfl rfl rfl qw qp qf fun a32 c33 w34 H=>?_)))))))))
   rw [snocI] at H
   refine sq 1 (xP (b_n (t_n (xK (sp (yI i) (sw (zi i 1 rfl rfl qf (sq 1 (xP (qW (m' :=(l.length - ((i+1):Int)).toNat) qf ⟨_,_,_,_,_,_,i+1,uE5,?_,?_,rfl,N,H.pick [1] [0]⟩))))))))))
   ·omega
   ·first | exact i1.on ql qf | exact i1.less ql qf ql | exact i1.same ql qf ql ql | exact i1.more ql qf ql
  refine qU (t_n (xK (sq 2 (sp (yI i) (oI rfl rfl (oL rfl (H.zB 0 rfl i qf) (sw (xx H underlying27 ti2 [yI (l[i]!)] fun b35 w36 H=>sw (zG H 1 rfl 0 rfl underlying27 ti2 rfl qj rfl rfl rfl qw qp qf fun a37 c38 w39 H=>?_)))))))))
  rw [snocI] at H
  refine sq 1 (xP (b_n (t_n (xK (sp (yI i) (sw (zi i 1 rfl rfl qf (sq 1 (xP (qW (m' :=(l.length - ((i+1):Int)).toNat) qf ⟨_,_,_,_,_,_,i+1,uE5,?_,?_,rfl,N,H.pick [1] [0]⟩))))))))))
  ·omega
  ·first | exact i1.on ql qf | exact i1.less ql qf ql | exact i1.same ql qf ql ql | exact i1.more ql qf ql
 refine zx4 (zcc (sp (Bv done) (sp (Bv !done) (zjn (zT _ rfl (fun h40=>?_) (fun h40=>?_))))))
 ·replace h40:=xm h40
  refine xK (sq 1 (sp (yI n) (sw (xx H underlying27 ti2 [yI n] fun b41 w42 H=>sw (zG H 1 rfl 0 rfl underlying27 ti2 rfl qj rfl rfl rfl qw qp qf fun a43 c44 w45 H=>?_)))))
  rw [snocI] at H
  refine sq 1 (zjc (sq 2 (zjr (rH1 (Sv a43 (vC+1) c44) H ?_))))
  first | rw [← i1.yes ql qf] | rw [← i1.no ql qf]
  exact ⟨a43,vC+1,c44,rfl,N,H.pick [1] []⟩
 replace h40:=qY h40
 refine qU (t_n (zcr (sq 2 (zjr (rH1 (Sv jl vC jh) H ?_)))))
 first | rw [← i1.yes ql qf] | rw [← i1.no ql qf]
 exact ⟨jl,vC,jh,rfl,N,H.pick [0] []⟩
theorem implCV_ok (w:World) (p:zF) (mode:Int) (regs:yLI) (hpOrders:zP w FpOrders apOrders cpOrders p.qB) (hregs:zP w Fregs aregs cregs regs):Calls Tryz.prog 9 #[.agg #[yI p.qA,Sv apOrders p.qB.length cpOrders],yI mode,Sv aregs regs.length cregs] w (Ret (fun v w' =>∃ (ra0:yOA) (rn0:Nat) (rc0:Nat),v=.tuple #[Sv ra0 rn0 rc0,yI ((yf p mode regs).2)]/\Fresh w.heap.size []/\St w w' [rr ra0 rn0 rc0 2 1 (((yf p mode regs).1).map (Value.int .i64))] []) w):=by
 refine en func9 ntmps9 ?_
 have H:=((St.start w).arg hregs).arg hpOrders
 have nhpOrders:=qO hpOrders
 have nhregs:=qO hregs
 clear hpOrders hregs
 have N:=Fresh.nil w.heap.size
 have A:=H.ltN (L:=[FpOrders,Fregs]) [0,1]
 refine zcr (sw (zY H [yI p.qA,Sv apOrders p.qB.length cpOrders] fun b1 w2 H=>sw (zY H [Sv aregs regs.length cregs] fun b3 w4 H=>sq 1 (sp (yI 0) (zjcc (sw (x8 [yI p.qA,Sv apOrders p.qB.length cpOrders] isAgg26 sizeOf26 rfl (qF (H.cells 1 rfl) 0 2) (sq 1 (sp (.func (.func 41) #[] #[pp b1 0,pp b3 0]) ?_)))))))))
 refine sw (zN #[.agg #[yI p.qA,Sv apOrders p.qB.length cpOrders],yI mode,.func (.func 41) #[] #[pp b1 0,pp b3 0]] rfl rfl call40 (en func40 ntmps40 ?_))
 refine zcr (sw (zY H [yI p.qA,Sv apOrders p.qB.length cpOrders] fun b5 w6 H=>sp (yI 0) (zjn (xU (qV (zcr (sw (x8 [yI p.qA,Sv apOrders p.qB.length cpOrders] isAgg26 sizeOf26 rfl (qF (H.cells 0 rfl) 0 2) (sw (oq (validProgram_ok _ p (H.get 0 rfl).1) H fun w8 H=>sq 2 (zjn (cQ rfl (fun h10=>?_) (fun h10=>?_)))))))))))))
 ·refine zcr (sp (yI 1) (zjr (b_r (t_r (ret1 (yI 1) rfl rfl ⟨_,rfl,?_⟩)))))
  replace H:=H.erases [0]
  dsimp only [zU,List.eraseIdx] at H
  refine sp (yI 1) (zjc (sp (yI 1) (sp (Bv true) (zjn (cTr rfl (zcr (sp (yI 1) (sq 1 (sp (yI 1) (zjr (t_r ?_)))))))))))
  replace H:=H.nilRowI 2
  refine ret2 yN (yI 1) rfl rfl rfl ⟨_,rfl,?_,H.base⟩
  first | rw [cv_1 ql] | rw [cv_2 ql (fun h=>absurd h.1 ql)] | rw [cv_2 ql (fun h=>absurd h.2 ql)] | rw [cv_3 ql ql ql qf] | rw [cv_c ql ql ql qf qf ql]
  exact ⟨none,0,0,rfl,N,H.pick [0] []⟩
 refine zcr (sq 1 (sw (oq (yx w8 mode 1 3) H fun w11 H=>sp (Bv (!(inR mode 1 3))) (sp (Bv (!(inR mode 1 3))) ?_))))
 cases h13:(!(inR mode 1 3))
 ·replace h13:=qY h13
  replace h13:=jL.1 h13
  refine qJ 15 rfl rfl (sp (.func (.func 41) #[] #[pp b1 0,pp b3 0]) (qJ 15 rfl rfl (sw (zN #[pp b1 0,pp b3 0] rfl rfl call41 (en func41 ntmps41 ?_)))))
  refine zcr (sp (Bv false) (zjc (sw (x8 [yI p.qA,Sv apOrders p.qB.length cpOrders] isAgg26 sizeOf26 rfl (qF (H.cells 2 rfl) 0 2) (oL rfl (H.cell 1 rfl rfl) (sw (oq (areRegs_ok _ p regs (H.get 0 rfl).1 (H.get 1 rfl).1 (by exact (by assumption:yw p).1)) H fun w15 H=>sq 1 (zjr (ret1 (Bv (dec (vk p.qA regs))) rfl rfl ⟨_,rfl,(qJ 15 rfl rfl (sq 3 (zjn ?_)))⟩)))))))))
  refine cQ rfl (fun h17=>?_) (fun h17=>?_)
  ·refine zcr (sp (yI 2) (zjr (b_r (t_r (ret1 (yI 2) rfl rfl ⟨_,rfl,?_⟩)))))
   replace H:=H.erases [0]
   dsimp only [zU,List.eraseIdx] at H
   refine sp (yI 2) (zjc (sp (yI 2) (sp (Bv true) (zjn (cTr rfl (zcr (sp (yI 2) (sq 1 (sp (yI 2) (zjr (t_r ?_)))))))))))
   replace H:=H.nilRowI 2
   refine ret2 yN (yI 2) rfl rfl rfl ⟨_,rfl,?_,H.base⟩
   first | rw [cv_1 ql] | rw [cv_2 ql (fun h=>absurd h.1 ql)] | rw [cv_2 ql (fun h=>absurd h.2 ql)] | rw [cv_3 ql ql ql qf] | rw [cv_c ql ql ql qf qf ql]
   exact ⟨none,0,0,rfl,N,H.pick [0] []⟩
  refine zcr (sw (x8 [yI p.qA,Sv apOrders p.qB.length cpOrders] isAgg26 sizeOf26 rfl (qF (H.cells 0 rfl) 0 2) (sq 1 ?_)))
  have H1:St w w15 [.box b5 [yI p.qA,Sv apOrders p.qB.length cpOrders] 26,.box b3 [Sv aregs regs.length cregs] 27,.box b1 [yI p.qA,Sv apOrders p.qB.length cpOrders] 26] [sF false FpOrders apOrders cpOrders p.qB,sF false Fregs aregs cregs regs]:=H.pick [0,1,2] [0,1]
  have N1:Fresh _ []:=N
  have K1:Kept [] [sF false Fregs aregs cregs regs]:=Kept.nil _
  refine sw (jg #[.agg #[yI p.qA,Sv apOrders p.qB.length cpOrders],yI mode] rfl rfl call68 (build_ok p apOrders cpOrders FpOrders mode H1 N1 K1 ql ql (olds_one (A _ (List.mem_of_getElem? (i:=0) rfl)) (olds_one (A _ (List.mem_of_getElem? (i:=1) rfl)) olds_none))) ?_)
  clear H H1 N1 K1
  rintro _ w18 ⟨bk20,ra21,rn22,rc23,rx24,rF25,ra26,rn27,rc28,rfl,N,H⟩
  obtain rfl:=H.xB (α:=zZ) 1 rfl 1 rfl qj
  obtain rfl:=H.yt 2 rfl
  refine sw (zN #[pp bk20 0] rfl rfl call99 (en func99 ntmps99 ?_))
  refine zcr (sp (Bv false) (zjc (sq 2 (oF rfl (oL rfl (H.cell 0 rfl rfl) (sp (Bv (decide ((qQ p mode:Int) > 8))) (sp (Bv (decide ((qQ p mode:Int) > 8))) ?_)))))))
  cases h29:(decide ((qQ p mode:Int) > 8))
  ·replace h29:=of_decide_eq_false h29
   refine qJ 8 rfl rfl (sq 1 (qJ 8 rfl rfl (sq 1 (qJ 8 rfl rfl (oF rfl (qJ 8 rfl rfl (oL rfl (H.cell 0 rfl rfl) (qJ 8 rfl rfl (oN rfl (qJ 8 rfl rfl (sp (Bv (decide (((jO p mode).length:Int) > 8))) (sp (Bv (decide (((jO p mode).length:Int) > 8))) (sp (Bv (decide (((jO p mode).length:Int) > 8))) (zjr (ret1 (Bv (decide (((jO p mode).length:Int) > 8))) rfl rfl ⟨_,rfl,(sp (Bv (decide (((jO p mode).length:Int) > 8))) (zjn (cD rfl (fun h30=>?_) (fun h30=>?_))))⟩)))))))))))))))
   ·refine zcr (sp (yI 3) (zjr (b_r (t_r (ret1 (yI 3) rfl rfl ⟨_,rfl,?_⟩)))))
    replace H:=H.erases [3,2,1,0]
    dsimp only [zU,List.eraseIdx] at H
    refine sp (yI 3) (zjc (sp (yI 3) (sp (Bv true) (zjn (cTr rfl (zcr (sp (yI 3) (sq 1 (sp (yI 3) (zjr (t_r ?_)))))))))))
    replace H:=H.nilRowI 2
    refine ret2 yN (yI 3) rfl rfl rfl ⟨_,rfl,?_,H.base⟩
    first | rw [cv_1 ql] | rw [cv_2 ql (fun h=>absurd h.1 ql)] | rw [cv_2 ql (fun h=>absurd h.2 ql)] | rw [cv_3 ql ql ql qf] | rw [cv_c ql ql ql qf qf ql]
    exact ⟨none,0,0,rfl,(N.pick []),H.pick [0] []⟩
   refine qU (b_n (t_n (zcr (sp (yI 0) (zjr (ret1 (yI 0) rfl rfl ⟨_,rfl,?_⟩))))))
   replace H:=H.erases [3,2,1,0]
   dsimp only [zU,List.eraseIdx] at H
   refine sp (yI 0) (zjc (sp (yI 0) (sp (Bv false) (zjn (cFr rfl (qU (t_n (xU ?_))))))))
   refine c_cut (fun ρ w34=>∃ (xQ:Env) (ra31:yOA) (rc32:Nat) (rF33:yLN),ρ=upd (upd xQ 9 (Sv ra31 (((yc (zC p mode) (zq p mode (⟨0,regs⟩:vS))).1).length) rc32)) 10 (yI ((yc (zC p mode) (zq p mode (⟨0,regs⟩:vS))).2))/\Fresh w.heap.size [rF33]/\St w w34 [.box b3 [Sv aregs regs.length cregs] 27,.box b1 [yI p.qA,Sv apOrders p.qB.length cpOrders] 26] [sF true rF33 ra31 rc32 ((yc (zC p mode) (zq p mode (⟨0,regs⟩:vS))).1),sF false FpOrders apOrders cpOrders p.qB,sF false Fregs aregs cregs regs]) ?_ ?_
   ·refine jw rfl H fun H=>rt 0 _ (yl (cs:=[yI p.qA,Sv apOrders p.qB.length cpOrders]) isAgg26 sizeOf26 rfl (fun _ h=>qF (h.cells 1 rfl) 0 2)) H ?_
    refine rtl 1 H ?_
    refine rt 3 _ (yl (cs:=[yI p.qA,Sv apOrders p.qB.length cpOrders]) isAgg26 sizeOf26 rfl (fun _ h=>qF (h.cells 1 rfl) 0 2)) H ?_
    refine rtl 4 H ?_
    refine tL 5 rfl rfl (fun _ h=>h.cell 0 rfl rfl) H ?_
    refine jb [2,6] qh qm (jM rfl ?_ (jM rfl ?_ jd))
    ·have sz39:=H.base.size
     have lt40:=H.ltN (L:=[rF25]) [1]
     refine oc (system_ok _ p mode (H.get 0 rfl).1 (by first | assumption | (show (0:Int)<=0/\(0:Int)<=_;omega) | (have:=Qg p mode;have:=yF (by assumption:yw p) mode;show _<=qQ p mode/\qQ p mode<=30;omega)) (by first | assumption | (show (0:Int)<=0/\(0:Int)<=_;omega) | (have:=Qg p mode;have:=yF (by assumption:yw p) mode;show _<=qQ p mode/\qQ p mode<=30;omega))) ?_
     rintro _ w37 ⟨ra36Parents,rn36Parents,rc36Parents,ra36Rules,rn36Rules,rc36Rules,rx36Rules,rF36Rules,rfl,M,K⟩ _
     replace N:=N.merge sz39 lt40 M
     replace H:=H.merge K M
     obtain rfl:=H.yt 0 rfl
     obtain rfl:=H.xB (α:=zZ) 1 rfl 0 rfl qj
     refine ⟨H.pick [2,3] [1,2,3],(ro 6 rfl (vG [yI 0,Sv aregs regs.length cregs] [(1,Sv aregs regs.length cregs)] (⟨H.pick [2,3] [1,2,3],(ro 7 rfl ?_)⟩)))⟩
     have sz46:=H.base.size
     have lt47:=H.ltN (L:=[rF36Rules,rF25]) [0,2]
     refine oc (state_ok _ p mode (⟨0,regs⟩:vS) (H.get 1 rfl).1 (H.get 3 rfl).1 (by first | assumption | (show (0:Int)<=0/\(0:Int)<=_;omega) | (have:=Qg p mode;have:=yF (by assumption:yw p) mode;show _<=qQ p mode/\qQ p mode<=30;omega)) (by first | assumption | (show (0:Int)<=0/\(0:Int)<=_;omega) | (have:=Qg p mode;have:=yF (by assumption:yw p) mode;show _<=qQ p mode/\qQ p mode<=30;omega)) (by first | assumption | (show (0:Int)<=0/\(0:Int)<=_;omega) | (have:=Qg p mode;have:=yF (by assumption:yw p) mode;show _<=qQ p mode/\qQ p mode<=30;omega))) ?_
     rintro _ w44 ⟨ra43Alive,rn43Alive,rc43Alive,ra43Bags,rn43Bags,rc43Bags,rx43Bags,rF43Bags,ra43Around,rn43Around,rc43Around,rfl,M,K⟩ _
     replace N:=N.merge sz46 lt47 M
     replace H:=H.merge K M
     obtain rfl:=H.rowNB 0 rfl
     obtain rfl:=H.xB (α:=yLI) 1 rfl 0 rfl qj
     obtain rfl:=H.yt 2 rfl
     refine ⟨H.pick [5,6] [2,3,4],(ro 8 rfl ?_)⟩
     obtain ⟨G51,hn52,h53⟩:=H.QV 3 rfl
     obtain ⟨G54,hn55,h56⟩:=H.XE (α:=zZ) 4 rfl 1 rfl qj
     obtain ⟨G57,hn58,h59⟩:=H.rowIsB 0 rfl
     obtain ⟨G60,hn61,h62⟩:=H.XE (α:=yLI) 1 rfl 0 rfl qj
     obtain ⟨G63,hn64,h65⟩:=H.QV 2 rfl
     have sz69:=H.base.size
     have lt70:=H.ltN (L:=[rF43Bags,rF36Rules,rF25]) [0,1,3]
     refine oc (implHS_ok _ (zC p mode) (zq p mode (⟨0,regs⟩:vS)) h53 h56 h59 h62 h65) ?_
     rintro _ w67 ⟨ra66a,rc66a,rF66a,rfl,M,K⟩ _
     replace N:=N.merge sz69 lt70 M
     replace H:=H.merge K M
     refine ⟨H.pick [5,6] [3,4,5],?_⟩
     have S:=H.jr [5,6] [3,4,5]
     refine rtl 9 S ?_
     refine rtl 10 S ?_
     refine rtl 11 S ?_
     refine rtl 12 S ?_
     refine rtl 13 S ?_
     refine xA qh ((meet ⟨_,ra66a,rc66a,rF66a,uE2,(N.pick [0]),H.pick [5,6] [0,3,5]⟩))
    refine vG [yI 0,Sv aregs regs.length cregs] [(1,Sv aregs regs.length cregs)] (⟨H,(ro 2 rfl ?_)⟩)
    have sz74:=H.base.size
    have lt75:=H.ltN (L:=[rF25]) [1]
    refine oc (system_ok _ p mode (H.get 0 rfl).1 (by first | assumption | (show (0:Int)<=0/\(0:Int)<=_;omega) | (have:=Qg p mode;have:=yF (by assumption:yw p) mode;show _<=qQ p mode/\qQ p mode<=30;omega)) (by first | assumption | (show (0:Int)<=0/\(0:Int)<=_;omega) | (have:=Qg p mode;have:=yF (by assumption:yw p) mode;show _<=qQ p mode/\qQ p mode<=30;omega))) ?_
    rintro _ w72 ⟨ra71Parents,rn71Parents,rc71Parents,ra71Rules,rn71Rules,rc71Rules,rx71Rules,rF71Rules,rfl,M,K⟩ _
    replace N:=N.merge sz74 lt75 M
    replace H:=H.merge K M
    obtain rfl:=H.yt 0 rfl
    obtain rfl:=H.xB (α:=zZ) 1 rfl 0 rfl qj
    refine ⟨H.pick [2,3] [1,2,3],(ro 7 rfl ?_)⟩
    have sz81:=H.base.size
    have lt82:=H.ltN (L:=[rF71Rules,rF25]) [0,2]
    refine oc (state_ok _ p mode (⟨0,regs⟩:vS) (H.get 1 rfl).1 (H.get 3 rfl).1 (by first | assumption | (show (0:Int)<=0/\(0:Int)<=_;omega) | (have:=Qg p mode;have:=yF (by assumption:yw p) mode;show _<=qQ p mode/\qQ p mode<=30;omega)) (by first | assumption | (show (0:Int)<=0/\(0:Int)<=_;omega) | (have:=Qg p mode;have:=yF (by assumption:yw p) mode;show _<=qQ p mode/\qQ p mode<=30;omega)) (by first | assumption | (show (0:Int)<=0/\(0:Int)<=_;omega) | (have:=Qg p mode;have:=yF (by assumption:yw p) mode;show _<=qQ p mode/\qQ p mode<=30;omega))) ?_
    rintro _ w79 ⟨ra78Alive,rn78Alive,rc78Alive,ra78Bags,rn78Bags,rc78Bags,rx78Bags,rF78Bags,ra78Around,rn78Around,rc78Around,rfl,M,K⟩ _
    replace N:=N.merge sz81 lt82 M
    replace H:=H.merge K M
    obtain rfl:=H.rowNB 0 rfl
    obtain rfl:=H.xB (α:=yLI) 1 rfl 0 rfl qj
    obtain rfl:=H.yt 2 rfl
    refine ⟨H.pick [5,6] [2,3,4],(ro 8 rfl ?_)⟩
    obtain ⟨G86,hn87,h88⟩:=H.QV 3 rfl
    obtain ⟨G89,hn90,h91⟩:=H.XE (α:=zZ) 4 rfl 1 rfl qj
    obtain ⟨G92,hn93,h94⟩:=H.rowIsB 0 rfl
    obtain ⟨G95,hn96,h97⟩:=H.XE (α:=yLI) 1 rfl 0 rfl qj
    obtain ⟨G98,hn99,h100⟩:=H.QV 2 rfl
    have sz104:=H.base.size
    have lt105:=H.ltN (L:=[rF78Bags,rF71Rules,rF25]) [0,1,3]
    refine oc (implHS_ok _ (zC p mode) (zq p mode (⟨0,regs⟩:vS)) h88 h91 h94 h97 h100) ?_
    rintro _ w102 ⟨ra101a,rc101a,rF101a,rfl,M,K⟩ _
    replace N:=N.merge sz104 lt105 M
    replace H:=H.merge K M
    refine ⟨H.pick [5,6] [3,4,5],?_⟩
    have S:=H.jr [5,6] [3,4,5]
    refine rtl 9 S ?_
    refine rtl 10 S ?_
    refine rtl 11 S ?_
    refine rtl 12 S ?_
    refine rtl 13 S ?_
    refine xA qh ((meet ⟨_,ra101a,rc101a,rF101a,uE2,(N.pick [0]),H.pick [5,6] [0,3,5]⟩))
   clear H N
   rintro ρ w106 ⟨xQ,ra31,rc32,rF33,rfl,N,H⟩
   refine t_n (zcc (sq 1 (sp (Bv (((yc (zC p mode) (zq p mode (⟨0,regs⟩:vS))).2:Int) != 0)) (zjn (zT (((yc (zC p mode) (zq p mode (⟨0,regs⟩:vS))).2:Int) != 0) rfl (fun h107=>?_) (fun h107=>?_))))))
   ·replace h107:=bne_iff_ne.1 h107
    refine zcr (sq 3 (zjr (t_r ?_)))
    replace H:=H.nilRowI 2
    refine ret2 yN (yI ((yc (zC p mode) (zq p mode (⟨0,regs⟩:vS))).2)) rfl rfl rfl ⟨_,rfl,?_,H.base⟩
    first | rw [cv_1 ql] | rw [cv_2 ql (fun h=>absurd h.1 ql)] | rw [cv_2 ql (fun h=>absurd h.2 ql)] | rw [cv_3 ql ql ql qf] | rw [cv_c ql ql ql qf qf ql]
    exact ⟨none,0,0,rfl,(N.pick []),H.pick [0] []⟩
   replace h107:=xu h107
   have hb:=hs_bags h107
   have hc:=h107
   refine qU (t_n (zcr (sw (zW H underlying27 ti2 fun b108 w109 H=>sq 1 (zjcc (sq 1 (oN rfl (sp (yI 0) (zjn (qV ?_))))))))))
   replace H:=H.vI 0 [] 0
   refine zA ((fun Z0 Z1 Z2 Z3 Z4=>fun m' ρ w110=>∃ (xQ:Env) (jl:yOA) (vC:Nat) (jh:Nat) (out:yLI) (k:Nat),ρ=upd (upd (upd (upd xQ 11 (Sv jl vC jh)) 37 (Sv ra31 (((yc (zC p mode) (zq p mode (⟨0,regs⟩:vS))).1).length) rc32)) 38 (yI (((yc (zC p mode) (zq p mode (⟨0,regs⟩:vS))).1).length))) 39 (yI k)/\out=(valsTo (yc (zC p mode) (zq p mode (⟨0,regs⟩:vS))).1 k)/\((k:Int)<=(((yc (zC p mode) (zq p mode (⟨0,regs⟩:vS))).1).length))/\m' =((((yc (zC p mode) (zq p mode (⟨0,regs⟩:vS))).1).length) - (k:Int)).toNat/\Fresh w.heap.size [rF33]/\St w w110 [rr jl vC jh 2 1 (out.map (Value.int .i64)),Z0,Z1] [Z2,Z3,Z4]) _ _ _ _ _) (((((yc (zC p mode) (zq p mode (⟨0,regs⟩:vS))).1).length) - (0:Int)).toNat) ⟨_,(aa b108 0),0,0,([]:yLI),0,uE4,(by rfl),qf,rfl,N,H⟩ ?_
   clear H N
   rintro m' ρ w111 ⟨xQ,jl,vC,jh,out,k,rfl,rfl,i0,rfl,N,H⟩
   have hn_out:=H.yt 0 rfl
   have sl:=vals_len (yc (zC p mode) (zq p mode (⟨0,regs⟩:vS))).1 k
   refine zcr (sq 1 (zjn (xU (cD rfl (fun h112=>?_) (fun h112=>?_)))))
   ·obtain ⟨b1,b2⟩:=hb.2 k qf
    refine qU (t_n (xU (qV (zcr ?_))))
    obtain ⟨b113,o114,rfl⟩:=H.addr 0 rfl qf
    obtain ⟨ae116Alive,ce116Alive,Fe116Alive,ae116Bags,ce116Bags,Fe116Bags,ae116Around,ce116Around,Fe116Around,H⟩:=H.elem_StateD 0 rfl k k qf qf qf
    refine oI rfl rfl (sw (x8 [Sv ae116Alive (((((yc (zC p mode) (zq p mode (⟨0,regs⟩:vS))).1)[k]!).qI).length) ce116Alive,Sv ae116Bags (((((yc (zC p mode) (zq p mode (⟨0,regs⟩:vS))).1)[k]!).qP).length) ce116Bags,Sv ae116Around (((((yc (zC p mode) (zq p mode (⟨0,regs⟩:vS))).1)[k]!).qN).length) ce116Around] isAgg43 sizeOf43 rfl (qF (H.get 3 rfl) 0 3) (sw (xH H ti43 [yN,yN,yN] fun b117 w118 H=>?_))))
    refine sw (xY H 0 [Sv ae116Alive (((((yc (zC p mode) (zq p mode (⟨0,regs⟩:vS))).1)[k]!).qI).length) ce116Alive,Sv ae116Bags (((((yc (zC p mode) (zq p mode (⟨0,regs⟩:vS))).1)[k]!).qP).length) ce116Bags,Sv ae116Around (((((yc (zC p mode) (zq p mode (⟨0,regs⟩:vS))).1)[k]!).qN).length) ce116Around] sizeOf43 fun w119 H=>zjn (xK (sq 1 (oF rfl (oL rfl (H.cell 0 rfl rfl) ?_)))))
    obtain ⟨b120,o121,rfl⟩:=H.addr 1 rfl qf
    obtain ⟨ae123,ce123,Fe123,H⟩:=H.ji 1 rfl 0 0 qf qf qf
    refine oI rfl rfl (oL rfl (H.xW 1 rfl 0 rfl) ?_)
    obtain ⟨b124,o125,rfl⟩:=H.addr 0 rfl qf
    refine oI rfl rfl (oL rfl (H.zB 0 rfl 0 qf) (sw (xx H underlying27 ti2 [yI ((((((yc (zC p mode) (zq p mode (⟨0,regs⟩:vS))).1)[k]!).qP)[0]!)[0]!)] fun b127 w128 H=>sw (zG H 2 rfl 0 rfl underlying27 ti2 rfl qj rfl rfl rfl qw qp qf fun a129 c130 w131 H=>?_))))
    rw [snocI] at H
    refine sq 1 (xP (b_n (t_n (xK (sw (zi k 1 rfl rfl qf (sq 1 (xP (qW (m' :=((((yc (zC p mode) (zq p mode (⟨0,regs⟩:vS))).1).length) - ((k+1):Int)).toNat) qf ⟨_,_,_,_,_,k+1,uE4,?_,?_,rfl,N,H.pick [2,3,4] [6,7,8]⟩)))))))))
    ·exact vals_next qf
    ·omega
   refine zx4 (zcr (sq 1 (sw (zN #[Sv jl vC jh] rfl rfl call45 (en func45 ntmps45 ?_)))))
   refine zcr (sq 1 (zjc (sq 1 ?_)))
   have sl133:=sortI_len (valsTo (yc (zC p mode) (zq p mode (⟨0,regs⟩:vS))).1 k)
   refine sw (jg #[Sv jl vC jh] rfl rfl call103 (sortRowI sortLI H 0 rfl (by first | omega | (simp only [List.length_append,List.length_cons,List.length_nil];omega))) ?_)
   rintro _ w132 ⟨rfl,H⟩
   refine zjc (sq 1 (sw (jg #[Sv jl vC jh] rfl rfl call104 (compSortRow compLI H 0 rfl) ?_)))
   rintro _ w134 ⟨rfl,H⟩
   refine sq 1 (zjr (ret1 (Sv jl ((XF (valsTo (yc (zC p mode) (zq p mode (⟨0,regs⟩:vS))).1 k)).length) jh) rfl rfl ⟨_,rfl,(sq 1 (sp (yI 0) (zjr (ret2 (Sv jl ((XF (valsTo (yc (zC p mode) (zq p mode (⟨0,regs⟩:vS))).1 k)).length) jh) (yI 0) rfl rfl rfl ⟨_,rfl,?_,H.base⟩))))⟩))
   rw [cv_0 ql ql ql qf qf hc (i:=k) qf]
   exact ⟨jl,(XF (valsTo (yc (zC p mode) (zq p mode (⟨0,regs⟩:vS))).1 k)).length,jh,rfl,(N.pick []),H.pick [0] []⟩
  replace h29:=of_decide_eq_true h29
  refine xR (zR 9 6) (sp (Bv true) (sp (Bv true) (zjr (ret1 (Bv true) rfl rfl ⟨_,rfl,(sp (Bv true) (zjn (cTr rfl (zcr (sp (yI 3) (zjr (b_r (t_r (ret1 (yI 3) rfl rfl ⟨_,rfl,?_⟩)))))))))⟩))))
  replace H:=H.erases [3,2,1,0]
  dsimp only [zU,List.eraseIdx] at H
  refine sp (yI 3) (zjc (sp (yI 3) (sp (Bv true) (zjn (cTr rfl (zcr (sp (yI 3) (sq 1 (sp (yI 3) (zjr (t_r ?_)))))))))))
  replace H:=H.nilRowI 2
  refine ret2 yN (yI 3) rfl rfl rfl ⟨_,rfl,?_,H.base⟩
  first | rw [cv_1 ql] | rw [cv_2 ql (fun h=>absurd h.1 ql)] | rw [cv_2 ql (fun h=>absurd h.2 ql)] | rw [cv_3 ql ql ql qf] | rw [cv_c ql ql ql qf qf ql]
  exact ⟨none,0,0,rfl,(N.pick []),H.pick [0] []⟩
 replace h13:=xm h13
 replace h13:=yu h13
 refine xR [16,17,18] (sp (Bv true) (sp (Bv true) (zjn (cTr rfl (zcr (sp (yI 2) (zjr (b_r (t_r (ret1 (yI 2) rfl rfl ⟨_,rfl,?_⟩))))))))))
 replace H:=H.erases [0]
 dsimp only [zU,List.eraseIdx] at H
 refine sp (yI 2) (zjc (sp (yI 2) (sp (Bv true) (zjn (cTr rfl (zcr (sp (yI 2) (sq 1 (sp (yI 2) (zjr (t_r ?_)))))))))))
 replace H:=H.nilRowI 2
 refine ret2 yN (yI 2) rfl rfl rfl ⟨_,rfl,?_,H.base⟩
 first | rw [cv_1 ql] | rw [cv_2 ql (fun h=>absurd h.1 ql)] | rw [cv_2 ql (fun h=>absurd h.2 ql)] | rw [cv_3 ql ql ql qf] | rw [cv_c ql ql ql qf qf ql]
 exact ⟨none,0,0,rfl,N,H.pick [0] []⟩
theorem specCV_ok (w:World) (p:zF) (mode:Int) (regs:yLI) (hpOrders:zP w FpOrders apOrders cpOrders p.qB) (hregs:zP w Fregs aregs cregs regs):Calls Tryz.prog 10 #[.agg #[yI p.qA,Sv apOrders p.qB.length cpOrders],yI mode,Sv aregs regs.length cregs] w (Ret (fun v w' =>∃ (ra0:yOA) (rn0:Nat) (rc0:Nat),v=.tuple #[Sv ra0 rn0 rc0,yI ((yf p mode regs).2)]/\Fresh w.heap.size []/\St w w' [rr ra0 rn0 rc0 2 1 (((yf p mode regs).1).map (Value.int .i64))] []) w):=by
 refine en func10 ntmps10 ?_
 have H:=((St.start w).arg hregs).arg hpOrders
 have nhpOrders:=qO hpOrders
 have nhregs:=qO hregs
 clear hpOrders hregs
 have N:=Fresh.nil w.heap.size
 refine zcr (sw (zY H [yI p.qA,Sv apOrders p.qB.length cpOrders] fun b1 w2 H=>sq 1 (sp (yI 0) (zjc (sq 1 (sw (oq (l05Ok_ok _ p (qF (H.cells 0 rfl) 0 2) (H.get 0 rfl).1) H fun w4 H=>sp (Bv (!(dec (yw p)))) (sp (Bv (!(dec (yw p)))) ?_))))))))
 cases h6:(!(dec (yw p)))
 ·replace h6:=qY h6
  replace h6:=yU h6
  refine qJ 18 rfl rfl (sq 1 (qJ 18 rfl rfl (sw (oq (l05Regs_ok _ p regs (qF (H.cells 0 rfl) 0 2) (H.get 0 rfl).1 (H.get 1 rfl).1 ql) H fun w8 H=>sq 1 (sw (zN #[pp b1 0,yI mode,Bv (dec (vk p.qA regs))] rfl rfl call46 (en func46 ntmps46 ?_)))))))
  refine zcr (sw (xH H ti37 [yI 0,yN,yN] fun b10 w11 H=>sp (yI 0) (zjcc (sq 1 (sw (oq (l05Ok_ok _ p (qF (H.cells 1 rfl) 0 2) (H.get 0 rfl).1) H fun w13 H=>sp (Bv (!(dec (yw p)))) (zjn (zT _ rfl (fun h=>absurd h6 (zX (xm h))) (fun h15=>?_)))))))))
  replace h15:=qY h15
  replace h15:=yU h15
  refine qU (t_n (zcc (sq 1 (sw (oq (l05Mode_ok w13 mode) H fun w17 H=>sp (Bv (!(dec (PMode mode)))) (sp (Bv (!(dec (PMode mode)))) ?_))))))
  cases h19:(!(dec (PMode mode)))
  ·replace h19:=qY h19
   replace h19:=yU h19
   refine qJ 16 rfl rfl (sq 1 (qJ 16 rfl rfl (sq 2 (zjn (cQ rfl (fun h20=>?_) (fun h20=>?_))))))
   ·refine zcr (sw (vG [yI 0,yN,yN] [] (sw (xY H 0 [yI 0,yN,yN] sizeOf37 fun w21 H=>sp (yI 2) (zjr (t_r (retC2 H 0 rfl (yI 2) rfl isAgg37 sizeOf37 rfl rfl ⟨_,rfl,?_⟩)))))))
    replace H:=H.erases [0]
    dsimp only [zU,List.eraseIdx] at H
    refine sq 2 (sp (yI 2) (sw (xH H ti37 [yI 0,yN,yN] fun b22 w23 H=>sw (xY H 0 [yI 0,yN,yN] sizeOf37 fun w24 H=>sp (yI 2) (zjcc (sp (yI 2) (sp (Bv true) (zjn (cTr rfl (zcr (sw (zW H underlying27 ti2 fun b25 w26 H=>sp (yI 2) (sq 1 (sp (yI 2) (zjr (t_r ?_))))))))))))))))
    replace H:=H.vI 0 [] 0
    refine ret2 (Sv (aa b25 0) 0 0) (yI 2) rfl rfl rfl ⟨_,rfl,?_,H.base⟩
    first | rw [cv_1 ql] | rw [cv_2 ql (fun h=>absurd h.1 ql)] | rw [cv_2 ql (fun h=>absurd h.2 ql)] | rw [cv_3 ql ql ql qf] | rw [cv_c ql ql ql qf qf ql]
    exact ⟨(aa b25 0),0,0,rfl,N,H.pick [0] []⟩
   refine qU (t_n (zcr (sq 2 ?_)))
   have sz30:=H.base.size
   refine sw (oc (l05Made_ok _ p mode (qF (H.cells 1 rfl) 0 2) (H.get 0 rfl).1 (by first | assumption | (show (0:Int)<=0/\(0:Int)<=_;omega) | (have:=Qg p mode;have:=yF (by assumption:yw p) mode;show _<=qQ p mode/\qQ p mode<=30;omega)) (by first | assumption | (show (0:Int)<=0/\(0:Int)<=_;omega) | (have:=Qg p mode;have:=yF (by assumption:yw p) mode;show _<=qQ p mode/\qQ p mode<=30;omega))) ?_)
   rintro _ w28 ⟨ra27Parents,rn27Parents,rc27Parents,ra27Rules,rn27Rules,rc27Rules,rx27Rules,rF27Rules,rfl,M,K⟩ _
   replace N:=N.merge sz30 qm M
   replace H:=H.merge K M
   obtain rfl:=H.yt 0 rfl
   obtain rfl:=H.xB (α:=zZ) 1 rfl 0 rfl qj
   have ek:(zC p mode).xO=qQ p mode:=rfl
   have er:(zC p mode).qE.length=(jO p mode).length:=rfl
   refine sw (xH H ti37 [yI 0,yN,yN] fun b34 w35 H=>sw (xY H 0 [yI ((zC p mode).xO),Sv ra27Parents (((zC p mode).qC).length) rc27Parents,Sv ra27Rules (((zC p mode).qE).length) rc27Rules] sizeOf37 fun w36 H=>zjcc (oF rfl (oL rfl (H.cell 0 rfl rfl) (sp (Bv (decide (((zC p mode).xO:Int) > 8))) (sp (Bv (decide (((zC p mode).xO:Int) > 8))) ?_))))))
   cases h37:(decide (((zC p mode).xO:Int) > 8))
   ·replace h37:=of_decide_eq_false h37
    refine qJ 27 rfl rfl (oF rfl (qJ 27 rfl rfl (oL rfl (H.cell 0 rfl rfl) (qJ 27 rfl rfl (oN rfl (qJ 27 rfl rfl (sp (Bv (decide ((((zC p mode).qE).length:Int) > 8))) (sp (Bv (decide ((((zC p mode).qE).length:Int) > 8))) (zjn (cD rfl (fun h38=>?_) (fun h38=>?_)))))))))))
    ·refine zcr (sw (vG [yI 0,yN,yN] [] (sw (xY H 3 [yI 0,yN,yN] sizeOf37 fun w39 H=>sp (yI 3) (zjr (t_r (retC2 H 3 rfl (yI 3) rfl isAgg37 sizeOf37 rfl rfl ⟨_,rfl,?_⟩)))))))
     replace H:=H.erases [3,2,1,0]
     dsimp only [zU,List.eraseIdx] at H
     refine sq 2 (sp (yI 3) (sw (xH H ti37 [yI 0,yN,yN] fun b40 w41 H=>sw (xY H 0 [yI 0,yN,yN] sizeOf37 fun w42 H=>sp (yI 3) (zjcc (sp (yI 3) (sp (Bv true) (zjn (cTr rfl (zcr (sw (zW H underlying27 ti2 fun b43 w44 H=>sp (yI 3) (sq 1 (sp (yI 3) (zjr (t_r ?_))))))))))))))))
     replace H:=H.vI 0 [] 0
     refine ret2 (Sv (aa b43 0) 0 0) (yI 3) rfl rfl rfl ⟨_,rfl,?_,H.base⟩
     first | rw [cv_1 ql] | rw [cv_2 ql (fun h=>absurd h.1 ql)] | rw [cv_2 ql (fun h=>absurd h.2 ql)] | rw [cv_3 ql ql ql qf] | rw [cv_c ql ql ql qf qf ql]
     exact ⟨(aa b43 0),0,0,rfl,(N.pick []),H.pick [0] []⟩
    refine qU (t_n (zcr (sw (x8 [yI ((zC p mode).xO),Sv ra27Parents (((zC p mode).qC).length) rc27Parents,Sv ra27Rules (((zC p mode).qE).length) rc27Rules] isAgg37 sizeOf37 rfl (qF (H.cells 0 rfl) 0 3) (sw (xY H 3 [yI ((zC p mode).xO),Sv ra27Parents (((zC p mode).qC).length) rc27Parents,Sv ra27Rules (((zC p mode).qE).length) rc27Rules] sizeOf37 fun w45 H=>sp (yI 0) (zjr (retC2 H 3 rfl (yI 0) rfl isAgg37 sizeOf37 rfl rfl ⟨_,rfl,?_⟩))))))))
    replace H:=H.erases [3,0]
    dsimp only [zU,List.eraseIdx] at H
    refine sq 2 (sp (yI 0) (sw (xH H ti37 [yI 0,yN,yN] fun b46 w47 H=>?_)))
    refine sw (xY H 0 [yI ((zC p mode).xO),Sv ra27Parents (((zC p mode).qC).length) rc27Parents,Sv ra27Rules (((zC p mode).qE).length) rc27Rules] sizeOf37 fun w48 H=>sp (yI 0) (zjcc (sp (yI 0) (sp (Bv false) (zjn (cFr rfl (qU (t_n (zcr (sq 1 (sw (vG [yI 0,Sv aregs regs.length cregs] [(1,Sv aregs regs.length cregs)] (sw (xH H ti47 [yI 0,yN] fun b49 w50 H=>?_))))))))))))))
    refine sw (xY H 0 [yI 0,Sv aregs regs.length cregs] sizeOf47 fun w51 H=>zjn (xU ?_))
    refine jw rfl H fun H=>rt 0 _ (yl (cs:=[yI ((zC p mode).xO),Sv ra27Parents (((zC p mode).qC).length) rc27Parents,Sv ra27Rules (((zC p mode).qE).length) rc27Rules]) isAgg37 sizeOf37 rfl (fun _ h=>qF (h.cells 1 rfl) 0 3)) H ?_
    refine tF 1 rfl rfl H ?_
    refine tL 2 rfl rfl (fun _ h=>h.cell 1 rfl rfl) H ?_
    refine ro 3 rfl ?_
    have sz56:=H.base.size
    have lt57:=H.ltN (L:=[rF27Rules]) [0]
    refine oc (l05State_ok _ p ((zC p mode).xO) (⟨0,regs⟩:vS) (qF (H.cells 4 rfl) 0 2) (H.get 1 rfl).1 (qF (H.cells 0 rfl) 0 2) (H.get 2 rfl).1 (by first | assumption | (show (0:Int)<=0/\(0:Int)<=_;omega) | (have:=Qg p mode;have:=yF (by assumption:yw p) mode;show _<=qQ p mode/\qQ p mode<=30;omega)) (by first | assumption | (show (0:Int)<=0/\(0:Int)<=_;omega) | (have:=Qg p mode;have:=yF (by assumption:yw p) mode;show _<=qQ p mode/\qQ p mode<=30;omega)) (by first | assumption | (show (0:Int)<=0/\(0:Int)<=_;omega) | (have:=Qg p mode;have:=yF (by assumption:yw p) mode;show _<=qQ p mode/\qQ p mode<=30;omega)) (by first | assumption | (show (0:Int)<=0/\(0:Int)<=_;omega) | (have:=Qg p mode;have:=yF (by assumption:yw p) mode;show _<=qQ p mode/\qQ p mode<=30;omega))) ?_
    rintro _ w54 ⟨ra53Alive,rn53Alive,rc53Alive,ra53Bags,rn53Bags,rc53Bags,rx53Bags,rF53Bags,ra53Around,rn53Around,rc53Around,rfl,M,K⟩ _
    replace N:=N.merge sz56 lt57 M
    replace H:=H.merge K M
    obtain rfl:=H.rowNB 0 rfl
    obtain rfl:=H.xB (α:=yLI) 1 rfl 0 rfl qj
    obtain rfl:=H.yt 2 rfl
    rw [show (stK p ((zC p mode).xO).toNat (⟨0,regs⟩:vS))=(zq p mode (⟨0,regs⟩:vS)) from rfl] at H
    refine ⟨H.pick (zR 3 5) [1,2,3],(ro 4 rfl ?_)⟩
    obtain ⟨G61,hn62,h63⟩:=H.QV 5 rfl
    obtain ⟨G64,hn65,h66⟩:=H.XE (α:=zZ) 6 rfl 1 rfl qj
    obtain ⟨G67,hn68,h69⟩:=H.rowIsB 0 rfl
    obtain ⟨G70,hn71,h72⟩:=H.XE (α:=yLI) 1 rfl 0 rfl qj
    obtain ⟨G73,hn74,h75⟩:=H.QV 2 rfl
    have sz79:=H.base.size
    have lt80:=H.ltN (L:=[rF53Bags,rF27Rules]) [0,1]
    refine oc (specHS_ok _ (zC p mode) (zq p mode (⟨0,regs⟩:vS)) h63 h66 h69 h72 h75) ?_
    rintro _ w77 ⟨ra76a,rc76a,rF76a,rfl,M,K⟩ _
    replace N:=N.merge sz79 lt80 M
    replace H:=H.merge K M
    refine ⟨H.pick (zR 3 5) [2,3,4],?_⟩
    have S:=H.jr (zR 3 5) [2,3,4]
    refine rtl 5 S ?_
    refine rtl 6 S ?_
    refine rtl 7 S ?_
    refine rtl 8 S ?_
    refine rtl 9 S ?_
    refine xA qh (t_n (zcc (sq 1 (sp (Bv (((yc (zC p mode) (zq p mode (⟨0,regs⟩:vS))).2:Int) != 0)) (zjn (zT (((yc (zC p mode) (zq p mode (⟨0,regs⟩:vS))).2:Int) != 0) rfl (fun h81=>?_) (fun h81=>?_)))))))
    ·replace h81:=bne_iff_ne.1 h81
     refine zcr (sw (zW H underlying27 ti2 fun b82 w83 H=>sq 3 (zjr (t_r ?_))))
     replace H:=H.vI 0 [] 0
     refine ret2 (Sv (aa b82 0) 0 0) (yI ((yc (zC p mode) (zq p mode (⟨0,regs⟩:vS))).2)) rfl rfl rfl ⟨_,rfl,?_,H.base⟩
     first | rw [cv_1 ql] | rw [cv_2 ql (fun h=>absurd h.1 ql)] | rw [cv_2 ql (fun h=>absurd h.2 ql)] | rw [cv_3 ql ql ql qf] | rw [cv_c ql ql ql qf qf ql]
     exact ⟨(aa b82 0),0,0,rfl,(N.pick []),H.pick [0] []⟩
    replace h81:=xu h81
    have hb:=hs_bags h81
    have hc:=h81
    refine qU (t_n (zcr (sw (zW H underlying27 ti2 fun b84 w85 H=>sq 1 (zjcc (sp (yI 0) (zjn (qV ?_))))))))
    replace H:=H.vI 0 [] 0
    refine zA ((fun Z0 Z1 Z2 Z3 Z4 Z5 Z6 Z7 Z8 Z9 Z10 Z11 Z12=>fun m' ρ w86=>∃ (xQ:Env) (jl:yOA) (vC:Nat) (jh:Nat) (out:yLI) (i:Nat),ρ=upd (upd (upd xQ 11 (Sv ra76a (((yc (zC p mode) (zq p mode (⟨0,regs⟩:vS))).1).length) rc76a)) 12 (Sv jl vC jh)) 13 (yI i)/\out=(XF (valsTo (yc (zC p mode) (zq p mode (⟨0,regs⟩:vS))).1 i))/\((i:Int)<=(((yc (zC p mode) (zq p mode (⟨0,regs⟩:vS))).1).length))/\m' =((((yc (zC p mode) (zq p mode (⟨0,regs⟩:vS))).1).length) - (i:Int)).toNat/\Fresh w.heap.size [rF76a,rF53Bags,rF27Rules]/\St w w86 [rr jl vC jh 2 1 (out.map (Value.int .i64)),Z0,Z1,Z2,Z3,Z4,Z5,Z6,Z7] [Z8,Z9,Z10,Z11,Z12]) _ _ _ _ _ _ _ _ _ _ _ _ _) (((((yc (zC p mode) (zq p mode (⟨0,regs⟩:vS))).1).length) - (0:Int)).toNat) ⟨_,(aa b84 0),0,0,([]:yLI),0,uE3,(by rfl),qf,rfl,N,H⟩ ?_
    clear H N
    rintro m' ρ w87 ⟨xQ,jl,vC,jh,out,i,rfl,rfl,i0,rfl,N,H⟩
    have hn_out:=H.yt 0 rfl
    have ol:=putAll_len (valsTo (yc (zC p mode) (zq p mode (⟨0,regs⟩:vS))).1 i)
    have sl:=vals_len (yc (zC p mode) (zq p mode (⟨0,regs⟩:vS))).1 i
    refine zcc (sp (yI i) (sq 1 (oN rfl (sq 1 (zjn (cD rfl (fun h88=>?_) (fun h88=>?_)))))))
    ·obtain ⟨b1,b2⟩:=hb.2 i qf
     refine qU (t_n (xU (qV (xK (sq 2 (sp (yI i) ?_))))))
     obtain ⟨b89,o90,rfl⟩:=H.addr 0 rfl qf
     obtain ⟨ae92Alive,ce92Alive,Fe92Alive,ae92Bags,ce92Bags,Fe92Bags,ae92Around,ce92Around,Fe92Around,H⟩:=H.elem_StateD 0 rfl i i qf qf qf
     refine oI rfl rfl (oF rfl (oL rfl (H.xW 3 rfl 1 rfl) ?_))
     obtain ⟨b93,o94,rfl⟩:=H.addr 1 rfl qf
     obtain ⟨ae96,ce96,Fe96,H⟩:=H.ji 1 rfl 0 0 qf qf qf
     refine oI rfl rfl (oL rfl (H.xW 1 rfl 0 rfl) ?_)
     obtain ⟨b97,o98,rfl⟩:=H.addr 0 rfl qf
     refine oI rfl rfl (oL rfl (H.zB 0 rfl 0 qf) ?_)
     obtain ⟨G100,hn101,h102⟩:=H.QV 0 rfl
     have sz106:=H.base.size
     refine sw (oc (jo (by rw [← hn101]) (l00Put_ok _ (XF (valsTo (yc (zC p mode) (zq p mode (⟨0,regs⟩:vS))).1 i)) ((((((yc (zC p mode) (zq p mode (⟨0,regs⟩:vS))).1)[i]!).qP)[0]!)[0]!) (hn101▸h102) qg)) ?_)
     rintro _ w104 ⟨ra103,rn103,rc103,rfl,M,K⟩ _
     replace H:=H.merge K M
     obtain rfl:=H.yt 0 rfl
     refine sq 1 (xP (b_n (t_n (xK (sp (yI i) (sw (zi i 1 rfl rfl qf (sq 1 (xP (qW (m' :=((((yc (zC p mode) (zq p mode (⟨0,regs⟩:vS))).1).length) - ((i+1):Int)).toNat) qf ⟨_,_,_,_,_,i+1,uE3,?_,?_,rfl,N,H.pick (0::zR 2 8) (zR 6 5)⟩))))))))))
     ·exact vals_put qf
     ·omega
    refine zx4 (zcr (sq 2 (sp (yI 0) (zjr (ret2 (Sv jl vC jh) (yI 0) rfl rfl rfl ⟨_,rfl,?_,H.base⟩)))))
    rw [cv_0 ql ql ql qf qf hc (i:=i) qf]
    exact ⟨jl,vC,jh,rfl,(N.pick []),H.pick [0] []⟩
   replace h37:=of_decide_eq_true h37
   refine xR (zR 28 4) (sp (Bv true) (zjn (cTr rfl (zcr (sw (vG [yI 0,yN,yN] [] (sw (xY H 3 [yI 0,yN,yN] sizeOf37 fun w109 H=>sp (yI 3) (zjr (t_r (retC2 H 3 rfl (yI 3) rfl isAgg37 sizeOf37 rfl rfl ⟨_,rfl,?_⟩)))))))))))
   replace H:=H.erases [3,2,1,0]
   dsimp only [zU,List.eraseIdx] at H
   refine sq 2 (sp (yI 3) (sw (xH H ti37 [yI 0,yN,yN] fun b110 w111 H=>sw (xY H 0 [yI 0,yN,yN] sizeOf37 fun w112 H=>sp (yI 3) (zjcc (sp (yI 3) (sp (Bv true) (zjn (cTr rfl (zcr (sw (zW H underlying27 ti2 fun b113 w114 H=>sp (yI 3) (sq 1 (sp (yI 3) (zjr (t_r ?_))))))))))))))))
   replace H:=H.vI 0 [] 0
   refine ret2 (Sv (aa b113 0) 0 0) (yI 3) rfl rfl rfl ⟨_,rfl,?_,H.base⟩
   first | rw [cv_1 ql] | rw [cv_2 ql (fun h=>absurd h.1 ql)] | rw [cv_2 ql (fun h=>absurd h.2 ql)] | rw [cv_3 ql ql ql qf] | rw [cv_c ql ql ql qf qf ql]
   exact ⟨(aa b113 0),0,0,rfl,(N.pick []),H.pick [0] []⟩
  replace h19:=xm h19
  replace h19:=zX h19
  refine xR [17,18] (sp (Bv true) (zjn (cTr rfl (zcr (sw (vG [yI 0,yN,yN] [] (sw (xY H 0 [yI 0,yN,yN] sizeOf37 fun w115 H=>sp (yI 2) (zjr (t_r (retC2 H 0 rfl (yI 2) rfl isAgg37 sizeOf37 rfl rfl ⟨_,rfl,?_⟩)))))))))))
  replace H:=H.erases [0]
  dsimp only [zU,List.eraseIdx] at H
  refine sq 2 (sp (yI 2) (sw (xH H ti37 [yI 0,yN,yN] fun b116 w117 H=>sw (xY H 0 [yI 0,yN,yN] sizeOf37 fun w118 H=>sp (yI 2) (zjcc (sp (yI 2) (sp (Bv true) (zjn (cTr rfl (zcr (sw (zW H underlying27 ti2 fun b119 w120 H=>sp (yI 2) (sq 1 (sp (yI 2) (zjr (t_r ?_))))))))))))))))
  replace H:=H.vI 0 [] 0
  refine ret2 (Sv (aa b119 0) 0 0) (yI 2) rfl rfl rfl ⟨_,rfl,?_,H.base⟩
  first | rw [cv_1 ql] | rw [cv_2 ql (fun h=>absurd h.1 ql)] | rw [cv_2 ql (fun h=>absurd h.2 ql)] | rw [cv_3 ql ql ql qf] | rw [cv_c ql ql ql qf qf ql]
  exact ⟨(aa b119 0),0,0,rfl,N,H.pick [0] []⟩
 replace h6:=xm h6
 replace h6:=zX h6
 refine xR [19,20] (sp (Bv true) (sw (zN #[pp b1 0,yI mode,Bv true] rfl rfl call46 (en func46 ntmps46 ?_))))
 refine zcr (sw (xH H ti37 [yI 0,yN,yN] fun b121 w122 H=>sp (yI 0) (zjcc (sq 1 (sw (oq (l05Ok_ok _ p (qF (H.cells 1 rfl) 0 2) (H.get 0 rfl).1) H fun w124 H=>sp (Bv (!(dec (yw p)))) (zjn (zT _ rfl (fun h126=>?_) (fun h=>absurd (yU (qY h)) h6)))))))))
 replace h126:=xm h126
 replace h126:=zX h126
 refine zcr (sw (vG [yI 0,yN,yN] [] (sw (xY H 0 [yI 0,yN,yN] sizeOf37 fun w127 H=>sp (yI 1) (zjr (t_r (retC2 H 0 rfl (yI 1) rfl isAgg37 sizeOf37 rfl rfl ⟨_,rfl,?_⟩)))))))
 replace H:=H.erases [0]
 dsimp only [zU,List.eraseIdx] at H
 refine sq 2 (sp (yI 1) (sw (xH H ti37 [yI 0,yN,yN] fun b128 w129 H=>sw (xY H 0 [yI 0,yN,yN] sizeOf37 fun w130 H=>sp (yI 1) (zjcc (sp (yI 1) (sp (Bv true) (zjn (cTr rfl (zcr (sw (zW H underlying27 ti2 fun b131 w132 H=>sp (yI 1) (sq 1 (sp (yI 1) (zjr (t_r ?_))))))))))))))))
 replace H:=H.vI 0 [] 0
 refine ret2 (Sv (aa b131 0) 0 0) (yI 1) rfl rfl rfl ⟨_,rfl,?_,H.base⟩
 first | rw [cv_1 ql] | rw [cv_2 ql (fun h=>absurd h.1 ql)] | rw [cv_2 ql (fun h=>absurd h.2 ql)] | rw [cv_3 ql ql ql qf] | rw [cv_c ql ql ql qf qf ql]
 exact ⟨(aa b131 0),0,0,rfl,N,H.pick [0] []⟩
theorem law_CellValues (w:World) (aP:zF) (aMode:Int) (aRegs:yLI) (aaPOrders:yOA) (caPOrders:Nat) (FaPOrders:yLN) (aaRegs:yOA) (caRegs:Nat) (FaRegs:yLN) (haPOrders:zP w FaPOrders aaPOrders caPOrders aP.qB) (haRegs:zP w FaRegs aaRegs caRegs aRegs):Calls Tryz.prog 5 #[.agg #[yI aP.qA,Sv aaPOrders aP.qB.length caPOrders],yI aMode,Sv aaRegs aRegs.length caRegs] w (Ret (fun v w' =>v=Bv true) w):=by
 refine en func5 ntmps5 ?_
 have H:=((St.start w).arg haRegs).arg haPOrders
 have nhaPOrders:=qO haPOrders
 have nhaRegs:=qO haRegs
 clear haPOrders haRegs
 have N:=Fresh.nil w.heap.size
 have A:=H.ltN (L:=[FaPOrders,FaRegs]) [0,1]
 have t1:=tot_ProgramD aP
 have t2:=tot_ints aRegs
 have t3:=len_tot aP.qB
 have c0:=cntL_tot aP.qB
 have c1:=cntL_tot aRegs
 have f1:=few_cv aP aMode aRegs
 refine zcr (sw (zY H [yI aP.qA,Sv aaPOrders aP.qB.length caPOrders] fun b1 w2 H=>sp (Bv false) (zjcc (sq 1 (oN rfl (sp (Bv (decide ((aRegs.length:Int) > 1048576))) (zjn (cD rfl (fun h3=>?_) (fun h3=>?_)))))))))
 ·refine zcr (sp (Bv true) (zjr (t_r (rH1 (Bv true) H ?_))))
  rfl
 refine qU (t_n (zcr (sq 1 (zjc (sw (x8 [yI aP.qA,Sv aaPOrders aP.qB.length caPOrders] isAgg71 sizeOf71 rfl (qF (H.cells 0 rfl) 0 2) (sq 1 (sw (oq (szProgram_ok _ aP 1048576 (H.get 0 rfl).1 qf) H fun w4 H=>?_)))))))))
 have:=szR_cases (tot aP) 1048576
 refine sq 1 (zjcc (sq 1 (sp (Bv (decide ((szR (tot aP) 1048576:Int) < 0))) (zjn (cD rfl (fun h6=>?_) (fun h6=>?_))))))
 ·refine zcr (sp (Bv true) (zjr (t_r (rH1 (Bv true) H ?_))))
  rfl
 refine qU (t_n (zcr (sw (x8 [yI aP.qA,Sv aaPOrders aP.qB.length caPOrders] isAgg71 sizeOf71 rfl (qF (H.cells 0 rfl) 0 2) ?_))))
 have sz7:=H.base.size
 refine sw (oc (toProgram_ok _ aP (H.get 0 rfl).1 qg) ?_)
 rintro v12 w10 r12 x11
 obtain ⟨a12Orders,c12Orders,F12Orders,rfl,f12,H⟩:=H.add_ProgramD x11 r12
 replace N:=N.cons f12 sz7 (by intro F hF;simp at hF)
 refine sq 2 ?_
 have sz13:=H.base.size
 have lt14:=H.ltN (L:=[F12Orders]) [0]
 refine sw (oc (toInt64S_ok _ aRegs (H.get 2 rfl).1 (by first | omega | (have:=p2 qf;omega))) ?_)
 rintro v18 w16 r18 x17
 replace H:=H.zt x17 r18
 obtain ⟨a19,c20,rfl,hc21,hm22⟩:=H.jm 0 rfl
 obtain ⟨G23,hn24,h25⟩:=H.QV 0 rfl
 have sz29:=H.base.size
 refine sw (oc (specCV_ok _ aP aMode aRegs (H.get 0 rfl).1 h25) ?_)
 rintro _ w27 ⟨ra26a,rn26a,rc26a,rfl,M,K⟩ _
 replace H:=H.merge K M
 obtain rfl:=H.yt 0 rfl
 refine sq 5 (zjc (sw (x8 [yI aP.qA,Sv aaPOrders aP.qB.length caPOrders] isAgg71 sizeOf71 rfl (qF (H.cells 2 rfl) 0 2) ?_)))
 have sz32:=H.base.size
 have lt33:=H.ltN (L:=[F12Orders]) [0]
 refine sw (oc (toProgram_ok _ aP (H.get 1 rfl).1 qg) ?_)
 rintro v37 w35 r37 x36
 obtain ⟨a37Orders,c37Orders,F37Orders,rfl,f37,H⟩:=H.add_ProgramD x36 r37
 replace N:=N.cons f37 sz32 lt33
 refine sw (xH H ti26 [yI 0,yN] fun b38 w39 H=>sw (xY H 0 [yI aP.qA,Sv a37Orders aP.qB.length c37Orders] sizeOf26 fun w40 H=>zjc (sq 1 ?_)))
 have sz41:=H.base.size
 have lt42:=H.ltN (L:=[F37Orders,F12Orders]) [0,1]
 refine sw (oc (toInt64S_ok _ aRegs (H.get 3 rfl).1 (by first | omega | (have:=p2 qf;omega))) ?_)
 rintro v46 w44 r46 x45
 replace H:=H.zt x45 r46
 obtain ⟨a47,c48,rfl,hc49,hm50⟩:=H.jm 0 rfl
 refine sq 1 (zjc (sw (x8 [yI aP.qA,Sv a37Orders aP.qB.length c37Orders] isAgg26 sizeOf26 rfl (qF (H.cells 1 rfl) 0 2) (sq 2 ?_))))
 obtain ⟨G51,hn52,h53⟩:=H.QV 0 rfl
 have sz57:=H.base.size
 refine sw (oc (implCV_ok _ aP aMode aRegs (H.get 0 rfl).1 h53) ?_)
 rintro _ w55 ⟨ra54a,rn54a,rc54a,rfl,M,K⟩ _
 replace H:=H.merge K M
 obtain rfl:=H.yt 0 rfl
 refine sq 5 (zjcc (sq 2 ?_))
 obtain ⟨G60,hn61,h62⟩:=H.QV 0 rfl
 obtain ⟨G63,hn64,h65⟩:=H.QV 3 rfl
 refine sw (oq (eqInt64S_ok _ ((yf aP aMode aRegs).1) ((yf aP aMode aRegs).1) h62 h65) H fun w66 H=>sp (Bv (!(decide (((yf aP aMode aRegs).1)=((yf aP aMode aRegs).1))))) (sp (Bv (!(decide (((yf aP aMode aRegs).1)=((yf aP aMode aRegs).1))))) ?_))
 cases h68:(!(decide (((yf aP aMode aRegs).1)=((yf aP aMode aRegs).1))))
 ·replace h68:=qY h68
  refine qJ 51 rfl rfl (sq 1 (qJ 51 rfl rfl (sq 1 (qJ 51 rfl rfl (sq 2 (zjn (zT _ rfl (fun h=>absurd rfl (bne_iff_ne.1 h)) (fun h69=>?_))))))))
  replace h69:=xu h69
  refine qU (t_n (xU (xU ?_)))
  refine jw rfl H fun H=>rt 0 _ (yl (cs:=[yI aP.qA,Sv a37Orders aP.qB.length c37Orders]) isAgg26 sizeOf26 rfl (fun _ h=>qF (h.cells 2 rfl) 0 2)) H ?_
  refine rt 1 _ (yl (cs:=[yI aP.qA,Sv aaPOrders aP.qB.length caPOrders]) isAgg71 sizeOf71 rfl (fun _ h=>qF (h.cells 5 rfl) 0 2)) H ?_
  refine ro 2 rfl ?_
  have sz71:=H.base.size
  have lt72:=H.ltN (L:=[F37Orders,F12Orders]) [0,1]
  refine oc (toProgram_ok _ aP (H.get 2 rfl).1 qg) ?_
  rintro v76 w74 r76 x75
  obtain ⟨a76Orders,c76Orders,F76Orders,rfl,f76,H⟩:=H.add_ProgramD x75 r76
  replace N:=N.cons f76 sz71 lt72
  refine ⟨H.pick (zR 0 6) (zR 1 4),(ro 3 rfl (oq (eqProgram_ok _ aP aP (H.get 1 rfl).1 (H.get 0 rfl).1) H fun w77 H=>⟨H.pick (zR 0 6) (zR 1 4),(rtl 4 (H.pick (zR 0 6) (zR 1 4)) ?_)⟩))⟩
  refine xA qh (t_n (zT _ rfl (fun h=>absurd (xm h) qm) (fun h79=>?_)))
  replace h79:=qY h79
  refine qU (t_n (zcc (sq 2 ?_)))
  have sz80:=H.base.size
  have lt81:=H.ltN (L:=[F76Orders,F37Orders,F12Orders]) [0,1,2]
  refine sw (oc (toInt64S_ok _ aRegs (H.get 4 rfl).1 (by first | omega | (have:=p2 qf;omega))) ?_)
  rintro v85 w83 r85 x84
  replace H:=H.zt x84 r85
  obtain ⟨a86,c87,rfl,hc88,hm89⟩:=H.jm 0 rfl
  obtain ⟨G90,hn91,h92⟩:=H.QV 2 rfl
  obtain ⟨G93,hn94,h95⟩:=H.QV 0 rfl
  refine sw (oq (eqInt64S_ok _ aRegs aRegs h92 h95) H fun w96 H=>sq 1 (zjn (zT _ rfl (fun h=>absurd (xm h) qm) (fun h98=>?_))))
  replace h98:=qY h98
  refine qU (t_n (zcr (sp (yI 1) (zjc (sw (x8 [yI aP.qA,Sv a37Orders aP.qB.length c37Orders] isAgg26 sizeOf26 rfl (qF (H.cells 3 rfl) 0 2) (sp (yI 1) ?_)))))))
  have N99:Fresh w.heap.size [F37Orders,F76Orders,F12Orders]:=(N.pick [1,0,2])
  refine sw (o_callM #[.agg #[yI aP.qA,Sv a37Orders aP.qB.length c37Orders],yI 1] rfl rfl call34 (markProgram_ok w96 aP 1 a37Orders c37Orders F37Orders (H.get 1 rfl).1 (N99.pick [0]:Fresh _ [F37Orders]).one.2 ((H.get 1 rfl).2 rfl) qf qf) ?_)
  rintro _ w100 ⟨rfl,m102⟩ x101
  replace H:St _ _ [rr a86 aRegs.length c87 2 1 (aRegs.map (Value.int .i64)),rr ra54a (((yf aP aMode aRegs).1).length) rc54a 2 1 (((yf aP aMode aRegs).1).map (Value.int .i64)),rr a47 aRegs.length c48 2 1 (aRegs.map (Value.int .i64)),.box b38 [yI aP.qA,Sv a37Orders aP.qB.length c37Orders] 26,rr ra26a (((yf aP aMode aRegs).1).length) rc26a 2 1 (((yf aP aMode aRegs).1).map (Value.int .i64)),rr a19 aRegs.length c20 2 1 (aRegs.map (Value.int .i64)),.box b1 [yI aP.qA,Sv aaPOrders aP.qB.length caPOrders] 71] [isF true F37Orders (Sv a37Orders aP.qB.length c37Orders) (mrk aP.qB (1)),sF true F76Orders a76Orders c76Orders aP.qB,sF true F12Orders a12Orders c12Orders aP.qB,sF false FaPOrders aaPOrders caPOrders aP.qB,sF false FaRegs aaRegs caRegs aRegs]:=H.chgFacts (Fs:=[F37Orders]) (L:=[F76Orders,F12Orders]) (A:=[FaPOrders,FaRegs]) N99 A (x101.mono (by intro z hz;simpa using hz)) [1] [isF true F37Orders (Sv a37Orders aP.qB.length c37Orders) (mrk aP.qB (1))] (all_of ⟨m102,trivial⟩) [0,2,3,4] (zR 0 4)
  replace N:=N99
  refine sq 1 (zjc (sq 2 ?_))
  obtain ⟨G103,N,hn104,H⟩:=H.zh 2 rfl N (H.vz [0,1,2])
  have N105:Fresh w.heap.size [G103,F37Orders,F76Orders,F12Orders]:=N
  refine sw (o_callM #[Sv a47 aRegs.length c48,yI (1+(cnt aP.qB:Nat))] rfl rfl call35 (markInt64S_ok w100 aRegs (1+(cnt aP.qB:Nat)) a47 c48 G103 (H.get 0 rfl).1 (N105.pick [0]:Fresh _ [G103]).one.2 ((H.get 0 rfl).2 rfl) qf qf) ?_)
  rintro _ w106 ⟨rfl,m108⟩ x107
  replace H:St _ _ [rr a86 aRegs.length c87 2 1 (aRegs.map (Value.int .i64)),rr ra54a (((yf aP aMode aRegs).1).length) rc54a 2 1 (((yf aP aMode aRegs).1).map (Value.int .i64)),rr none 0 0 0 1 [],.box b38 [yI aP.qA,Sv a37Orders aP.qB.length c37Orders] 26,rr ra26a (((yf aP aMode aRegs).1).length) rc26a 2 1 (((yf aP aMode aRegs).1).map (Value.int .i64)),rr a19 aRegs.length c20 2 1 (aRegs.map (Value.int .i64)),.box b1 [yI aP.qA,Sv aaPOrders aP.qB.length caPOrders] 71] [isF true G103 (Sv a47 aRegs.length c48) (mrk aRegs (1+(cnt aP.qB:Nat))),isF true F37Orders (Sv a37Orders aP.qB.length c37Orders) (mrk aP.qB (1)),sF true F76Orders a76Orders c76Orders aP.qB,sF true F12Orders a12Orders c12Orders aP.qB,sF false FaPOrders aaPOrders caPOrders aP.qB,sF false FaRegs aaRegs caRegs aRegs]:=H.chgFacts (Fs:=[G103]) (L:=[F37Orders,F76Orders,F12Orders]) (A:=[FaPOrders,FaRegs]) N105 A (x107.mono (by intro z hz;simpa using hz)) [0] [isF true G103 (Sv a47 aRegs.length c48) (mrk aRegs (1+(cnt aP.qB:Nat)))] (all_of ⟨m108,trivial⟩) (zR 1 5) (zR 0 5)
  replace N:=N105
  refine sq 1 (zjcc (sq 1 (sp (Bv (decide ((1+(cnt aP.qB:Nat)+(cnt aRegs:Nat):Int) < 0))) (sp (Bv (decide ((1+(cnt aP.qB:Nat)+(cnt aRegs:Nat):Int) < 0))) ?_))))
  cases h109:(decide ((1+(cnt aP.qB:Nat)+(cnt aRegs:Nat):Int) < 0))
  ·replace h109:=of_decide_eq_false h109
   refine qJ 74 rfl rfl (sq 1 (qJ 74 rfl rfl (sq 1 (qJ 74 rfl rfl ?_))))
   obtain ⟨G110,hn111,h112⟩:=H.QV 1 rfl
   obtain ⟨G113,hn114,h115⟩:=H.QV 4 rfl
   refine sw (oq (eqInt64S_ok _ ((yf aP aMode aRegs).1) ((yf aP aMode aRegs).1) h112 h115) H fun w116 H=>qJ 74 rfl rfl (sp (Bv (!(decide (((yf aP aMode aRegs).1)=((yf aP aMode aRegs).1))))) (sp (Bv (!(decide (((yf aP aMode aRegs).1)=((yf aP aMode aRegs).1))))) (sp (Bv (!(decide (((yf aP aMode aRegs).1)=((yf aP aMode aRegs).1))))) ?_))))
   cases h118:(!(decide (((yf aP aMode aRegs).1)=((yf aP aMode aRegs).1))))
   ·replace h118:=qY h118
    refine qJ 80 rfl rfl (sq 1 (qJ 80 rfl rfl (sq 1 (qJ 80 rfl rfl (sq 2 (zjn (zT _ rfl (fun h=>absurd rfl (bne_iff_ne.1 h)) (fun h119=>?_))))))))
    replace h119:=xu h119
    refine qU (t_n (zcr (sp (yI 1) (zjc (sq 1 (sp (yI 1) ?_))))))
    obtain ⟨G120,N,hn121,H⟩:=H.zh 1 rfl N (H.vz (zR 0 4))
    have N122:Fresh w.heap.size [G120,G103,F37Orders,F76Orders,F12Orders]:=N
    refine sw (o_callM #[Sv ra54a (((yf aP aMode aRegs).1).length) rc54a,yI 1] rfl rfl call35 (markInt64S_ok w116 ((yf aP aMode aRegs).1) 1 ra54a rc54a G120 (H.get 0 rfl).1 (N122.pick [0]:Fresh _ [G120]).one.2 ((H.get 0 rfl).2 rfl) qf qf) ?_)
    rintro _ w123 ⟨rfl,m125⟩ x124
    replace H:St _ _ [rr a86 aRegs.length c87 2 1 (aRegs.map (Value.int .i64)),rr none 0 0 0 1 [],rr none 0 0 0 1 [],.box b38 [yI aP.qA,Sv a37Orders aP.qB.length c37Orders] 26,rr ra26a (((yf aP aMode aRegs).1).length) rc26a 2 1 (((yf aP aMode aRegs).1).map (Value.int .i64)),rr a19 aRegs.length c20 2 1 (aRegs.map (Value.int .i64)),.box b1 [yI aP.qA,Sv aaPOrders aP.qB.length caPOrders] 71] [isF true G120 (Sv ra54a (((yf aP aMode aRegs).1).length) rc54a) (mrk ((yf aP aMode aRegs).1) (1)),isF true G103 (Sv a47 aRegs.length c48) (mrk aRegs (1+(cnt aP.qB:Nat))),isF true F37Orders (Sv a37Orders aP.qB.length c37Orders) (mrk aP.qB (1)),sF true F76Orders a76Orders c76Orders aP.qB,sF true F12Orders a12Orders c12Orders aP.qB,sF false FaPOrders aaPOrders caPOrders aP.qB,sF false FaRegs aaRegs caRegs aRegs]:=H.chgFacts (Fs:=[G120]) (L:=[G103,F37Orders,F76Orders,F12Orders]) (A:=[FaPOrders,FaRegs]) N122 A (x124.mono (by intro z hz;simpa using hz)) [0] [isF true G120 (Sv ra54a (((yf aP aMode aRegs).1).length) rc54a) (mrk ((yf aP aMode aRegs).1) (1))] (all_of ⟨m125,trivial⟩) (zR 1 6) (zR 0 6)
    replace N:=N122
    refine sq 1 (zjc (sp (yI 1) (zjc (sq 1 (sp (yI 1) ?_)))))
    have hn126:=H.isLen 0 rfl
    refine sw (oq (jo (by rw [← hn126]) (heldInt64S_ok _ (mrk ((yf aP aMode aRegs).1) (1)) 1 (hn126▸(H.get 0 rfl).1) (by first | exact mkd_mark _ _ | omega | (simp only [cnt_mark];first | exact mkd_mark _ _ | omega)) (by first | exact mkd_mark _ _ | omega | (simp only [cnt_mark];first | exact mkd_mark _ _ | omega)) (by first | exact mkd_mark _ _ | omega | (simp only [cnt_mark];first | exact mkd_mark _ _ | omega)))) H fun w127 H=>sq 1 (zjcc ?_))
    refine sq 1 (sp (Bv (decide ((1+(cnt (mrk ((yf aP aMode aRegs).1) (1)):Nat):Int) < 0))) (zjn (cD rfl (fun h129=>?_) (fun h129=>?_))))
    ·refine zcr (sp (Bv false) (zjr (t_r (rH1 (Bv false) H ?_))))
     exfalso;first | omega | contradiction
    refine qU (t_n (zcc (sq 2 (sp (Bv ((1+(cnt (mrk ((yf aP aMode aRegs).1) (1)):Nat):Int) != (1+(cnt ((yf aP aMode aRegs).1):Nat)))) (zjn (zT ((1+(cnt (mrk ((yf aP aMode aRegs).1) (1)):Nat):Int) != (1+(cnt ((yf aP aMode aRegs).1):Nat))) rfl (fun h130=>?_) (fun h130=>?_)))))))
    ·replace h130:=bne_iff_ne.1 h130
     refine zcr (sp (Bv false) (zjr (t_r (rH1 (Bv false) H ?_))))
     exfalso;first | omega | contradiction | exact h130 (by simp only [cnt_mark])
    replace h130:=xu h130
    refine qU (t_n (zcr (sw (x8 [yI aP.qA,Sv aaPOrders aP.qB.length caPOrders] isAgg71 sizeOf71 rfl (qF (H.cells 6 rfl) 0 2) ?_))))
    have sz131:=H.base.size
    have lt132:=H.ltN (L:=[G120,G103,F37Orders,F76Orders,F12Orders]) (zR 0 5)
    refine sw (oc (toProgram_ok _ aP (H.get 5 rfl).1 qg) ?_)
    rintro v136 w134 r136 x135
    obtain ⟨a136Orders,c136Orders,F136Orders,rfl,f136,H⟩:=H.add_ProgramD x135 r136
    replace N:=N.cons f136 sz131 lt132
    refine sq 2 ?_
    have sz137:=H.base.size
    have lt138:=H.ltN (L:=[F136Orders,G120,G103,F37Orders,F76Orders,F12Orders]) (zR 0 6)
    refine sw (oc (toInt64S_ok _ aRegs (H.get 7 rfl).1 (by first | omega | (have:=p2 qf;omega))) ?_)
    rintro v142 w140 r142 x141
    replace H:=H.zt x141 r142
    obtain ⟨a143,c144,rfl,hc145,hm146⟩:=H.jm 0 rfl
    obtain ⟨G147,hn148,h149⟩:=H.QV 0 rfl
    have sz153:=H.base.size
    refine sw (oc (implCV_ok _ aP aMode aRegs (H.get 0 rfl).1 h149) ?_)
    rintro _ w151 ⟨ra150a,rn150a,rc150a,rfl,M,K⟩ _
    replace H:=H.merge K M
    obtain rfl:=H.yt 0 rfl
    refine sq 5 (zjcc (sq 2 ?_))
    obtain ⟨G156,hn157,h158⟩:=H.QV 0 rfl
    obtain ⟨G159,hn160,h161⟩:=H.QV 6 rfl
    refine sw (oq (eqInt64S_ok _ ((yf aP aMode aRegs).1) ((yf aP aMode aRegs).1) h158 h161) H fun w162 H=>sp (Bv (!(decide (((yf aP aMode aRegs).1)=((yf aP aMode aRegs).1))))) (sp (Bv (!(decide (((yf aP aMode aRegs).1)=((yf aP aMode aRegs).1))))) ?_))
    cases h164:(!(decide (((yf aP aMode aRegs).1)=((yf aP aMode aRegs).1))))
    ·replace h164:=qY h164
     refine qJ 109 rfl rfl (sq 1 (qJ 109 rfl rfl (sq 1 (qJ 109 rfl rfl (sq 2 (zjn (zT _ rfl (fun h=>absurd rfl (bne_iff_ne.1 h)) (fun h165=>?_))))))))
     replace h165:=xu h165
     refine qU (t_n (zcr (sp (yI 1) (zjc (sq 1 (sp (yI 1) ?_))))))
     have hn166:=H.isLen 1 rfl
     refine sw (oq (jo (by rw [← hn166]) (heldInt64S_ok _ (mrk ((yf aP aMode aRegs).1) (1)) 1 (hn166▸(H.get 1 rfl).1) (by first | exact mkd_mark _ _ | omega | (simp only [cnt_mark];first | exact mkd_mark _ _ | omega)) (by first | exact mkd_mark _ _ | omega | (simp only [cnt_mark];first | exact mkd_mark _ _ | omega)) (by first | exact mkd_mark _ _ | omega | (simp only [cnt_mark];first | exact mkd_mark _ _ | omega)))) H fun w167 H=>sq 1 (zjcc ?_))
     refine sq 1 (sp (Bv (decide ((1+(cnt (mrk ((yf aP aMode aRegs).1) (1)):Nat):Int) < 0))) (zjn (cD rfl (fun h169=>?_) (fun h169=>?_))))
     ·refine zcr (sp (Bv false) (zjr (t_r (rH1 (Bv false) H ?_))))
      exfalso;first | omega | contradiction
     refine qU (t_n (zcc (sq 2 (sp (Bv ((1+(cnt (mrk ((yf aP aMode aRegs).1) (1)):Nat):Int) != (1+(cnt ((yf aP aMode aRegs).1):Nat)))) (zjn (zT ((1+(cnt (mrk ((yf aP aMode aRegs).1) (1)):Nat):Int) != (1+(cnt ((yf aP aMode aRegs).1):Nat))) rfl (fun h=>absurd h130 (bne_iff_ne.1 h)) (fun h170=>?_)))))))
     replace h170:=xu h170
     refine qU (t_n (zcr (sp (Bv true) (zjr (rH1 (Bv true) H ?_)))))
     rfl
    ·exact absurd (xm h164) qm
   ·exact absurd (xm h118) qm
  replace h109:=of_decide_eq_true h109
  refine xR (zR 75 4) (sp (Bv true) (sp (Bv true) (xR [81,82,83] (sp (Bv true) (zjn (cTr rfl (zcr (sp (Bv false) (zjr (t_r (rH1 (Bv false) H ?_)))))))))))
  exfalso;first | omega | contradiction
 ·exact absurd (xm h68) qm
end
section
open Go.ChangeShapes Go.WideShapes Go.ChangeAt Go.RowKit Go.Joins
def Reads (P:Program) (t:TypeId) (α:Type) [qK α]:Prop:=
 ∀ {H:Type} {enc:TypeId×Value->H} {w:World} {spare:Nat->Bool} {held:Bool} {fuel:Nat} {cs:List Value} {x:DataW H×List MemPlace},
  DataW.trod enc P w 0 spare held fuel t cs=some x->∃ F,∃ y:α,qK.rep w F cs y
theorem reads_int (hu:P.underlying t=some (.int .i64)):Reads P t Int:=fun h=>by
 obtain ⟨n,rfl,_⟩:=DataW.trod_int hu h
 exact ⟨[],n,rfl,rfl⟩
theorem cell_spot {a:Addr} (h:w.cell? a=some v):a.spot=none:=by
 unfold World.cell? at h
 split at h
 ·split at h
  ·cases h
  ·rename_i hs;simpa using hs
 ·cases h
theorem reads_slice {α:Type} [qK α] (hu:P.underlying t=some (.slice e)) (hc:P.cellsOf e=qK.size α) (hz:0 < qK.size α) (he:Reads P e α):Reads P t (List α):=by
 intro H enc w spare held fuel cs x h
 rcases DataW.trod_slice hu h with ⟨rfl,_⟩ | ⟨a,len,cap,elems,rest,n,_,rfl,_,_,hlc,hcm,hel,hget,_⟩
 ·exact ⟨[],[],none,0,rfl,by simp,Or.inl ⟨rfl,rfl⟩⟩
 ·have hm:cap<=9223372036854775807:=by unfold maxLen at hcm;omega
  rcases Nat.eq_zero_or_pos len with h0 | h0
  ·subst h0
   exact ⟨[],[],some a,cap,rfl,by simp,Or.inl ⟨rfl,rfl⟩⟩
  ·have hone:∀ i,i < len->∃ ci Fi,∃ y:α,w.cells? 0 (a.add (i * qK.size α)) (qK.size α)=some ci/\qK.rep w Fi ci y:=by
    intro i hi
    have hg:=hget i hi
    rw [hc] at hg
    have hs:elems[i]? =some (elems[i]'(by omega)):=List.getElem?_eq_getElem qf
    rw [hs] at hg
    obtain ⟨ci,h1,h2⟩:=Option.bind_eq_some_iff.1 hg
    obtain ⟨Fi,y,hr⟩:=he h2
    exact ⟨ci,Fi,y,h1,hr⟩
   have hsp:a.spot=none:=by
    obtain ⟨ci,Fi,y,h1,_⟩:=hone 0 h0
    obtain ⟨_,hl,hcell⟩:=World.cells?_some h1
    have:=hcell 0 hz
    rw [List.getElem?_eq_getElem (show 0 < ci.length by omega)] at this
    have:=cell_spot this
    simpa [Addr.add] using this
   obtain ⟨b,off,sp⟩:=a
   simp only at hsp
   subst hsp
   have hadd:∀ i j:Nat,((⟨b,off,none⟩:Addr).add (i * qK.size α)).add j=⟨b,off+i * qK.size α+j,none⟩:=fun i j=>by simp [Addr.add_mid]
   have hall:∀ m,m<=len->∃ F vs,∃ l:List α,l.length=m/\reps w F vs l/\vg w b off vs:=by
    intro m
    induction m with
    | zero=>exact fun _=>⟨[],[],[],rfl,⟨rfl,rfl⟩,fun i v hv=>by simp at hv⟩
    | succ m ih=>
     intro hm'
     obtain ⟨F,vs,l,hl,hr,hcl⟩:=ih qf
     obtain ⟨ci,Fi,y,h1,h2⟩:=hone m qf
     obtain ⟨_,hcl2,hcell⟩:=World.cells?_some h1
     refine ⟨F++Fi,vs++ci,l++[y],by simp [hl],jJ hr (reps_one h2),fun i v hv=>?_⟩
     have hvl:=XA hr
     rw [hl] at hvl
     rcases Nat.lt_or_ge i vs.length with hi | hi
     ·rw [List.getElem?_append_left hi] at hv
      exact hcl i v hv
     ·rw [List.getElem?_append_right hi] at hv
      have hi2:i - vs.length < ci.length:=by
       rcases Nat.lt_or_ge (i - vs.length) ci.length with h | h
       ·exact h
       ·simp [h] at hv
      have:=hcell (i - vs.length) qf
      rw [hadd,hv] at this
      rw [← this]
      congr 1
      rw [show off+i=off+m * qK.size α+(i - vs.length) by omega]
   obtain ⟨F,vs,l,hl,hr,hcl⟩:=hall len (Nat.le_refl _)
   have hb:b < w.heap.size:=by
    have h1:0 < vs.length:=by rw [XA hr,hl];exact Nat.mul_pos h0 hz
    exact World.block_lt_of_cell? w _ (hcl 0 _ (List.getElem?_eq_getElem h1))
   subst hl
   exact ⟨b::F,l,some ⟨b,off,none⟩,cap,rfl,⟨by omega,hlc⟩,Or.inr ⟨b,off,F,vs,rfl,rfl,hb,hr,hcl⟩⟩
theorem XZ {n:Nat} (h:cs.length=n+1):∃ c cs',cs=c::cs' /\cs'.length=n:=by
 cases cs with
 | nil=>simp at h
 | cons c cs=>exact ⟨c,cs,rfl,by simpa using h⟩
theorem field_reads {H:Type} {enc:TypeId×Value->H} {spare:Nat->Bool} {fuel:Nat} {fs:Array Field} {x:DataW H×List MemPlace} (hu:P.underlying t=some (.struct fs))
 (h:DataW.trod enc P w 0 spare held fuel t cs=some x) (i off:Nat) {f:Field} (hf:fs[i]? =some f) (ho:f.offset=off) {α:Type} [qK α] (hr:Reads P f.type α) (h1:qK.size α=1) (hc:P.cellsOf f.type=1):
 ∃ F,∃ y:α,∃ v,cs[off]? =some v/\qK.rep w F [v] y:=by
 obtain ⟨xs,n,_,_,hl,hxl,hall⟩:=DataW.trod_struct hu h
 have hi:i < xs.length:=by
  rw [hxl]
  exact (Array.getElem?_eq_some_iff.1 hf).1
 have hg:=hall i f hf
 rw [List.getElem?_eq_getElem hi,hc,ho] at hg
 obtain ⟨F,y,hy⟩:=hr hg
 have hlen:=qK.len hy
 rw [h1] at hlen
 obtain ⟨v,cs',e,hl'⟩:=XZ hlen
 obtain rfl:=List.eq_nil_of_length_eq_zero hl'
 rw [e] at hy
 refine ⟨F,y,v,?_,hy⟩
 have:(List.take 1 (List.drop off cs))[0]? =some v:=by rw [e];rfl
 simpa using this
theorem arg_int {H:Type} {enc:TypeId×Value->H} {spare:Nat->Bool} {d:DataW H} {p:List MemPlace} (hu:P.underlying t=some (.int .i64))
 (hv:Value.okWide P w .any b0 t v) (h:DataW.Trod enc P w 0 spare held t v d p):∃ n:Int,v=.int .i64 n/\ -9223372036854775808<=n/\n<=9223372036854775807:=by
 obtain ⟨n,rfl⟩:=okWide_int hu hv
 obtain ⟨fuel,hf⟩:=h
 obtain ⟨m,hm,_,hw⟩:=DataW.trod_int hu hf
 have hm' :n=m:=by simpa [Value.cells] using hm
 subst hm'
 exact ⟨n,rfl,by simp [Lit.wf,IntKind.min,IntKind.max,IntKind.signed,IntKind.bits] at hw;omega⟩
theorem arg_slice {α:Type} [qK α] {H:Type} {enc:TypeId×Value->H} {spare:Nat->Bool} {d:DataW H} {p:List MemPlace} (hu:P.underlying t=some (.slice e)) (hr:Reads P t (List α))
 (hv:Value.okWide P w .any b0 t v) (h:DataW.Trod enc P w 0 spare held t v d p):∃ (a:yOA) (c:Nat) (F:yLN) (l:List α),v=Sv a l.length c/\qK.rep w F [Sv a l.length c] l:=by
 obtain ⟨a,m,c,rfl⟩:=okWide_slice hu hv
 obtain ⟨fuel,hf⟩:=h
 obtain ⟨F,l,hl⟩:=hr hf
 have hcs:(Value.slice a m c).cells.toList=[Sv a m c]:=rfl
 rw [hcs] at hl
 obtain ⟨a',c',hc,hx⟩:=id hl
 simp only [List.cons.injEq,Value.slice.injEq,and_true] at hc
 obtain ⟨rfl,rfl,rfl⟩:=hc
 exact ⟨a,c,F,l,rfl,hl⟩
theorem arg_struct {α:Type} [qK α] {H:Type} {enc:TypeId×Value->H} {spare:Nat->Bool} {fs:Array Field} {d:DataW H} {p:List MemPlace} (hu:P.underlying t=some (.struct fs)) (hr:Reads P t α)
 (hv:Value.okWide P w .any b0 t v) (h:DataW.Trod enc P w 0 spare held t v d p):∃ (cs:List Value) (F:yLN) (x:α),v=.agg cs.toArray/\qK.rep w F cs x:=by
 obtain ⟨cs,rfl,_⟩:=okWide_struct hu hv
 obtain ⟨fuel,hf⟩:=h
 obtain ⟨F,x,hx⟩:=hr hf
 exact ⟨cs.toList,F,x,by simp,hx⟩
theorem slice_is {α:Type} [qK α] {F:yLN} {l:List α} (h:qK.rep w F [v] l):∃ a c,v=Sv a l.length c/\qK.rep w F [Sv a l.length c] l:=by
 obtain ⟨a,c,hc,_⟩:=id h
 simp only [List.cons.injEq,and_true] at hc
 exact ⟨a,c,hc,hc▸h⟩
section
variable {H : Type} {enc : TypeId × Value -> H} {P : Program}
theorem trodAll_below (hl:laidOutB P=true) {W W' :World} (hb:Below W.heap.size W W'):
 ∀ (ts:List TypeId) (vs:List Value) (ds:List (DataW H)) (ps:List MemPlace),(∀ t∈ts,P.readableRec t=true/\t < P.types.size)→
  DataW.TrodAll enc P W 0 (fun _=>true) true ts vs ds ps->(∀ x∈ps,x.block < W.heap.size)→
  DataW.TrodAll enc P W' 0 (fun b=>decide (b < W.heap.size)) true ts vs ds ps
 | [],vs,ds,ps,_,h,_=>by
  obtain ⟨rfl,rfl,rfl⟩:=trodAll_nil h
  exact trodAll_mk0
 | t::ts,vs,ds,ps,hr,h,hp=>by
  obtain ⟨v,vs',d,ds',p,q,rfl,rfl,rfl,h0,h1⟩:=trodAll_cons h
  have ht:=hr t (List.mem_cons_self ..)
  exact trodAll_cons_mk (Below.trod hl ht.1 ht.2 h0 hb (fun x hx=>hp x (List.mem_append_left _ hx)))
   (trodAll_below hl hb ts vs' ds' q (fun t' ht' =>hr t' (List.mem_cons_of_mem _ ht')) h1 (fun x hx=>hp x (List.mem_append_right _ hx)))
theorem post_law {f:Func} {s:ChangeSpec} {W W' :World} {args:Array Value} {tb:TypeId} {ds gs:List (DataW H)} {before:List MemPlace}
 (hW:DataW.Whole enc P f.params.toList s.vars false W args.toList ds gs before) (hv:s.vars=[])
 (hs:s.fn H (ds++[])={ results:=[.lit (.bool true)],args:=ds }) (hr:f.resultTypes=#[tb]) (hu:P.underlying tb=some .bool)
 (hl:laidOutB P=true) (hts:∀ t∈f.params.toList,P.readableRec t=true/\t < P.types.size) (hb:Below W.heap.size W W'):
 s.post enc P f false true false false W args (Bv true) W' :=by
 have hW' :=hW
 obtain ⟨p,q,hA,hV,rfl,hz,hn⟩:=hW
 rw [hv] at hV
 obtain ⟨rfl,rfl⟩:=trodVars_none hV
 have hlt:∀ x∈p++[],x.block < W.heap.size:=fun x hx=>hW'.lt x hx
 refine ⟨ds,[],p++[],[],p,[],hW',?_,?_,?_,World.keptBut_mono (fun x hx=>⟨hx,Or.inr (Or.inl (by simpa using hx))⟩) (hb.frame (·∈p++[])),fun h=>by cases h⟩
 ·rw [hs,hr]
  simp only [Value.resultList]
  exact trodAll_mk1 (shut_bool hu true)
 ·rw [hs]
  exact trodAll_below hl hb _ _ _ _ hts hA (fun x hx=>hlt x (by simpa using hx))
 ·rw [hv,hs]
  exact rfl
end
end
end Go.Proofs.YtjfmcaiombkobaaGreat
