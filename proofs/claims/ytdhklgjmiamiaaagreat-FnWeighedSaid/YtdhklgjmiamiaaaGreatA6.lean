/- Walks and laws, printed by program and by hand: what each function comes to, for all arguments, part 6. -/
import Derived.Test.YtdhklgjmiamiaaaGreatA5
import Derived.Shelf.SortG.Plain
import Derived.Shelf.SortG.SortNone
import Derived.Ground.SlgnProg
namespace Go.Proofs.YtdhklgjmiamiaaaGreat
open Go.Proofs.Tryz
set_option linter.unusedVariables false
set_option linter.unusedSimpArgs false
set_option maxRecDepth 100000
set_option maxHeartbeats 4000000
open Go.RowKit
open Go.Proofs.Tryz
open Go.Proofs.YtdhklgjmiamiaaaGreat.Tot (tot)
open Go.Proofs.YtdhklgjmiamiaaaGreat.Mark (cnt mrk mkd mkd_mark cnt_mark)
variable {B D M W c iv kk x:Int} {F Fb eA eG eW eL e8 j6 aK G vF xW xk zD zh:yLN} {K i j k m n nn p q:Nat} {P:Program} {Qy Xf Xg Xh Xi a ab bP ao qG qO qZ xI xg:yOA} {X xs:List Value} {b l z:yLI} {e:TypeId} {f:Fact} {fr wl:Bool} {r:vS} {rules:List vS} {s:qC} {t u:qH} {v:Value} {w:yLL} {Γ Δ:List Fact}
section
open Classical in
noncomputable def pnV (s:qC) (t:qH) (c:Int):Int:=if cellCodeOf s t c=0 then xF s t c else 0
open Classical in
noncomputable def kidsV (s:qC) (t:qH) (c:Int):yLI:=if cellCodeOf s t c=0 then kidsTo s t c s.qA.length else []
structure CanAdd (a b:yLI):Prop where
 one:XA a
 two:XA b
 len:a.length=b.length
 HW:XA (jT a b 1)
structure TreeAt (s:qC) (t:qH) (c:Int):Prop where
 ak:(meltRes s t c).2=0
 cc:cellCodeOf s t c=0
 ok:ve s/\xZ s (meltRes s t c).1
 dead:(meltRes s t c).1.qK[c.toNat]! =false
 par:0<=pnV s t c/\pnV s t c < s.qA.length
 kids:∀ i,i < (kidsV s t c).length->cellCodeOf s (meltRes s t c).1 ((kidsV s t c)[i]!)=0/\pnV s (meltRes s t c).1 ((kidsV s t c)[i]!)=pnV s t c
 few:(kidsV s t c).length<=6
 total:allTo (meltRes s t c).1 s.qA.length=allTo t s.qA.length
 bag:XA (allTo t s.qA.length)
 add:CanAdd (t.qQ[(pnV s t c).toNat]!) (t.qQ[c.toNat]!)
 HW:jT (t.qQ[(pnV s t c).toNat]!) (t.qQ[c.toNat]!) 1=(meltRes s t c).1.qQ[(pnV s t c).toNat]!
def yP (s:qC) (c:Int):Prop:=∃ i,i < s.qB.length/\(s.qB[i]!).vg=true/\(s.qB[i]!).qI=c
def Vt (s:qC) (u:qH):Prop:=∀ c,c < s.qA.length->u.qK[c]! =false->yP s (c:Int)
open Classical in
noncomputable def chain (s:qC):Nat->Int->yLI
 | 0,_=>[]
 | n+1,p=>if p < 0 then [] else p::(if yP s p then chain s n (s.qA[p.toNat]!) else [])
theorem climb_chain {s:qC} {u:qH} (hs:jk s) (h0:u.qK[0]! =true) (hd:Vt s u):∀ (n m:Nat) (p:Int),0<=p->p < n->p < m->p<=(s.qA.length:Int) - 1->climb s.qA u.qK n p∈chain s m p
 | 0,m,p,h1,h2,h3,h4=>by omega
 | n+1,0,p,h1,h2,h3,h4=>by omega
 | n+1,m+1,p,h1,h2,h3,h4=>by
  rw [chain,if_neg qf,climb]
  by_cases ha:0<=p/\u.qK[p.toNat]! =false
  ·rw [if_pos ha]
   have hx:0 < p:=by
    rcases Int.lt_or_eq_of_le h1 with h | h
    ·exact h
    ·rw [← h] at ha;simp [h0] at ha
   have hu:=hs.up hx h4
   have hm:yP s p:=by
    have:=hd p.toNat qf ha.2
    rwa [show ((p.toNat:Nat):Int)=p by omega] at this
   rw [if_pos hm]
   exact List.mem_cons_of_mem _ (climb_chain hs h0 hd n m _ hu.1 qf qf qf)
  ·rw [if_neg ha]
   exact List.mem_cons_self ..
theorem parent_chain (hs:jk s) (hu:xZ s u) (hd:Vt s u) (hc:QU s c) (h0:0 < c):xF s u c∈chain s s.qA.length (s.qA[c.toNat]!):=by
 have h:=hs.up h0 hc.2
 exact climb_chain hs hu.2.2.1 hd _ _ _ h.1 qf qf qf
theorem meltDown_dead {s:qC} {counts:yLI} {u:qH} (hl:u.qK.length=s.qA.length) (hd:Vt s u):∀ j,j+1<=s.qA.length->Vt s (xC s counts u j)/\(xC s counts u j).qK.length=s.qA.length
 | 0,_=>⟨hd,hl⟩
 | j+1,hj=>by
  obtain ⟨ih,il⟩:=meltDown_dead (counts:=counts) hl hd j qf
  by_cases hm:Melts s counts ((xX s:Int) - 1 - j)
  ·rw [meltDown_yes hm rfl]
   have hn:xX s=s.qA.length:=rfl
   refine ⟨fun c hc ha=>?_,by simp [melted,il]⟩
   have e:(melted s (xC s counts u j) ((xX s:Int) - 1 - j)).qK[c]! =if ((xX s:Int) - 1 - j).toNat=c then false else (xC s counts u j).qK[c]! :=get_set _ _ _ _ qf
   rw [e] at ha
   by_cases sB:((xX s:Int) - 1 - j).toNat=c
   ·obtain ⟨i,h1,_,h3,h4⟩:=hm
    exact ⟨i,h1,h3,by rw [h4];omega⟩
   ·rw [if_neg sB] at ha
    exact ih c hc ha
  ·rw [meltDown_no hm rfl];exact ⟨ih,il⟩
end
section
open Go.RowKit Go.Shelf Go.Lib Go.Sort
def sortI (l:yLI):yLI:=l.mergeSort fun x y=>decide (x<=y)
theorem sortI_perm (l:yLI):(sortI l).Perm l:=List.mergeSort_perm _ _
theorem sortI_len (l:yLI):(sortI l).length=l.length:=(sortI_perm l).length_eq
section
variable {W0 w : World} {ps : List Prv} {Γ : List Fact}
theorem sw_blockI {α:Type} [Inhabited α] {enc:α->Value} {blk:Nat} {d:Array α} {os:Array Obj} (hk:k < w.heap.size) (kS:k≠blk):(grow (putRow enc (Sort.ahead w m) blk 0 d) os).heap[k]? =w.heap[k]? :=by
 unfold putRow mapBlock grow
 show ((Sort.ahead w m).heap.modify blk _++os)[k]? =_
 have hs:((Sort.ahead w m).heap.modify blk (onCells (putCells enc 0 d))).size=w.heap.size:=by rw [Array.size_modify];rfl
 rw [Array.getElem?_append_left (by rw [hs];exact hk),Array.getElem?_modify,if_neg (Ne.symm kS)]
 rfl
theorem sw_rowI {α:Type} [Inhabited α] {enc:α->Value} {blk:Nat} {d:Array α} {os:Array Obj} {dx:Array Value} (h:w.heap[blk]? =some (.cells dx e (0,0))):(grow (putRow enc (Sort.ahead w m) blk 0 d) os).heap[blk]? =some (.cells (putCells enc 0 d dx) e (0,0)):=by
 have hk:blk < w.heap.size:=(Array.getElem?_eq_some_iff.1 h).1
 unfold putRow mapBlock grow
 show ((Sort.ahead w m).heap.modify blk _++os)[blk]? =_
 have hs:((Sort.ahead w m).heap.modify blk (onCells (putCells enc 0 d))).size=w.heap.size:=by rw [Array.size_modify];rfl
 rw [Array.getElem?_append_left (by rw [hs];exact hk),Array.getElem?_modify,if_pos rfl]
 show (w.heap[blk]?).map _=_
 rw [h]
 rfl
theorem sortRowS {ρ:Ren} (L:SlLaysN.n53 P ρ) (H:St W0 w ps Γ) (k:Nat) {b c:Nat} (hp:ps[k]? =some (.row (Sv (some ⟨b,0,none⟩) nn c) e 1 nn (l.map (Value.int .i64)))) (Tu:l.length < 4611686018427387904):
 Calls P (ρ.f 53) #[Sv (some ⟨b,0,none⟩) nn c] w fun e' w' =>∃ v,e' =.returned v/\v=.tuple #[]∧
  St W0 w' (ps.set k (.row (Sv (some ⟨b,0,none⟩) nn c) e 1 nn ((sortI l).map (Value.int .i64)))) Γ:=by
 have ho:=(H.has _ (List.mem_of_getElem? hp):w.ownsRow W0.heap.size e 1 _ nn (l.map (Value.int .i64)))
 have hnn:nn=l.length:=by have:=ho.1;simp at this;omega
 subst hnn
 obtain ⟨hl,h | ⟨g',dw,dx,hv,hB,hg,hn,hm,th,ht⟩⟩:=ho
 ·simp at h
 simp only [Value.slice.injEq,Option.some.injEq,Addr.mk.injEq,and_true] at hv
 obtain ⟨rfl,_,rfl⟩:=hv
 have Y0:∀ i,i < l.length->dx[i]? =some (.int .i64 (l[i]!)):=fun i hi=>by
  have h1:(l.map (Value.int .i64))[i]? =some (.int .i64 (l[i]!)):=by
   rw [List.getElem?_map,List.getElem?_eq_getElem hi,getElem!_pos l i hi];rfl
  rw [← ht,List.getElem?_take,if_pos qf] at h1
  simpa using h1
 have hH:Holds (Value.int .i64) w b 0 l.toArray:=fun i hi=>by
  have gw :i < l.length:=by simpa using hi
  have e1:l.toArray[i]! =l[i]! :=by rw [getElem!_pos l.toArray i hi,getElem!_pos l i gw];simp
  rw [e1,Nat.zero_add]
  constructor
  ·rw [World.cell?,hg];exact Y0 i gw
  ·rw [World.frozen?,hg];simp
 have ww:b < w.heap.size:=(Array.getElem?_eq_some_iff.1 hg).1
 refine (AnyG.slices_Sort_int L b 0 c l w hH ww Tu).mono fun e' w' ⟨he,n,os,hw⟩=>⟨_,he,rfl,?_⟩
 subst hw
 have sl:(sortI l).length=l.length:=sortI_len l
 have tx:(grow (putRow (Value.int .i64) (Sort.ahead w n) b 0 (sortI l).toArray) os).ownsRow W0.heap.size e 1 (Sv (some ⟨b,0,none⟩) l.length c) l.length ((sortI l).map (Value.int .i64)):=by
  refine ⟨by simp [sl],Or.inr ⟨b,c,putCells (Value.int .i64) 0 (sortI l).toArray dx,rfl,hB,sw_rowI hg,hn,hm,by unfold putCells;rw [Array.size_mapIdx];exact th,?_⟩⟩
  rw [Nat.mul_one]
  refine List.ext_getElem? fun q=>?_
  rw [List.getElem?_take]
  split
  ·next hq=>
   rw [Array.getElem?_toList]
   unfold putCells
   rw [Array.getElem?_mapIdx,Y0 q hq,List.getElem?_map,List.getElem?_eq_getElem qf]
   simp only [Option.map_some,Nat.zero_le,true_and,Nat.zero_add,List.size_toArray,sl,if_pos hq,Nat.sub_zero]
   rw [getElem!_pos (sortI l).toArray q qy]
   simp
  ·next hq=>rw [List.getElem?_eq_none qy]
 have Bz:w.heap.size<=(grow (putRow (Value.int .i64) (Sort.ahead w n) b 0 (sortI l).toArray) os).heap.size:=by
  unfold putRow mapBlock grow
  show _<=((Sort.ahead w n).heap.modify b _++os).size
  rw [Array.size_append,Array.size_modify]
  exact Nat.le_add_right _ _
 exact H.change k hp (p' :=.row (Sv (some ⟨b,0,none⟩) l.length c) e 1 l.length ((sortI l).map (Value.int .i64))) rfl rfl rfl Bz (fun i hi kS=>sw_blockI hi (fun e2=>kS (by subst e2;rfl))) tx (Or.inl rfl)
theorem set_sameI {α:Type} {l:List α} {x:α} (h:l[k]? =some x):l.set k x=l:=by
 refine List.ext_getElem? fun i=>?_
 by_cases e:k=i
 ·subst e
  have hk:k < l.length:=(List.getElem?_eq_some_iff.1 h).1
  rw [List.getElem?_set_self hk,h]
 ·rw [List.getElem?_set_ne e]
theorem sortRowI {ρ:Ren} (L:SlLaysN.n53 P ρ) (H:St W0 w ps Γ) (k:Nat) {c:Nat} (hp:ps[k]? =some (.row (Sv a nn c) e 1 nn (l.map (Value.int .i64)))) (Tu:l.length < 4611686018427387904):
 Calls P (ρ.f 53) #[Sv a nn c] w fun e' w' =>∃ v,e' =.returned v/\v=.tuple #[]∧
  St W0 w' (ps.set k (.row (Sv a nn c) e 1 nn ((sortI l).map (Value.int .i64)))) Γ:=by
 have ho:=(H.has _ (List.mem_of_getElem? hp):w.ownsRow W0.heap.size e 1 _ nn (l.map (Value.int .i64)))
 have hnn:nn=l.length:=by have:=ho.1;simp at this;omega
 subst hnn
 by_cases h0:l.length=0
 ·obtain rfl:=List.eq_nil_of_length_eq_zero h0
  refine (AnyG.slices_Sort_int_none L a c w).mono fun e' w' ⟨he,hw⟩=>⟨_,he,rfl,?_⟩
  subst hw
  have:sortI []=[]:=by simp [sortI]
  rw [this,set_sameI hp]
  exact H
 ·obtain ⟨hl,⟨h,_⟩ | ⟨g',dw,dx,hv,_⟩⟩:=ho
  ·simp only [Value.slice.injEq] at h
   exact absurd h.2.1 h0
  ·simp only [Value.slice.injEq] at hv
   obtain ⟨rfl,_,_⟩:=hv
   exact sortRowS L H k hp Tu
end
end
section
theorem chain_end {p:Int} (h:p < 0):chain s n p=[]:=by
 cases n with
 | zero=>rfl
 | succ n=>rw [chain,if_pos h]
theorem chain_go {p:Int} (hn:0 < n) (h:¬ p < 0) (hm:yP s p):chain s n p=p::chain s (n - 1) (s.qA[p.toNat]!):=by
 obtain ⟨m,rfl⟩:∃ m,n=m+1:=⟨n - 1,by omega⟩
 rw [chain,if_neg h,if_pos hm];rfl
theorem chain_stop {p:Int} (hn:0 < n) (h:¬ p < 0) (hm:¬ yP s p):chain s n p=[p]:=by
 obtain ⟨m,rfl⟩:∃ m,n=m+1:=⟨n - 1,by omega⟩
 rw [chain,if_neg h,if_neg hm]
noncomputable def Qz (s:qC) (c:Int):yLI:=sortI (chain s s.qA.length (s.qA[c.toNat]!))
theorem mem_poss:x∈Qz s c<->x∈chain s s.qA.length (s.qA[c.toNat]!):=(sortI_perm _).mem_iff
theorem yZ (h:∀ j,j < i->¬ ((s.qB[j]!).vg=true/\(s.qB[j]!).qI=c)) (h1:¬ ((s.qB[i]!).vg=true/\(s.qB[i]!).qI=c)):∀ j,j < i+1->¬ ((s.qB[j]!).vg=true/\(s.qB[j]!).qI=c):=fun j hj=>by
 by_cases e:j=i
 ·rw [e];exact h1
 ·exact h j qf
end
section
variable {qE qN : Nat}
def sortLI_ren:Go.Shelf.Ren:=⟨fun | 53=>146 | 64=>133 | 63=>187 | 78=>178 | 79=>179 | 70=>204 | 71=>205 | 72=>206 | 73=>207 | 74=>208 | 75=>209 | 59=>210 | 76=>211 | 77=>212 | 88=>218 | 89=>200 | 90=>201 | 91=>219 | 92=>220 | 68=>180 | 96=>228 | n=>n,fun | 22=>24 | 23=>2 | 3=>3 | 51=>155 | 0=>0 | 67=>198 | 69=>113 | 4=>4 | 61=>191 | 60=>190 | 44=>195 | 5=>5 | 9=>9 | 75=>214 | 79=>218 | 83=>229 | 84=>230 | n=>n,fun | n=>n⟩
theorem sortLI:Go.Proofs.SlLaysN.n53 Tryz.prog sortLI_ren:={
 mixed:=by kernel_rfl
 f53:=⟨Tryz.f146.name,by decide,Tryz.func146.trans (congrArg some (by kernel_rfl))⟩
 f59:=⟨Tryz.f210.name,by decide,Tryz.func210.trans (congrArg some (by kernel_rfl))⟩
 f63:=⟨Tryz.f187.name,by decide,Tryz.func187.trans (congrArg some (by kernel_rfl))⟩
 f64:=Tryz.func133.trans (congrArg some (by kernel_rfl))
 f68:=⟨Tryz.f180.name,by decide,Tryz.func180.trans (congrArg some (by kernel_rfl))⟩
 f70:=⟨Tryz.f204.name,by decide,Tryz.func204.trans (congrArg some (by kernel_rfl))⟩
 f71:=⟨Tryz.f205.name,by decide,Tryz.func205.trans (congrArg some (by kernel_rfl))⟩
 f72:=⟨Tryz.f206.name,by decide,Tryz.func206.trans (congrArg some (by kernel_rfl))⟩
 f73:=⟨Tryz.f207.name,by decide,Tryz.func207.trans (congrArg some (by kernel_rfl))⟩
 f74:=⟨Tryz.f208.name,by decide,Tryz.func208.trans (congrArg some (by kernel_rfl))⟩
 f75:=⟨Tryz.f209.name,by decide,Tryz.func209.trans (congrArg some (by kernel_rfl))⟩
 f76:=⟨Tryz.f211.name,by decide,Tryz.func211.trans (congrArg some (by kernel_rfl))⟩
 f77:=⟨Tryz.f212.name,by decide,Tryz.func212.trans (congrArg some (by kernel_rfl))⟩
 f78:=Tryz.func178.trans (congrArg some (by kernel_rfl))
 f79:=Tryz.func179.trans (congrArg some (by kernel_rfl))
 f88:=⟨Tryz.f218.name,by decide,Tryz.func218.trans (congrArg some (by kernel_rfl))⟩
 f89:=Tryz.func200.trans (congrArg some (by kernel_rfl))
 f90:=Tryz.func201.trans (congrArg some (by kernel_rfl))
 f91:=⟨Tryz.f219.name,by decide,Tryz.func219.trans (congrArg some (by kernel_rfl))⟩
 f92:=⟨Tryz.f220.name,by decide,Tryz.func220.trans (congrArg some (by kernel_rfl))⟩
 f96:=⟨Tryz.f228.name,by decide,Tryz.func228.trans (congrArg some (by kernel_rfl))⟩
 t0:=underlying0
 a0:=isAgg0
 z0:=sizeOf0
 v0:=zeroValue0
 t3:=underlying3
 a3:=isAgg3
 z3:=sizeOf3
 v3:=zeroValue3
 t4:=underlying4
 a4:=isAgg4
 z4:=sizeOf4
 v4:=zeroValue4
 t5:=underlying5
 a5:=isAgg5
 z5:=sizeOf5
 v5:=zeroValue5
 t9:=underlying9
 a9:=isAgg9
 z9:=sizeOf9
 v9:=zeroValue9
 t22:=underlying24
 a22:=isAgg24
 z22:=sizeOf24
 v22:=zeroValue24
 t23:=underlying2
 a23:=isAgg2
 z23:=sizeOf2
 v23:=zeroValue2
 t44:=underlying195
 a44:=isAgg195
 z44:=sizeOf195
 v44:=zeroValue195
 t51:=underlying155
 a51:=isAgg155
 z51:=sizeOf155
 v51:=zeroValue155
 t60:=underlying190
 a60:=isAgg190
 z60:=sizeOf190
 v60:=zeroValue190
 t61:=underlying191
 a61:=isAgg191
 z61:=sizeOf191
 v61:=zeroValue191
 t67:=underlying198
 a67:=isAgg198
 z67:=sizeOf198
 v67:=zeroValue198
 t69:=underlying113
 a69:=isAgg113
 z69:=sizeOf113
 v69:=zeroValue113
 t75:=underlying214
 a75:=isAgg214
 z75:=sizeOf214
 v75:=zeroValue214
 t79:=underlying218
 a79:=isAgg218
 z79:=sizeOf218
 v79:=zeroValue218
 t83:=underlying229
 a83:=isAgg229
 z83:=sizeOf229
 v83:=zeroValue229
 t84:=underlying230
 a84:=isAgg230
 z84:=sizeOf230
 v84:=zeroValue230 }
theorem canMelt_ok (w:World) (s:qC) (c:Int) (qP:zP w xk qG qE s.qA) (xm:zP w xW qO qN s.qB):Calls Tryz.prog 92 #[.agg #[yI s.xK,Sv qG s.qA.length qE,Sv qO s.qB.length qN],yI c] w (Ret (fun v w' =>v=Bv (dec (yP s c))) w):=by
 refine en func92 ntmps92 ?_
 have H:=((St.start w).arg xm).arg qP
 have vP:=qM xm
 clear qP xm
 have N:=Fresh.nil w.heap.size
 refine zcr (sw (zZ H (yS s qG qE qO qN) fun b1 w2 H=>sw (zZ H [yI c] fun b3 w4 H=>sp (Bv false) (zjc (oF rfl (oL rfl (H.cell 1 rfl rfl) (sp (.func (.func 145) #[] #[pp b3 0]) (sw (zQ #[Sv qO s.qB.length qN,.func (.func 145) #[] #[pp b3 0]] rfl rfl call144 (en func144 ntmps144 ?_))))))))))
 refine zcr (sp (Bv false) (zjc (sq 1 (sp (.func (.func 145) #[] #[pp b3 0]) (sw (zQ #[Sv qO s.qB.length qN,.func (.func 145) #[] #[pp b3 0]] rfl rfl call186 (en func186 ntmps186 ?_)))))))
 refine zcr (sp (yI 0) (zjcc (sq 1 (oN rfl (sp (yI 0) (zjn (qR (zl ((fun Z0 Z1 Z2 Z3=>fun m' ρ w5=>∃ (xE:Env) (i:Nat),ρ=upd (upd (upd (upd xE 0 (Sv qO s.qB.length qN)) 1 (.func (.func 145) #[] #[pp b3 0])) 7 (yI s.qB.length)) 8 (yI i)/\((i:Int)<=s.qB.length)/\(∀ j,j < i->¬ ((s.qB[j]!).vg=true/\(s.qB[j]!).qI=c))/\m' =(s.qB.length - (i:Int)).toNat/\Fresh w.heap.size []/\St w w5 [Z0,Z1] [Z2,Z3]) _ _ _ _) ((s.qB.length - (0:Int)).toNat) ⟨_,0,uE4,qf,qx,rfl,N,H⟩ ?_))))))))
 clear H N
 rintro m' ρ w6 ⟨xE,i,rfl,i0,i1,rfl,N,H⟩
 refine zcr (sq 1 (zjn (xQ (cD rfl (fun h7=>?_) (fun h7=>?_)))))
 ·refine qV (t_n (xQ (qR (zcr (sp (yI i) (sp (yI i) (zjc (sp (.func (.func 145) #[] #[pp b3 0]) (sq 1 (sp (yI i) ?_))))))))))
  obtain ⟨b8,o9,rfl⟩:=H.addr 1 rfl qf
  obtain ⟨m9,md,Em,mu,ma,Gn,lL,lD,Fy,lZ,ni,Gd,oZ,pu,Jx,mg,lR,Fn,H⟩:=H.jZ 1 rfl i i qf qf qf
  refine oI rfl rfl (sw (xU [yI ((s.qB[i]!).qI),yI ((s.qB[i]!).jG),Sv m9 (((s.qB[i]!).zk).length) md,Sv mu (((s.qB[i]!).vk).length) ma,Sv lL (((s.qB[i]!).vw).length) lD,Sv lZ (((s.qB[i]!).zS).length) ni,Sv oZ (((s.qB[i]!).jX).length) pu,Sv mg (((s.qB[i]!).xe).length) lR,Bv ((s.qB[i]!).vg)] isAgg70 sizeOf70 rfl (qF (H.get 6 rfl) 0 9) (sw (zQ #[.agg #[yI ((s.qB[i]!).qI),yI ((s.qB[i]!).jG),Sv m9 (((s.qB[i]!).zk).length) md,Sv mu (((s.qB[i]!).vk).length) ma,Sv lL (((s.qB[i]!).vw).length) lD,Sv lZ (((s.qB[i]!).zS).length) ni,Sv oZ (((s.qB[i]!).jX).length) pu,Sv mg (((s.qB[i]!).xe).length) lR,Bv ((s.qB[i]!).vg)],pp b3 0] rfl rfl call145 (en func145 ntmps145 ?_)))))
  refine zcr (sw (zZ H [yI ((s.qB[i]!).qI),yI ((s.qB[i]!).jG),Sv m9 (((s.qB[i]!).zk).length) md,Sv mu (((s.qB[i]!).vk).length) ma,Sv lL (((s.qB[i]!).vw).length) lD,Sv lZ (((s.qB[i]!).zS).length) ni,Sv oZ (((s.qB[i]!).jX).length) pu,Sv mg (((s.qB[i]!).xe).length) lR,Bv ((s.qB[i]!).vg)] fun vq xV H=>sp (Bv false) (zjc (oF rfl (oL rfl (H.cell 0 rfl rfl) (oL rfl (H.cell 1 rfl rfl) (sp (Bv (((s.qB[i]!).qI:Int) == c)) (sp (Bv (((s.qB[i]!).qI:Int) == c)) ?_))))))))
  cases dO:(((s.qB[i]!).qI:Int) == c)
  ·replace dO:=ne_of_beq_false dO
   refine xR [9,10] (sp (Bv false) (sp (Bv false) (zjr (ret1 (Bv false) rfl rfl ⟨_,rfl,?_⟩))))
   replace H:=H.erases [0]
   dsimp only [vz,List.eraseIdx] at H
   refine zjn (cFr rfl (qV (b_n (t_n (xJ (sw (zn i 1 rfl rfl qf (sq 1 (xO (qX (m' :=(s.qB.length - ((i+1):Int)).toNat) qf ⟨_,i+1,uE4,?_,?_,rfl,N,H.pick [0,1] [7,8]⟩))))))))))
   ·omega
   ·exact yZ i1 (fun h=>‹¬ _› h.2)
  replace dO:=eq_of_beq dO
  refine qJ 8 rfl rfl (oF rfl (qJ 8 rfl rfl (oL rfl (H.cell 0 rfl rfl) (sq 2 (zjr (ret1 (Bv ((s.qB[i]!).vg)) rfl rfl ⟨_,rfl,?_⟩))))))
  replace H:=H.erases [0]
  dsimp only [vz,List.eraseIdx] at H
  refine zjn (zT _ rfl (fun kL=>?_) (fun kL=>?_))
  ·refine zcr (sp (yI i) (sp (yI i) (zjr (zr5 (ret1 (yI i) rfl rfl ⟨_,rfl,(sw (o_pure (Bv true) (by show some (Value.bool (decide ((i:Int)>=0)))=some (Value.bool true);rw [decide_eq_true qf]) (sp (Bv true) (zjr (ret1 (Bv true) rfl rfl ⟨_,rfl,(sp (Bv true) (zjr (rH1 (Bv true) H ?_)))⟩)))))⟩)))))
   rw [jH (show yP s c from ⟨i,by omega,by simp_all,by simp_all⟩)]
  refine qV (b_n (t_n (xJ (sw (zn i 1 rfl rfl qf (sq 1 (xO (qX (m' :=(s.qB.length - ((i+1):Int)).toNat) qf ⟨_,i+1,uE4,?_,?_,rfl,N,H.pick [0,1] [7,8]⟩))))))))
  ·omega
  ·exact yZ i1 (fun h=>Bool.noConfusion (‹(s.qB[i]!).vg=false›.symm.trans h.1))
 refine zx4 (zcr (sq 1 (zjr (ret1 (yI (-1)) rfl rfl ⟨_,rfl,(sp (Bv false) (sp (Bv false) (zjr (ret1 (Bv false) rfl rfl ⟨_,rfl,(sp (Bv false) (zjr (rH1 (Bv false) H ?_)))⟩))))⟩))))
 rw [xh (fun h=>by obtain ⟨j,h1,h2⟩:=h;exact i1 j qf h2)]
theorem possParents_ok (w:World) (s:qC) (c:Int) (qP:zP w xk qG qE s.qA) (xm:zP w xW qO qN s.qB) (p0:jk s) (p1:QU s c):Calls Tryz.prog 93 #[.agg #[yI s.xK,Sv qG s.qA.length qE,Sv qO s.qB.length qN],yI c] w (Ret (fun v w' =>∃ (ra:yOA) (rn:Nat) (rc:Nat),v=Sv ra rn rc/\Fresh w.heap.size []/\St w w' [rr ra rn rc 2 1 ((Qz s c).map (Value.int .i64))] []) w):=by
 refine en func93 ntmps93 ?_
 have H:=((St.start w).arg xm).arg qP
 have zB:=qM qP
 clear qP xm
 have N:=Fresh.nil w.heap.size
 have p3:=p0.step p1.1 p1.2
 have p4:=p0.2.1
 have p5:=p1.1
 refine zcr (sw (zZ H (yS s qG qE qO qN) fun b1 w2 H=>sq 1 (zjc (sw (vW H underlying24 ti2 fun b3 w4 H=>sq 1 (zjcc (oF rfl (oL rfl (H.cell 1 rfl rfl) (sp (yI c) ?_)))))))))
 obtain ⟨b5,o6,rfl⟩:=H.addr 0 rfl qf
 refine oI rfl rfl (oL rfl (H.elemInt 0 rfl c qf qf) (sq 1 (zjn (qR ?_))))
 replace H:=H.Xv 0 [] 0
 refine zl ((fun Z0 Z1 Z2=>fun m' ρ w8=>∃ (xE:Env) (jB:yOA) (vC:Nat) (jw:Nat) (out:yLI) (p:Int) (n:Nat),ρ=upd (upd (upd xE 2 (pp b1 0)) 5 (Sv jB vC jw)) 6 (yI p)/\(-1<=p/\p<=(s.qA.length:Int) - 1)/\(p < n)/\((out.length:Int)+p<=(s.qA.length:Int) - 1)/\(chain s s.qA.length (s.qA[c.toNat]!)=out++chain s n p)/\m' =(p+1).toNat/\Fresh w.heap.size []/\St w w8 [rr jB vC jw 2 1 (out.map (Value.int .i64)),Z0] [Z1,Z2]) _ _ _) (((s.qA[c.toNat]!)+1).toNat) ⟨_,(aa b3 0),0,0,([]:yLI),s.qA[c.toNat]!,s.qA.length,uE3,qf,qf,(by simp only [List.length_nil];omega),(by rfl),rfl,N,H⟩ ?_
 clear H N
 rintro m' ρ w9 ⟨xE,jB,vC,jw,out,p,n,rfl,i0,i1,i2,i3,rfl,N,H⟩
 have bR:=H.jC 0 rfl
 have up:=fun h=>p0.step (c:=p) h i0.2
 refine zcc (sp (yI p) (sp (Bv (decide ((p:Int)>=0))) (zjn (cD rfl (fun aZ=>?_) (fun aZ=>?_)))))
 ·refine qV (t_n (xQ (qR (zcr (sq 1 (sp (yI p) (sw (zf H underlying24 ti2 [yI p] fun ls uE H=>sw (zo H 1 rfl 0 rfl underlying24 ti2 rfl qj rfl rfl rfl qw qp qf fun a13 c14 yi H=>?_)))))))))
  rw [snocI] at H
  refine sq 1 (zjc (sw (xU [yI s.xK,Sv (aa b5 o6) s.qA.length qE,Sv qO s.qB.length qN] isAgg27 sizeOf27 rfl (qF (H.cells 2 rfl) 0 3) (sp (yI p) (sw (oq (canMelt_ok _ s p (H.get 0 rfl).1 (H.get 1 rfl).1) H fun HF H=>sq 1 (zjn (cQ rfl (fun zE=>?_) (fun zE=>?_)))))))))
  ·refine Qx (b_o rfl (t_x (t_x (b_x (t_n (zcr (sq 1 (sw (zL #[Sv a13 (vC+1) c14] rfl rfl call146 (sortRowI sortLI H 1 rfl (by (simp only [List.length_append,List.length_cons,List.length_nil];omega))) ?_)))))))))
   rintro _ rO ⟨rfl,H⟩
   refine zjc (sq 2 (zjr (rH1 (Sv a13 (vC+1) c14) H ?_)))
   rw [Qz,i3,chain_stop qf qf ql]
   exact ⟨a13,vC+1,c14,rfl,N,H.pick [1] []⟩
  refine qV (b_n (t_n (xJ (oF rfl (oL rfl (H.cell 2 rfl rfl) (sp (yI p) (oI rfl rfl (oL rfl (H.elemInt 0 rfl p qf qf) (sq 1 (xO ?_))))))))))
  have YY:=up qf
  refine qX (m' :=((s.qA[p.toNat]!)+1).toNat) qf ⟨_,_,_,_,_,_,n - 1,uE3,?_,?_,?_,?_,rfl,N,H.pick [1,2] [0,1]⟩
  ·omega
  ·omega
  ·simp only [List.length_append,List.length_cons,List.length_nil];omega
  ·rw [i3,chain_go qf qf ql];simp
 refine zx4 (zcr (sq 1 ?_))
 have arD:=sortI_len out
 refine sw (zL #[Sv jB vC jw] rfl rfl call146 (sortRowI sortLI H 0 rfl (by omega)) ?_)
 rintro _ Hu ⟨rfl,H⟩
 refine zjc (sq 2 (zjr (rH1 (Sv jB vC jw) H ?_)))
 rw [Qz,i3,chain_end qf,List.append_nil]
 exact ⟨jB,vC,jw,rfl,N,H.pick [0] []⟩
end
section
def yB (f:Nat->Int):Nat->Int
 | 0=>0
 | n+1=>yB f n+f n
theorem sumN_zero (n:Nat):yB (fun _=>0) n=0:=by
 induction n with
 | zero=>rfl
 | succ n ih=>rw [yB,ih];rfl
theorem yY (f g:Nat->Int) (n:Nat):yB (fun c=>f c+g c) n=yB f n+yB g n:=by
 induction n with
 | zero=>rfl
 | succ n ih=>rw [yB,yB,yB,ih];omega
theorem needS_nonpos {s:qC} {counts:yLI} (hs:ve s) (hc:Vu s counts) (p q:Nat) (hq:q < zt s):∀ k,k<=s.qB.length->Vl s counts k p q<=0
 | 0,_=>by simp [Vl]
 | k+1,h=>by
  have ih:=needS_nonpos hs hc p q hq k qf
  have hb:=hc.bd (i:=k) qf
  have hn:=(hs.rule (i:=k) qf).2.2.2.2.1
  have hg:=hn.get (k:=q) (by rw [hn.len];exact hq)
  rw [Vl]
  have:needF s counts k p q<=0:=by
   unfold needF at'
   split
   ·have:=Int.mul_nonneg hb.1 hg.1
    rw [Int.neg_mul];omega
   ·exact Int.le_refl _
  omega
theorem needS_one {s:qC} {counts:yLI} (hs:ve s) (hc:Vu s counts) (p q:Nat) (hq:q < zt s):∀ k,k<=s.qB.length->∀ i,i < k->Vl s counts k p q<=needF s counts i p q
 | 0,_,i,hi=>by omega
 | k+1,h,i,hi=>by
  have hz:=needS_nonpos hs hc p q hq k qf
  have hz' :=needS_nonpos hs hc p q hq (k+1) h
  rw [Vl] at hz' ⊢
  by_cases e:i=k
  ·subst e;omega
  ·have ih:=needS_one hs hc p q hq k qf i qf
   have hb:=hc.bd (i:=k) qf
   have hn:=(hs.rule (i:=k) qf).2.2.2.2.1
   have hg:=hn.get (k:=q) (by rw [hn.len];exact hq)
   have:needF s counts k p q<=0:=by
    unfold needF at'
    split
    ·have:=Int.mul_nonneg hb.1 hg.1
     rw [Int.neg_mul];omega
    ·exact Int.le_refl _
   omega
theorem needS_around {s:qC} {counts:yLI} (hs:ve s) (q:Nat):∀ k,k<=s.qB.length->Vl s counts k (xX s) q=0
 | 0,_=>rfl
 | k+1,h=>by
  have hr:=(hs.rule (i:=k) qf).cell
  rw [Vl,needS_around hs q k qf]
  unfold needF at'
  rw [if_neg qf];rfl
theorem sum_some (h0:∀ k,k < l.length->0<=l[k]!) (h:QS l≠0):∃ k,k < l.length/\1<=l[k]! :=by
 apply Classical.byContradiction
 intro hn
 have hz:∀ k,k < l.length->l[k]! =0:=fun k hk=>by
  have h1:=h0 k hk
  have h2:¬ 1<=l[k]! :=fun x=>hn ⟨k,hk,x⟩
  omega
 have:∀ n,n<=l.length->sumTo l n=0:=by
  intro n
  induction n with
  | zero=>intro _;simp [sumTo]
  | succ n ih=>intro hk;simp only [sumTo,ih qf,hz n qf];rfl
 exact h (this _ (Nat.le_refl _))
def FewM (M:Int) (s:qC) (t:qH):Prop:=∀ p q,p<=xX s->q < zt s->base0 s t p q<=M
def PutsD (D:Int) (s:qC):Prop:=∀ i,i < s.qB.length->∀ q,q < zt s->((s.qB[i]!).zS)[q]! <=D/\((s.qB[i]!).jX)[q]! <=D/\∀ j,j < (s.qB[i]!).xe.length->(((s.qB[i]!).xe[j]!).Qa)[q]! <=D
theorem rest_get {counts:yLI} (hs:ve s) (ht:xZ s t) (hc:Vu s counts) (h:IsCh s t counts) (hp:p < xX s) (hq:q < zt s):0<=base0 s t p q+Vl s counts s.qB.length p q:=by
 have e:=(restR_ent hs ht hc s.qB.length (Nat.le_refl _)).eq p q hp hq
 have hl:=((restR_ent hs ht hc s.qB.length (Nat.le_refl _)).sh.2 p hp).1
 have hn:=h.2
 rw [hc.1] at hn
 have:=hn p (by rw [ht.2.1];exact hp) q (by rw [hl];exact hq)
 rw [e] at this
 unfold base0
 rw [if_pos hp]
 exact this
theorem cnt_few {counts:yLI} (hs:ve s) (ht:xZ s t) (hc:Vu s counts) (h:IsCh s t counts) (hM:FewM M s t) (hi:i < s.qB.length):counts[i]! <=M:=by
 have hr:=hs.rule hi
 have hn:=hr.2.2.2.2.1
 obtain ⟨k,hk,h1⟩:=sum_some (fun k hk=>(hn.get hk).1) hr.2.2.2.2.2.2.2.2.2.1
 have hq:k < zt s:=by rw [hn.len] at hk;exact hk
 have hp:=hr.cell
 have e1:=rest_get hs ht hc h hp hq
 have e2:=needS_one hs hc (s.qB[i]!).qI.toNat k hq s.qB.length (Nat.le_refl _) i hi
 have e3:=hM (s.qB[i]!).qI.toNat k qf hq
 have e4:needF s counts i (s.qB[i]!).qI.toNat k= -(counts[i]! * ((s.qB[i]!).zk)[k]!):=by
  unfold needF at'
  rw [if_pos rfl,Int.neg_mul]
 have hb:=hc.bd hi
 have e5:=Int.mul_le_mul_of_nonneg_left h1 hb.1
 omega
theorem at_bd {c:Nat} (h:0<=x/\x<=B):0<=at' p c x/\at' p c x<=B:=by
 unfold at'
 split <;> omega
theorem mul_bd {m:Int} (hc:0<=c/\c<=M) (hm:0<=m/\m<=D):0<=c * m/\c * m<=M * D:=by
 refine ⟨Int.mul_nonneg hc.1 hm.1,?_⟩
 have h1:=Int.mul_le_mul_of_nonneg_left hm.2 hc.1
 have h2:=Int.mul_le_mul_of_nonneg_right hc.2 (show 0<=D by omega)
 omega
theorem putF_bd (hs:ve s) (hD:PutsD D s) (hi:i < s.qB.length) (hc:0<=c/\c<=M) (p q:Nat) (hq:q < zt s):0<=putF s t (s.qB[i]!) c p q/\putF s t (s.qB[i]!) c p q<=5 * (M * D):=by
 have hr:=hs.rule hi
 obtain ⟨d1,d2,d3⟩:=hD i hi q hq
 have b1:=hr.2.2.2.2.2.2.2.1
 have b2:=hr.2.2.2.2.2.2.2.2.1
 have h1:=at_bd (p:=p) (c:=(s.qB[i]!).qI.toNat) (mul_bd hc ⟨(b1.get (k:=q) (by rw [b1.len];exact hq)).1,d1⟩)
 have h2:=at_bd (p:=p) (c:=outPl s t (s.qB[i]!)) (mul_bd hc ⟨(b2.get (k:=q) (by rw [b2.len];exact hq)).1,d2⟩)
 have hI:∀ j,j<=(s.qB[i]!).xe.length->0<=Xq (s.qB[i]!) c j p q/\Xq (s.qB[i]!) c j p q<=(j:Int) * (M * D):=by
  intro j
  induction j with
  | zero=>intro _;simp [Xq]
  | succ j ih=>
   intro hj
   have hio:=hr.2.2.2.2.2.2.2.2.2.2 j qf
   have b3:=hio.2.2.1
   have h3:=at_bd (p:=p) (c:=((s.qB[i]!).xe[j]!).qI.toNat) (mul_bd hc ⟨(b3.get (k:=q) (by rw [b3.len];exact hq)).1,d3 j qf⟩)
   have:=ih qf
   rw [Xq]
   have e:((j+1:Nat):Int) * (M * D)=(j:Int) * (M * D)+M * D:=by push_cast;rw [Int.add_mul,Int.one_mul]
   rw [e]
   omega
 have h4:=hI _ (Nat.le_refl _)
 have hl:=hr.2.2.2.1
 have hMD:0<=M * D:=by omega
 have h5:((s.qB[i]!).xe.length:Int) * (M * D)<=3 * (M * D):=Int.mul_le_mul_of_nonneg_right qf hMD
 unfold putF
 omega
theorem putS_bd {s:qC} {t:qH} {M D:Int} {counts:yLI} (hs:ve s) (hD:PutsD D s) (hc:∀ i,i < s.qB.length->0<=counts[i]! /\counts[i]! <=M) (p q:Nat) (hq:q < zt s):∀ k,k<=s.qB.length->0<=putS s t counts k p q/\putS s t counts k p q<=(k:Int) * (5 * (M * D))
 | 0,_=>by simp [putS]
 | k+1,h=>by
  have ih:=putS_bd (t:=t) hs hD hc p q hq k qf
  have:=putF_bd (t:=t) hs hD (i:=k) qf (hc k qf) p q hq
  rw [putS]
  have e:((k+1:Nat):Int) * (5 * (M * D))=(k:Int) * (5 * (M * D))+5 * (M * D):=by push_cast;rw [Int.add_mul,Int.one_mul]
  rw [e]
  omega
theorem step_few {counts:yLI} (hs:ve s) (ht:xZ s t) (hc:Vu s counts) (h:IsCh s t counts) (hM:FewM 6 s t) (hD:PutsD 2 s) (hp:p<=xX s) (hq:q < zt s):0<=XG s t counts p q/\XG s t counts p q<=966:=by
 have hb:∀ i,i < s.qB.length->0<=counts[i]! /\counts[i]! <=6:=fun i hi=>⟨(hc.bd hi).1,cnt_few hs ht hc h hM hi⟩
 have h1:=putS_bd (t:=t) hs hD hb p q hq s.qB.length (Nat.le_refl _)
 have h2:=hM p q hp hq
 have h3:=needS_nonpos hs hc p q hq s.qB.length (Nat.le_refl _)
 have hl:=hs.2.1
 have h4:0<=base0 s t p q+Vl s counts s.qB.length p q:=by
  by_cases e:p < xX s
  ·exact rest_get hs ht hc h e hq
  ·obtain rfl:p=xX s:=by omega
   rw [needS_around hs q _ (Nat.le_refl _)]
   unfold base0
   rw [if_neg qf]
   have:=ht.around.2 q hq
   omega
 rw [XG,allS_eq]
 omega
def VO (b v:yLI):Int:=yB (fun k=>b[k]! * v[k]!) b.length
theorem sumTo_tab (g:Nat->Int) (n:Nat):∀ k,k<=n->sumTo (tabTo g n) k=yB g k
 | 0,_=>rfl
 | k+1,h=>by
  have e:(tabTo g n)[k]! =g k:=by rw [getElem!_pos _ k (by rw [tabTo_len];omega)];simp [tabTo]
  simp only [sumTo,yB]
  rw [sumTo_tab g n k qf,e]
theorem dot_sum (b v:yLI):QS (tabTo (fun k=>b[k]! * v[k]!) b.length)=VO b v:=by
 unfold QS VO
 rw [tabTo_len,sumTo_tab _ _ _ (Nat.le_refl _)]
def ownTo (r:vS) (w:yLL) (j:Nat):Int:=VO r.zS (w[r.qI.toNat]!) - VO r.zk (w[r.qI.toNat]!)+yB (fun k=>VO (r.xe[k]!).Qa (w[(r.xe[k]!).qI.toNat]!)) j
def gain (r:vS) (w:yLL) (p:Int):Int:=ownTo r w r.xe.length+VO r.jX (w[p.toNat]!)
def wtTo (t:qH) (w:yLL) (k:Nat):Int:=VO t.qL (w[t.qQ.length]!)+yB (fun c=>VO (t.qQ[c]!) (w[c]!)) k
def weight (t:qH) (w:yLL):Int:=wtTo t w t.qQ.length
structure WtDr (kk:Int) (n:Nat) (w:yLL):Prop where
 len:w.length=n+1
 row:∀ c,c < w.length->(w[c]!).length=kk.toNat/\∀ k,k < (w[c]!).length->(0<=(w[c]!)[k]! /\(w[c]!)[k]! <=5)/\((w[c]!)[k]! =0->c=0/\k=0)
abbrev WtOk (s:qC) (w:yLL):Prop:=WtDr s.xK s.qA.length w
noncomputable def places (s:qC) (c:Int):yLI:=if c=0 then [(s.qA.length:Int)] else chain s s.qA.length (s.qA[c.toNat]!)
def GainNeg (s:qC) (w:yLL) (i:Nat):Prop:=∀ p∈places s (s.qB[i]!).qI,gain (s.qB[i]!) w p < 0
def MeltGe (s:qC) (w:yLL) (c:Int):Prop:=yP s c->∀ p∈chain s s.qA.length (s.qA[c.toNat]!),Vw (w[p.toNat]!) (w[c.toNat]!) (w[p.toNat]!).length
def GainsTo (s:qC) (w:yLL) (k:Nat):Prop:=∀ i,i < k->GainNeg s w i
def MeltsGe (s:qC) (w:yLL) (k:Nat):Prop:=∀ c:Nat,c < k->MeltGe s w (c:Int)
def Falls (s:qC) (w:yLL):Prop:=GainsTo s w s.qB.length/\MeltsGe s w s.qA.length
theorem GainsTo.zero (s:qC) (w:yLL):GainsTo s w 0:=fun i hi=>by omega
theorem GainsTo.succ (h:GainsTo s w k) (h1:GainNeg s w k):GainsTo s w (k+1):=fun i hi=>by
 by_cases e:i=k
 ·subst e;exact h1
 ·exact h i qf
theorem MeltsGe.succ (h:MeltsGe s w k) (h1:MeltGe s w (k:Int)):MeltsGe s w (k+1):=fun c hc=>by
 by_cases e:c=k
 ·subst e;exact h1
 ·exact h c qf
open Classical in
noncomputable def bndV (s:qC) (t:qH) (w:yLL):Int:=if Falls s w then weight t w else 0
open Classical in
noncomputable def bndC (s:qC) (w:yLL):Int:=if Falls s w then 0 else 8
def putL (n:Int):yLI->yLI
 | []=>[n]
 | x::l=>if x < n then x::putL n l else if x=n then x::l else n::x::l
theorem mem_putL {n x:Int}:∀ {l:yLI},x∈putL n l<->x=n\/x∈l
 | []=>by simp [putL]
 | y::l=>by
  rw [putL]
  split
  ·rw [List.mem_cons,mem_putL,List.mem_cons]
   constructor
   ·rintro (h | h | h)
    ·exact .inr (.inl h)
    ·exact .inl h
    ·exact .inr (.inr h)
   ·rintro (h | h | h)
    ·exact .inr (.inl h)
    ·exact .inl h
    ·exact .inr (.inr h)
  ·split
   ·rename_i e
    subst e
    rw [List.mem_cons]
    constructor
    ·exact .inr
    ·rintro (h | h)
     ·exact .inl h
     ·exact h
   ·rw [List.mem_cons]
theorem putL_len (n:Int):∀ l:yLI,(putL n l).length<=l.length+1
 | []=>by simp [putL]
 | x::l=>by
  rw [putL]
  have:=putL_len n l
  split
  ·simp only [List.length_cons];omega
  ·split <;> simp
def PutTo (n:Int) (l out:yLI) (done:Bool) (i:Nat):Prop:=out.length<=i+(if done=true then 1 else 0)/\(if done=true then out++l.drop i else out++putL n (l.drop i))=putL n l
theorem drop_at (h:i < l.length):l.drop i=l[i]! :: l.drop (i+1):=by
 rw [getElem!_pos l i h];exact List.drop_eq_getElem_cons h
theorem PutTo.zero (n:Int) (l:yLI):PutTo n l [] false 0:=⟨by simp,by simp⟩
theorem PutTo.on {n:Int} {out:yLI} {done:Bool} (h:PutTo n l out done i) (hd:done=true) (hi:i < l.length):PutTo n l (out++[l[i]!]) done (i+1):=by
 subst hd
 have h1:=h.1
 have h2:=h.2
 rw [if_pos rfl] at h1 h2
 refine ⟨by rw [if_pos rfl];simp;omega,?_⟩
 rw [if_pos rfl,← h2,drop_at hi,List.append_assoc];rfl
theorem PutTo.less {n:Int} {out:yLI} {done:Bool} (h:PutTo n l out done i) (hd:done=false) (hi:i < l.length) (h3:¬ l[i]! >=n):PutTo n l (out++[l[i]!]) done (i+1):=by
 subst hd
 have h1:=h.1
 have h2:=h.2
 rw [if_neg qj] at h1 h2
 refine ⟨by rw [if_neg qj];simp;omega,?_⟩
 rw [if_neg qj,← h2,drop_at hi,putL,if_pos qf,List.append_assoc];rfl
theorem PutTo.same {n:Int} {out:yLI} {done:Bool} (h:PutTo n l out done i) (hd:done=false) (hi:i < l.length) (h3:l[i]! >=n) (h4:¬ l[i]! > n):PutTo n l (out++[l[i]!]) true (i+1):=by
 subst hd
 have h1:=h.1
 have h2:=h.2
 rw [if_neg qj] at h1 h2
 refine ⟨by rw [if_pos rfl];simp;omega,?_⟩
 rw [if_pos rfl,← h2,drop_at hi,putL,if_neg qf,if_pos qf,List.append_assoc];rfl
theorem PutTo.more {n:Int} {out:yLI} {done:Bool} (h:PutTo n l out done i) (hd:done=false) (hi:i < l.length) (h4:l[i]! > n):PutTo n l (out++[n]++[l[i]!]) true (i+1):=by
 subst hd
 have h1:=h.1
 have h2:=h.2
 rw [if_neg qj] at h1 h2
 refine ⟨by rw [if_pos rfl];simp;omega,?_⟩
 rw [if_pos rfl,← h2,drop_at hi,putL,if_neg qf,if_neg qf,List.append_assoc,List.append_assoc];rfl
theorem PutTo.bd {n:Int} {out:yLI} {done:Bool} (h:PutTo n l out done i):out.length<=i+1:=by
 have:=h.1
 split at this <;> omega
theorem PutTo.yes {n:Int} {out:yLI} {done:Bool} (h:PutTo n l out done i) (hd:done=true) (hi:i=l.length):out=putL n l:=by
 subst hd
 have h2:=h.2
 rw [if_pos rfl,hi,List.drop_length,List.append_nil] at h2
 exact h2
theorem PutTo.no {n:Int} {out:yLI} {done:Bool} (h:PutTo n l out done i) (hd:done=false) (hi:i=l.length):out++[n]=putL n l:=by
 subst hd
 have h2:=h.2
 rw [if_neg qj,hi,List.drop_length,putL] at h2
 exact h2
open Classical in
noncomputable def parGo (s:qC):Nat->Int->yLI->yLI
 | 0,_,out=>out
 | n+1,p,out=>if 0 < p/\yP s p then parGo s n (s.qA[p.toNat]!) (putL (s.qA[p.toNat]!) out) else out
theorem parGo_go {p:Int} {out:yLI} (hn:0 < n) (h:0 < p) (hm:yP s p):parGo s n p out=parGo s (n - 1) (s.qA[p.toNat]!) (putL (s.qA[p.toNat]!) out):=by
 obtain ⟨m,rfl⟩:∃ m,n=m+1:=⟨n - 1,by omega⟩
 rw [parGo,if_pos ⟨h,hm⟩];rfl
theorem parGo_end {p:Int} {out:yLI} (h:¬ (0 < p/\yP s p)):parGo s n p out=out:=by
 cases n with
 | zero=>rfl
 | succ n=>rw [parGo,if_neg h]
noncomputable def VD (s:qC) (c:Int):yLI:=if c=0 then [] else parGo s s.qA.length (s.qA[c.toNat]!) (putL (s.qA[c.toNat]!) [])
open Classical in
theorem mem_parGo {s:qC} (hs:jk s) {x:Int}:∀ (n:Nat) (p:Int) (out:yLI),0<=p->p < n->p<=(s.qA.length:Int) - 1->p∈out->(x∈parGo s n p out<->x∈out\/x∈chain s n p)
 | 0,p,out,h1,h2,h3,h4=>by omega
 | n+1,p,out,h1,h2,h3,h4=>by
  rw [chain,if_neg (show ¬ p < 0 by omega),parGo]
  by_cases hc:0 < p/\yP s p
  ·have hu:=hs.up hc.1 h3
   rw [if_pos hc,if_pos hc.2,mem_parGo hs n _ _ hu.1 qf qf (mem_putL.2 (.inl rfl)),mem_putL,List.mem_cons]
   have hin:s.qA[p.toNat]! ∈chain s n (s.qA[p.toNat]!):=by
    obtain ⟨m,rfl⟩:∃ m,n=m+1:=⟨n - 1,by omega⟩
    rw [chain,if_neg qf]
    exact List.mem_cons_self ..
   constructor
   ·rintro ((h | h) | h)
    ·exact .inr (.inr (by rw [h];exact hin))
    ·exact .inl h
    ·exact .inr (.inr h)
   ·rintro (h | h | h)
    ·exact .inl (.inr h)
    ·exact .inl (.inr (by rw [h];exact h4))
    ·exact .inr h
  ·rw [if_neg hc]
   have e:(if yP s p then chain s n (s.qA[p.toNat]!) else [])=[]:=by
    by_cases hm:yP s p
    ·have hp:p=0:=by
      rcases Int.lt_or_eq_of_le h1 with h | h
      ·exact absurd ⟨h,hm⟩ hc
      ·exact h.symm
     subst hp
     rw [if_pos hm,show s.qA[(0:Int).toNat]! = -1 from hs.2.2.1]
     exact chain_end qf
    ·rw [if_neg hm]
   rw [e,List.mem_singleton]
   constructor
   ·exact .inl
   ·rintro (h | h)
    ·exact h
    ·rw [h];exact h4
theorem mem_parS (hs:jk s) (hc:QU s c):x∈VD s c<->x∈chain s s.qA.length (s.qA[c.toNat]!):=by
 unfold VD
 by_cases h:c=0
 ·subst h
  rw [if_pos rfl,show s.qA[(0:Int).toNat]! = -1 from hs.2.2.1,chain_end qf]
 ·have hu:=hs.up (show 0 < c by have:=hc.1;omega) hc.2
  rw [if_neg h,mem_parGo hs _ _ _ hu.1 (by have:=hc.2;omega) (by have:=hc.2;omega) (mem_putL.2 (.inl rfl)),mem_putL]
  constructor
  ·rintro ((h | h) | h)
   ·rw [h]
    obtain ⟨m,e⟩:∃ m,s.qA.length=m+1:=⟨s.qA.length - 1,by have:=hs.2.1;omega⟩
    rw [e,chain,if_neg qf]
    exact List.mem_cons_self ..
   ·simp at h
   ·exact h
  ·exact .inr
noncomputable def jM (s:qC) (c:Int):yLI:=if c=0 then [(s.qA.length:Int)] else VD s c
noncomputable def jv (s:qC) (c:Int):yLI:=if c=0 then [(s.qA.length:Int)] else Qz s c
theorem VH (hs:jk s) (hc:QU s c):x∈jM s c<->x∈places s c:=by
 unfold jM places
 split
 ·exact Iff.rfl
 ·exact mem_parS hs hc
theorem VI:x∈jv s c<->x∈places s c:=by
 unfold jv places
 split
 ·exact Iff.rfl
 ·exact mem_poss
def jy (r:vS) (w:yLL) (l:yLI):yLI:=l.map (gain r w)
def NegTo (l:yLI) (k:Nat):Prop:=∀ j,j < k->l[j]! < 0
theorem NegTo.succ (h:NegTo l k) (h1:l[k]! < 0):NegTo l (k+1):=fun j hj=>by
 by_cases e:j=k
 ·subst e;exact h1
 ·exact h j qf
theorem neg_iff {m:yLI} (hm:∀ x,x∈l<->x∈m):NegTo (jy r w l) (jy r w l).length<->∀ p∈m,gain r w p < 0:=by
 constructor
 ·intro h p hp
  obtain ⟨k,hk,e⟩:=List.mem_iff_getElem.1 ((hm p).2 hp)
  have:=h k (by simpa [jy] using hk)
  rw [getElem!_pos _ k (by simpa [jy] using hk)] at this
  simpa [jy,e] using this
 ·intro h j hj
  have rd :j < l.length:=by simpa [jy] using hj
  rw [getElem!_pos _ j hj]
  simp only [jy,List.getElem_map]
  exact h _ ((hm _).1 (List.getElem_mem rd))
structure WtTo (kk:Int) (n:Nat) (w:yLL):Prop where
 len:w.length=n
 row:∀ c,c < w.length->(w[c]!).length=kk.toNat/\∀ k,k < (w[c]!).length->(0<=(w[c]!)[k]! /\(w[c]!)[k]! <=5)/\((w[c]!)[k]! =0->c=0/\k=0)
theorem WtTo.dr (h:WtTo kk m w) (e:m=n+1):WtDr kk n w:=⟨h.len.trans e,h.row⟩
theorem WtTo.nil (kk:Int):WtTo kk 0 []:=⟨rfl,fun c hc=>by simp at hc⟩
def RowTo (l:yLI):Prop:=∀ j,j < l.length->1<=l[j]! /\l[j]! <=5
theorem RowTo.nil:RowTo []:=fun j hj=>by simp at hj
theorem RowTo.snoc {v:Int} (h:RowTo l) (hv:1<=v/\v<=5):RowTo (l++[v]):=fun j hj=>by
 rw [VA]
 by_cases e:j < l.length
 ·rw [if_pos e];exact h j e
 ·rw [if_neg e,if_pos (by simp at hj;omega)];exact hv
theorem WtTo.snoc (h:WtTo kk n w) (hl:z.length=kk.toNat) (hz:RowTo z):WtTo kk (n+1) (w++[z]):=by
 refine ⟨by simp [h.len],fun c hc=>?_⟩
 rw [VA]
 by_cases e:c < w.length
 ·rw [if_pos e];exact h.row c e
 ·rw [if_neg e,if_pos (by simp at hc;omega)]
  exact ⟨hl,fun k hk=>by have:=hz k hk;omega⟩
theorem WtTo.put {v:Int} (h:WtTo kk n w) (hn:0 < w.length) (hk:0 < (w[0]!).length) (hv:0<=v/\v<=5):WtTo kk n (w.set 0 ((w[0]!).set 0 v)):=by
 refine ⟨by rw [List.length_set];exact h.len,fun c hc=>?_⟩
 rw [List.length_set] at hc
 rw [getset hn]
 by_cases e:c=0
 ·subst e
  rw [if_pos rfl,List.length_set]
  refine ⟨(h.row 0 hn).1,fun k uG =>?_⟩
  rw [getset hk]
  by_cases e:k=0
  ·subst e;rw [if_pos rfl];exact ⟨by omega,fun _=>⟨rfl,rfl⟩⟩
  ·rw [if_neg e];exact (h.row 0 hn).2 k uG
 ·rw [if_neg e];exact h.row c hc
def SmallD (b v:yLI):Prop:=(b.length<=v.length/\b.length<=8)/\∀ k,k < b.length->0<=b[k]! * v[k]! /\b[k]! * v[k]! <=5000
theorem dotTo_bd {b v:yLI} (h:SmallD b v):∀ k,k<=b.length->0<=yB (fun k=>b[k]! * v[k]!) k/\yB (fun k=>b[k]! * v[k]!) k<=5000 * k
 | 0,_=>by simp [yB]
 | k+1,hk=>by
  have:=dotTo_bd h k qf
  have:=h.2 k qf
  rw [yB]
  omega
theorem jU {v:yLI} (h:SmallD b v):0<=VO b v/\VO b v<=40000:=by
 have:=dotTo_bd h b.length (Nat.le_refl _)
 have:=h.1.2
 unfold VO
 omega
theorem SmallD.small {v:yLI} (h:SmallD b v):Small (tabTo (fun k=>b[k]! * v[k]!) b.length):=by
 refine ⟨by rw [tabTo_len];have:=h.1.2;omega,fun k hk=>?_⟩
 rw [tabTo_len] at hk
 have e:(tabTo (fun k=>b[k]! * v[k]!) b.length)[k]! =b[k]! * v[k]! :=by rw [getElem!_pos _ k (by rw [tabTo_len];exact hk)];simp [tabTo]
 rw [e]
 have:=h.2 k hk
 omega
theorem smallD {c:Nat} (hs:ve s) (hw:WtOk s w) (hb:vZ s.xK b) (hc:c < w.length):SmallD b (w[c]!):=by
 have hK:=hs.1.1
 obtain ⟨h1,h2⟩:=hw.row c hc
 have hl:=hb.2
 refine ⟨⟨by omega,by omega⟩,fun k hk=>?_⟩
 have a:=hb.get hk
 have v:=(h2 k qf).1
 refine ⟨Int.mul_nonneg a.1 v.1,?_⟩
 have m1:=Int.mul_le_mul_of_nonneg_left v.2 a.1
 omega
theorem ownTo_0 (r:vS) (w:yLL):VO r.zS (w[r.qI.toNat]!) - VO r.zk (w[r.qI.toNat]!)=ownTo r w 0:=by unfold ownTo;rw [yB];omega
theorem ownTo_succ (r:vS) (w:yLL) (j:Nat):ownTo r w j+VO (r.xe[j]!).Qa (w[(r.xe[j]!).qI.toNat]!)=ownTo r w (j+1):=by unfold ownTo;rw [yB];omega
structure GainAt (s:qC) (r:vS) (w:yLL):Prop where
 cell:0<=r.qI/\r.qI.toNat < w.length/\r.qI<=(s.qA.length:Int) - 1
 few:r.xe.length<=3
 here:SmallD r.zS (w[r.qI.toNat]!)
 need:SmallD r.zk (w[r.qI.toNat]!)
 out:∀ p,p < w.length->SmallD r.jX (w[p]!)
 into:∀ j,j < r.xe.length->(0<=(r.xe[j]!).qI/\(r.xe[j]!).qI.toNat < w.length)/\SmallD (r.xe[j]!).Qa (w[(r.xe[j]!).qI.toNat]!)
theorem gainAt (hs:ve s) (hw:WtOk s w) (h:RuleOk s r):GainAt s r w:=by
 have hl:=hw.len
 have hc:=h.1
 refine ⟨⟨hc.1,by have:=hc.2;omega,hc.2⟩,h.2.2.2.1,smallD hs hw h.2.2.2.2.2.2.2.1 (by have:=hc.2;omega),smallD hs hw h.2.2.2.2.1 (by have:=hc.2;omega),fun p hp=>smallD hs hw h.2.2.2.2.2.2.2.2.1 hp,fun j hj=>?_⟩
 have hi:=h.2.2.2.2.2.2.2.2.2.2 j hj
 have h1:=hi.1
 exact ⟨⟨h1.1,by have:=h1.2;omega⟩,smallD hs hw hi.2.2.1 (by have:=h1.2;omega)⟩
theorem GainAt.bd {s:qC} {r:vS} {w:yLL} (h:GainAt s r w):∀ j,j<=r.xe.length-> -40000<=ownTo r w j/\ownTo r w j<=40000+40000 * j
 | 0,_=>by
  have:=jU h.here
  have:=jU h.need
  rw [← ownTo_0];omega
 | j+1,hj=>by
  have:=GainAt.bd h j qf
  have:=jU (h.into j qf).2
  rw [← ownTo_succ];omega
theorem gains_snoc (hk:k < l.length) (hx:x=ownTo r w r.xe.length+VO r.jX (w[(l[k]!).toNat]!)):jy r w (l.take k)++[x]=jy r w (l.take (k+1)):=by
 rw [← take_snoc hk]
 simp [jy,gain,hx]
theorem gains_len (r:vS) (w:yLL) (l:yLI):(jy r w l).length=l.length:=by simp [jy]
theorem wt_0 (t:qH) (w:yLL):VO t.qL (w[t.qQ.length]!)=wtTo t w 0:=by unfold wtTo;rw [yB];omega
theorem wt_succ (t:qH) (w:yLL) (k:Nat):wtTo t w k+VO (t.qQ[k]!) (w[k]!)=wtTo t w (k+1):=by unfold wtTo;rw [yB];omega
theorem wt_small (hs:ve s) (hw:WtOk s w) (ht:xZ s t):SmallD t.qL (w[t.qQ.length]!)/\∀ k,k < t.qQ.length->SmallD (t.qQ[k]!) (w[k]!):=by
 have hl:=hw.len
 have hb:=ht.2.1
 exact ⟨smallD hs hw ht.2.2.2.1 qf,fun k hk=>smallD hs hw (ht.2.2.2.2 k hk).1 qf⟩
theorem chain_in {s:qC} (hs:jk s):∀ (n:Nat) (p x:Int),-1<=p->p<=(s.qA.length:Int) - 1->x∈chain s n p->QU s x
 | 0,p,x,_,_,h=>by simp [chain] at h
 | n+1,p,x,h1,h2,h=>by
  rw [chain] at h
  split at h
  ·simp at h
  ·rename_i hp
   rcases List.mem_cons.1 h with e | h
   ·rw [e];exact ⟨by omega,h2⟩
   ·split at h
    ·have hu:=hs.step (c:=p) qf h2
     exact chain_in hs n _ x qf qf h
    ·simp at h
theorem places_in (hs:jk s) (hc:QU s c) (h:x∈places s c):0<=x/\x<=(s.qA.length:Int):=by
 unfold places at h
 split at h
 ·rw [List.mem_singleton.1 h];omega
 ·have hu:=hs.step hc.1 hc.2
  have:=chain_in hs _ _ x qf qf h
  omega
theorem placeS_at (hs:jk s) (hc:QU s c) (hk:k < (jM s c).length):0<=(jM s c)[k]! /\(jM s c)[k]! <=(s.qA.length:Int):=by
 refine places_in hs hc ((VH hs hc).1 ?_)
 rw [getElem!_pos _ k hk];exact List.getElem_mem hk
theorem placeI_at (hs:jk s) (hc:QU s c) (hk:k < (jv s c).length):0<=(jv s c)[k]! /\(jv s c)[k]! <=(s.qA.length:Int):=by
 refine places_in hs hc (VI.1 ?_)
 rw [getElem!_pos _ k hk];exact List.getElem_mem hk
structure WtSt (t:qH) (w:yLL):Prop where
 len:t.qQ.length < w.length
 few:t.qQ.length<=6
 around:SmallD t.qL (w[t.qQ.length]!)
 bags:∀ k,k < t.qQ.length->SmallD (t.qQ[k]!) (w[k]!)
theorem wtSt (hs:ve s) (hw:WtOk s w) (ht:xZ s t):WtSt t w:=by
 have h1:=wt_small hs hw ht
 have h2:=hs.1.2.1
 have h3:=ht.2.1
 have h4:=hw.len
 exact ⟨by omega,by omega,h1.1,h1.2⟩
theorem WtSt.bd {t:qH} {w:yLL} (h:WtSt t w):∀ k,k<=t.qQ.length->0<=wtTo t w k/\wtTo t w k<=40000+40000 * k
 | 0,_=>by
  have:=jU h.around
  rw [← wt_0];omega
 | k+1,hk=>by
  have:=WtSt.bd h k qf
  have:=jU (h.bags k qf)
  rw [← wt_succ];omega
theorem wt_in (hw:WtOk s w) {c:Nat} (hc:c < w.length):(w[c]!).length=s.xK.toNat/\∀ k,k < (w[c]!).length->0<=(w[c]!)[k]! /\(w[c]!)[k]! <=5:=⟨(hw.row c hc).1,fun k hk=>((hw.row c hc).2 k hk).1⟩
theorem any_wt (h:∀ k,k < l.length->0<=l[k]! /\l[k]! <=5):¬ anyTo (fun k=> !inR (l[k]!) (-1000) 1000) l.length=true:=fun h1=>by
 obtain ⟨k,hk,e⟩:=anyTo_iff.1 h1
 have:=h k hk
 rw [QV.2 ⟨by omega,by omega⟩] at e
 cases e
theorem parS_z (h:c=0):VD s c=[]:=if_pos h
theorem parS_1 (h:c≠0):VD s c=parGo s s.qA.length (s.qA[c.toNat]!) (putL (s.qA[c.toNat]!) []):=if_neg h
theorem placeS_0 (h:c=0):jM s c=[(s.qA.length:Int)]:=if_pos h
theorem placeS_1 (h:c≠0):jM s c=VD s c:=if_neg h
theorem placeI_0 (h:c=0):jv s c=[(s.qA.length:Int)]:=if_pos h
theorem placeI_1 (h:c≠0):jv s c=Qz s c:=if_neg h
theorem take_all {α:Type} {l:List α} (h:l.length<=k):l.take k=l:=List.take_of_length_le h
theorem mayMelt_skin (hs:ve s):¬ yP s 0:=fun ⟨i,hi,h1,h2⟩=>(hs.rule hi).2.2.1 ⟨h1,h2⟩
theorem meltsGe_1 (hs:ve s) (w:yLL):MeltsGe s w 1:=fun c hc h=>by
 obtain rfl:c=0:=by omega
 exact absurd h (mayMelt_skin hs)
def GeTo (w:yLL) (l:yLI) (c:Int) (k:Nat):Prop:=∀ j,j < k->Vw (w[(l[j]!).toNat]!) (w[c.toNat]!) (w[(l[j]!).toNat]!).length
theorem GeTo.succ (h:GeTo w l c k) (h1:within (w[(l[k]!).toNat]!) (w[c.toNat]!)=true):GeTo w l c (k+1):=fun j hj=>by
 by_cases e:j=k
 ·subst e;exact within_iff.1 h1
 ·exact h j qf
theorem ge_iff (hl:∀ x,x∈l<->x∈chain s s.qA.length (s.qA[c.toNat]!)):(yP s c->GeTo w l c l.length)<->MeltGe s w c:=by
 constructor
 ·intro h hm p hp
  obtain ⟨k,hk,e⟩:=List.mem_iff_getElem.1 ((hl p).2 hp)
  have:=h hm k hk
  rw [getElem!_pos l k hk,e] at this
  exact this
 ·intro h hm j hj
  refine h hm _ ((hl _).1 ?_)
  rw [getElem!_pos l j hj];exact List.getElem_mem hj
theorem ge_no {c:Nat} (hc:c < s.qA.length) (hl:∀ x,x∈l<->x∈chain s s.qA.length (s.qA[c]!)) (hk:k < l.length) (hm:yP s (c:Int)) (h1:within (w[(l[k]!).toNat]!) (w[c]!)=false):¬ Falls s w:=fun h=>by
 have:=h.2 c hc hm (l[k]!) ((hl _).1 (by rw [getElem!_pos l k hk];exact List.getElem_mem hk))
 have h2:=within_iff.2 this
 rw [Int.toNat_natCast,h1] at h2
 cases h2
theorem neg_no (hi:i < s.qB.length) (hl:∀ x,x∈l<->x∈places s (s.qB[i]!).qI) (hk:k < (jy (s.qB[i]!) w l).length) (h1:¬ (jy (s.qB[i]!) w l)[k]! < 0):¬ Falls s w:=fun h=>h1 ((neg_iff hl).2 (h.1 i hi) k hk)
theorem parS_in (hs:jk s) (hc:QU s c) (hk:k < (VD s c).length):QU s ((VD s c)[k]!):=by
 have hu:=hs.step hc.1 hc.2
 refine chain_in hs s.qA.length (s.qA[c.toNat]!) _ hu.1 qf ((mem_parS hs hc).1 ?_)
 rw [getElem!_pos _ k hk];exact List.getElem_mem hk
theorem poss_in (hs:jk s) (hc:QU s c) (hk:k < (Qz s c).length):QU s ((Qz s c)[k]!):=by
 have hu:=hs.step hc.1 hc.2
 refine chain_in hs s.qA.length (s.qA[c.toNat]!) _ hu.1 qf (mem_poss.1 ?_)
 rw [getElem!_pos _ k hk];exact List.getElem_mem hk
theorem bnd_yes (h:Falls s w):bndV s t w=weight t w/\bndC s w=0:=⟨if_pos h,if_pos h⟩
theorem bnd_no (h:¬ Falls s w):bndV s t w=0/\bndC s w=8:=⟨if_neg h,if_neg h⟩
theorem parGo_len {s:qC}:∀ (n:Nat) (p:Int) (out:yLI),(parGo s n p out).length<=out.length+n
 | 0,p,out=>Nat.le_refl _
 | n+1,p,out=>by
  rw [parGo]
  split
  ·have:=parGo_len (s:=s) n (s.qA[p.toNat]!) (putL (s.qA[p.toNat]!) out)
   have:=putL_len (s.qA[p.toNat]!) out
   omega
  ·omega
theorem chain_len {s:qC}:∀ (n:Nat) (p:Int),(chain s n p).length<=n
 | 0,p=>Nat.le_refl _
 | n+1,p=>by
  rw [chain]
  split
  ·exact Nat.zero_le _
  ·split
   ·have:=chain_len (s:=s) n (s.qA[p.toNat]!)
    simp only [List.length_cons];omega
   ·simp
theorem parS_len (hs:jk s) (c:Int):(VD s c).length<=7:=by
 have:=hs.2.1
 unfold VD
 split
 ·simp
 ·have:=parGo_len (s:=s) s.qA.length (s.qA[c.toNat]!) (putL (s.qA[c.toNat]!) [])
  have h2:=putL_len (s.qA[c.toNat]!) []
  rw [List.length_nil] at h2
  omega
theorem possL_len (hs:jk s) (c:Int):(Qz s c).length<=7:=by
 have:=hs.2.1
 have h1:=chain_len (s:=s) s.qA.length (s.qA[c.toNat]!)
 have h2:=(sortI_perm (chain s s.qA.length (s.qA[c.toNat]!))).length_eq
 unfold Qz
 omega
theorem placeS_len (hs:jk s) (c:Int):(jM s c).length<=7:=by
 unfold jM
 split
 ·simp
 ·exact parS_len hs c
theorem placeI_len (hs:jk s) (c:Int):(jv s c).length<=7:=by
 unfold jv
 split
 ·simp
 ·exact possL_len hs c
theorem GeTo.go (h:GeTo w l c k) (hn:(w[(l[k]!).toNat]!).length=n) (h1:Vw (w[(l[k]!).toNat]!) (w[c.toNat]!) n):GeTo w l c (k+1):=fun j hj=>by
 by_cases e:j=k
 ·subst e;rw [hn];exact h1
 ·exact h j qf
theorem ge_no2 {c:Nat} (hc:c < s.qA.length) (hl:∀ x,x∈l<->x∈chain s s.qA.length (s.qA[c]!)) (hk:k < l.length) (hm:yP s (c:Int)) (hj:j < (w[(l[k]!).toNat]!).length) (h1:¬ (w[c]!)[j]! >=(w[(l[k]!).toNat]!)[j]!):¬ Falls s w:=fun h=>by
 have:=h.2 c hc hm (l[k]!) ((hl _).1 (by rw [getElem!_pos l k hk];exact List.getElem_mem hk)) j hj
 rw [Int.toNat_natCast] at this
 exact h1 this
theorem tab2_line {f:Nat->Nat->Int} (h:p < n):(tab2 n K f)[p]! =(List.range K).map (f p):=by
 rw [getElem!_pos _ _ (by rw [tab2_len];exact h)];simp [tab2]
theorem stepped_row {counts:yLI} (h:p < xX s):(xA s t counts).qQ[p]! =(List.range (zt s)).map (XG s t counts p):=by
 have hl:=tab2_len (xX s+1) (zt s) (XG s t counts)
 show ((tab2 (xX s+1) (zt s) (XG s t counts)).take (xX s))[p]! =_
 rw [getElem!_pos _ _ (by rw [List.length_take,hl];omega),List.getElem_take,← getElem!_pos,tab2_line qf]
theorem QC {g:Nat->Int} (h:q < K):((List.range K).map g)[q]! =g q:=by
 rw [getElem!_pos _ _ (by simpa using h)];simp
theorem stepped_around {counts:yLI}:(xA s t counts).qL=(List.range (zt s)).map (XG s t counts (xX s)):=by
 show (tab2 (xX s+1) (zt s) (XG s t counts))[xX s]! =_
 rw [tab2_line qf]
theorem appl_of {counts:yLI} (hc:Vu s counts) (h:IsCh s t counts) (hi:i < s.qB.length) (h0:counts[i]! ≠0):EnOk s t (s.qB[i]!):=by
 have hb:=hc.bd hi
 have:=h.1 i (by rw [hc.1];exact hi)
 unfold BadAt at this
 apply Classical.byContradiction
 intro hn
 exact this ⟨by omega,fun ha=>hn ha.1⟩
theorem dead_none {s:qC} {t:qH} {counts:yLI} (hs:ve s) (ht:xZ s t) (hc:Vu s counts) (h:IsCh s t counts) {p:Nat} (hp:p < xX s) (hd:t.qK[p]! =false) (q:Nat):
 ∀ k,k<=s.qB.length->Vl s counts k p q=0/\putS s t counts k p q=0
 | 0,_=>⟨rfl,rfl⟩
 | k+1,hk=>by
  obtain ⟨i1,i2⟩:=dead_none hs ht hc h hp hd q k qf
  rw [Vl,putS,i1,i2]
  by_cases h0:counts[k]! =0
  ·rw [putF_zero s t _ h0]
   unfold needF
   rw [h0]
   refine ⟨?_,rfl⟩
   unfold at'
   split <;> simp
  ·have he:=appl_of hc h (i:=k) qf h0
   have hr:=hs.rule (i:=k) qf
   have i9:p≠(s.qB[k]!).qI.toNat:=fun e=>by
    subst e
    have h1:=he.1
    rw [hd] at h1;cases h1
   have ajd:p≠outPl s t (s.qB[k]!):=by
    intro e
    unfold outPl at e
    split at e
    ·omega
    ·rename_i kS
     have sB:=hr.1
     have:=QK (t:=t) hs.1 ht.2.2.1 (show 0 < (s.qB[k]!).qI by have:=sB.1;omega) sB.2
     rw [← e,hd] at this
     exact absurd this.2.2 qj
   have ac2:∀ j,j<=(s.qB[k]!).xe.length->Xq (s.qB[k]!) (counts[k]!) j p q=0:=by
    intro j
    induction j with
    | zero=>intro _;rfl
    | succ j ih=>
     intro hj
     rw [Xq,ih qf]
     have ha:=(he.2.2.2.2 j qf).1
     unfold at'
     rw [if_neg (fun e=>by rw [e] at hd;rw [hd] at ha;cases ha)]
     rfl
   unfold needF putF at'
   rw [if_neg i9,if_neg i9,if_neg ajd,ac2 _ (Nat.le_refl _)]
   exact ⟨rfl,rfl⟩
theorem dead_zero (ht:xZ s t) (hp:p < xX s) (hd:t.qK[p]! =false) (hq:q < zt s):base0 s t p q=0:=by
 have hb:=ht.2.2.2.2 p (by rw [ht.2.1];exact hp)
 have hl:=hb.1.len
 unfold base0
 rw [if_pos hp]
 have h0:=hb.1.get (k:=q) (by rw [hl];exact hq)
 apply Classical.byContradiction
 intro hn
 have hs0:QS (t.qQ[p]!)<=0:=hb.2 hd
 have abq:∀ n,n<=(t.qQ[p]!).length->0<=sumTo (t.qQ[p]!) n/\(q < n->(t.qQ[p]!)[q]! <=sumTo (t.qQ[p]!) n):=by
  intro n
  induction n with
  | zero=>intro _;exact ⟨by simp [sumTo],fun x=>by omega⟩
  | succ n ih=>
   intro hn
   have i:=ih qf
   have g:=(hb.1.get (k:=n) qf).1
   refine ⟨by simp only [sumTo];omega,fun x=>?_⟩
   simp only [sumTo]
   by_cases e:q=n
   ·subst e;omega
   ·have:=i.2 qf;omega
 have:=(abq _ (Nat.le_refl _)).2 (by rw [hl];exact hq)
 unfold QS at hs0
 omega
theorem sumN_le {f g:Nat->Int} (h:∀ p,p < n->f p<=g p):yB f n<=yB g n:=by
 induction n with
 | zero=>exact Int.le_refl _
 | succ n ih=>rw [yB,yB];have:=ih fun p hp=>h p qf;have:=h n qf;omega
theorem sumN_const (v:Int) (n:Nat):yB (fun _=>v) n=n * v:=by
 induction n with
 | zero=>simp [yB]
 | succ n ih=>rw [yB,ih];push_cast;rw [Int.add_mul,Int.one_mul]
theorem sumN_at {c:Nat} (h:0<=x/\x<=B):yB (fun p=>at' p c x) n<=B:=by
 have e:∀ n,yB (fun p=>at' p c x) n=if c < n then x else 0:=by
  intro n
  induction n with
  | zero=>rw [if_neg qf];rfl
  | succ n ih=>
   rw [yB,ih]
   unfold at'
   by_cases e:n=c
   ·subst e;rw [if_neg qf,if_pos rfl,if_pos qf];omega
   ·rw [if_neg e]
    by_cases h1:c < n
    ·rw [if_pos h1,if_pos qf];omega
    ·rw [if_neg h1,if_neg qf];rfl
 rw [e]
 split <;> omega
theorem sumN_into {s:qC} {M D c:Int} (hs:ve s) (hD:PutsD D s) {i:Nat} (hi:i < s.qB.length) (hc:0<=c/\c<=M) (q:Nat) (hq:q < zt s) (n:Nat):∀ j,j<=(s.qB[i]!).xe.length→
 yB (fun p=>Xq (s.qB[i]!) c j p q) n<=(j:Int) * (M * D)
 | 0,_=>by simp only [Xq,sumN_zero];simp
 | j+1,hj=>by
  have hio:=(hs.rule hi).2.2.2.2.2.2.2.2.2.2 j qf
  have b3:=hio.2.2.1
  have h3:=sumN_at (c:=((s.qB[i]!).xe[j]!).qI.toNat) (n:=n) (mul_bd hc ⟨(b3.get (k:=q) (by rw [b3.len];exact hq)).1,(hD i hi q hq).2.2 j qf⟩)
  have ih:=sumN_into hs hD hi hc q hq n j qf
  simp only [Xq]
  rw [yY]
  have e:((j+1:Nat):Int) * (M * D)=(j:Int) * (M * D)+M * D:=by push_cast;rw [Int.add_mul,Int.one_mul]
  rw [e]
  omega
theorem sumN_putF (hs:ve s) (hD:PutsD D s) (hi:i < s.qB.length) (hc:0<=c/\c<=M) (q:Nat) (hq:q < zt s) (n:Nat):yB (fun p=>putF s t (s.qB[i]!) c p q) n<=5 * (M * D):=by
 have hr:=hs.rule hi
 obtain ⟨d1,d2,d3⟩:=hD i hi q hq
 have b1:=hr.2.2.2.2.2.2.2.1
 have b2:=hr.2.2.2.2.2.2.2.2.1
 have m1:=mul_bd hc ⟨(b1.get (k:=q) (by rw [b1.len];exact hq)).1,d1⟩
 have h1:=sumN_at (c:=(s.qB[i]!).qI.toNat) (n:=n) m1
 have h2:=sumN_at (c:=outPl s t (s.qB[i]!)) (n:=n) (mul_bd hc ⟨(b2.get (k:=q) (by rw [b2.len];exact hq)).1,d2⟩)
 have h3:=sumN_into hs hD hi hc q hq n _ (Nat.le_refl _)
 have hl:=hr.2.2.2.1
 have h5:((s.qB[i]!).xe.length:Int) * (M * D)<=3 * (M * D):=Int.mul_le_mul_of_nonneg_right qf qf
 simp only [putF]
 rw [yY,yY]
 omega
theorem sumN_putS {s:qC} {t:qH} {M D:Int} {counts:yLI} (hs:ve s) (hD:PutsD D s) (hc:∀ i,i < s.qB.length->0<=counts[i]! /\counts[i]! <=M) (q:Nat) (hq:q < zt s) (n:Nat):∀ k,k<=s.qB.length→
 yB (fun p=>putS s t counts k p q) n<=(k:Int) * (5 * (M * D))
 | 0,_=>by simp only [putS,sumN_zero];simp
 | k+1,h=>by
  have ih:=sumN_putS (t:=t) hs hD hc q hq n k qf
  have:=sumN_putF (t:=t) hs hD (i:=k) qf (hc k qf) q hq n
  simp only [putS]
  rw [yY]
  have e:((k+1:Nat):Int) * (5 * (M * D))=(k:Int) * (5 * (M * D))+5 * (M * D):=by push_cast;rw [Int.add_mul,Int.one_mul]
  rw [e]
  omega
theorem colTo_sum (t:qH) (q:Nat):∀ n,colTo t q n=yB (fun p=>(t.qQ[p]!)[q]!) n
 | 0=>rfl
 | n+1=>by rw [colTo,yB,colTo_sum t q n]
theorem stepped_col {counts:yLI} (hs:ve s) (ht:xZ s t) (hc:Vu s counts) (h:IsCh s t counts) (hM:FewM 6 s t) (hD:PutsD 2 s) (hq:q < zt s):colTo (xA s t counts) q (xX s)<=996:=by
 have hb:∀ i,i < s.qB.length->0<=counts[i]! /\counts[i]! <=6:=fun i hi=>⟨(hc.bd hi).1,cnt_few hs ht hc h hM hi⟩
 rw [colTo_sum]
 have h1:yB (fun p=>((xA s t counts).qQ[p]!)[q]!) (xX s)<=yB (fun p=>6+putS s t counts s.qB.length p q) (xX s):=sumN_le fun p hp=>by
  rw [stepped_row hp,QC hq]
  have a1:=hM p q qf hq
  have a2:=needS_nonpos hs hc p q hq s.qB.length (Nat.le_refl _)
  rw [XG,allS_eq]
  omega
 rw [yY,sumN_const] at h1
 have h2:=sumN_putS (t:=t) hs hD hb q hq (xX s) s.qB.length (Nat.le_refl _)
 have hl:=hs.2.1
 have hn:=hs.1.2.1
 have Dm:xX s=s.qA.length:=rfl
 omega
theorem stepped_ok {counts:yLI} (hs:ve s) (ht:xZ s t) (hc:Vu s counts) (h:IsCh s t counts) (hM:FewM 6 s t) (hD:PutsD 2 s):xZ s (xA s t counts):=by
 have hK:=hs.1.1
 have hkn:zt s=s.xK.toNat:=rfl
 have lr:∀ p,p<=xX s->vZ s.xK ((List.range (zt s)).map (XG s t counts p)):=fun p hp=>by
  refine ⟨⟨fun j hj=>?_,by simp;omega,by simp;omega⟩,by simp;omega⟩
  have rd :j < zt s:=by simpa using hj
  rw [QC rd]
  have:=step_few hs ht hc h hM hD hp rd
  omega
 have hl:(xA s t counts).qQ.length=xX s:=by
  show ((tab2 _ _ _).take _).length=_
  rw [List.length_take,tab2_len];omega
 refine ⟨ht.1,hl,ht.2.2.1,by rw [stepped_around];exact lr _ (Nat.le_refl _),fun p hp=>?_⟩
 rw [hl] at hp
 rw [stepped_row hp]
 refine ⟨lr p qf,fun hd=>?_⟩
 have Ds :t.qK[p]! =false:=hd
 have hz:∀ n,sumTo ((List.range (zt s)).map (XG s t counts p)) n<=0:=by
  intro n
  induction n with
  | zero=>simp [sumTo]
  | succ n ih=>
   simp only [sumTo]
   by_cases e:n < zt s
   ·rw [QC e]
    obtain ⟨z1,z2⟩:=dead_none hs ht hc h hp Ds n s.qB.length (Nat.le_refl _)
    rw [XG,allS_eq,z1,z2,dead_zero ht hp Ds e]
    omega
   ·rw [getElem!_neg _ _ (by simpa using e)]
    show _+(0:Int)<=0
    omega
 exact hz _
theorem col_two {t:qH} {q:Nat} (h0:∀ p,p < t.qQ.length->0<=(t.qQ[p]!)[q]!):∀ n,n<=t.qQ.length->0<=colTo t q n/\(∀ a,a < n->(t.qQ[a]!)[q]! <=colTo t q n)/\∀ a b,a < b->b < n->(t.qQ[a]!)[q]! +(t.qQ[b]!)[q]! <=colTo t q n
 | 0,_=>⟨by simp [colTo],fun a ha=>by omega,fun a b _ hb=>by omega⟩
 | n+1,hn=>by
  obtain ⟨i0,i1,i2⟩:=col_two h0 n qf
  have g:=h0 n qf
  rw [colTo]
  refine ⟨by omega,fun a ha=>?_,fun a b BT hb=>?_⟩
  ·by_cases e:a=n
   ·subst e;omega
   ·have:=i1 a qf;omega
  ·by_cases e:b=n
   ·subst e
    have:=i1 a qf;omega
   ·have:=i2 a b BT qf;omega
theorem Xa.ok1000 (h:Xa s t c) (hf:∀ q,q < zt s->colTo t q (xX s)<=1000):xZ s (melted s t c):=by
 have Dm:xX s=s.qA.length:=rfl
 have hp:=h.par
 have hc:=h.cell
 have ht:=h.state
 have e1:(melted s t c).qK.length=t.qK.length:=by simp [melted]
 have e2:(melted s t c).qQ.length=t.qQ.length:=by simp [melted]
 refine ⟨by rw [e1];exact ht.1,by rw [e2];exact ht.2.1,by rw [h.alive',if_neg (by have:=h.pos;omega)];exact ht.2.2.1,ht.2.2.2.1,fun k hk=>?_⟩
 rw [e2] at hk
 rw [h.bags',h.alive']
 have hkk:=ht.2.1
 by_cases g1:c.toNat=k
 ·rw [if_pos g1,if_pos g1]
  have hK:=h.frame.1
  refine ⟨⟨⟨fun j hj=>by rw [rep_get];omega,by simp;omega,by simp;omega⟩,by simp;omega⟩,fun _=>?_⟩
  have hz:∀ n,sumTo (List.replicate s.xK.toNat 0) n=0:=by
   intro n
   induction n with
   | zero=>simp [sumTo]
   | succ n ih=>simp only [sumTo,ih,rep_get];omega
  unfold QS
  rw [hz]
  omega
 ·rw [if_neg g1,if_neg g1]
  by_cases g2:(xF s t c).toNat=k
  ·rw [if_pos g2]
   subst g2
   have bp:=ht.bagLen hk
   have bc:=ht.bagLen (k:=c.toNat) qf
   refine ⟨⟨⟨fun j hj=>?_,by rw [Qd];exact bp.1.2.1,by rw [Qd];exact bp.1.2.2⟩,by rw [Qd];exact bp.2⟩,fun hd=>?_⟩
   ·rw [Qd] at hj
    rw [plusL_get hj]
    have CF:j < (t.qQ[c.toNat]!).length:=by have:=bp.2;have:=bc.2;omega
    have RN:j < zt s:=by rw [bp.len] at hj;exact hj
    have a1:=bp.1.1 j hj
    have a2:=bc.1.1 j CF
    have a3:=hf j RN
    have a4:=(col_two (t:=t) (q:=j) (fun p hp=>by
     have b:=ht.bagLen hp
     exact (b.get (k:=j) (by rw [b.len];exact RN)).1) (xX s) (by rw [hkk];exact Nat.le_refl _)).2.2 (xF s t c).toNat c.toNat qf qf
    omega
   ·rw [hp.2.2] at hd;cases hd
  ·rw [if_neg g2]
   exact ht.2.2.2.2 k hk
def chgF (s:qC) (t:qH) (i p q:Nat):Int:=at' p (s.qB[i]!).qI.toNat (-(((s.qB[i]!).zk)[q]!))+putF s t (s.qB[i]!) 1 p q
def chgS (s:qC) (t:qH) (counts:yLI):Nat->Nat->Nat->Int
 | 0,_,_=>0
 | i+1,p,q=>chgS s t counts i p q+counts[i]! * chgF s t i p q
theorem at_lin (p c:Nat) (m x:Int):at' p c (m * x)=m * at' p c (1 * x):=by
 unfold at'
 split
 ·rw [Int.one_mul]
 ·rw [Int.mul_zero]
theorem into_lin (r:vS) (m:Int) (p q:Nat):∀ j,Xq r m j p q=m * Xq r 1 j p q
 | 0=>by simp [Xq]
 | j+1=>by rw [Xq,Xq,into_lin r m p q j,at_lin p _ m,Int.mul_add]
theorem putF_lin (s:qC) (t:qH) (r:vS) (m:Int) (p q:Nat):putF s t r m p q=m * putF s t r 1 p q:=by
 unfold putF
 rw [into_lin r m,at_lin p _ m (r.zS[q]!),at_lin p _ m (r.jX[q]!),Int.mul_add,Int.mul_add]
theorem all_chg (s:qC) (t:qH) (counts:yLI) (p q:Nat):∀ k,allS s t counts k p q=chgS s t counts k p q
 | 0=>rfl
 | k+1=>by
  rw [allS,chgS,all_chg s t counts p q k,putF_lin s t _ (counts[k]!)]
  unfold chgF needF
  have e:at' p (s.qB[k]!).qI.toNat (-(counts[k]!) * ((s.qB[k]!).zk)[q]!)=counts[k]! * at' p (s.qB[k]!).qI.toNat (-(((s.qB[k]!).zk)[q]!)):=by
   unfold at'
   split
   ·rw [Int.neg_mul,Int.mul_neg]
   ·rw [Int.mul_zero]
  rw [e,Int.mul_add]
  omega
theorem step_due (s:qC) (t:qH) (counts:yLI) (p q:Nat):XG s t counts p q=base0 s t p q+chgS s t counts s.qB.length p q:=by
 rw [XG,all_chg]
theorem jI {f g:Nat->Int}:∀ {n:Nat},(∀ p,p < n->f p=g p)->yB f n=yB g n
 | 0,_=>rfl
 | n+1,h=>by rw [yB,yB,jI fun p hp=>h p qf,h n qf]
theorem sumN_atF (c:Nat) (x:Int) (f:Nat->Int):∀ n,yB (fun p=>at' p c x * f p) n=if c < n then x * f c else 0
 | 0=>by rw [if_neg qf];rfl
 | n+1=>by
  rw [yB,sumN_atF c x f n]
  unfold at'
  by_cases e:n=c
  ·subst e;rw [if_neg qf,if_pos rfl,if_pos qf];omega
  ·rw [if_neg e,Int.zero_mul]
   by_cases h:c < n
   ·rw [if_pos h,if_pos qf];omega
   ·rw [if_neg h,if_neg qf];rfl
theorem sumN_swap (f:Nat->Nat->Int) (n:Nat):∀ m,yB (fun p=>yB (fun q=>f p q) m) n=yB (fun q=>yB (fun p=>f p q) n) m
 | 0=>by simp only [yB];exact sumN_zero n
 | m+1=>by
  rw [yB,← sumN_swap f n m,← yY]
  exact jI fun p _=>rfl
theorem sumN_ge {f:Nat->Int}:∀ {n:Nat},(∀ p,p < n->0<=f p)->0<=yB f n/\∀ c,c < n->f c<=yB f n
 | 0,_=>⟨Int.le_refl _,fun c hc=>by omega⟩
 | n+1,h=>by
  obtain ⟨i1,i2⟩:=sumN_ge (n:=n) fun p hp=>h p qf
  have:=h n qf
  rw [yB]
  refine ⟨by omega,fun c hc=>?_⟩
  by_cases e:c=n
  ·subst e;omega
  ·have:=i2 c qf;omega
def wF (s:qC) (t:qH) (v:Nat->Nat->Int):Int:=yB (fun p=>yB (fun q=>base0 s t p q * v p q) (zt s)) (xX s+1)
def v1 (w:yLL) (p q:Nat):Int:=(w[p]!)[q]!
def v2 (w:yLL) (p q:Nat):Int:=max 1 ((w[p]!)[q]!)
theorem wF_weight (ht:xZ s t):wF s t (v1 w)=weight t w:=by
 have hb:=ht.2.1
 have ha:=ht.around.1
 unfold wF weight wtTo
 rw [yB,hb]
 have e1:yB (fun p=>yB (fun q=>base0 s t p q * v1 w p q) (zt s)) (xX s)=yB (fun c=>VO (t.qQ[c]!) (w[c]!)) (xX s):=jI fun p hp=>by
  unfold VO
  rw [(ht.shape.2 p hp).1]
  exact jI fun q hq=>by unfold base0 v1;rw [if_pos hp]
 have e2:yB (fun q=>base0 s t (xX s) q * v1 w (xX s) q) (zt s)=VO t.qL (w[xX s]!):=by
  unfold VO
  rw [ha]
  exact jI fun q hq=>by unfold base0 v1;rw [if_neg qf]
 rw [e1,e2]
 exact Int.add_comm _ _
def gnF (s:qC) (t:qH) (i:Nat) (v:Nat->Nat->Int):Int:=yB (fun p=>yB (fun q=>chgF s t i p q * v p q) (zt s)) (xX s+1)
theorem into_sum {s:qC} {r:vS} {n q:Nat} {v:Nat->Nat->Int}:∀ j,(∀ k,k < j->(r.xe[k]!).qI.toNat < n)->yB (fun p=>Xq r 1 j p q * v p q) n=yB (fun k=>((r.xe[k]!).Qa)[q]! * v (r.xe[k]!).qI.toNat q) j
 | 0,_=>by
  have:yB (fun p=>Xq r 1 0 p q * v p q) n=yB (fun _=>0) n:=jI fun p _=>by simp [Xq]
  rw [this,sumN_zero];rfl
 | j+1,h=>by
  have e:yB (fun p=>Xq r 1 (j+1) p q * v p q) n=yB (fun p=>Xq r 1 j p q * v p q+at' p (r.xe[j]!).qI.toNat (1 * ((r.xe[j]!).Qa)[q]!) * v p q) n:=jI fun p _=>by rw [Xq,Int.add_mul]
  rw [e,yY,into_sum (s:=s) j fun k hk=>h k qf,sumN_atF _ _ (fun p=>v p q),if_pos (h j qf),Int.one_mul]
  rfl
theorem outPl_lt (hs:ve s) (ht:xZ s t) (hi:i < s.qB.length):outPl s t (s.qB[i]!) < xX s+1:=by
 have hr:=hs.rule hi
 unfold outPl
 split
 ·omega
 ·have hc:=hr.1
  have Dm:xX s=s.qA.length:=rfl
  have:=QK (t:=t) hs.1 ht.2.2.1 (show 0 < (s.qB[i]!).qI by have:=hc.1;omega) hc.2
  have:=hc.2
  omega
theorem gnF_eq (hs:ve s) (ht:xZ s t) (hi:i < s.qB.length) (v:Nat->Nat->Int):
 gnF s t i v=yB (fun q=>(s.qB[i]!).zS[q]! * v (s.qB[i]!).qI.toNat q - (s.qB[i]!).zk[q]! * v (s.qB[i]!).qI.toNat q+yB (fun k=>(((s.qB[i]!).xe[k]!).Qa)[q]! * v ((s.qB[i]!).xe[k]!).qI.toNat q) (s.qB[i]!).xe.length+(s.qB[i]!).jX[q]! * v (outPl s t (s.qB[i]!)) q) (zt s):=by
 have hr:=hs.rule hi
 have hc:=hr.cell
 unfold gnF
 rw [sumN_swap]
 refine jI fun q _=>?_
 have e:yB (fun p=>chgF s t i p q * v p q) (xX s+1)=yB (fun p=>at' p (s.qB[i]!).qI.toNat (-((s.qB[i]!).zk[q]!)) * v p q+(at' p (s.qB[i]!).qI.toNat (1 * (s.qB[i]!).zS[q]!) * v p q+at' p (outPl s t (s.qB[i]!)) (1 * (s.qB[i]!).jX[q]!) * v p q+Xq (s.qB[i]!) 1 (s.qB[i]!).xe.length p q * v p q)) (xX s+1):=jI fun p _=>by
  rw [chgF,putF,Int.add_mul,Int.add_mul,Int.add_mul]
 have hin:∀ k,k < (s.qB[i]!).xe.length->((s.qB[i]!).xe[k]!).qI.toNat < xX s+1:=fun k hk=>by
  have:=(hr.2.2.2.2.2.2.2.2.2.2 k hk).1
  have Dm:xX s=s.qA.length:=rfl
  omega
 rw [e,yY,yY,yY,sumN_atF _ _ (fun p=>v p q),sumN_atF _ _ (fun p=>v p q),sumN_atF _ _ (fun p=>v p q),into_sum (s:=s) _ hin,if_pos qf,if_pos (outPl_lt hs ht hi),if_pos qf,Int.one_mul,Int.one_mul,Int.neg_mul]
 omega
theorem sumN_sub (f g:Nat->Int) (n:Nat):yB (fun c=>f c - g c) n=yB f n - yB g n:=by
 induction n with
 | zero=>rfl
 | succ n ih=>rw [yB,yB,yB,ih];omega
theorem dot_len {v:yLI} (hb:vZ s.xK b):yB (fun q=>b[q]! * v[q]!) (zt s)=VO b v:=by unfold VO;rw [hb.len]
theorem rule_gain (hs:ve s) (ht:xZ s t) (hi:i < s.qB.length) (w:yLL):gnF s t i (v1 w)=gain (s.qB[i]!) w (outPl s t (s.qB[i]!):Int):=by
 have hr:=hs.rule hi
 have b1:=hr.2.2.2.2.1
 have b2:=hr.2.2.2.2.2.2.2.1
 have b3:=hr.2.2.2.2.2.2.2.2.1
 rw [gnF_eq hs ht hi,yY,yY,sumN_sub]
 unfold v1
 rw [dot_len b2,dot_len b1,dot_len b3,← sumN_swap,gain,ownTo,Int.toNat_natCast]
 have e:yB (fun p=>yB (fun q=>(((s.qB[i]!).xe[p]!).Qa)[q]! * (w[((s.qB[i]!).xe[p]!).qI.toNat]!)[q]!) (zt s)) (s.qB[i]!).xe.length=yB (fun k=>VO ((s.qB[i]!).xe[k]!).Qa (w[((s.qB[i]!).xe[k]!).qI.toNat]!)) (s.qB[i]!).xe.length:=jI fun k hk=>dot_len (hr.2.2.2.2.2.2.2.2.2.2 k hk).2.2.1
 rw [e]
theorem out_place (hs:ve s) (ht:xZ s t) (hd:Vt s t) (hi:i < s.qB.length):((outPl s t (s.qB[i]!):Nat):Int)∈places s (s.qB[i]!).qI:=by
 have hc:=(hs.rule hi).1
 unfold places outPl
 by_cases h:(s.qB[i]!).qI=0
 ·rw [if_pos h,if_pos h];exact List.mem_singleton.2 rfl
 ·rw [if_neg h,if_neg h]
  have h0:0 < (s.qB[i]!).qI:=by have:=hc.1;omega
  have:=QK (t:=t) hs.1 ht.2.2.1 h0 hc.2
  rw [show (((xF s t (s.qB[i]!).qI).toNat:Nat):Int)=xF s t (s.qB[i]!).qI by omega]
  exact parent_chain hs.1 ht hd hc h0
theorem chgS_single (s:qC) (t:qH) {i:Nat} (hi:i < s.qB.length) (p q:Nat):∀ m,m<=s.qB.length->chgS s t (single s i) m p q=if i < m then chgF s t i p q else 0
 | 0,_=>by rw [if_neg qf];rfl
 | m+1,h=>by
  rw [chgS,chgS_single s t hi p q m qf,single_get hi qf]
  by_cases e:m=i
  ·subst e;rw [if_neg qf,if_pos rfl,if_pos qf];omega
  ·rw [if_neg e,Int.zero_mul]
   by_cases h1:i < m
   ·rw [if_pos h1,if_pos qf];omega
   ·rw [if_neg h1,if_neg qf];rfl
theorem stepF_single (s:qC) (t:qH) (hi:i < s.qB.length) (p q:Nat):XG s t (single s i) p q=base0 s t p q+chgF s t i p q:=by
 rw [step_due,chgS_single s t hi p q _ (Nat.le_refl _),if_pos hi]
theorem base_stepped {x:yLI} (hp:p<=xX s) (hq:q < zt s):base0 s (xA s t x) p q=XG s t x p q:=by
 unfold base0
 by_cases h:p < xX s
 ·rw [if_pos h,stepped_row h,QC hq]
 ·obtain rfl:p=xX s:=by omega
  rw [if_neg h,stepped_around,QC hq]
theorem wF_stepped (s:qC) (t:qH) (hi:i < s.qB.length) (v:Nat->Nat->Int):wF s (xA s t (single s i)) v=wF s t v+gnF s t i v:=by
 unfold wF gnF
 rw [← yY]
 refine jI fun p hp=>?_
 rw [← yY]
 exact jI fun q hq=>by rw [base_stepped qf hq,stepF_single s t hi,Int.add_mul]
theorem step_nonneg {counts:yLI} (hs:ve s) (ht:xZ s t) (hc:Vu s counts) (h:IsCh s t counts) (hD:PutsD 2 s) (hp:p<=xX s) (hq:q < zt s):0<=XG s t counts p q:=by
 have h1:=putS_bd (t:=t) hs hD (fun i hi=>hc.bd hi) p q hq s.qB.length (Nat.le_refl _)
 have h4:0<=base0 s t p q+Vl s counts s.qB.length p q:=by
  by_cases e:p < xX s
  ·exact rest_get hs ht hc h e hq
  ·obtain rfl:p=xX s:=by omega
   rw [needS_around hs q _ (Nat.le_refl _)]
   unfold base0
   rw [if_neg qf]
   have:=ht.around.2 q hq
   omega
 rw [XG,allS_eq]
 omega
theorem stepped_ok' {counts:yLI} (hs:ve s) (ht:xZ s t) (hc:Vu s counts) (h:IsCh s t counts) (hB:∀ p q,p<=xX s->q < zt s->0<=XG s t counts p q/\XG s t counts p q<=1000):xZ s (xA s t counts):=by
 have hK:=hs.1.1
 have hkn:zt s=s.xK.toNat:=rfl
 have lr:∀ p,p<=xX s->vZ s.xK ((List.range (zt s)).map (XG s t counts p)):=fun p hp=>by
  refine ⟨⟨fun j hj=>?_,by simp;omega,by simp;omega⟩,by simp;omega⟩
  have rd :j < zt s:=by simpa using hj
  rw [QC rd]
  exact hB p j hp rd
 have hl:(xA s t counts).qQ.length=xX s:=by
  show ((tab2 _ _ _).take _).length=_
  rw [List.length_take,tab2_len];omega
 refine ⟨ht.1,hl,ht.2.2.1,by rw [stepped_around];exact lr _ (Nat.le_refl _),fun p hp=>?_⟩
 rw [hl] at hp
 rw [stepped_row hp]
 refine ⟨lr p qf,fun hd=>?_⟩
 have Ds :t.qK[p]! =false:=hd
 have hz:∀ n,sumTo ((List.range (zt s)).map (XG s t counts p)) n<=0:=by
  intro n
  induction n with
  | zero=>simp [sumTo]
  | succ n ih=>
   simp only [sumTo]
   by_cases e:n < zt s
   ·rw [QC e]
    obtain ⟨z1,z2⟩:=dead_none hs ht hc h hp Ds n s.qB.length (Nat.le_refl _)
    rw [XG,allS_eq,z1,z2,dead_zero ht hp Ds e]
    omega
   ·rw [getElem!_neg _ _ (by simpa using e)]
    show _+(0:Int)<=0
    omega
 exact hz _
theorem melted_wF (h:Xa s t c) {v:Nat->Nat->Int} (hv:∀ q,q < zt s->v (xF s t c).toNat q<=v c.toNat q):wF s (melted s t c) v<=wF s t v:=by
 have hp:=h.par
 have hc:=h.cell
 have Dm:xX s=s.qA.length:=rfl
 have hb:∀ p q,p<=xX s->q < zt s->base0 s (melted s t c) p q=base0 s t p q+(at' p (xF s t c).toNat ((t.qQ[c.toNat]!)[q]!)+at' p c.toNat (-((t.qQ[c.toNat]!)[q]!))):=fun p q hp' hq=>by
  unfold base0 at'
  by_cases e:p < xX s
  ·rw [if_pos e,if_pos e,h.bags']
   by_cases e1:c.toNat=p
   ·subst e1
    rw [if_pos rfl,rep_get,if_neg qf,if_pos rfl];omega
   ·rw [if_neg e1,if_neg (show ¬ p=c.toNat by omega)]
    by_cases e2:(xF s t c).toNat=p
    ·subst e2
     rw [if_pos rfl,if_pos rfl,plusL_get (by rw [h.lens qf];exact hq)];omega
    ·rw [if_neg e2,if_neg qf];omega
  ·rw [if_neg e,if_neg e,if_neg qf,if_neg qf]
   show t.qL[q]! =_
   omega
 have e:wF s (melted s t c) v=wF s t v+yB (fun q=>(t.qQ[c.toNat]!)[q]! * v (xF s t c).toNat q+ -((t.qQ[c.toNat]!)[q]!) * v c.toNat q) (zt s):=by
  unfold wF
  have e1:yB (fun p=>yB (fun q=>base0 s (melted s t c) p q * v p q) (zt s)) (xX s+1)=yB (fun p=>yB (fun q=>base0 s t p q * v p q) (zt s)+yB (fun q=>at' p (xF s t c).toNat ((t.qQ[c.toNat]!)[q]!) * v p q+at' p c.toNat (-((t.qQ[c.toNat]!)[q]!)) * v p q) (zt s)) (xX s+1):=jI fun p hp' =>by
   rw [← yY]
   exact jI fun q hq=>by rw [hb p q qf hq,Int.add_mul,Int.add_mul]
  rw [e1,yY]
  congr 1
  rw [sumN_swap]
  refine jI fun q _=>?_
  rw [yY,sumN_atF _ _ (fun p=>v p q),sumN_atF _ _ (fun p=>v p q),if_pos qf,if_pos qf]
 rw [e]
 have:yB (fun q=>(t.qQ[c.toNat]!)[q]! * v (xF s t c).toNat q+ -((t.qQ[c.toNat]!)[q]!) * v c.toNat q) (zt s)<=yB (fun _=>0) (zt s):=sumN_le fun q hq=>by
  have lr:=(h.state.2.2.2.2 c.toNat (by rw [h.state.2.1];omega)).1
  have h1:=(lr.get (k:=q) (by rw [lr.len];exact hq)).1
  have h2:=Int.mul_le_mul_of_nonneg_left (hv q hq) h1
  rw [Int.neg_mul]
  omega
 rw [sumN_zero] at this
 omega
theorem down_falls {s:qC} {t:qH} {counts:yLI} (hs:ve s) (hc:Vu s counts) (h:IsCh s t counts) (hd:Vt s t) (h0:xZ s (xA s t counts)) (hq0:∀ q,q < zt s->colTo (xA s t counts) q (xX s)<=1000):∀ j,j+1<=xX s→
 xZ s (xC s counts (xA s t counts) j)/\Vt s (xC s counts (xA s t counts) j)/\(∀ q,q < zt s->colTo (xC s counts (xA s t counts) j) q (xX s)<=1000)/\(∀ c,c+j < xX s->(xC s counts (xA s t counts) j).qK[c]! =t.qK[c]!)∧
 ∀ v:Nat->Nat->Int,(∀ c,yP s c->∀ p∈chain s s.qA.length (s.qA[c.toNat]!),∀ q,q < zt s->v p.toNat q<=v c.toNat q)->wF s (xC s counts (xA s t counts) j) v<=wF s (xA s t counts) v
 | 0,_=>⟨h0,hd,hq0,fun c _=>rfl,fun v _=>Int.le_refl _⟩
 | j+1,hj=>by
  obtain ⟨i1,i4,i2,i3,i5⟩:=down_falls hs hc h hd h0 hq0 j qf
  have hdd:=(meltDown_dead (counts:=counts) (u:=xA s t counts) h0.1 hd (j+1) hj).1
  by_cases hm:Melts s counts ((xX s:Int) - 1 - j)
  ·rw [meltDown_yes hm rfl] at hdd ⊢
   obtain ⟨i,hi,hp,h2,h3⟩:=hm
   have he:=appl_of hc h hi qf
   have Dm:xX s=s.qA.length:=rfl
   have ha:t.qK[((xX s:Int) - 1 - j).toNat]! =true:=by rw [← h3];exact he.1
   have cm:Xa s (xC s counts (xA s t counts) j) ((xX s:Int) - 1 - j):=⟨hs.1,i1,⟨by omega,by omega⟩,by omega,by rw [i3 _ qf];exact ha⟩
   refine ⟨cm.ok1000 i2,hdd,fun q hq=>?_,fun c sB=>?_,fun v hv=>?_⟩
   ·have ayS:=cm.par
    rw [cm.col hq,if_pos qf,if_pos qf]
    have:=i2 q hq
    omega
   ·rw [cm.alive',if_neg qf]
    exact i3 c qf
   ·exact Int.le_trans (melted_wF cm fun q hq=>hv _ ⟨i,hi,h2,h3⟩ _ (parent_chain hs.1 i1 i4 cm.cell cm.pos) q hq) (i5 v hv)
  ·rw [meltDown_no hm rfl] at hdd ⊢
   exact ⟨i1,i4,i2,fun c sB=>i3 c qf,i5⟩
theorem chg_skin (hs:ve s) (hD:PutsD 2 s) (hi:i < s.qB.length) (hq:0 < zt s):chgF s t i 0 0<=4:=by
 have hr:=hs.rule hi
 obtain ⟨d1,d2,_⟩:=hD i hi 0 hq
 have b0:=(hr.2.2.2.2.1.get (k:=0) (by rw [hr.2.2.2.2.1.len];exact hq)).1
 have hI:∀ j,j<=(s.qB[i]!).xe.length->Xq (s.qB[i]!) 1 j 0 0=0:=by
  intro j
  induction j with
  | zero=>intro _;rfl
  | succ j ih=>
   intro hj
   have hl:=(hr.2.2.2.2.2.2.2.2.2.2 j qf).2.1
   have:=(lies_iff.1 hl).1
   rw [Xq,ih qf,at',if_neg qf];rfl
 rw [chgF,putF,hI _ (Nat.le_refl _)]
 unfold at'
 split <;> split <;> omega
theorem gnF_v2 (hs:ve s) (hw:WtOk s w) (hD:PutsD 2 s) (hi:i < s.qB.length):gnF s t i (v2 w)<=gnF s t i (v1 w)+4:=by
 have hK:=hs.1.1
 have hkn:zt s=s.xK.toNat:=rfl
 have Dm:xX s=s.qA.length:=rfl
 have e:yB (fun p=>yB (fun q=>at' p 0 (at' q 0 4)) (zt s)) (xX s+1)=4:=by
  have e1:yB (fun p=>yB (fun q=>at' p 0 (at' q 0 4)) (zt s)) (xX s+1)=yB (fun p=>at' p 0 4 * 1) (xX s+1):=jI fun p _=>by
   unfold at'
   by_cases h:p=0
   ·have:=sumN_atF 0 4 (fun _=>1) (zt s)
    unfold at' at this
    simp only [if_pos h]
    rw [if_pos qf] at this
    simpa using this
   ·simp only [if_neg h]
    rw [sumN_zero];rfl
  rw [e1,sumN_atF 0 4 (fun _=>1),if_pos qf];rfl
 unfold gnF
 rw [← e,← yY]
 refine sumN_le fun p hp=>?_
 rw [← yY]
 refine sumN_le fun q hq=>?_
 have dX:=hw.row p (by rw [hw.len];omega)
 obtain ⟨⟨h0,_⟩,h1⟩:=dX.2 q (by rw [dX.1];exact hq)
 have hv:v2 w p q=max 1 (v1 w p q):=rfl
 have ut:v1 w p q=(w[p]!)[q]! :=rfl
 by_cases hz:(w[p]!)[q]! =0
 ·obtain ⟨rfl,rfl⟩:=h1 hz
  have:=chg_skin (t:=t) hs hD hi hq
  rw [hv,ut,hz,show max 1 (0:Int)=1 by decide,Int.mul_one,Int.mul_zero]
  unfold at'
  rw [if_pos rfl,if_pos rfl]
  omega
 ·rw [hv,show max 1 (v1 w p q)=v1 w p q by rw [ut];omega]
  have:0<=at' p 0 (at' q 0 4):=by unfold at';split <;> (try split) <;> omega
  omega
theorem base_nonneg (ht:xZ s t) (hp:p<=xX s) (hq:q < zt s):0<=base0 s t p q:=by
 unfold base0
 split
 ·rename_i h
  have lr:=(ht.2.2.2.2 p (by rw [ht.2.1];exact h)).1
  exact (lr.get (k:=q) (by rw [lr.len];exact hq)).1
 ·exact (ht.around.2 q hq).1
theorem v2_pos (w:yLL) (p q:Nat):1<=v2 w p q:=by unfold v2;omega
theorem heavy {f:Nat->Nat->Int} (h:∀ p q,p<=xX s->q < zt s->0<=f p q):∀ p q,p<=xX s->q < zt s->f p q<=f p q * v2 w p q/\f p q * v2 w p q<=yB (fun q=>f p q * v2 w p q) (zt s)/\yB (fun q=>f p q * v2 w p q) (zt s)<=yB (fun p=>yB (fun q=>f p q * v2 w p q) (zt s)) (xX s+1):=fun p q hp hq=>by
 have h1:∀ p q,p<=xX s->q < zt s->0<=f p q * v2 w p q:=fun p q hp hq=>Int.mul_nonneg (h p q hp hq) (by have:=v2_pos w p q;omega)
 have h2:=Int.mul_le_mul_of_nonneg_left (v2_pos w p q) (h p q hp hq)
 rw [Int.mul_one] at h2
 exact ⟨h2,(sumN_ge fun q hq=>h1 p q hp hq).2 q hq,(sumN_ge (n:=xX s+1) fun p hp=>(sumN_ge fun q hq=>h1 p q qf hq).1).2 p qf⟩
theorem fall_step (hs:ve s) (hw:WtOk s w) (hf:Falls s w) (hD:PutsD 2 s) (ht:xZ s t) (hd:Vt s t) (hi:i < s.qB.length) (ha:Appl s t i) (hb:wF s t (v2 w)<=990):
 (oneRes s t (i:Int)).2=0/\xZ s (oneRes s t (i:Int)).1/\Vt s (oneRes s t (i:Int)).1/\weight (oneRes s t (i:Int)).1 w < weight t w/\wF s (oneRes s t (i:Int)).1 (v2 w)<=wF s t (v2 w)+3:=by
 have hn:=hs.1.2.1
 have Dm:xX s=s.qA.length:=rfl
 have hc:=single_cnt (s:=s) hi
 have uS:=(single_isCh hs ht hi).2 ha
 have g1:gnF s t i (v1 w) < 0:=by rw [rule_gain hs ht hi];exact hf.1 i hi _ (out_place hs ht hd hi)
 have g2:=gnF_v2 (t:=t) hs hw hD hi
 have e1:=wF_stepped s t hi (v1 w)
 have e2:=wF_stepped s t hi (v2 w)
 have nn:∀ p q,p<=xX s->q < zt s->0<=XG s t (single s i) p q:=fun p q hp hq=>step_nonneg hs ht hc uS hD hp hq
 have Fj:yB (fun p=>yB (fun q=>XG s t (single s i) p q * v2 w p q) (zt s)) (xX s+1)=wF s (xA s t (single s i)) (v2 w):=by
  unfold wF
  exact jI fun p hp=>jI fun q hq=>by rw [base_stepped qf hq]
 have hv:=heavy (s:=s) (w:=w) nn
 have so:xZ s (xA s t (single s i)):=stepped_ok' hs ht hc uS fun p q hp hq=>by
  obtain ⟨a1,a2,a3⟩:=hv p q hp hq
  have:=nn p q hp hq
  rw [Fj] at a3
  omega
 have Oy:∀ q,q < zt s->colTo (xA s t (single s i)) q (xX s)<=1000:=fun q hq=>by
  rw [colTo_sum]
  have c1:yB (fun p=>((xA s t (single s i)).qQ[p]!)[q]!) (xX s)<=yB (fun p=>yB (fun q=>XG s t (single s i) p q * v2 w p q) (zt s)) (xX s):=sumN_le fun p hp=>by
   rw [stepped_row hp,QC hq]
   obtain ⟨a1,a2,_⟩:=hv p q qf hq
   omega
  have c2:yB (fun p=>yB (fun q=>XG s t (single s i) p q * v2 w p q) (zt s)) (xX s)<=yB (fun p=>yB (fun q=>XG s t (single s i) p q * v2 w p q) (zt s)) (xX s+1):=by
   rw [yB]
   obtain ⟨a1,a2,_⟩:=hv (xX s) q (Nat.le_refl _) hq
   have:=nn (xX s) q (Nat.le_refl _) hq
   omega
  omega
 obtain ⟨f1,f2,_,_,f5⟩:=down_falls hs hc uS hd so Oy (xX s - 1) qf
 have er:oneRes s t (i:Int)=(xC s (single s i) (xA s t (single s i)) (xX s - 1),0):=by
  rw [one_0 ⟨hs,ht⟩ qf,Int.toNat_natCast,XX uS]
  unfold stepRes
  rw [told_yes f1]
 rw [er]
 have m1:∀ c,yP s c->∀ p∈chain s s.qA.length (s.qA[c.toNat]!),∀ q,q < zt s->v1 w p.toNat q<=v1 w c.toNat q:=fun c hm p hp q hq=>by
  obtain ⟨k,hk,h1,h2⟩:=hm
  have sB:=(hs.rule hk).1
  rw [h2] at sB
  have sk:=hf.2 c.toNat (by have:=sB.2;omega) (by rw [show ((c.toNat:Nat):Int)=c by omega];exact ⟨k,hk,h1,h2⟩) p (by rw [show ((c.toNat:Nat):Int)=c by omega];exact hp)
  rw [show (((c.toNat:Nat):Int)).toNat=c.toNat by omega] at sk
  by_cases oT:p.toNat < w.length
  ·exact sk q (by rw [(hw.row _ oT).1];exact hq)
  ·have e0:v1 w p.toNat q=0:=by unfold v1;rw [getElem!_neg w _ oT];rfl
   rw [e0]
   have dX:=hw.row c.toNat (by rw [hw.len];have:=sB.2;omega)
   exact (dX.2 q (by rw [dX.1];exact hq)).1.1
 have m2:∀ c,yP s c->∀ p∈chain s s.qA.length (s.qA[c.toNat]!),∀ q,q < zt s->v2 w p.toNat q<=v2 w c.toNat q:=fun c hm p hp q hq=>by
  have:=m1 c hm p hp q hq
  unfold v1 at this
  unfold v2
  omega
 have w1:=f5 _ m1
 have w2:=f5 _ m2
 refine ⟨rfl,f1,f2,?_,?_⟩
 ·show weight _ w < _
  rw [← wF_weight f1,← wF_weight ht]
  omega
 ·show wF s (xC s (single s i) (xA s t (single s i)) (xX s - 1)) (v2 w)<=_
  omega
theorem weight_bd (hw:WtOk s w) (ht:xZ s t):0<=weight t w/\weight t w<=wF s t (v2 w):=by
 have Dm:xX s=s.qA.length:=rfl
 have hx:∀ p q,p < xX s+1->q < zt s->0<=base0 s t p q * v1 w p q/\base0 s t p q * v1 w p q<=base0 s t p q * v2 w p q:=fun p q hp hq=>by
  have dX:=hw.row p (by rw [hw.len];omega)
  have h0:=(dX.2 q (by rw [dX.1];exact hq)).1.1
  have hb:=base_nonneg ht (p:=p) qf hq
  exact ⟨Int.mul_nonneg hb h0,Int.mul_le_mul_of_nonneg_left (show v1 w p q<=v2 w p q by unfold v1 v2;omega) hb⟩
 rw [← wF_weight ht]
 exact ⟨(sumN_ge fun p hp=>(sumN_ge fun q hq=>(hx p q hp hq).1).1).1,sumN_le fun p hp=>sumN_le fun q hq=>(hx p q hp hq).2⟩
structure FallAt (s:qC) (w:yLL) (W n:Int) (u:qH):Prop where
 st:xZ s u
 dead:Vt s u
 less:weight u w<=W - n
 top:W<=240
 much:wF s u (v2 w)<=240+3 * n
theorem FallAt.le {n:Int} (h:FallAt s w W n u) (hw:WtOk s w):n<=W:=by
 have:=(weight_bd hw h.st).1
 have:=h.less
 omega
theorem FallAt.go {n:Int} (h:FallAt s w W n u) (hs:ve s) (hw:WtOk s w) (hf:Falls s w) (hD:PutsD 2 s) (hk:k < (appls s u).length):
 (oneRes s u ((appls s u)[k]!)).2=0/\FallAt s w W (n+1) (oneRes s u ((appls s u)[k]!)).1/\weight (oneRes s u ((appls s u)[k]!)).1 w < weight u w:=by
 obtain ⟨h0,h1,h2⟩:=appls_single hk
 have IX:=h.le hw
 have hm:=h.much
 have ht:=h.top
 obtain ⟨a1,a2,a3,a4,a5⟩:=fall_step hs hw hf hD h.st h.dead h1 h2 qf
 rw [show ((((appls s u)[k]!).toNat:Nat):Int)=(appls s u)[k]! by omega] at a1 a2 a3 a4 a5
 have hl:=h.less
 exact ⟨a1,⟨a2,a3,by omega,ht,by omega⟩,a4⟩
theorem fallAt_0 {par:yLI} {alive:List Bool} {bags:yLL} {around:yLI} (hs:SysDr kk par rules) (ht:StDr kk par.length 4 alive bags around) (hw:WtDr kk par.length w)
 (hd:Vt ⟨kk,par,rules⟩ ⟨alive,bags,around⟩):FallAt ⟨kk,par,rules⟩ w (weight ⟨alive,bags,around⟩ w) 0 ⟨alive,bags,around⟩:=by
 have hst:=ht.ok hs qf
 have hk:=hs.kinds
 have hc:=hs.cells
 have Dm:xX ⟨kk,par,rules⟩=par.length:=rfl
 have hkn:zt ⟨kk,par,rules⟩=kk.toNat:=rfl
 have hx:wF ⟨kk,par,rules⟩ ⟨alive,bags,around⟩ (v2 w)<=yB (fun _=>yB (fun _=>20) (zt ⟨kk,par,rules⟩)) (xX ⟨kk,par,rules⟩+1):=sumN_le fun p hp=>sumN_le fun q hq=>by
  have dX:=hw.row p (by rw [hw.len];omega)
  have h0:=(dX.2 q (by rw [dX.1];exact hq)).1
  have hb:=base_nonneg hst (p:=p) qf hq
  have hb4:base0 ⟨kk,par,rules⟩ ⟨alive,bags,around⟩ p q<=4:=by
   unfold base0
   by_cases e:p < xX ⟨kk,par,rules⟩
   ·rw [if_pos e]
    have lr:=(ht.bags p (by rw [ht.lb];omega)).1
    exact (lr.2 q (by rw [lr.1];exact hq)).2
   ·rw [if_neg e]
    have:=(ht.around.2 q (by rw [ht.around.1];exact hq)).2
    show around[q]! <=4
    omega
  have hv:v2 w p q<=5:=by unfold v2;omega
  have m1:=Int.mul_le_mul_of_nonneg_left hv hb
  omega
 rw [sumN_const,sumN_const] at hx
 have h3:((zt ⟨kk,par,rules⟩:Nat):Int) * 20<=60:=by omega
 have h5:=Int.mul_le_mul_of_nonneg_left h3 (show 0<=((xX ⟨kk,par,rules⟩+1:Nat):Int) by omega)
 have hwd:=weight_bd (s:=⟨kk,par,rules⟩) hw hst
 exact ⟨hst,hd,by omega,by omega,by omega⟩
theorem putsD_of {par:yLI} (hs:SysDr kk par rules):PutsD 2 ⟨kk,par,rules⟩:=fun i hi q hq=>by
 have Hh :q < kk.toNat:=hq
 have r:=hs.rules i hi
 refine ⟨(r.here.2 q (by rw [r.here.1];exact Hh)).2,(r.out.2 q (by rw [r.out.1];exact Hh)).2,fun j hj=>?_⟩
 have hb:=(r.into j hj).2.2.1
 have:=(hb.2 q (by rw [hb.1];exact Hh)).2
 show ((rules[i]!).xe[j]!).Qa[q]! <=2
 omega
def QR (s:qC) (t:qH) (c i:Nat):Prop:=t.qK[c]! =true\/∃ j,j < i/\(s.qB[j]!).vg=true/\(s.qB[j]!).qI=(c:Int)
theorem sound_0 (s:qC) (t:qH) (c:Nat):t.qK[c]! =dec (QR s t c 0):=by
 cases h:t.qK[c]! with
 | true=>exact (jH (.inl h)).symm
 | false=>exact (xh (fun x=>x.elim (fun e=>by rw [h] at e;cases e) fun ⟨j,hj,_⟩=>by omega)).symm
theorem QR.up {c:Nat}:QR s t c (i+1)<->QR s t c i\/((s.qB[i]!).vg=true/\(s.qB[i]!).qI=(c:Int)):=by
 constructor
 ·rintro (h | ⟨j,hj,h⟩)
  ·exact .inl (.inl h)
  ·by_cases e:j=i
   ·subst e;exact .inr h
   ·exact .inl (.inr ⟨j,by omega,h⟩)
 ·rintro ((h | ⟨j,hj,h⟩) | h)
  ·exact .inl h
  ·exact .inr ⟨j,by omega,h⟩
  ·exact .inr ⟨i,by omega,h⟩
theorem sound_on {c:Nat} (h:dec (QR s t c i)=true):true=dec (QR s t c (i+1)):=(jH (QR.up.2 (.inl (yG h)))).symm
theorem sound_a {c:Nat} (h:dec (QR s t c i)=false) (h1:(s.qB[i]!).vg=false):false=dec (QR s t c (i+1)):=(xh (fun x=>(QR.up.1 x).elim (zM h) fun y=>by rw [h1] at y;cases y.1)).symm
theorem sound_b {c:Nat} (h:dec (QR s t c i)=false) (h1:(s.qB[i]!).vg=true):decide ((s.qB[i]!).qI=(c:Int))=dec (QR s t c (i+1)):=dec_eq ⟨fun e=>QR.up.2 (.inr ⟨h1,of_decide_eq_true e⟩),fun x=>(QR.up.1 x).elim (fun y=>absurd y (zM h)) fun y=>decide_eq_true y.2⟩
theorem dead_of (hn:n=s.qA.length) (h:∀ c,c < n->QR s t c s.qB.length):Vt s t:=fun c hc ha=>(h c qf).elim (fun e=>by rw [ha] at e;cases e) fun ⟨j,hj,h1⟩=>⟨j,hj,h1⟩
theorem dead_no {c:Nat} (hc:c < s.qA.length) (hi:i=s.qB.length) (h:dec (QR s t c i)=false):¬ Vt s t:=fun hd=>by
 subst hi
 refine zM h ?_
 cases ha:t.qK[c]! with
 | true=>exact .inl ha
 | false=>exact .inr (hd c hc ha)
end
section
variable {cb aj xf xG qY qE qN bs os Xb Xe Xc Xd bN Qm : Nat}
theorem XL (w:World) (a:yLI) (b:yLI) {aa:yOA} {ca:Nat} {Fa:yLN} (ha:zP w Fa aa ca a) (hb:zP w Fb ab cb b) (p0:SmallD a b):Calls Tryz.prog 102 #[Sv aa a.length ca,Sv ab b.length cb] w (Ret (fun v w' =>v=yI (VO a b)) w):=by
 refine en func102 ntmps102 ?_
 have H:=((St.start w).arg hb).arg ha
 have WG:=qM ha
 have nhb:=qM hb
 clear ha hb
 have N:=Fresh.nil w.heap.size
 have p1:=p0.1
 refine zcr (sp (yI 0) (zjc (sp (yI 0) (zjcc (sp (yI 0) (zjn (qR (zl ((fun Z0 Z1=>fun m' ρ w1=>∃ (xE:Env) (HW:Int) (i:Nat),ρ=upd (upd (upd (upd xE 0 (Sv aa a.length ca)) 1 (Sv ab b.length cb)) 5 (yI HW)) 6 (yI i)/\HW=(yB (fun k=>a[k]! * b[k]!) i)/\((i:Int)<=a.length)/\m' =(a.length - (i:Int)).toNat/\Fresh w.heap.size []/\St w w1 [] [Z0,Z1]) _ _) ((a.length - (0:Int)).toNat) ⟨_,0,0,uE4,(by rfl),qf,rfl,N,H⟩ ?_))))))))
 clear H N
 rintro m' ρ w2 ⟨xE,HW,i,rfl,rfl,i0,rfl,N,H⟩
 have hs:=dotTo_bd p0 i
 have hv:=p0.2 i
 refine zcc (sp (yI i) (sq 1 (oN rfl (sq 1 (zjn (cD rfl (fun h3=>?_) (fun h3=>?_)))))))
 ·refine qV (t_n (xQ (qR (jE rfl H fun H=>rtl 0 H ?_))))
  refine rtl 1 H ?_
  refine rtp 2 (yI i) H ?_
  obtain ⟨b5,o6,rfl⟩:=H.addr 0 rfl qf
  refine tI 3 rfl rfl rfl H ?_
  refine tL 4 rfl rfl (fun _ h=>h.zA 0 rfl i qf) H ?_
  refine rtl 5 H ?_
  refine rtp 6 (yI i) H ?_
  obtain ⟨b8,o9,rfl⟩:=H.addr 1 rfl qf
  refine tI 7 rfl rfl rfl H ?_
  refine tL 8 rfl rfl (fun _ h=>h.zA 1 rfl i qf) H ?_
  refine rt 9 _ (y_mul (a[i]!) (b[i]!) rfl rfl (by (omega))) H ?_
  refine rt 10 _ (y_add (yB (fun k=>a[k]! * b[k]!) i) ((a[i]!) * (b[i]!)) rfl rfl (by (omega))) H ?_
  refine rtl 11 H ?_
  refine xw qh (b_n (t_n (xJ (sp (yI i) (sw (zn i 1 rfl rfl (by (omega)) (sq 1 (xO (qX (m' :=(a.length - ((i+1):Int)).toNat) qf ⟨_,_,i+1,uE4,?_,?_,rfl,N,H⟩)))))))))
  ·rfl
  ·omega
 refine zx4 (zcr (sq 2 (zjr (rH1 (yI (yB (fun k=>a[k]! * b[k]!) i)) H ?_))))
 obtain rfl:i=a.length:=by omega
 rfl
theorem weigh1_ok (w:World) (x:Int) (y:Int) (p0:0<=x * y/\x * y<=5000):Calls Tryz.prog 149 #[yI x,yI y] w (Ret (fun v w' =>v=yI (x * y)) w):=by
 refine en func149 ntmps149 ?_
 have H:=St.start w
 refine zcr (sp (yI 0) (zjc (sp (yI x) (sp (yI y) (sw (o_mul x y rfl rfl qf (sq 1 (zjr (rH1 (yI (x * y)) H ?_)))))))))
 rfl
theorem weigh_ok (w:World) (b:yLI) (ad:yLI) (hb:zP w Fb ab cb b) (ap:zP w aK ao aj ad) (p0:SmallD b ad):Calls Tryz.prog 96 #[Sv ab b.length cb,Sv ao ad.length aj] w (Ret (fun v w' =>v=yI (VO b ad)) w):=by
 refine en func96 ntmps96 ?_
 have H:=((St.start w).arg ap).arg hb
 have nhb:=qM hb
 clear hb ap
 have p1:=p0.1
 refine zcr (sp (yI 0) (zjc (sq 2 (sw (oc (both_ok _ b ad 149 #[] (fun k=>b[k]! * ad[k]!) (H.get 0 rfl).1 (H.get 1 rfl).1 qg qg call149 (fun k w' hk e=>weigh1_ok w' _ _ (p0.2 k hk))) ?_)))))
 rintro v6 w4 r6 x5
 replace H:=H.zH x5 r6
 obtain ⟨a7,c8,rfl,hc9,awa⟩:=H.jL 0 rfl
 obtain ⟨OL,agQ,ir⟩:=H.yH 0 rfl
 have sm:=p0.small
 refine sw (oq (XC _ (tabTo (fun k=>b[k]! * ad[k]!) b.length) ir (by assumption)) H fun Et H=>sq 1 (zjr (rH1 (yI (QS (tabTo (fun k=>b[k]! * ad[k]!) b.length))) H ?_)))
 rw [dot_sum]
theorem weighState_ok (w:World) (t:qH) (ad:yLL) (zi:zP w zD xg xf t.qK) (zI:zP w vF xI xG t.qQ) (xM:zP w zh qZ qY t.qL) (ap:zP w aK ao aj ad) (Z:WtSt t ad):Calls Tryz.prog 52 #[.agg #[Sv xg t.qK.length xf,Sv xI t.qQ.length xG,Sv qZ t.qL.length qY],Sv ao ad.length aj] w (Ret (fun v w' =>v=yI (weight t ad)) w):=by
 refine en func52 ntmps52 ?_
 have H:=((((St.start w).arg ap).arg xM).arg zI).arg zi
 have y9:=qM zI
 have da:=qM ap
 clear zi zI xM ap
 have N:=Fresh.nil w.heap.size
 have z1:=Z.len
 have z2:=Z.few
 have z3:=Z.around
 refine zcr (sw (zZ H (yT t xg xf xI xG qZ qY) fun b1 w2 H=>sp (yI 0) (zjn (xQ (jE rfl H fun H=>tF 0 rfl rfl H ?_)))))
 refine tL 1 rfl rfl (fun _ h=>h.cell 0 rfl rfl) H ?_
 refine rtl 2 H ?_
 refine tF 3 rfl rfl H ?_
 refine tL 4 rfl rfl (fun _ h=>h.cell 0 rfl rfl) H ?_
 refine tN 5 rfl rfl H ?_
 obtain ⟨b4,o5,rfl⟩:=H.addr 3 rfl qf
 obtain ⟨ae7,ce7,Fe7,H⟩:=H.zW 3 rfl t.qQ.length t.qQ.length qf qf qf
 refine tI 6 rfl rfl rfl (H.pick [0] (zR 2 4)) (ro 7 rfl (x9 (Sv ae7 ((ad[t.qQ.length]!).length) ce7) isAgg24 rfl (H.xP 1 rfl 0 rfl) (⟨H.pick [0] (zR 2 4),(ro 8 rfl (oq (weigh_ok _ t.qL (ad[t.qQ.length]!) (H.get 4 rfl).1 (H.get 0 rfl).1 (by assumption)) H fun w9 H=>⟨H.pick [0] (zR 2 4),(rtl 9 (H.pick [0] (zR 2 4)) ?_)⟩))⟩)))
 refine xw qh (t_n (zcc (oF rfl (oL rfl (H.cell 0 rfl rfl) (oN rfl (sp (yI 0) (zjn (qR (zl ((fun Z0 Z1 Z2 Z3 Z4 Z5 Z6=>fun m' ρ nr=>∃ (xE:Env) (HW:Int) (c:Nat),ρ=upd (upd (upd (upd (upd xE 1 (Sv (aa b4 o5) ad.length aj)) 5 (yI HW)) 18 (Sv xI t.qQ.length xG)) 19 (yI t.qQ.length)) 20 (yI c)/\HW=(wtTo t ad c)/\((c:Int)<=t.qQ.length)/\m' =(t.qQ.length - (c:Int)).toNat/\Fresh w.heap.size []/\St w nr [Z0] [Z1,Z2,Z3,Z4,Z5,Z6]) _ _ _ _ _ _ _) ((t.qQ.length - (0:Int)).toNat) ⟨_,(VO t.qL (ad[t.qQ.length]!)),0,uE5,(by exact wt_0 t ad),qf,rfl,N,H⟩ ?_)))))))))
 clear H N
 rintro m' ρ uE ⟨xE,HW,c,rfl,rfl,i0,rfl,N,H⟩
 have hb:=Z.bd c
 have hd:=fun h=>jU (Z.bags c h)
 have hz:=Z.bags c
 refine zcr (sq 1 (zjn (xQ (cD rfl (fun ir=>?_) (fun ir=>?_)))))
 ·refine qV (t_n (xQ (qR (zcr (sp (yI c) ?_)))))
  obtain ⟨sO,o15,rfl⟩:=H.addr 3 rfl qf
  obtain ⟨asS,asX,ayf,H⟩:=H.zW 3 rfl c c qf qf qf
  refine oI rfl rfl (oL rfl (H.xP 1 rfl 0 rfl) (sp (yI c) (sq 1 (zjn (xJ (sq 3 (sp (yI c) ?_)))))))
  obtain ⟨arO,asQ,arS,H⟩:=H.zW 7 rfl c c qf qf qf
  refine oI rfl rfl (oL rfl (H.xP 1 rfl 0 rfl) (sw (oq (weigh_ok _ (t.qQ[c]!) (ad[c]!) (H.get 2 rfl).1 (H.get 0 rfl).1 (by exact hz qf)) H fun rO H=>sw (zn (wtTo t ad c) (VO (t.qQ[c]!) (ad[c]!)) rfl rfl (by (omega)) (sq 1 (xO (b_n (t_n (xJ (sw (zn c 1 rfl rfl (by (omega)) (sq 1 (xO (qX (m' :=(t.qQ.length - ((c+1):Int)).toNat) qf ⟨_,_,c+1,uE5,?_,?_,rfl,N,H.pick [0] (zR 4 6)⟩))))))))))))))
  ·exact wt_succ t ad c
  ·omega
 refine zx4 (zcr (sq 2 (zjr (rH1 (yI (wtTo t ad c)) H ?_))))
 (rw [weight,show t.qQ.length=c by omega])
theorem areWeights11_ok (w:World) (x:Int):Calls Tryz.prog 100 #[yI x] w (Ret (fun v w' =>v=Bv (!inR x (-1000) 1000)) w):=by
 refine en func100 ntmps100 ?_
 have H:=St.start w
 refine zcr (sp (Bv false) (zjc (sp (yI x) (sw (oq (XZ w x (-1000) 1000) H fun w1 H=>sq 2 (zjr (rH1 (Bv (!(inR x (-1000) 1000))) H ?_)))))))
 rfl
theorem areWeights_ok (w:World) (s:qC) (ad:yLL) (qP:zP w xk qG qE s.qA) (xm:zP w xW qO qN s.qB) (ap:zP w aK ao aj ad) (p0:ve s) (p1:WtOk s ad):Calls Tryz.prog 53 #[.agg #[yI s.xK,Sv qG s.qA.length qE,Sv qO s.qB.length qN],Sv ao ad.length aj] w (Ret (fun v w' =>v=Bv true) w):=by
 refine en func53 ntmps53 ?_
 have H:=(((St.start w).arg ap).arg xm).arg qP
 have zB:=qM qP
 have da:=qM ap
 clear qP xm ap
 have N:=Fresh.nil w.heap.size
 have p2:=p1.len
 have p3:=p0.1.1
 have p4:=p0.1.2.1
 refine zcr (sw (zZ H (yS s qG qE qO qN) fun b1 w2 H=>sp (Bv false) (zjc (sq 1 (oN rfl (oF rfl (oL rfl (H.cell 0 rfl rfl) (oN rfl (sw (zn s.qA.length 1 rfl rfl qf (sp (Bv ((ad.length:Int) == (s.qA.length+1))) (sp (Bv ((ad.length:Int) == (s.qA.length+1))) ?_))))))))))))
 cases h3:((ad.length:Int) == (s.qA.length+1))
 ·replace h3:=ne_of_beq_false h3
  refine xR (zR 13 4) (sp (Bv false) (sp (Bv false) (zjr (rH1 (Bv false) H ?_))))
  exfalso;omega
 replace h3:=eq_of_beq h3
 refine qJ 12 rfl rfl (sq 1 (qJ 12 rfl rfl (sp (.func (.func 98) #[] #[pp b1 0]) (qJ 12 rfl rfl (sw (zQ #[Sv ao ad.length aj,.func (.func 98) #[] #[pp b1 0]] rfl rfl call97 (en func97 ntmps97 ?_)))))))
 refine zcr (sp (Bv false) (zjc (sq 1 (sp (.func (.func 98) #[] #[pp b1 0]) (sw (zQ #[Sv ao ad.length aj,.func (.func 98) #[] #[pp b1 0]] rfl rfl call150 (en func150 ntmps150 ?_)))))))
 refine zcr (sp (yI 0) (zjcc (sq 1 (oN rfl (sp (yI 0) (zjn (qR (zl ((fun Z0 Z1 Z2 Z3=>fun m' ρ w4=>∃ (xE:Env) (i:Nat),ρ=upd (upd (upd (upd xE 0 (Sv ao ad.length aj)) 1 (.func (.func 98) #[] #[pp b1 0])) 7 (yI ad.length)) 8 (yI i)/\((i:Int)<=ad.length)/\m' =(ad.length - (i:Int)).toNat/\Fresh w.heap.size []/\St w w4 [Z0] [Z1,Z2,Z3]) _ _ _ _) ((ad.length - (0:Int)).toNat) ⟨_,0,uE4,qf,rfl,N,H⟩ ?_))))))))
 clear H N
 rintro m' ρ w5 ⟨xE,i,rfl,i0,rfl,N,H⟩
 have MJ:=fun h=>wt_in p1 (c:=i) h
 refine zcr (sq 1 (zjn (xQ (cD rfl (fun h6=>?_) (fun h6=>?_)))))
 ·refine qV (t_n (xQ (qR (zcr (sp (yI i) (sp (yI i) (zjc (sp (.func (.func 98) #[] #[pp b1 0]) (sq 1 (sp (yI i) ?_))))))))))
  obtain ⟨b7,o8,rfl⟩:=H.addr 2 rfl qf
  obtain ⟨PE,O8,ajr,H⟩:=H.zW 2 rfl i i qf qf qf
  refine oI rfl rfl (oL rfl (H.xP 1 rfl 0 rfl) (sw (zQ #[Sv PE ((ad[i]!).length) O8,pp b1 0] rfl rfl call98 (en func98 ntmps98 ?_))))
  refine zcr (sp (Bv false) (zjn (xQ (jE rfl H fun H=>rtl 0 H ?_))))
  refine tF 2 rfl rfl H ?_
  refine tL 3 rfl rfl (fun _ h=>h.cell 0 rfl rfl) H ?_
  refine ro 1 rfl (oq (sizeI_ok _ (ad[i]!) (H.get 0 rfl).1) H fun uE H=>⟨H,(rtp 4 (Bv ((((ad[i]!).length:Int):Int) != s.xK)) H ?_)⟩)
  refine rtp 5 (Bv ((((ad[i]!).length:Int):Int) != s.xK)) H ?_
  cases dO:((((ad[i]!).length:Int):Int) != s.xK)
  ·replace dO:=xx dO
   refine rgl 6 9 H ?_
   refine vK [7] qh qm (VN rfl (e:=9) rfl rfl (oq (containsFuncI_ok _ (ad[i]!) 100 #[] (fun k=> !inR ((ad[i]!)[k]!) (-1000) 1000) (H.get 0 rfl).1 call100 (fun k w' hk e=>areWeights11_ok w' _)) H fun yi H=>⟨H,(rtl 8 H ?_)⟩) vM)
   refine rtl 9 H ?_
   refine xw qh (t_n (c_ret (ret1 (Bv (anyTo (fun k=> !inR ((ad[i]!)[k]!) (-1000) 1000) (ad[i]!).length)) rfl rfl ⟨_,rfl,(zjn (zT _ rfl (fun tY=>?_) (fun tY=>?_)))⟩)))
   ·refine zcr (sp (yI i) (sp (yI i) (zjr (zr5 (ret1 (yI i) rfl rfl ⟨_,rfl,(sw (o_pure (Bv true) (by show some (Value.bool (decide ((i:Int)>=0)))=some (Value.bool true);rw [decide_eq_true qf]) (sp (Bv true) (zjr (ret1 (Bv true) rfl rfl ⟨_,rfl,(qJ 12 rfl rfl (sp (Bv false) (sp (Bv false) (sp (Bv false) (zjr (rH1 (Bv false) H ?_))))))⟩)))))⟩)))))
    exfalso;exact any_wt (MJ qf).2 ql
   refine qV (b_n (t_n (xJ (sw (zn i 1 rfl rfl qf (sq 1 (xO (qX (m' :=(ad.length - ((i+1):Int)).toNat) qf ⟨_,i+1,uE4,?_,rfl,N,H.pick [0] [2,3,4]⟩))))))))
   ·omega
  replace dO:=bne_iff_ne.1 dO
  refine vG [6,7] 2 (H) (rtp 8 (Bv true) H ?_)
  refine rtp 9 (Bv true) H ?_
  refine xw qh (t_n (c_ret (ret1 (Bv true) rfl rfl ⟨_,rfl,(zjn (cTr rfl (zcr (sp (yI i) (sp (yI i) (zjr (zr5 (ret1 (yI i) rfl rfl ⟨_,rfl,(sw (o_pure (Bv true) (by show some (Value.bool (decide ((i:Int)>=0)))=some (Value.bool true);rw [decide_eq_true qf]) (sp (Bv true) (zjr (ret1 (Bv true) rfl rfl ⟨_,rfl,(qJ 12 rfl rfl (sp (Bv false) (sp (Bv false) (sp (Bv false) (zjr (rH1 (Bv false) H ?_))))))⟩)))))⟩))))))))⟩)))
  exfalso;omega
 refine zx4 (zcr (sq 1 (zjr (ret1 (yI (-1)) rfl rfl ⟨_,rfl,(sp (Bv false) (sp (Bv false) (zjr (ret1 (Bv false) rfl rfl ⟨_,rfl,(qJ 12 rfl rfl (sp (Bv true) (sp (Bv true) (sp (Bv true) (zjr (rH1 (Bv true) H ?_))))))⟩))))⟩))))
 rfl
theorem implWeigh_ok (w:World) (s:qC) (t:qH) (ad:yLL) (qP:zP w xk qG qE s.qA) (xm:zP w xW qO qN s.qB) (zi:zP w zD xg xf t.qK) (zI:zP w vF xI xG t.qQ) (xM:zP w zh qZ qY t.qL) (ap:zP w aK ao aj ad) (p0:ve s/\xZ s t) (p1:WtOk s ad):Calls Tryz.prog 11 #[.agg #[yI s.xK,Sv qG s.qA.length qE,Sv qO s.qB.length qN],.agg #[Sv xg t.qK.length xf,Sv xI t.qQ.length xG,Sv qZ t.qL.length qY],Sv ao ad.length aj] w (Ret (fun v w' =>v=.tuple #[yI (weight t ad),yI 0]) w):=by
 refine en func11 ntmps11 ?_
 have H:=((((((St.start w).arg ap).arg xM).arg zI).arg zi).arg xm).arg qP
 clear qP xm zi zI xM ap
 have k1:=p0.1
 have Z:=wtSt p0.1 p1 p0.2
 refine zcr (sw (zZ H (yS s qG qE qO qN) fun b1 w2 H=>sw (zZ H (yT t xg xf xI xG qZ qY) fun b3 w4 H=>sp (yI 0) (sp (yI 0) (zjcc (sw (xU (yS s qG qE qO qN) isAgg27 sizeOf27 rfl (qF (H.cells 1 rfl) 0 3) (sw (xU (yT t xg xf xI xG qZ qY) isAgg31 sizeOf31 rfl (qF (H.cells 0 rfl) 0 3) (sw (oq (validState_ok _ s t (H.get 0 rfl).1 (H.get 1 rfl).1 (H.get 2 rfl).1 (H.get 3 rfl).1 (H.get 4 rfl).1) H fun w6 H=>sq 1 (zjn (zT _ rfl (fun h=>absurd p0 (zM (xB h))) (fun h8=>?_))))))))))))))
 replace h8:=xn h8
 replace h8:=yG h8
 refine qV (t_n (zcc (sw (xU (yS s qG qE qO qN) isAgg27 sizeOf27 rfl (qF (H.cells 1 rfl) 0 3) (sq 1 (sw (oq (areWeights_ok _ s ad (H.get 0 rfl).1 (H.get 1 rfl).1 (H.get 5 rfl).1 qg qg) H fun nq H=>sp (Bv !true) (zjn (zT _ rfl (fun h=>Bool.noConfusion (xB h)) (fun db=>?_))))))))))
 replace db:=xn db
 refine qV (t_n (zcr (sw (xU (yT t xg xf xI xG qZ qY) isAgg31 sizeOf31 rfl (qF (H.cells 0 rfl) 0 3) (sq 1 (sw (oq (weighState_ok _ t ad (H.get 2 rfl).1 (H.get 3 rfl).1 (H.get 4 rfl).1 (H.get 5 rfl).1 qg) H fun Et H=>sq 1 (sp (yI 0) (zjr (ret2 (yI (weight t ad)) (yI 0) rfl rfl rfl ⟨_,rfl,?_,H.base⟩))))))))))
 rfl
theorem l02Weights_ok (w:World) (s:qC) (ad:yLL) (hs:vY w bs os (yS s qG qE qO qN)) (qP:zP w xk qG qE s.qA) (xm:zP w xW qO qN s.qB) (ap:zP w aK ao aj ad) (p0:ve s) (p1:WtOk s ad):Calls Tryz.prog 101 #[pp bs os,Sv ao ad.length aj] w (Ret (fun v w' =>v=Bv true) w):=by
 refine en func101 ntmps101 ?_
 have H:=((((St.start w).arg ap).arg xm).arg qP).Xr hs
 have zB:=qM qP
 have da:=qM ap
 clear hs qP xm ap
 have N:=Fresh.nil w.heap.size
 have p2:=p1.len
 have p3:=p0.1.1
 have p4:=p0.1.2.1
 refine zcr (sp (Bv false) (zjcc (sp (yI 0) (zjn (qR (zl ((fun Z0 Z1 Z2 Z3=>fun m' ρ w1=>∃ (xE:Env) (c:Nat),ρ=upd (upd (upd xE 0 (pp bs os)) 1 (Sv ao ad.length aj)) 5 (yI c)/\((c:Int)<=ad.length)/\m' =(ad.length - (c:Int)).toNat/\Fresh w.heap.size []/\St w w1 [] [Z0,Z1,Z2,Z3]) _ _ _ _) ((ad.length - (0:Int)).toNat) ⟨_,0,uE3,qf,rfl,N,H⟩ ?_))))))
 clear H N
 rintro m' ρ w2 ⟨xE,c,rfl,i0,rfl,N,H⟩
 have MJ:=fun h=>wt_in p1 (c:=c) h
 refine zcc (sp (yI c) (sq 1 (oN rfl (sq 1 (zjn (cD rfl (fun h3=>?_) (fun h3=>?_)))))))
 ·refine qV (t_n (xQ (qR (xQ (xQ (jE rfl H fun H=>rtl 0 H ?_))))))
  refine rtp 1 (yI c) H ?_
  obtain ⟨b5,o6,rfl⟩:=H.addr 3 rfl qf
  obtain ⟨ae8,ce8,Fe8,H⟩:=H.zW 3 rfl c c qf qf qf
  have S:=H.jm [] (zR 2 4)
  refine tI 2 rfl rfl rfl S ?_
  refine rtl 5 S ?_
  refine rtl 6 S ?_
  refine tF 7 rfl rfl S ?_
  refine tL 8 rfl rfl (fun _ h=>h.xP 0 rfl 0 rfl) S ?_
  refine ro 3 rfl (x9 (Sv ae8 ((ad[c]!).length) ce8) isAgg24 rfl (H.xP 1 rfl 0 rfl) (⟨H.pick [] (zR 2 4),?_⟩))
  have S:=H.jm [] (zR 2 4)
  refine tN 4 rfl rfl S ?_
  refine rtl 9 S ?_
  refine xw qh (t_n (zT _ rfl (fun h9=>?_) (fun h9=>?_)))
  ·replace h9:=bne_iff_ne.1 h9
   refine zcr (sp (Bv false) (zjr (t_r (zr5 (rH1 (Bv false) H ?_)))))
   exfalso;omega
  replace h9:=xx h9
  refine qV (t_n (zcr (sp (yI 0) (zjn (qR (zl ((fun Z0 Z1 Z2 Z3 Z4 Z5=>fun m' ρ nq=>∃ (xE:Env) (k:Nat),ρ=upd (upd (upd (upd xE 0 (pp bs os)) 1 (Sv (aa b5 o6) ad.length aj)) 5 (yI c)) 6 (yI k)/\((k:Int)<=((ad[c]!).length))/\m' =(((ad[c]!).length) - (k:Int)).toNat/\Fresh w.heap.size []/\St w nq [] [Z0,Z1,Z2,Z3,Z4,Z5]) _ _ _ _ _ _) ((((ad[c]!).length) - (0:Int)).toNat) ⟨_,0,uE4,qf,rfl,N,H⟩ ?_))))))
  clear H N
  rintro m' ρ nr ⟨xE,k,rfl,i0,rfl,N,H⟩
  have rk:=(MJ qf).2 k
  refine zcc (sp (yI k) (sq 1 (sp (yI c) (oI rfl rfl (oL rfl (H.xP 1 rfl 0 rfl) (oN rfl (sq 1 (zjn (cD rfl (fun db=>?_) (fun db=>?_))))))))))
  ·refine qV (t_n (xQ (qR (zcr (sq 1 (sp (yI c) (oI rfl rfl (oL rfl (H.xP 1 rfl 0 rfl) (sp (yI k) ?_)))))))))
   obtain ⟨Dt,o14,rfl⟩:=H.addr 0 rfl qf
   refine oI rfl rfl (oL rfl (H.zA 0 rfl k qf) (sw (oq (l00In_ok nr ((ad[c]!)[k]!) (-1000) 1000) H fun yb H=>sq 1 (zjn (zT _ rfl (fun dd=>?_) (fun dd=>?_))))))
   ·replace dd:=xB dd
    replace dd:=XD dd
    refine zcr (sp (Bv false) (zjr (b_r (t_r (t_r (b_r (zr5 (rH1 (Bv false) H ?_))))))))
    exfalso;omega
   replace dd:=xn dd
   replace dd:=QV.1 dd
   refine qV (b_n (t_n (xJ (sp (yI k) (sw (zn k 1 rfl rfl qf (sq 1 (xO (qX (m' :=(((ad[c]!).length) - ((k+1):Int)).toNat) qf ⟨_,k+1,uE4,?_,rfl,N,H⟩)))))))))
   ·omega
  refine Qx (t_x (t_x (b_x (b_n (t_n (xJ (sp (yI c) (sw (zn c 1 rfl rfl qf (sq 1 (xO (qX (m' :=(ad.length - ((c+1):Int)).toNat) qf ⟨_,c+1,uE3,?_,rfl,N,H.pick [] (zR 2 4)⟩))))))))))))
  ·omega
 refine zx4 (zcr (sq 1 (oN rfl (sq 2 (oF rfl (oL rfl (H.xP 0 rfl 1 rfl) (oN rfl (sw (zn s.qA.length 1 rfl rfl qf (sq 2 (zjr (rH1 (Bv ((ad.length:Int) == (s.qA.length+1))) H ?_))))))))))))
 (refine congrArg Value.bool ?_;rw [beq_iff_eq];omega)
theorem l04Melts_ok (w:World) (s:qC) (c:Int) (hs:vY w bs os (yS s qG qE qO qN)) (qP:zP w xk qG qE s.qA) (xm:zP w xW qO qN s.qB):Calls Tryz.prog 57 #[pp bs os,yI c] w (Ret (fun v w' =>v=Bv (dec (yP s c))) w):=by
 refine en func57 ntmps57 ?_
 have H:=(((St.start w).arg xm).arg qP).Xr hs
 have vP:=qM xm
 clear hs qP xm
 have N:=Fresh.nil w.heap.size
 refine zcr (sp (Bv false) (zjcc (sp (yI 0) (zjn (qR (zl ((fun Z0 Z1 Z2=>fun m' ρ w1=>∃ (xE:Env) (i:Nat),ρ=upd (upd (upd xE 0 (pp bs os)) 1 (yI c)) 5 (yI i)/\((i:Int)<=s.qB.length)/\(∀ j,j < i->¬ ((s.qB[j]!).vg=true/\(s.qB[j]!).qI=c))/\m' =(s.qB.length - (i:Int)).toNat/\Fresh w.heap.size []/\St w w1 [] [Z0,Z1,Z2]) _ _ _) ((s.qB.length - (0:Int)).toNat) ⟨_,0,uE3,qf,qx,rfl,N,H⟩ ?_))))))
 clear H N
 rintro m' ρ w2 ⟨xE,i,rfl,i0,i1,rfl,N,H⟩
 refine zcc (sp (yI i) (sq 2 (oF rfl (oL rfl (H.xP 0 rfl 2 rfl) (oN rfl (sq 1 (zjn (cD rfl (fun h3=>?_) (fun h3=>?_)))))))))
 ·refine qV (t_n (xQ (qR (zcr (sq 2 (oF rfl (oL rfl (H.xP 0 rfl 2 rfl) (sp (yI i) ?_))))))))
  obtain ⟨b4,o5,rfl⟩:=H.addr 2 rfl qf
  obtain ⟨adH,adA,adW,ad3,ad1,aep,aey,adL,adR,aeb,adF,ad8,afj,afT,alt,aew,ael,adX,H⟩:=H.jZ 2 rfl i i qf qf qf
  refine oI rfl rfl (oF rfl (oL rfl (H.xP 6 rfl 0 rfl) (sp (yI c) (sp (Bv (((s.qB[i]!).qI:Int) == c)) (sp (Bv (((s.qB[i]!).qI:Int) == c)) ?_)))))
  cases h8:(((s.qB[i]!).qI:Int) == c)
  ·replace h8:=ne_of_beq_false h8
   refine xR (zR 26 8) (sp (Bv false) (zjn (cFr rfl (qV (b_n (t_n (xJ (sp (yI i) (sw (zn i 1 rfl rfl qf (sq 1 (xO (qX (m' :=(s.qB.length - ((i+1):Int)).toNat) qf ⟨_,i+1,uE3,?_,?_,rfl,N,H.pick [] [7,8,9]⟩)))))))))))))
   ·omega
   ·exact yZ i1 (fun h=>‹¬ _› h.2)
  replace h8:=eq_of_beq h8
  refine qJ 25 rfl rfl (sq 1 (qJ 25 rfl rfl (sq 1 (qJ 25 rfl rfl (oF rfl (qJ 25 rfl rfl (oL rfl (H.xP 7 rfl 2 rfl) (qJ 25 rfl rfl (sp (yI i) (qJ 25 rfl rfl (oI rfl rfl (qJ 25 rfl rfl (oF rfl (qJ 25 rfl rfl (oL rfl (H.xP 6 rfl 8 rfl) (sq 1 (zjn (zT _ rfl (fun h9=>?_) (fun h9=>?_)))))))))))))))))))
  ·refine zcr (sp (Bv true) (zjr (zr5 (rH1 (Bv true) H ?_))))
   rw [jH (show yP s c from ⟨i,by omega,by assumption,by assumption⟩)]
  refine qV (b_n (t_n (xJ (sp (yI i) (sw (zn i 1 rfl rfl qf (sq 1 (xO (qX (m' :=(s.qB.length - ((i+1):Int)).toNat) qf ⟨_,i+1,uE3,?_,?_,rfl,N,H.pick [] [7,8,9]⟩)))))))))
  ·omega
  ·exact yZ i1 (fun h=>Bool.noConfusion (‹(s.qB[i]!).vg=false›.symm.trans h.1))
 refine zx4 (zcr (sp (Bv false) (zjr (rH1 (Bv false) H ?_))))
 rw [xh (fun h=>by obtain ⟨j,h1,h2⟩:=h;exact i1 j qf h2)]
theorem l00Put_ok (w:World) (l:yLI) (n:Int) {al:yOA} {cl:Nat} {Fl:yLN} (hl:zP w Fl al cl l) (p0:l.length<=1000000):Calls Tryz.prog 103 #[Sv al l.length cl,yI n] w (Ret (fun v w' =>∃ (ra:yOA) (rn:Nat) (rc:Nat),v=Sv ra rn rc/\Fresh w.heap.size []/\St w w' [rr ra rn rc 2 1 ((putL n l).map (Value.int .i64))] []) w):=by
 refine en func103 ntmps103 ?_
 have H:=(St.start w).arg hl
 clear hl
 have N:=Fresh.nil w.heap.size
 refine zcr (sq 1 (zjc (sw (vW H underlying24 ti2 fun b1 w2 H=>sq 1 (zjc (sp (Bv false) (zjcc (sp (yI 0) (zjn (qR ?_))))))))))
 replace H:=H.Xv 0 [] 0
 refine zl ((fun Z0=>fun m' ρ w3=>∃ (xE:Env) (jB:yOA) (vC:Nat) (jw:Nat) (out:yLI) (done:Bool) (i:Nat),ρ=upd (upd (upd (upd (upd xE 0 (Sv al l.length cl)) 1 (yI n)) 5 (Sv jB vC jw)) 6 (Bv done)) 7 (yI i)/\((i:Int)<=l.length)/\(PutTo n l out done i)/\m' =(l.length - (i:Int)).toNat/\Fresh w.heap.size []/\St w w3 [rr jB vC jw 2 1 (out.map (Value.int .i64))] [Z0]) _) ((l.length - (0:Int)).toNat) ⟨_,(aa b1 0),0,0,([]:yLI),false,0,uE5,qf,(by exact PutTo.zero n l),rfl,N,H⟩ ?_
 clear H N
 rintro m' ρ w4 ⟨xE,jB,vC,jw,out,done,i,rfl,i0,i1,rfl,N,H⟩
 have bR:=H.jC 0 rfl
 have ob:=i1.bd
 refine zcc (sp (yI i) (sq 1 (oN rfl (sq 1 (zjn (cD rfl (fun h5=>?_) (fun h5=>?_)))))))
 ·refine qV (t_n (xQ (qR (zcc (sp (Bv done) (sp (Bv !done) (sp (Bv !done) ?_)))))))
  cases h6:(!done)
  ·replace h6:=xn h6
   refine xR (zR 18 6) (sp (Bv false) (zjn (cFr rfl (qV (t_n (xJ (sq 2 (sp (yI i) ?_))))))))
   obtain ⟨b7,o8,rfl⟩:=H.addr 0 rfl qf
   refine oI rfl rfl (oL rfl (H.zA 0 rfl i qf) (sw (zf H underlying24 ti2 [yI (l[i]!)] fun np nr H=>sw (zo H 1 rfl 0 rfl underlying24 ti2 rfl qj rfl rfl rfl qw qp qf fun BY Ch Et H=>?_))))
   rw [snocI] at H
   refine sq 1 (xO (b_n (t_n (xJ (sp (yI i) (sw (zn i 1 rfl rfl qf (sq 1 (xO (qX (m' :=(l.length - ((i+1):Int)).toNat) qf ⟨_,_,_,_,_,_,i+1,uE5,?_,?_,rfl,N,H.pick [1] [0]⟩))))))))))
   ·omega
   ·exact i1.on ql qf
  replace h6:=xB h6
  refine qJ 17 rfl rfl (sq 1 (qJ 17 rfl rfl (sp (yI i) (qJ 17 rfl rfl ?_))))
  obtain ⟨wm,o16,rfl⟩:=H.addr 0 rfl qf
  refine oI rfl rfl (qJ 17 rfl rfl (oL rfl (H.zA 0 rfl i qf) (qJ 17 rfl rfl (sp (yI n) (qJ 17 rfl rfl (sq 2 (zjn (cD rfl (fun dd=>?_) (fun dd=>?_)))))))))
  ·refine zcr (sp (Bv true) (zjc (sq 1 (sp (yI i) (oI rfl rfl (oL rfl (H.zA 0 rfl i qf) (sp (yI n) (sq 1 (zjn (cD rfl (fun zE=>?_) (fun zE=>?_)))))))))))
   ·refine xJ (sq 1 (sp (yI n) (sw (zf H underlying24 ti2 [yI n] fun Rj In H=>sw (zo H 1 rfl 0 rfl underlying24 ti2 rfl qj rfl rfl rfl qw qp qf fun a22 c23 Bo H=>?_)))))
    rw [snocI] at H
    refine sq 1 (zjn (xJ (sq 2 (sp (yI i) (oI rfl rfl (oL rfl (H.zA 0 rfl i qf) (sw (zf H underlying24 ti2 [yI (l[i]!)] fun LI HK H=>sw (zo H 2 rfl 0 rfl underlying24 ti2 rfl qj rfl rfl rfl qw qp qf fun a27 c28 Dk H=>?_)))))))))
    rw [snocI] at H
    refine sq 1 (xO (b_n (t_n (xJ (sp (yI i) (sw (zn i 1 rfl rfl qf (sq 1 (xO (qX (m' :=(l.length - ((i+1):Int)).toNat) qf ⟨_,_,_,_,_,_,i+1,uE5,?_,?_,rfl,N,H.pick [2] [0]⟩))))))))))
    ·omega
    ·exact i1.more ql qf ql
   refine qV (t_n (xJ (sq 2 (sp (yI i) (oI rfl rfl (oL rfl (H.zA 0 rfl i qf) (sw (zf H underlying24 ti2 [yI (l[i]!)] fun Lh Mi H=>sw (zo H 1 rfl 0 rfl underlying24 ti2 rfl qj rfl rfl rfl qw qp qf fun RT PP Dg H=>?_)))))))))
   rw [snocI] at H
   refine sq 1 (xO (b_n (t_n (xJ (sp (yI i) (sw (zn i 1 rfl rfl qf (sq 1 (xO (qX (m' :=(l.length - ((i+1):Int)).toNat) qf ⟨_,_,_,_,_,_,i+1,uE5,?_,?_,rfl,N,H.pick [1] [0]⟩))))))))))
   ·omega
   ·exact i1.same ql qf ql ql
  refine qV (t_n (xJ (sq 2 (sp (yI i) (oI rfl rfl (oL rfl (H.zA 0 rfl i qf) (sw (zf H underlying24 ti2 [yI (l[i]!)] fun Hr Ks H=>sw (zo H 1 rfl 0 rfl underlying24 ti2 rfl qj rfl rfl rfl qw qp qf fun T2 TB E4 H=>?_)))))))))
  rw [snocI] at H
  refine sq 1 (xO (b_n (t_n (xJ (sp (yI i) (sw (zn i 1 rfl rfl qf (sq 1 (xO (qX (m' :=(l.length - ((i+1):Int)).toNat) qf ⟨_,_,_,_,_,_,i+1,uE5,?_,?_,rfl,N,H.pick [1] [0]⟩))))))))))
  ·omega
  ·exact i1.less ql qf ql
 refine zx4 (zcc (sp (Bv done) (sp (Bv !done) (zjn (zT _ rfl (fun tk=>?_) (fun tk=>?_))))))
 ·replace tk:=xB tk
  refine xJ (sq 1 (sp (yI n) (sw (zf H underlying24 ti2 [yI n] fun Bd wR H=>sw (zo H 1 rfl 0 rfl underlying24 ti2 rfl qj rfl rfl rfl qw qp qf fun Sh Yf Ou H=>?_)))))
  rw [snocI] at H
  refine sq 1 (zjc (sq 2 (zjr (rH1 (Sv Sh (vC+1) Yf) H ?_))))
  rw [← i1.no ql qf]
  exact ⟨Sh,vC+1,Yf,rfl,N,H.pick [1] []⟩
 replace tk:=xn tk
 refine qV (t_n (zcr (sq 2 (zjr (rH1 (Sv jB vC jw) H ?_)))))
 rw [← i1.yes ql qf]
 exact ⟨jB,vC,jw,rfl,N,H.pick [0] []⟩
theorem l04Parents_ok (w:World) (s:qC) (c:Int) (hs:vY w bs os (yS s qG qE qO qN)) (qP:zP w xk qG qE s.qA) (xm:zP w xW qO qN s.qB) (p0:jk s) (p1:QU s c):Calls Tryz.prog 56 #[pp bs os,yI c] w (Ret (fun v w' =>∃ (ra:yOA) (rn:Nat) (rc:Nat),v=Sv ra rn rc/\Fresh w.heap.size []/\St w w' [rr ra rn rc 2 1 ((VD s c).map (Value.int .i64))] []) w):=by
 refine en func56 ntmps56 ?_
 have H:=(((St.start w).arg xm).arg qP).Xr hs
 have zB:=qM qP
 clear hs qP xm
 have N:=Fresh.nil w.heap.size
 have p3:=p0.step p1.1 p1.2
 have p4:=p0.2.1
 have p5:=p1.1
 have p6:=p1.2
 have p7:=fun h=>p0.up (c:=c) h p6
 have p8:=putL_len (s.qA[c.toNat]!) []
 rw [List.length_nil] at p8
 refine zcr (sq 1 (zjc (sw (vW H underlying24 ti2 fun b1 w2 H=>sq 1 (zjcc (sp (yI c) (sp (Bv ((c:Int) == 0)) (zjn (cE rfl (fun h3=>?_) (fun h3=>?_))))))))))
 ·refine zcr (sq 2 (zjr (t_r ?_)))
  replace H:=H.Xv 0 [] 0
  refine rH1 (Sv (aa b1 0) 0 0) H ?_
  rw [parS_z ql]
  exact ⟨(aa b1 0),0,0,rfl,N,H.pick [0] []⟩
 refine qV (t_n (zcr (sq 2 (oF rfl (oL rfl (H.xP 0 rfl 1 rfl) (sp (yI c) ?_))))))
 obtain ⟨b4,o5,rfl⟩:=H.addr 1 rfl qf
 refine oI rfl rfl (oL rfl (H.elemInt 1 rfl c qf qf) (sq 1 (zjc (sq 2 ?_))))
 replace H:=H.Xv 0 [] 0
 obtain ⟨G7,hn8,h9⟩:=H.yH 0 rfl
 refine sw (oc (VG (by rw [← hn8]) (l00Put_ok _ ([]:yLI) (s.qA[c.toNat]!) (hn8▸h9) qg)) ?_)
 rintro _ nr ⟨ahA,azp,C3,rfl,M,K⟩ _
 replace H:=H.merge K M
 obtain rfl:=H.jC 0 rfl
 refine sq 1 (zjn (xQ (qR (zl ((fun Z0 Z1 Z2 Z3=>fun m' ρ yb=>∃ (xE:Env) (jB:yOA) (vC:Nat) (jw:Nat) (out:yLI) (p:Int) (n:Nat),ρ=upd (upd (upd xE 0 (pp bs os)) 5 (Sv jB vC jw)) 6 (yI p)/\(0<=p/\p<=(s.qA.length:Int) - 1)/\(p < n)/\((out.length:Int)+p<=(s.qA.length:Int))/\(VD s c=parGo s n p out)/\m' =(p+1).toNat/\Fresh w.heap.size []/\St w yb [rr jB vC jw 2 1 (out.map (Value.int .i64)),Z0] [Z1,Z2,Z3]) _ _ _ _) (((s.qA[c.toNat]!)+1).toNat) ⟨_,ahA,(putL (s.qA[c.toNat]!) ([]:yLI)).length,C3,putL (s.qA[c.toNat]!) ([]:yLI),s.qA[c.toNat]!,s.qA.length,uE3,(by have:=p7 qf;omega),(by have:=p7 qf;omega),(by have:=p7 qf;omega),(by exact parS_1 qf),rfl,N,H⟩ ?_))))
 clear H N
 rintro m' ρ HF ⟨xE,jB,vC,jw,out,p,n,rfl,i0,i1,i2,i3,rfl,N,H⟩
 have bR:=H.jC 0 rfl
 have up:=fun h=>p0.up (c:=p) h i0.2
 refine zcc (sp (yI p) (sp (Bv (decide ((p:Int) > 0))) (sp (Bv (decide ((p:Int) > 0))) ?_)))
 cases dd:(decide ((p:Int) > 0))
 ·replace dd:=of_decide_eq_false dd
  refine xR [24,25,26] (sp (Bv false) (zjn (cFr rfl (zx4 (zcr (sq 2 (zjr (rH1 (Sv jB vC jw) H ?_))))))))
  rw [i3,parGo_end (fun h=>by omega)]
  exact ⟨jB,vC,jw,rfl,N,H.pick [0] []⟩
 replace dd:=of_decide_eq_true dd
 refine qJ 23 rfl rfl (sq 1 (qJ 23 rfl rfl (sp (yI p) (qJ 23 rfl rfl (sw (oq (l04Melts_ok _ s p (qF (H.get 0 rfl) 0 3) (H.get 1 rfl).1 (H.get 2 rfl).1) H fun rO H=>sq 1 (zjn (cP rfl (fun Rn=>?_) (fun Rn=>?_)))))))))
 ·refine qV (t_n (qR (zcr (sq 2 (oF rfl (oL rfl (H.xP 0 rfl 1 rfl) (sp (yI p) (oI rfl rfl (oL rfl (H.elemInt 1 rfl p qf qf) (sq 1 (zjn (xJ (sq 2 ?_)))))))))))))
  obtain ⟨G23,aal,Cc⟩:=H.yH 0 rfl
  refine sw (oc (VG (by rw [← aal]) (l00Put_ok _ out (s.qA[p.toNat]!) (aal▸Cc) qg)) ?_)
  rintro _ Ge ⟨li,ajX,ajJ,rfl,M,K⟩ _
  replace H:=H.merge K M
  obtain rfl:=H.jC 0 rfl
  refine sq 1 (xO (b_n ?_))
  have YY:=up qf
  refine qX (m' :=((s.qA[p.toNat]!)+1).toNat) qf ⟨_,_,_,_,_,_,n - 1,uE3,?_,?_,?_,?_,rfl,N,H.pick [0,2] [0,1,2]⟩
  ·omega
  ·omega
  ·have:=putL_len (s.qA[p.toNat]!) out;omega
  ·exact i3.trans (parGo_go qf qf ql)
 refine zx4 (zcr (sq 2 (zjr (rH1 (Sv jB vC jw) H ?_))))
 rw [i3,parGo_end (fun h=>by exact absurd h.2 ql)]
 exact ⟨jB,vC,jw,rfl,N,H.pick [0] []⟩
theorem l04Gains_ok (w:World) (s:qC) (r:vS) (ad:yLL) {br or:Nat} (hs:vY w bs os (yS s qG qE qO qN)) (qP:zP w xk qG qE s.qA) (xm:zP w xW qO qN s.qB) (hr:vY w br or [yI r.qI,yI r.jG,Sv Xf r.zk.length Xb,Sv Xi r.vk.length Xe,Sv Xg r.vw.length Xc,Sv Xh r.zS.length Xd,Sv bP r.jX.length bN,Sv Qy r.xe.length Qm,Bv r.vg]) (XM:zP w e8 Xf Xb r.zk) (XQ:zP w eA Xi Xe r.vk) (XN:zP w eL Xg Xc r.vw) (XP:zP w eG Xh Xd r.zS) (dJ:zP w j6 bP bN r.jX) (XO:zP w eW Qy Qm r.xe) (ap:zP w aK ao aj ad) (p0:ve s) (p1:RuleOk s r) (p2:WtOk s ad):Calls Tryz.prog 55 #[pp bs os,pp br or,Sv ao ad.length aj] w (Ret (fun v w' =>∃ (ra:yOA) (rn:Nat) (rc:Nat),v=Sv ra rn rc/\Fresh w.heap.size []/\St w w' [rr ra rn rc 2 1 ((jy r ad (jM s r.qI)).map (Value.int .i64))] []) w):=by
 refine en func55 ntmps55 ?_
 have H:=(((((((((((St.start w).arg ap).arg XO).arg dJ).arg XP).arg XN).arg XQ).arg XM).Xr hr).arg xm).arg qP).Xr hs
 have zB:=qM qP
 have mz:=qM XO
 have da:=qM ap
 clear hs qP xm hr XM XQ XN XP dJ XO ap
 have N:=Fresh.nil w.heap.size
 have G:=gainAt p0 p2 p1
 have g0:=G.cell
 have g1:=G.few
 have g2:=G.here
 have g3:=G.need
 have g4:=jU g2
 have g5:=jU g3
 have p3:=p2.len
 have p4:=p0.1.2.1
 have g6:QU s r.qI:=p1.1
 have p5:=p0.1
 refine zcr (sq 1 (zjn (xQ ?_)))
 obtain ⟨b1,o2,rfl⟩:=H.addr 10 rfl qf
 refine VP (fun ρ w7=>∃ (xE:Env) (F4:yLN) (a5:yOA) (c6:Nat),ρ=upd (upd (upd (upd xE 0 (pp bs os)) 1 (pp br or)) 2 (Sv (aa b1 o2) ad.length aj)) 7 (yI ((VO r.zS (ad[r.qI.toNat]!)) - (VO r.zk (ad[r.qI.toNat]!))))/\Fresh w.heap.size []/\St w w7 [] [sF false F4 a5 c6 (ad[r.qI.toNat]!),atF b1 (o2+(r.qI:Int).toNat * 1) [Sv a5 ((ad[r.qI.toNat]!).length) c6],atF bs os (yS s qG qE qO qN),sF false xk qG qE s.qA,sF false xW qO qN s.qB,atF br or [yI r.qI,yI r.jG,Sv Xf r.zk.length Xb,Sv Xi r.vk.length Xe,Sv Xg r.vw.length Xc,Sv Xh r.zS.length Xd,Sv bP r.jX.length bN,Sv Qy r.xe.length Qm,Bv r.vg],sF false e8 Xf Xb r.zk,sF false eA Xi Xe r.vk,sF false eL Xg Xc r.vw,sF false eG Xh Xd r.zS,sF false j6 bP bN r.jX,sF false eW Qy Qm r.xe,sF false aK (aa b1 o2) aj ad]) ?_ ?_
 ·refine jE rfl H fun H=>rtl 0 H ?_
  refine rtl 1 H ?_
  refine tF 2 rfl rfl H ?_
  refine tL 3 rfl rfl (fun _ h=>h.xP 3 rfl 5 rfl) H ?_
  refine rtl 4 H ?_
  refine rtl 5 H ?_
  refine rtl 6 H ?_
  refine tF 7 rfl rfl H ?_
  refine tL 8 rfl rfl (fun _ h=>h.xP 3 rfl 0 rfl) H ?_
  obtain ⟨Bs,At,O9,H⟩:=H.zW 10 rfl r.qI r.qI.toNat qf qf qf
  have S:=H.jm [] (zR 2 11)
  refine tI 9 rfl rfl rfl S ?_
  refine rtl 12 S ?_
  refine rtl 13 S ?_
  refine tF 14 rfl rfl S ?_
  refine tL 15 rfl rfl (fun _ h=>h.xP 3 rfl 2 rfl) S ?_
  refine rtl 16 S ?_
  refine rtl 17 S ?_
  refine rtl 18 S ?_
  refine tF 19 rfl rfl S ?_
  refine tL 20 rfl rfl (fun _ h=>h.xP 3 rfl 0 rfl) S ?_
  refine tI 21 rfl rfl rfl S ?_
  refine vK [10,22] qh qm (jb rfl ?_ (jb rfl ?_ vM))
  ·refine x9 (Sv Bs ((ad[r.qI.toNat]!).length) At) isAgg24 rfl (H.xP 1 rfl 0 rfl) (⟨H.pick [] (zR 2 11),(vK [11,22] qh qm (jb rfl ?_ (jb rfl ?_ vM)))⟩)
   ·refine oq (XL _ r.zS (ad[r.qI.toNat]!) (H.get 9 rfl).1 (H.get 0 rfl).1 (by assumption)) H fun nr H=>⟨H.pick [] (zR 2 11),(ro 22 rfl (x9 (Sv Bs ((ad[r.qI.toNat]!).length) At) isAgg24 rfl (H.xP 1 rfl 0 rfl) (⟨H.pick [] (zR 2 11),(ro 23 rfl (oq (XL _ r.zk (ad[r.qI.toNat]!) (H.get 6 rfl).1 (H.get 0 rfl).1 (by assumption)) H fun Et H=>⟨H.pick [] (zR 2 11),?_⟩))⟩)))⟩
    have S:=H.jm [] (zR 2 11)
    refine rt 24 _ (y_sub (VO r.zS (ad[r.qI.toNat]!)) (VO r.zk (ad[r.qI.toNat]!)) rfl rfl (by (omega))) S ?_
    refine rtl 25 S ?_
    refine xw qh ((meet ⟨_,O9,Bs,At,uE4,N,H⟩))
   refine x9 (Sv Bs ((ad[r.qI.toNat]!).length) At) isAgg24 rfl (H.xP 1 rfl 0 rfl) (⟨H.pick [] (zR 2 11),(ro 11 rfl (oq (XL _ r.zS (ad[r.qI.toNat]!) (H.get 9 rfl).1 (H.get 0 rfl).1 (by assumption)) H fun HF H=>⟨H.pick [] (zR 2 11),(ro 23 rfl (oq (XL _ r.zk (ad[r.qI.toNat]!) (H.get 6 rfl).1 (H.get 0 rfl).1 (by assumption)) H fun rO H=>⟨H.pick [] (zR 2 11),?_⟩))⟩))⟩)
   have S:=H.jm [] (zR 2 11)
   refine rt 24 _ (y_sub (VO r.zS (ad[r.qI.toNat]!)) (VO r.zk (ad[r.qI.toNat]!)) rfl rfl (by (omega))) S ?_
   refine rtl 25 S ?_
   refine xw qh ((meet ⟨_,O9,Bs,At,uE4,N,H⟩))
  refine x9 (Sv Bs ((ad[r.qI.toNat]!).length) At) isAgg24 rfl (H.xP 1 rfl 0 rfl) (⟨H.pick [] (zR 2 11),(ro 10 rfl (x9 (Sv Bs ((ad[r.qI.toNat]!).length) At) isAgg24 rfl (H.xP 1 rfl 0 rfl) (⟨H.pick [] (zR 2 11),(ro 11 rfl (oq (XL _ r.zS (ad[r.qI.toNat]!) (H.get 9 rfl).1 (H.get 0 rfl).1 (by assumption)) H fun wT H=>⟨H.pick [] (zR 2 11),(ro 23 rfl ?_)⟩))⟩)))⟩)
  refine oq (XL _ r.zk (ad[r.qI.toNat]!) (H.get 6 rfl).1 (H.get 0 rfl).1 (by assumption)) H fun HK H=>⟨H.pick [] (zR 2 11),?_⟩
  have S:=H.jm [] (zR 2 11)
  refine rt 24 _ (y_sub (VO r.zS (ad[r.qI.toNat]!)) (VO r.zk (ad[r.qI.toNat]!)) rfl rfl (by (omega))) S ?_
  refine rtl 25 S ?_
  refine xw qh ((meet ⟨_,O9,Bs,At,uE4,N,H⟩))
 clear H N
 rintro ρ FG ⟨xE,F4,a5,c6,rfl,N,H⟩
 refine t_n (zcc (sp (yI 0) (zjn (qR (zl ((fun Z0 Z1 Z2 Z3 Z4 Z5 Z6 Z7 Z8 Z9 bx bG dy=>fun m' ρ Dk=>∃ (xE:Env) (GZ:Int) (k:Nat),ρ=upd (upd (upd (upd (upd xE 0 (pp bs os)) 1 (pp br or)) 2 (Sv (aa b1 o2) ad.length aj)) 7 (yI GZ)) 8 (yI k)/\GZ=(ownTo r ad k)/\((k:Int)<=r.xe.length)/\m' =(r.xe.length - (k:Int)).toNat/\Fresh w.heap.size []/\St w Dk [] [Z0,Z1,Z2,Z3,Z4,Z5,Z6,Z7,Z8,Z9,bx,bG,dy]) _ _ _ _ _ _ _ _ _ _ _ _ _) ((r.xe.length - (0:Int)).toNat) ⟨_,(VO r.zS (ad[r.qI.toNat]!)) - (VO r.zk (ad[r.qI.toNat]!)),0,uE5,(by exact ownTo_0 r ad),qf,rfl,N,H⟩ ?_)))))
 clear H N
 rintro m' ρ AP ⟨xE,GZ,k,rfl,rfl,i0,rfl,N,H⟩
 have gb:=G.bd k
 have gi:=G.into k
 refine zcc (sp (yI k) (sq 2 (oF rfl (oL rfl (H.xP 5 rfl 7 rfl) (oN rfl (sq 1 (zjn (cD rfl (fun h31=>?_) (fun h31=>?_)))))))))
 ·refine qV (t_n (xQ (qR ?_)))
  obtain ⟨b32,o33,rfl⟩:=H.addr 11 rfl qf
  refine VP (fun ρ Mx=>∃ (xE:Env) (F35:yLN) (Te:yOA) (c37:Nat) (F38:yLN) (a39:yOA) (P3:Nat),ρ=upd (upd (upd (upd (upd xE 0 (pp bs os)) 1 (pp br or)) 2 (Sv (aa b1 o2) ad.length aj)) 7 (yI ((ownTo r ad k)+(VO ((r.xe[k]!).Qa) (ad[((r.xe[k]!).qI).toNat]!))))) 8 (yI k)/\Fresh w.heap.size []/\St w Mx [] [sF false F35 Te c37 (ad[((r.xe[k]!).qI).toNat]!),atF b1 (o2+((r.xe[k]!).qI:Int).toNat * 1) [Sv Te ((ad[((r.xe[k]!).qI).toNat]!).length) c37],sF false F38 a39 P3 ((r.xe[k]!).Qa),atF b32 (o33+(k:Int).toNat * 2) [yI ((r.xe[k]!).qI),Sv a39 (((r.xe[k]!).Qa).length) P3],sF false F4 a5 c6 (ad[r.qI.toNat]!),atF b1 (o2+(r.qI:Int).toNat * 1) [Sv a5 ((ad[r.qI.toNat]!).length) c6],atF bs os (yS s qG qE qO qN),sF false xk qG qE s.qA,sF false xW qO qN s.qB,atF br or [yI r.qI,yI r.jG,Sv Xf r.zk.length Xb,Sv Xi r.vk.length Xe,Sv Xg r.vw.length Xc,Sv Xh r.zS.length Xd,Sv bP r.jX.length bN,Sv (aa b32 o33) r.xe.length Qm,Bv r.vg],sF false e8 Xf Xb r.zk,sF false eA Xi Xe r.vk,sF false eL Xg Xc r.vw,sF false eG Xh Xd r.zS,sF false j6 bP bN r.jX,sF false eW (aa b32 o33) Qm r.xe,sF false aK (aa b1 o2) aj ad]) ?_ ?_
  ·refine jE rfl H fun H=>rtl 0 H ?_
   refine rtl 1 H ?_
   refine rtl 2 H ?_
   refine tF 3 rfl rfl H ?_
   refine tL 4 rfl rfl (fun _ h=>h.xP 5 rfl 7 rfl) H ?_
   refine rtp 5 (yI k) H ?_
   obtain ⟨kh,kq,un,H⟩:=H.yJ 11 rfl k k qf qf qf
   have S:=H.jm [] (zR 2 13)
   refine tI 6 rfl rfl rfl S ?_
   refine tF 7 rfl rfl S ?_
   refine rtl 9 S ?_
   refine rtl 10 S ?_
   refine rtl 11 S ?_
   refine tF 12 rfl rfl S ?_
   refine tL 13 rfl rfl (fun _ h=>h.xP 5 rfl 7 rfl) S ?_
   refine rtp 14 (yI k) S ?_
   refine tI 15 rfl rfl rfl S ?_
   refine tF 16 rfl rfl S ?_
   refine vK [8,17] qh qm (jb rfl ?_ (jb rfl ?_ vM))
   ·refine x9 (Sv kh (((r.xe[k]!).Qa).length) kq) isAgg24 rfl (H.xP 1 rfl 1 rfl) (⟨H.pick [] (zR 2 13),(ro 17 rfl (x9 (yI ((r.xe[k]!).qI)) isAgg2 rfl (H.xP 1 rfl 0 rfl) (⟨H.pick [] (zR 2 13),?_⟩)))⟩)
    obtain ⟨Jj,Ie,acL,H⟩:=H.zW 14 rfl ((r.xe[k]!).qI) (((r.xe[k]!).qI).toNat) qf qf qf
    refine tI 18 rfl rfl rfl (H.pick [] (zR 4 13)) (ro 19 rfl (x9 (Sv Jj ((ad[((r.xe[k]!).qI).toNat]!).length) Ie) isAgg24 rfl (H.xP 1 rfl 0 rfl) (⟨H.pick [] (zR 4 13),(ro 20 rfl (oq (XL _ ((r.xe[k]!).Qa) (ad[((r.xe[k]!).qI).toNat]!) (H.get 2 rfl).1 (H.get 0 rfl).1 (by exact (gi qf).2)) H fun C1 H=>⟨H.pick [] (zR 4 13),?_⟩))⟩)))
    have S:=H.jm [] (zR 4 13)
    refine rt 21 _ (y_add (ownTo r ad k) (VO ((r.xe[k]!).Qa) (ad[((r.xe[k]!).qI).toNat]!)) rfl rfl (by ((have h8:=gb qf;have h9:=jU (gi qf).2;omega)))) S ?_
    refine rtl 22 S ?_
    refine xw qh ((meet ⟨_,acL,Jj,Ie,un,kh,kq,uE5,N,H⟩))
   refine x9 (yI ((r.xe[k]!).qI)) isAgg2 rfl (H.xP 1 rfl 0 rfl) (⟨H.pick [] (zR 2 13),?_⟩)
   obtain ⟨I1,IY,WC,H⟩:=H.zW 14 rfl ((r.xe[k]!).qI) (((r.xe[k]!).qI).toNat) qf qf qf
   refine tI 18 rfl rfl rfl (H.pick [] (zR 4 13)) (vK [8,19] qh qm (jb rfl ?_ (jb rfl ?_ vM)))
   ·refine x9 (Sv kh (((r.xe[k]!).Qa).length) kq) isAgg24 rfl (H.xP 3 rfl 1 rfl) (⟨H.pick [] (zR 4 13),(ro 19 rfl (x9 (Sv I1 ((ad[((r.xe[k]!).qI).toNat]!).length) IY) isAgg24 rfl (H.xP 1 rfl 0 rfl) (⟨H.pick [] (zR 4 13),(ro 20 rfl (oq (XL _ ((r.xe[k]!).Qa) (ad[((r.xe[k]!).qI).toNat]!) (H.get 2 rfl).1 (H.get 0 rfl).1 (by exact (gi qf).2)) H fun HC H=>⟨H.pick [] (zR 4 13),?_⟩))⟩)))⟩)
    have S:=H.jm [] (zR 4 13)
    refine rt 21 _ (y_add (ownTo r ad k) (VO ((r.xe[k]!).Qa) (ad[((r.xe[k]!).qI).toNat]!)) rfl rfl (by ((have h8:=gb qf;have h9:=jU (gi qf).2;omega)))) S ?_
    refine rtl 22 S ?_
    refine xw qh ((meet ⟨_,WC,I1,IY,un,kh,kq,uE5,N,H⟩))
   refine x9 (Sv I1 ((ad[((r.xe[k]!).qI).toNat]!).length) IY) isAgg24 rfl (H.xP 1 rfl 0 rfl) (⟨H.pick [] (zR 4 13),(ro 8 rfl (x9 (Sv kh (((r.xe[k]!).Qa).length) kq) isAgg24 rfl (H.xP 3 rfl 1 rfl) (⟨H.pick [] (zR 4 13),(ro 20 rfl (oq (XL _ ((r.xe[k]!).Qa) (ad[((r.xe[k]!).qI).toNat]!) (H.get 2 rfl).1 (H.get 0 rfl).1 (by exact (gi qf).2)) H fun Hi H=>⟨H.pick [] (zR 4 13),?_⟩))⟩)))⟩)
   have S:=H.jm [] (zR 4 13)
   refine rt 21 _ (y_add (ownTo r ad k) (VO ((r.xe[k]!).Qa) (ad[((r.xe[k]!).qI).toNat]!)) rfl rfl (by ((have h8:=gb qf;have h9:=jU (gi qf).2;omega)))) S ?_
   refine rtl 22 S ?_
   refine xw qh ((meet ⟨_,WC,I1,IY,un,kh,kq,uE5,N,H⟩))
  clear H N
  rintro ρ Hz ⟨xE,F35,Te,c37,F38,a39,P3,rfl,N,H⟩
  refine b_n (t_n (xJ (sp (yI k) (sw (zn k 1 rfl rfl (by (omega)) (sq 1 (xO (qX (m' :=(r.xe.length - ((k+1):Int)).toNat) qf ⟨_,_,k+1,uE5,?_,?_,rfl,N,H.pick [] (zR 4 13)⟩))))))))
  ·exact ownTo_succ r ad k
  ·omega
 refine zx4 (zcr (sq 3 (oF rfl (oL rfl (H.xP 5 rfl 0 rfl) (sw (oc (l04Parents_ok _ s r.qI (qF (H.get 2 rfl) 0 3) (H.get 3 rfl).1 (H.get 4 rfl).1 qg qg) ?_))))))
 rintro _ PZ ⟨alG,azb,ahC,rfl,M,K⟩ _
 replace H:=H.merge K M
 obtain rfl:=H.jC 0 rfl
 refine sq 1 (zjcc (sq 2 (oF rfl (oL rfl (H.xP 5 rfl 0 rfl) (sp (Bv ((r.qI:Int) == 0)) (zjn (cE rfl (fun wD=>?_) (fun wD=>?_))))))))
 ·refine xJ (sq 2 (oF rfl (oL rfl (H.xP 2 rfl 1 rfl) (oN rfl (sw (zf H underlying24 ti2 [yI s.qA.length] fun JO RU H=>sq 1 (zjc (sw (vW H underlying24 ti2 fun AE E1 H=>sq 1 (zjcc (sp (yI 0) (zjn (qR ?_)))))))))))))
  replace H:=H.Xv 1 [s.qA.length] 1
  obtain ⟨G67,N,afn,H⟩:=H.zN 1 rfl N (H.jA [])
  have pe:=placeS_0 (s:=s) (c:=r.qI) ql
  rw [← pe] at H
  have pl:=congrArg List.length pe
  simp only [List.length_cons,List.length_nil] at pl
  have pa:=fun k h=>placeS_at p5 g6 (k:=k) h
  replace H:=H.Xv 0 [] 0
  refine zl ((fun Z0 Z1 Z2 Z3 Z4 Z5 Z6 Z7 Z8 Z9 bx bG=>fun m' ρ HD=>∃ (xE:Env) (jB:yOA) (vC:Nat) (jw:Nat) (out:yLI) (i:Nat),ρ=upd (upd (upd (upd (upd (upd xE 1 (pp br or)) 2 (Sv (aa b1 o2) ad.length aj)) 7 (yI (ownTo r ad k))) 9 (Sv (aa JO 0) 1 1)) 10 (Sv jB vC jw)) 11 (yI i)/\out=(jy r ad ((jM s r.qI).take i))/\((i:Int)<=1)/\m' =(1 - (i:Int)).toNat/\Fresh w.heap.size [G67]/\St w HD [rr jB vC jw 2 1 (out.map (Value.int .i64)),Z0] [Z1,Z2,Z3,Z4,Z5,Z6,Z7,Z8,Z9,bx,bG]) _ _ _ _ _ _ _ _ _ _ _ _) ((1 - (0:Int)).toNat) ⟨_,(aa AE 0),0,0,([]:yLI),0,uE6,(by rfl),qf,rfl,N,H.pick [0,2] (0::1::2::zR 6 8)⟩ ?_
  clear H N
  rintro m' ρ w70 ⟨xE,jB,vC,jw,out,i,rfl,rfl,i0,rfl,N,H⟩
  have bR:=H.jC 0 rfl
  have pk:=pa i
  have po:=fun h=>jU (G.out (((jM s r.qI)[i]!).toNat) (by have:=pk h;omega))
  have gl:=gains_len r ad ((jM s r.qI).take i)
  have tl:=List.length_take_le i (jM s r.qI)
  refine zcc (sp (yI i) (sq 1 (oN rfl (sp (Bv (decide ((i:Int) < 1))) (zjn (cD rfl (fun h71=>?_) (fun h71=>?_)))))))
  ·refine qV (t_n (xQ (qR (yK rfl H [1] fun H=>?_))))
   have S:=H.jm [1] (zR 0 11)
   refine rtl 0 S ?_
   refine rtl 1 S ?_
   refine rtl 2 S ?_
   refine rtl 3 S ?_
   refine tF 4 rfl rfl S ?_
   refine tL 5 rfl rfl (fun _ h=>h.xP 3 rfl 6 rfl) S ?_
   refine rtl 6 S ?_
   refine rtl 7 S ?_
   refine rtp 8 (yI i) S ?_
   refine tI 9 rfl rfl rfl S ?_
   refine tL 10 rfl rfl (fun _ h=>h.zA 0 rfl i qf) S ?_
   obtain ⟨HU,JM,UU,H⟩:=H.zW 10 rfl ((jM s r.qI)[i]!) (((jM s r.qI)[i]!).toNat) qf qf qf
   refine tI 11 rfl rfl rfl (H.pick [1] (zR 2 11)) (ro 12 rfl (x9 (Sv HU ((ad[((jM s r.qI)[i]!).toNat]!).length) JM) isAgg24 rfl (H.xP 1 rfl 0 rfl) (⟨H.pick [1] (zR 2 11),(ro 13 rfl (oq (XL _ r.jX (ad[((jM s r.qI)[i]!).toNat]!) (H.get 10 rfl).1 (H.get 0 rfl).1 (by exact G.out _ qf)) H fun V5 H=>⟨H.pick [1] (zR 2 11),?_⟩))⟩)))
   refine rt 14 _ (y_add (ownTo r ad k) (VO r.jX (ad[((jM s r.qI)[i]!).toNat]!)) rfl rfl (by (omega))) (H.pick [1] (zR 2 11)) ?_
   refine ro 15 rfl (zf H underlying24 ti2 [yI ((ownTo r ad k)+(VO r.jX (ad[((jM s r.qI)[i]!).toNat]!)))] fun ws WE H=>⟨H.pick [2] (zR 2 11),(ro 16 rfl (zo H 1 rfl 0 rfl underlying24 ti2 rfl qj rfl rfl rfl qw qp qf fun a79 c80 SR H=>?_))⟩)
   rw [snocI] at H
   refine ⟨H.pick [2] (zR 2 11),(rtl 17 (H.pick [2] (zR 2 11)) ?_)⟩
   refine xw qh (b_n (t_n (xJ (sp (yI i) (sw (zn i 1 rfl rfl (by (omega)) (sq 1 (xO (qX (m' :=(1 - ((i+1):Int)).toNat) qf ⟨_,_,_,_,_,i+1,uE6,?_,?_,rfl,N,H.pick [1,2] (zR 2 11)⟩)))))))))
   ·exact gains_snoc qf (by rw [show k=r.xe.length by omega])
   ·omega
  refine zx4 (zcr (sq 2 (zjr (rH1 (Sv jB vC jw) H ?_))))
  rw [← take_all (l:=jM s r.qI) (k:=i) qf]
  exact ⟨jB,vC,jw,rfl,(N.pick []),H.pick [0] []⟩
 refine qV (t_n (zcr (sw (vW H underlying24 ti2 fun b82 w83 H=>sq 1 (zjcc (sp (yI 0) (zjn (qR ?_))))))))
 have pe:=placeS_1 (s:=s) (c:=r.qI) ql
 rw [← pe] at H ⊢
 have pl:=congrArg List.length pe
 have pa:=fun k h=>placeS_at p5 g6 (k:=k) h
 replace H:=H.Xv 0 [] 0
 refine zl ((fun Z0 Z1 Z2 Z3 Z4 Z5 Z6 Z7 Z8 Z9 bx=>fun m' ρ HG=>∃ (xE:Env) (jB:yOA) (vC:Nat) (jw:Nat) (out:yLI) (i:Nat),ρ=upd (upd (upd (upd (upd (upd xE 1 (pp br or)) 2 (Sv (aa b1 o2) ad.length aj)) 7 (yI (ownTo r ad k))) 9 (Sv alG ((jM s r.qI).length) ahC)) 10 (Sv jB vC jw)) 11 (yI i)/\out=(jy r ad ((jM s r.qI).take i))/\((i:Int)<=((jM s r.qI).length))/\m' =(((jM s r.qI).length) - (i:Int)).toNat/\Fresh w.heap.size []/\St w HG [rr jB vC jw 2 1 (out.map (Value.int .i64)),Z0] [Z1,Z2,Z3,Z4,Z5,Z6,Z7,Z8,Z9,bx]) _ _ _ _ _ _ _ _ _ _ _) ((((jM s r.qI).length) - (0:Int)).toNat) ⟨_,(aa b82 0),0,0,([]:yLI),0,uE6,(by rfl),qf,rfl,N,H.pick [0,1] (0::1::zR 5 8)⟩ ?_
 clear H N
 rintro m' ρ w85 ⟨xE,jB,vC,jw,out,i,rfl,rfl,i0,rfl,N,H⟩
 have bR:=H.jC 0 rfl
 have pk:=pa i
 have po:=fun h=>jU (G.out (((jM s r.qI)[i]!).toNat) (by have:=pk h;omega))
 have gl:=gains_len r ad ((jM s r.qI).take i)
 have tl:=List.length_take_le i (jM s r.qI)
 have pq:=placeS_len p5 r.qI
 refine zcc (sp (yI i) (sq 1 (oN rfl (sq 1 (zjn (cD rfl (fun lB=>?_) (fun lB=>?_)))))))
 ·refine qV (t_n (xQ (qR (yK rfl H [1] fun H=>?_))))
  have S:=H.jm [1] (zR 0 10)
  refine rtl 0 S ?_
  refine rtl 1 S ?_
  refine rtl 2 S ?_
  refine rtl 3 S ?_
  refine tF 4 rfl rfl S ?_
  refine tL 5 rfl rfl (fun _ h=>h.xP 2 rfl 6 rfl) S ?_
  refine rtl 6 S ?_
  refine rtl 7 S ?_
  refine rtp 8 (yI i) S ?_
  obtain ⟨b88,rfl⟩:=H.jK 1 rfl qf
  have S:=H.jm [1] (zR 0 10)
  refine tI 9 rfl rfl rfl S ?_
  refine tL 10 rfl rfl (fun _ h=>h.QJ 0 rfl (iv:=i) (i:=i) qf qf) S ?_
  obtain ⟨ajO,afl,arl,H⟩:=H.zW 9 rfl ((jM s r.qI)[i]!) (((jM s r.qI)[i]!).toNat) qf qf qf
  refine tI 11 rfl rfl rfl (H.pick [1] (zR 2 10)) (ro 12 rfl (x9 (Sv ajO ((ad[((jM s r.qI)[i]!).toNat]!).length) afl) isAgg24 rfl (H.xP 1 rfl 0 rfl) (⟨H.pick [1] (zR 2 10),(ro 13 rfl (oq (XL _ r.jX (ad[((jM s r.qI)[i]!).toNat]!) (H.get 9 rfl).1 (H.get 0 rfl).1 (by exact G.out _ qf)) H fun TN H=>⟨H.pick [1] (zR 2 10),?_⟩))⟩)))
  refine rt 14 _ (y_add (ownTo r ad k) (VO r.jX (ad[((jM s r.qI)[i]!).toNat]!)) rfl rfl (by (omega))) (H.pick [1] (zR 2 10)) ?_
  refine ro 15 rfl (zf H underlying24 ti2 [yI ((ownTo r ad k)+(VO r.jX (ad[((jM s r.qI)[i]!).toNat]!)))] fun Hs Zw H=>⟨H.pick [2] (zR 2 10),(ro 16 rfl (zo H 1 rfl 0 rfl underlying24 ti2 rfl qj rfl rfl rfl qw qp qf fun a95 c96 N9 H=>?_))⟩)
  rw [snocI] at H
  refine ⟨H.pick [2] (zR 2 10),(rtl 17 (H.pick [2] (zR 2 10)) ?_)⟩
  refine xw qh (b_n (t_n (xJ (sp (yI i) (sw (zn i 1 rfl rfl (by (omega)) (sq 1 (xO (qX (m' :=(((jM s r.qI).length) - ((i+1):Int)).toNat) qf ⟨_,_,_,_,_,i+1,uE6,?_,?_,rfl,N,H.pick [1,2] (zR 2 10)⟩)))))))))
  ·exact gains_snoc qf (by rw [show k=r.xe.length by omega])
  ·omega
 refine zx4 (zcr (sq 2 (zjr (rH1 (Sv jB vC jw) H ?_))))
 rw [← take_all (l:=jM s r.qI) (k:=i) qf]
 exact ⟨jB,vC,jw,rfl,N,H.pick [0] []⟩
theorem l04Falls_ok (w:World) (s:qC) (ad:yLL) (hs:vY w bs os (yS s qG qE qO qN)) (qP:zP w xk qG qE s.qA) (xm:zP w xW qO qN s.qB) (ap:zP w aK ao aj ad) (p0:ve s) (p2:WtOk s ad):Calls Tryz.prog 59 #[pp bs os,Sv ao ad.length aj] w (Ret (fun v w' =>v=Bv (dec (Falls s ad))) w):=by
 refine en func59 ntmps59 ?_
 have H:=((((St.start w).arg ap).arg xm).arg qP).Xr hs
 have zB:=qM qP
 have vP:=qM xm
 have da:=qM ap
 clear hs qP xm ap
 have N:=Fresh.nil w.heap.size
 have p3:=p2.len
 have p4:=p0.1.2.1
 have p5:=p0.1
 have p6:=p0.2.1
 have p7:=p0.1.1
 refine zcr (sp (Bv false) (zjcc (sp (yI 0) (zjn (qR (zl ((fun Z0 Z1 Z2 Z3=>fun m' ρ w1=>∃ (xE:Env) (c:Nat),ρ=upd (upd (upd xE 0 (pp bs os)) 1 (Sv ao ad.length aj)) 5 (yI c)/\((c:Int)<=ad.length)/\m' =(ad.length - (c:Int)).toNat/\Fresh w.heap.size []/\St w w1 [] [Z0,Z1,Z2,Z3]) _ _ _ _) ((ad.length - (0:Int)).toNat) ⟨_,0,uE3,qf,rfl,N,H⟩ ?_))))))
 clear H N
 rintro m' ρ w2 ⟨xE,c,rfl,i0,rfl,N,H⟩
 have MJ:=fun h=>wt_in p2 (c:=c) h
 refine zcc (sp (yI c) (sq 1 (oN rfl (sq 1 (zjn (cD rfl (fun h3=>?_) (fun h3=>?_)))))))
 ·refine qV (t_n (xQ (qR (zcr (sp (yI 0) (zjn (qR (zl ((fun Z0 Z1 Z2 Z3=>fun m' ρ w4=>∃ (xE:Env) (k:Nat),ρ=upd (upd (upd (upd xE 0 (pp bs os)) 1 (Sv ao ad.length aj)) 5 (yI c)) 6 (yI k)/\((k:Int)<=((ad[c]!).length))/\m' =(((ad[c]!).length) - (k:Int)).toNat/\Fresh w.heap.size []/\St w w4 [] [Z0,Z1,Z2,Z3]) _ _ _ _) ((((ad[c]!).length) - (0:Int)).toNat) ⟨_,0,uE4,qf,rfl,N,H⟩ ?_))))))))
  clear H N
  rintro m' ρ w5 ⟨xE,k,rfl,i0,rfl,N,H⟩
  have rk:=(MJ qf).2 k
  refine zcc (sp (yI k) (sq 1 (sp (yI c) ?_)))
  obtain ⟨b6,o7,rfl⟩:=H.addr 3 rfl qf
  obtain ⟨Bs,At,O9,H⟩:=H.zW 3 rfl c c qf qf qf
  refine oI rfl rfl (oL rfl (H.xP 1 rfl 0 rfl) (oN rfl (sq 1 (zjn (cD rfl (fun aZ=>?_) (fun aZ=>?_))))))
  ·refine qV (t_n (xQ (qR (zcr (sq 1 (sp (yI c) (oI rfl rfl (oL rfl (H.xP 1 rfl 0 rfl) (sp (yI k) ?_)))))))))
   obtain ⟨ls,Ih,rfl⟩:=H.addr 0 rfl qf
   refine oI rfl rfl (oL rfl (H.zA 0 rfl k qf) (sp (Bv (decide (((ad[c]!)[k]! :Int) < 0))) (zjn (cD rfl (fun dO=>?_) (fun dO=>?_)))))
   ·refine zcr (sp (Bv false) (zjr (b_r (t_r (t_r (b_r (zr5 (rH1 (Bv false) H ?_))))))))
    (exfalso;have r1:=rk qf;omega)
   refine qV (b_n (t_n (xJ (sp (yI k) (sw (zn k 1 rfl rfl qf (sq 1 (xO (qX (m' :=(((ad[c]!).length) - ((k+1):Int)).toNat) qf ⟨_,k+1,uE4,?_,rfl,N,H.pick [] (zR 2 4)⟩)))))))))
   ·omega
  refine Qx (t_x (t_x (b_x (b_n (t_n (xJ (sp (yI c) (sw (zn c 1 rfl rfl qf (sq 1 (xO (qX (m' :=(ad.length - ((c+1):Int)).toNat) qf ⟨_,c+1,uE3,?_,rfl,N,H.pick [] (zR 2 4)⟩))))))))))))
  ·omega
 refine zx4 (zcc (sp (yI 0) (zjn (qR (zl ((fun Z0 Z1 Z2 Z3=>fun m' ρ yi=>∃ (xE:Env) (i:Nat),ρ=upd (upd (upd xE 0 (pp bs os)) 1 (Sv ao ad.length aj)) 7 (yI i)/\((i:Int)<=s.qB.length)/\(GainsTo s ad i)/\m' =(s.qB.length - (i:Int)).toNat/\Fresh w.heap.size []/\St w yi [] [Z0,Z1,Z2,Z3]) _ _ _ _) ((s.qB.length - (0:Int)).toNat) ⟨_,0,uE3,qf,(by exact GainsTo.zero s ad),rfl,N,H⟩ ?_)))))
 clear H N
 rintro m' ρ yb ⟨xE,i,rfl,i0,i1,rfl,N,H⟩
 refine zcc (sp (yI i) (sq 2 (oF rfl (oL rfl (H.xP 0 rfl 2 rfl) (oN rfl (sq 1 (zjn (cD rfl (fun tY=>?_) (fun tY=>?_)))))))))
 ·refine qV (t_n (xQ (qR (zcr (sq 3 (oF rfl (oL rfl (H.xP 0 rfl 2 rfl) (sp (yI i) ?_))))))))
  obtain ⟨Sa,o19,rfl⟩:=H.addr 2 rfl qf
  obtain ⟨YD,ZL,Zj,Tk,abA,YL,acW,abm,ZE,abz,Y3,aaz,adj,adS,ad6,aat,acp,TE,H⟩:=H.jZ 2 rfl i i qf qf qf
  refine oI rfl rfl (sq 1 ?_)
  have q:=p0.rule (i:=i) qf
  refine sw (oc (l04Gains_ok _ s (s.qB[i]!) ad (qF (H.get 7 rfl) 0 3) (H.get 8 rfl).1 (H.get 9 rfl).1 (qF (H.get 6 rfl) 0 9) (H.get 0 rfl).1 (H.get 1 rfl).1 (H.get 2 rfl).1 (H.get 3 rfl).1 (H.get 4 rfl).1 (H.get 5 rfl).1 (H.get 10 rfl).1 qg qg qg) ?_)
  rintro _ wT ⟨amC,auI,k9,rfl,M,K⟩ _
  replace H:=H.merge K M
  obtain rfl:=H.jC 0 rfl
  refine sq 1 (zjc (sp (yI 0) (zjn (qR (zl ((fun Z0 Z1 Z2 Z3 Z4 Z5 Z6 Z7 Z8 Z9 bx bG=>fun m' ρ FG=>∃ (xE:Env) (k:Nat),ρ=upd (upd (upd (upd (upd xE 0 (pp bs os)) 1 (Sv ao ad.length aj)) 7 (yI i)) 8 (Sv amC ((jy (s.qB[i]!) ad (jM s (s.qB[i]!).qI)).length) k9)) 9 (yI k)/\((k:Int)<=((jy (s.qB[i]!) ad (jM s (s.qB[i]!).qI)).length))/\(NegTo (jy (s.qB[i]!) ad (jM s (s.qB[i]!).qI)) k)/\m' =(((jy (s.qB[i]!) ad (jM s (s.qB[i]!).qI)).length) - (k:Int)).toNat/\Fresh w.heap.size []/\St w FG [Z0] [Z1,Z2,Z3,Z4,Z5,Z6,Z7,Z8,Z9,bx,bG]) _ _ _ _ _ _ _ _ _ _ _ _) ((((jy (s.qB[i]!) ad (jM s (s.qB[i]!).qI)).length) - (0:Int)).toNat) ⟨_,0,uE5,qf,qx,rfl,N,H⟩ ?_)))))
  clear H N
  rintro m' ρ Dk ⟨xE,k,rfl,i0,i2,rfl,N,H⟩
  have gl:=gains_len (s.qB[i]!) ad (jM s (s.qB[i]!).qI)
  have pq:=placeS_len p5 (s.qB[i]!).qI
  refine zcc (sp (yI k) (sq 1 (oN rfl (sq 1 (zjn (cD rfl (fun CH=>?_) (fun CH=>?_)))))))
  ·refine qV (t_n (xQ (qR (zcr (sq 1 (sp (yI k) ?_))))))
   obtain ⟨vl,rfl⟩:=H.jK 0 rfl qf
   refine oI rfl rfl (oL rfl (H.QJ 0 rfl (iv:=k) (i:=k) qf qf) (sp (Bv (decide (((jy (s.qB[i]!) ad (jM s (s.qB[i]!).qI))[k]! :Int)>=0))) (zjn (cD rfl (fun Nh=>?_) (fun Nh=>?_)))))
   ·refine zcr (sp (Bv false) (zjr (b_r (t_r (t_r (b_r (zr5 (rH1 (Bv false) H ?_))))))))
    rw [xh (neg_no (i:=i) (k:=k) (l:=jM s (s.qB[i]!).qI) qf (fun x=>VH p5 (p0.rule qf).1) qf qf)]
   refine qV (b_n (t_n (xJ (sp (yI k) (sw (zn k 1 rfl rfl qf (sq 1 (xO (qX (m' :=(((jy (s.qB[i]!) ad (jM s (s.qB[i]!).qI)).length) - ((k+1):Int)).toNat) qf ⟨_,k+1,uE5,?_,?_,rfl,N,H⟩)))))))))
   ·omega
   ·exact i2.succ qf
  refine Qx (t_x (t_x (b_x (b_n (t_n (xJ (sp (yI i) (sw (zn i 1 rfl rfl qf (sq 1 (xO (qX (m' :=(s.qB.length - ((i+1):Int)).toNat) qf ⟨_,i+1,uE3,?_,?_,rfl,N,H.pick [] (zR 7 4)⟩))))))))))))
  ·omega
  ·exact i1.succ ((neg_iff (fun x=>VH p5 (p0.rule qf).1)).1 (fun j hj=>i2 j qf))
 refine zx4 (zcc (sp (yI 1) (zjn (qR (zl ((fun Z0 Z1 Z2 Z3=>fun m' ρ CC=>∃ (xE:Env) (aD:Nat),ρ=upd (upd (upd xE 0 (pp bs os)) 1 (Sv ao ad.length aj)) 10 (yI aD)/\((aD:Int)<=s.qA.length)/\(MeltsGe s ad aD)/\(1<=(aD:Int))/\m' =(s.qA.length - (aD:Int)).toNat/\Fresh w.heap.size []/\St w CC [] [Z0,Z1,Z2,Z3]) _ _ _ _) ((s.qA.length - (1:Int)).toNat) ⟨_,1,uE3,qf,(by exact meltsGe_1 p0 ad),qf,rfl,N,H⟩ ?_)))))
 clear H N
 rintro m' ρ Dg ⟨xE,aD,rfl,i0,i3,i4,rfl,N,H⟩
 refine zcc (sq 3 (oF rfl (oL rfl (H.xP 0 rfl 1 rfl) (oN rfl (sq 1 (zjn (cD rfl (fun Dj=>?_) (fun Dj=>?_))))))))
 ·refine qV (t_n (xQ (qR (zcr (sq 2 (sw (oc (l04Parents_ok _ s aD (qF (H.get 0 rfl) 0 3) (H.get 1 rfl).1 (H.get 2 rfl).1 qg qg) ?_)))))))
  rintro _ N6 ⟨lh,ayc,CP,rfl,M,K⟩ _
  replace H:=H.merge K M
  obtain rfl:=H.jC 0 rfl
  refine sq 1 (zjc (sp (yI 0) (zjn (qR (zl ((fun Z0 Z1 Z2 Z3 Z4=>fun m' ρ wR=>∃ (xE:Env) (k:Nat),ρ=upd (upd (upd (upd (upd xE 0 (pp bs os)) 1 (Sv ao ad.length aj)) 10 (yI aD)) 11 (Sv lh ((VD s aD).length) CP)) 12 (yI k)/\(GeTo ad (VD s (aD:Int)) (aD:Int) k)/\(k<=(VD s (aD:Int)).length)/\m' =((VD s (aD:Int)).length - k)/\Fresh w.heap.size []/\St w wR [Z0] [Z1,Z2,Z3,Z4]) _ _ _ _ _) (((VD s (aD:Int)).length - 0)) ⟨_,0,uE5,qx,qf,rfl,N,H⟩ ?_)))))
  clear H N
  rintro m' ρ Df ⟨xE,k,rfl,i5,i6,rfl,N,H⟩
  have pk:=fun h=>parS_in p5 (c:=(aD:Int)) ⟨by omega,by omega⟩ (k:=k) h
  have pq:=parS_len p5 (aD:Int)
  refine zcc (sp (yI k) (sq 1 (oN rfl (sp (Bv (decide ((k:Int) < ((VD s aD).length)))) (sp (Bv (decide ((k:Int) < ((VD s aD).length)))) ?_)))))
  cases Hf:(decide ((k:Int) < ((VD s aD).length)))
  ·replace Hf:=of_decide_eq_false Hf
   refine xR [82,83,84] (sp (Bv false) (zjn (cFr rfl (Qx (t_x (t_x (b_x (b_n (t_n (xJ (sq 1 (sw (zn aD 1 rfl rfl qf (sq 1 (xO (qX (m' :=(s.qA.length - ((aD+1):Int)).toNat) qf ⟨_,aD+1,uE3,?_,?_,?_,rfl,N,H.pick [] (zR 0 4)⟩))))))))))))))))
   ·omega
   ·exact i3.succ ((ge_iff (fun x=>mem_parS p5 ⟨by omega,by omega⟩)).1 (fun _ j hj=>i5 j qf))
   ·omega
  replace Hf:=of_decide_eq_true Hf
  refine qJ 81 rfl rfl (sq 1 (qJ 81 rfl rfl (sq 1 (qJ 81 rfl rfl (sw (oq (l04Melts_ok _ s aD (qF (H.get 0 rfl) 0 3) (H.get 1 rfl).1 (H.get 2 rfl).1) H fun C1 H=>sq 1 (zjn (cP rfl (fun oW=>?_) (fun oW=>?_)))))))))
  ·have pz:=pk qf
   have pz1:=pz.1
   have e1:=(wt_in p2 (c:=((VD s (aD:Int))[k]!).toNat) qf).1
   have e2:=(wt_in p2 (c:=aD) qf).1
   refine qV (t_n (xQ (qR (xQ ?_))))
   obtain ⟨Mb,rfl⟩:=H.jK 0 rfl qf
   obtain ⟨Cy,o51,rfl⟩:=H.addr 3 rfl qf
   refine VP (fun ρ Hj=>∃ (xE:Env) (F53:yLN) (RB:yOA) (Rm:Nat) (F56:yLN) (RO:yOA) (Ru:Nat),ρ=upd (upd (upd (upd (upd (upd (upd (upd (upd xE 0 (pp bs os)) 1 (Sv (aa Cy o51) ad.length aj)) 10 (yI aD)) 11 (Sv (aa Mb 0) ((VD s aD).length) CP)) 12 (yI k)) 82 (pp bs os)) 83 (yI aD)) 84 (Bv (dec (yP s aD)))) 100 (Bv (!(within (ad[((VD s aD)[k]!).toNat]!) (ad[aD]!))))/\Fresh w.heap.size []/\St w Hj [rr (aa Mb 0) ((VD s aD).length) CP 2 1 ((VD s aD).map (Value.int .i64))] [sF false F53 RB Rm (ad[aD]!),atF Cy (o51+(aD:Int).toNat * 1) [Sv RB ((ad[aD]!).length) Rm],sF false F56 RO Ru (ad[((VD s aD)[k]!).toNat]!),atF Cy (o51+((VD s aD)[k]! :Int).toNat * 1) [Sv RO ((ad[((VD s aD)[k]!).toNat]!).length) Ru],atF bs os (yS s qG qE qO qN),sF false xk qG qE s.qA,sF false xW qO qN s.qB,sF false aK (aa Cy o51) aj ad]) ?_ ?_
   ·refine jE rfl H fun H=>rtl 0 H ?_
    refine rtl 1 H ?_
    refine rtp 2 (yI k) H ?_
    refine tI 3 rfl rfl rfl H ?_
    refine tL 4 rfl rfl (fun _ h=>h.QJ 0 rfl (iv:=k) (i:=k) qf qf) H ?_
    obtain ⟨Iq,Iz,acU,H⟩:=H.zW 3 rfl ((VD s aD)[k]!) (((VD s aD)[k]!).toNat) qf qf qf
    have S:=H.jm [0] (zR 2 4)
    refine tI 5 rfl rfl rfl S ?_
    refine rtl 7 S ?_
    refine rtl 8 S ?_
    obtain ⟨CR,Cb,Nt,H⟩:=H.zW 5 rfl aD aD qf qf qf
    refine tI 9 rfl rfl rfl (H.pick [0] (zR 4 4)) (vK [6,10] qh qm (jb rfl ?_ (jb rfl ?_ vM)))
    ·refine x9 (Sv Iq ((ad[((VD s aD)[k]!).toNat]!).length) Iz) isAgg24 rfl (H.xP 3 rfl 0 rfl) (⟨H.pick [0] (zR 4 4),(ro 10 rfl (x9 (Sv CR ((ad[aD]!).length) Cb) isAgg24 rfl (H.xP 1 rfl 0 rfl) (⟨H.pick [0] (zR 4 4),(ro 11 rfl (oq (VJ _ (ad[((VD s aD)[k]!).toNat]!) (ad[aD]!) (H.get 2 rfl).1 (H.get 0 rfl).1 qg) H fun RU H=>⟨H.pick [0] (zR 4 4),(rtl 12 (H.pick [0] (zR 4 4)) ?_)⟩))⟩)))⟩)
     refine xw qh ((meet ⟨_,Nt,CR,Cb,acU,Iq,Iz,uE9,N,H⟩))
    refine x9 (Sv CR ((ad[aD]!).length) Cb) isAgg24 rfl (H.xP 1 rfl 0 rfl) (⟨H.pick [0] (zR 4 4),(ro 6 rfl (x9 (Sv Iq ((ad[((VD s aD)[k]!).toNat]!).length) Iz) isAgg24 rfl (H.xP 3 rfl 0 rfl) (⟨H.pick [0] (zR 4 4),(ro 11 rfl (oq (VJ _ (ad[((VD s aD)[k]!).toNat]!) (ad[aD]!) (H.get 2 rfl).1 (H.get 0 rfl).1 qg) H fun P0 H=>⟨H.pick [0] (zR 4 4),(rtl 12 (H.pick [0] (zR 4 4)) ?_)⟩))⟩)))⟩)
    refine xw qh ((meet ⟨_,Nt,CR,Cb,acU,Iq,Iz,uE9,N,H⟩))
   clear H N
   rintro ρ HD ⟨xE,F53,RB,Rm,F56,RO,Ru,rfl,N,H⟩
   refine t_n (zT _ rfl (fun Nf=>?_) (fun Nf=>?_))
   ·replace Nf:=xB Nf
    refine zcr (sp (Bv false) (zjr (b_r (t_r (t_r (b_r (zr5 (rH1 (Bv false) H ?_))))))))
    rw [xh (ge_no (c:=aD) (k:=k) (l:=VD s (aD:Int)) qf (fun x=>mem_parS p5 ⟨by omega,by omega⟩) qf ql ql)]
   replace Nf:=xn Nf
   refine qV (b_n (t_n (xJ (sp (yI k) (sw (zn k 1 rfl rfl qf (sq 1 (xO (qX (m' :=((VD s (aD:Int)).length - (k+1))) qf ⟨_,k+1,uE5,?_,?_,rfl,N,H.pick [0] (zR 4 4)⟩)))))))))
   ·exact i5.succ ql
   ·omega
  refine Qx (t_x (t_x (b_x (b_n (t_n (xJ (sq 1 (sw (zn aD 1 rfl rfl qf (sq 1 (xO (qX (m' :=(s.qA.length - ((aD+1):Int)).toNat) qf ⟨_,aD+1,uE3,?_,?_,?_,rfl,N,H.pick [] (zR 0 4)⟩))))))))))))
  ·omega
  ·exact i3.succ (fun h=>absurd h ql)
  ·omega
 refine zx4 (zcr (sp (Bv true) (zjr (rH1 (Bv true) H ?_))))
 rw [jH ⟨fun j hj=>i1 j qf,fun j hj=>i3 j qf⟩]
theorem gains_ok (w:World) (s:qC) (r:vS) (ad:yLL) (qP:zP w xk qG qE s.qA) (xm:zP w xW qO qN s.qB) (XM:zP w e8 Xf Xb r.zk) (XQ:zP w eA Xi Xe r.vk) (XN:zP w eL Xg Xc r.vw) (XP:zP w eG Xh Xd r.zS) (dJ:zP w j6 bP bN r.jX) (XO:zP w eW Qy Qm r.xe) (ap:zP w aK ao aj ad) (p0:ve s) (p1:RuleOk s r) (p2:WtOk s ad):Calls Tryz.prog 91 #[.agg #[yI s.xK,Sv qG s.qA.length qE,Sv qO s.qB.length qN],.agg #[yI r.qI,yI r.jG,Sv Xf r.zk.length Xb,Sv Xi r.vk.length Xe,Sv Xg r.vw.length Xc,Sv Xh r.zS.length Xd,Sv bP r.jX.length bN,Sv Qy r.xe.length Qm,Bv r.vg],Sv ao ad.length aj] w (Ret (fun v w' =>∃ (ra:yOA) (rn:Nat) (rc:Nat),v=Sv ra rn rc/\Fresh w.heap.size []/\St w w' [rr ra rn rc 2 1 ((jy r ad (jv s r.qI)).map (Value.int .i64))] []) w):=by
 refine en func91 ntmps91 ?_
 have H:=(((((((((St.start w).arg ap).arg XO).arg dJ).arg XP).arg XN).arg XQ).arg XM).arg xm).arg qP
 have zB:=qM qP
 have mz:=qM XO
 have da:=qM ap
 clear qP xm XM XQ XN XP dJ XO ap
 have N:=Fresh.nil w.heap.size
 have G:=gainAt p0 p2 p1
 have g0:=G.cell
 have g1:=G.few
 have g2:=G.here
 have g3:=G.need
 have g4:=jU g2
 have g5:=jU g3
 have p3:=p2.len
 have p4:=p0.1.2.1
 have g6:QU s r.qI:=p1.1
 have p5:=p0.1
 refine zcr (sw (zZ H (yS s qG qE qO qN) fun b1 w2 H=>sw (zZ H [yI r.qI,yI r.jG,Sv Xf r.zk.length Xb,Sv Xi r.vk.length Xe,Sv Xg r.vw.length Xc,Sv Xh r.zS.length Xd,Sv bP r.jX.length bN,Sv Qy r.xe.length Qm,Bv r.vg] fun b3 w4 H=>sq 1 (zjn (xQ ?_)))))
 obtain ⟨b5,o6,rfl⟩:=H.addr 8 rfl qf
 refine VP (fun ρ nr=>∃ (xE:Env) (F8:yLN) (a9:yOA) (Jc:Nat),ρ=upd (upd (upd (upd xE 2 (Sv (aa b5 o6) ad.length aj)) 3 (pp b1 0)) 4 (pp b3 0)) 7 (yI ((VO r.zS (ad[r.qI.toNat]!)) - (VO r.zk (ad[r.qI.toNat]!))))/\Fresh w.heap.size []/\St w nr [.box b3 [yI r.qI,yI r.jG,Sv Xf r.zk.length Xb,Sv Xi r.vk.length Xe,Sv Xg r.vw.length Xc,Sv Xh r.zS.length Xd,Sv bP r.jX.length bN,Sv Qy r.xe.length Qm,Bv r.vg] 70,.box b1 (yS s qG qE qO qN) 27] [sF false F8 a9 Jc (ad[r.qI.toNat]!),atF b5 (o6+(r.qI:Int).toNat * 1) [Sv a9 ((ad[r.qI.toNat]!).length) Jc],sF false xk qG qE s.qA,sF false xW qO qN s.qB,sF false e8 Xf Xb r.zk,sF false eA Xi Xe r.vk,sF false eL Xg Xc r.vw,sF false eG Xh Xd r.zS,sF false j6 bP bN r.jX,sF false eW Qy Qm r.xe,sF false aK (aa b5 o6) aj ad]) ?_ ?_
 ·refine jE rfl H fun H=>tF 0 rfl rfl H ?_
  refine tL 1 rfl rfl (fun _ h=>h.cell 0 rfl rfl) H ?_
  refine rtl 2 H ?_
  refine tF 3 rfl rfl H ?_
  refine tL 4 rfl rfl (fun _ h=>h.cell 0 rfl rfl) H ?_
  obtain ⟨qe,rB,GJ,H⟩:=H.zW 8 rfl r.qI r.qI.toNat qf qf qf
  have S:=H.jm [0,1] (zR 2 9)
  refine tI 5 rfl rfl rfl S ?_
  refine tF 8 rfl rfl S ?_
  refine tL 9 rfl rfl (fun _ h=>h.cell 0 rfl rfl) S ?_
  refine rtl 10 S ?_
  refine tF 11 rfl rfl S ?_
  refine tL 12 rfl rfl (fun _ h=>h.cell 0 rfl rfl) S ?_
  refine tI 13 rfl rfl rfl S ?_
  refine vK [6,14] qh qm (jb rfl ?_ (jb rfl ?_ vM))
  ·refine x9 (Sv qe ((ad[r.qI.toNat]!).length) rB) isAgg24 rfl (H.xP 1 rfl 0 rfl) (⟨H.pick [0,1] (zR 2 9),(vK [7,14] qh qm (jb rfl ?_ (jb rfl ?_ vM)))⟩)
   ·refine oq (weigh_ok _ r.zS (ad[r.qI.toNat]!) (H.get 7 rfl).1 (H.get 0 rfl).1 (by assumption)) H fun yi H=>⟨H.pick [0,1] (zR 2 9),(ro 14 rfl (x9 (Sv qe ((ad[r.qI.toNat]!).length) rB) isAgg24 rfl (H.xP 1 rfl 0 rfl) (⟨H.pick [0,1] (zR 2 9),(ro 15 rfl (oq (weigh_ok _ r.zk (ad[r.qI.toNat]!) (H.get 4 rfl).1 (H.get 0 rfl).1 (by assumption)) H fun Dn H=>⟨H.pick [0,1] (zR 2 9),?_⟩))⟩)))⟩
    have S:=H.jm [0,1] (zR 2 9)
    refine rt 16 _ (y_sub (VO r.zS (ad[r.qI.toNat]!)) (VO r.zk (ad[r.qI.toNat]!)) rfl rfl (by (omega))) S ?_
    refine rtl 17 S ?_
    refine xw qh ((meet ⟨_,GJ,qe,rB,uE4,N,H⟩))
   refine x9 (Sv qe ((ad[r.qI.toNat]!).length) rB) isAgg24 rfl (H.xP 1 rfl 0 rfl) (⟨H.pick [0,1] (zR 2 9),(ro 7 rfl (oq (weigh_ok _ r.zS (ad[r.qI.toNat]!) (H.get 7 rfl).1 (H.get 0 rfl).1 (by assumption)) H fun In H=>⟨H.pick [0,1] (zR 2 9),(ro 15 rfl (oq (weigh_ok _ r.zk (ad[r.qI.toNat]!) (H.get 4 rfl).1 (H.get 0 rfl).1 (by assumption)) H fun Bo H=>⟨H.pick [0,1] (zR 2 9),?_⟩))⟩))⟩)
   have S:=H.jm [0,1] (zR 2 9)
   refine rt 16 _ (y_sub (VO r.zS (ad[r.qI.toNat]!)) (VO r.zk (ad[r.qI.toNat]!)) rfl rfl (by (omega))) S ?_
   refine rtl 17 S ?_
   refine xw qh ((meet ⟨_,GJ,qe,rB,uE4,N,H⟩))
  refine x9 (Sv qe ((ad[r.qI.toNat]!).length) rB) isAgg24 rfl (H.xP 1 rfl 0 rfl) (⟨H.pick [0,1] (zR 2 9),(ro 6 rfl (x9 (Sv qe ((ad[r.qI.toNat]!).length) rB) isAgg24 rfl (H.xP 1 rfl 0 rfl) (⟨H.pick [0,1] (zR 2 9),(ro 7 rfl (oq (weigh_ok _ r.zS (ad[r.qI.toNat]!) (H.get 7 rfl).1 (H.get 0 rfl).1 (by assumption)) H fun Ge H=>⟨H.pick [0,1] (zR 2 9),(ro 15 rfl ?_)⟩))⟩)))⟩)
  refine oq (weigh_ok _ r.zk (ad[r.qI.toNat]!) (H.get 4 rfl).1 (H.get 0 rfl).1 (by assumption)) H fun AP H=>⟨H.pick [0,1] (zR 2 9),?_⟩
  have S:=H.jm [0,1] (zR 2 9)
  refine rt 16 _ (y_sub (VO r.zS (ad[r.qI.toNat]!)) (VO r.zk (ad[r.qI.toNat]!)) rfl rfl (by (omega))) S ?_
  refine rtl 17 S ?_
  refine xw qh ((meet ⟨_,GJ,qe,rB,uE4,N,H⟩))
 clear H N
 rintro ρ Dc ⟨xE,F8,a9,Jc,rfl,N,H⟩
 refine t_n (zcc (oF rfl (oL rfl (H.cell 0 rfl rfl) (oN rfl (sp (yI 0) (zjn (qR (zl ((fun Z0 Z1 Z2 Z3 Z4 Z5 Z6 Z7 Z8 Z9 bx bG dy=>fun m' ρ CC=>∃ (xE:Env) (own:Int) (k:Nat),ρ=upd (upd (upd (upd (upd (upd (upd xE 2 (Sv (aa b5 o6) ad.length aj)) 3 (pp b1 0)) 4 (pp b3 0)) 7 (yI own)) 32 (Sv Qy r.xe.length Qm)) 33 (yI r.xe.length)) 34 (yI k)/\own=(ownTo r ad k)/\((k:Int)<=r.xe.length)/\m' =(r.xe.length - (k:Int)).toNat/\Fresh w.heap.size []/\St w CC [Z0,Z1] [Z2,Z3,Z4,Z5,Z6,Z7,Z8,Z9,bx,bG,dy]) _ _ _ _ _ _ _ _ _ _ _ _ _) ((r.xe.length - (0:Int)).toNat) ⟨_,(VO r.zS (ad[r.qI.toNat]!)) - (VO r.zk (ad[r.qI.toNat]!)),0,uE7,(by exact ownTo_0 r ad),qf,rfl,N,H⟩ ?_))))))))
 clear H N
 rintro m' ρ Dg ⟨xE,own,k,rfl,rfl,i0,rfl,N,H⟩
 have gb:=G.bd k
 have gi:=G.into k
 refine zcr (sq 1 (zjn (xQ (cD rfl (fun Dj=>?_) (fun Dj=>?_)))))
 ·refine qV (t_n (xQ (qR (zcr ?_))))
  obtain ⟨wt,o37,rfl⟩:=H.addr 9 rfl qf
  obtain ⟨A2,Bt,ado,H⟩:=H.yJ 9 rfl k k qf qf qf
  refine oI rfl rfl (sw (xU [yI ((r.xe[k]!).qI),Sv A2 (((r.xe[k]!).Qa).length) Bt] isAgg128 sizeOf128 rfl (qF (H.get 1 rfl) 0 2) (sw (xq H ti128 [yI 0,yN] fun Kc Mx H=>sw (xY H 0 [yI ((r.xe[k]!).qI),Sv A2 (((r.xe[k]!).Qa).length) Bt] sizeOf128 fun wR H=>zjn (jE rfl H fun H=>rtl 0 H ?_))))))
  refine tF 1 rfl rfl H ?_
  refine tL 2 rfl rfl (fun _ h=>h.cell 0 rfl rfl) H ?_
  refine rtl 3 H ?_
  refine tF 4 rfl rfl H ?_
  refine tL 5 rfl rfl (fun _ h=>h.cell 0 rfl rfl) H ?_
  obtain ⟨Jj,Ie,acL,H⟩:=H.zW 12 rfl ((r.xe[k]!).qI) (((r.xe[k]!).qI).toNat) qf qf qf
  refine tI 6 rfl rfl rfl (H.pick [0,1,2] (zR 2 13)) (ro 7 rfl (x9 (Sv Jj ((ad[((r.xe[k]!).qI).toNat]!).length) Ie) isAgg24 rfl (H.xP 1 rfl 0 rfl) (⟨H.pick [0,1,2] (zR 2 13),(ro 8 rfl (oq (weigh_ok _ ((r.xe[k]!).Qa) (ad[((r.xe[k]!).qI).toNat]!) (H.get 2 rfl).1 (H.get 0 rfl).1 (by exact (gi qf).2)) H fun C1 H=>⟨H.pick [0,1,2] (zR 2 13),?_⟩))⟩)))
  have S:=H.jm [0,1,2] (zR 2 13)
  refine rt 9 _ (y_add (ownTo r ad k) (VO ((r.xe[k]!).Qa) (ad[((r.xe[k]!).qI).toNat]!)) rfl rfl (by ((have h8:=gb qf;have h9:=jU (gi qf).2;omega)))) S ?_
  refine rtl 10 S ?_
  refine xw qh (b_n (t_n (xJ (sw (zn k 1 rfl rfl (by (omega)) (sq 1 (xO (qX (m' :=(r.xe.length - ((k+1):Int)).toNat) qf ⟨_,_,k+1,uE7,?_,?_,rfl,N,H.pick [1,2] (zR 4 11)⟩))))))))
  ·exact ownTo_succ r ad k
  ·omega
 refine zx4 (zcr (sw (xU (yS s qG qE qO qN) isAgg27 sizeOf27 rfl (qF (H.cells 1 rfl) 0 3) (oF rfl (oL rfl (H.cell 0 rfl rfl) (sw (oc (possParents_ok _ s r.qI (H.get 2 rfl).1 (H.get 3 rfl).1 qg qg) ?_)))))))
 rintro _ Pz ⟨ahR,aze,ako,rfl,M,K⟩ _
 replace H:=H.merge K M
 obtain rfl:=H.jC 0 rfl
 refine sq 1 (zjcc (oF rfl (oL rfl (H.cell 1 rfl rfl) (sp (Bv ((r.qI:Int) == 0)) (zjn (cE rfl (fun DJ=>?_) (fun DJ=>?_)))))))
 ·refine xJ (sw (xU (yS s qG qE qO qN) isAgg27 sizeOf27 rfl (qF (H.cells 2 rfl) 0 3) (sw (oq (around_ok _ s (H.get 2 rfl).1 (H.get 3 rfl).1) H fun L8 H=>sw (zf H underlying24 ti2 [yI s.qA.length] fun b58 Hj H=>sq 1 (zjc (sw (vW H underlying24 ti2 fun C4 KY H=>sq 1 (zjcc (sq 1 (oN rfl (sp (yI 0) (zjn (qR ?_))))))))))))))
  replace H:=H.Xv 1 [s.qA.length] 1
  obtain ⟨G62,N,akn,H⟩:=H.zN 1 rfl N (H.jA [])
  have pe:=placeI_0 (s:=s) (c:=r.qI) ql
  rw [← pe] at H
  have pl:=congrArg List.length pe
  simp only [List.length_cons,List.length_nil] at pl
  have pa:=fun k h=>placeI_at p5 g6 (k:=k) h
  replace H:=H.Xv 0 [] 0
  refine zl ((fun Z0 Z1 Z2 Z3 Z4 Z5 Z6 Z7 Z8 Z9 bx bG dy fj ix=>fun m' ρ RU=>∃ (xE:Env) (jB:yOA) (vC:Nat) (jw:Nat) (out:yLI) (aq:Nat),ρ=upd (upd (upd (upd (upd (upd (upd xE 2 (Sv (aa b5 o6) ad.length aj)) 4 (pp b3 0)) 7 (yI (ownTo r ad k))) 11 (Sv jB vC jw)) 60 (Sv (aa b58 0) 1 1)) 61 (yI 1)) 62 (yI aq)/\out=(jy r ad ((jv s r.qI).take aq))/\((aq:Int)<=1)/\m' =(1 - (aq:Int)).toNat/\Fresh w.heap.size [G62]/\St w RU [rr jB vC jw 2 1 (out.map (Value.int .i64)),Z0,Z1,Z2] [Z3,Z4,Z5,Z6,Z7,Z8,Z9,bx,bG,dy,fj,ix]) _ _ _ _ _ _ _ _ _ _ _ _ _ _ _) ((1 - (0:Int)).toNat) ⟨_,(aa C4 0),0,0,([]:yLI),0,uE7,(by rfl),qf,rfl,N,H.pick [0,2,3,4] (zR 0 12)⟩ ?_
  clear H N
  rintro m' ρ Pm ⟨xE,jB,vC,jw,out,aq,rfl,rfl,i0,rfl,N,H⟩
  have bR:=H.jC 0 rfl
  have pk:=pa aq
  have po:=fun h=>jU (G.out (((jv s r.qI)[aq]!).toNat) (by have:=pk h;omega))
  have gl:=gains_len r ad ((jv s r.qI).take aq)
  have tl:=List.length_take_le aq (jv s r.qI)
  refine zcr (sp (Bv (decide ((aq:Int) < 1))) (zjn (xQ (cD rfl (fun h66=>?_) (fun h66=>?_)))))
  ·refine qV (t_n (xQ (qR (zcr (oI rfl rfl (oL rfl (H.zA 0 rfl aq qf) (sq 1 (zjn (yK rfl H [1,2,3] fun H=>?_)))))))))
   have S:=H.jm [1,2,3] (zR 0 12)
   refine rtl 0 S ?_
   refine rtl 1 S ?_
   refine tF 2 rfl rfl S ?_
   refine tL 3 rfl rfl (fun _ h=>h.cell 1 rfl rfl) S ?_
   refine rtl 4 S ?_
   refine rtl 5 S ?_
   obtain ⟨afr,ag8,arJ,H⟩:=H.zW 11 rfl ((jv s r.qI)[aq]!) (((jv s r.qI)[aq]!).toNat) qf qf qf
   refine tI 6 rfl rfl rfl (H.pick [1,2,3] (zR 2 12)) (ro 7 rfl (x9 (Sv afr ((ad[((jv s r.qI)[aq]!).toNat]!).length) ag8) isAgg24 rfl (H.xP 1 rfl 0 rfl) (⟨H.pick [1,2,3] (zR 2 12),(ro 8 rfl (oq (weigh_ok _ r.jX (ad[((jv s r.qI)[aq]!).toNat]!) (H.get 11 rfl).1 (H.get 0 rfl).1 (by exact G.out _ qf)) H fun w70 H=>⟨H.pick [1,2,3] (zR 2 12),?_⟩))⟩)))
   refine rt 9 _ (y_add (ownTo r ad k) (VO r.jX (ad[((jv s r.qI)[aq]!).toNat]!)) rfl rfl (by (omega))) (H.pick [1,2,3] (zR 2 12)) ?_
   refine ro 10 rfl (zf H underlying24 ti2 [yI ((ownTo r ad k)+(VO r.jX (ad[((jv s r.qI)[aq]!).toNat]!)))] fun b72 w73 H=>⟨H.pick [2,3,4] (zR 2 12),(ro 11 rfl (zo H 1 rfl 0 rfl underlying24 ti2 rfl qj rfl rfl rfl qw qp qf fun a74 c75 WR H=>?_))⟩)
   rw [snocI] at H
   refine ⟨H.pick [2,3,4] (zR 2 12),(rtl 12 (H.pick [2,3,4] (zR 2 12)) ?_)⟩
   refine xw qh (b_n (t_n (xJ (sw (zn aq 1 rfl rfl (by (omega)) (sq 1 (xO (qX (m' :=(1 - ((aq+1):Int)).toNat) qf ⟨_,_,_,_,_,aq+1,uE7,?_,?_,rfl,N,H.pick (zR 1 4) (zR 2 12)⟩))))))))
   ·exact gains_snoc qf (by rw [show k=r.xe.length by omega])
   ·omega
  refine zx4 (zcr (sq 2 (zjr (rH1 (Sv jB vC jw) H ?_))))
  rw [← take_all (l:=jv s r.qI) (k:=aq) qf]
  exact ⟨jB,vC,jw,rfl,(N.pick []),H.pick [0] []⟩
 refine qV (t_n (zcr (sw (vW H underlying24 ti2 fun ws WE H=>sq 1 (zjcc (sq 1 (oN rfl (sp (yI 0) (zjn (qR ?_))))))))))
 have pe:=placeI_1 (s:=s) (c:=r.qI) ql
 rw [← pe] at H ⊢
 have pl:=congrArg List.length pe
 have pa:=fun k h=>placeI_at p5 g6 (k:=k) h
 replace H:=H.Xv 0 [] 0
 refine zl ((fun Z0 Z1 Z2 Z3 Z4 Z5 Z6 Z7 Z8 Z9 bx bG dy fj=>fun m' ρ LL=>∃ (xE:Env) (jB:yOA) (vC:Nat) (jw:Nat) (out:yLI) (aq:Nat),ρ=upd (upd (upd (upd (upd (upd (upd xE 2 (Sv (aa b5 o6) ad.length aj)) 4 (pp b3 0)) 7 (yI (ownTo r ad k))) 11 (Sv jB vC jw)) 60 (Sv ahR ((jv s r.qI).length) ako)) 61 (yI ((jv s r.qI).length))) 62 (yI aq)/\out=(jy r ad ((jv s r.qI).take aq))/\((aq:Int)<=((jv s r.qI).length))/\m' =(((jv s r.qI).length) - (aq:Int)).toNat/\Fresh w.heap.size []/\St w LL [rr jB vC jw 2 1 (out.map (Value.int .i64)),Z0,Z1,Z2] [Z3,Z4,Z5,Z6,Z7,Z8,Z9,bx,bG,dy,fj]) _ _ _ _ _ _ _ _ _ _ _ _ _ _) ((((jv s r.qI).length) - (0:Int)).toNat) ⟨_,(aa ws 0),0,0,([]:yLI),0,uE7,(by rfl),qf,rfl,N,H⟩ ?_
 clear H N
 rintro m' ρ MS ⟨xE,jB,vC,jw,out,aq,rfl,rfl,i0,rfl,N,H⟩
 have bR:=H.jC 0 rfl
 have pk:=pa aq
 have po:=fun h=>jU (G.out (((jv s r.qI)[aq]!).toNat) (by have:=pk h;omega))
 have gl:=gains_len r ad ((jv s r.qI).take aq)
 have tl:=List.length_take_le aq (jv s r.qI)
 have pq:=placeI_len p5 r.qI
 refine zcr (sq 1 (zjn (xQ (cD rfl (fun h81=>?_) (fun h81=>?_)))))
 ·refine qV (t_n (xQ (qR (zcr ?_))))
  obtain ⟨b82,rfl⟩:=H.jK 1 rfl qf
  refine oI rfl rfl (oL rfl (H.QJ 1 rfl (iv:=aq) (i:=aq) qf qf) (sq 1 (zjn (yK rfl H [1,2,3] fun H=>?_))))
  have S:=H.jm [1,2,3] (zR 0 11)
  refine rtl 0 S ?_
  refine rtl 1 S ?_
  refine tF 2 rfl rfl S ?_
  refine tL 3 rfl rfl (fun _ h=>h.cell 1 rfl rfl) S ?_
  refine rtl 4 S ?_
  refine rtl 5 S ?_
  obtain ⟨ajW,ajv,avb,H⟩:=H.zW 10 rfl ((jv s r.qI)[aq]!) (((jv s r.qI)[aq]!).toNat) qf qf qf
  refine tI 6 rfl rfl rfl (H.pick [1,2,3] (zR 2 11)) (ro 7 rfl (x9 (Sv ajW ((ad[((jv s r.qI)[aq]!).toNat]!).length) ajv) isAgg24 rfl (H.xP 1 rfl 0 rfl) (⟨H.pick [1,2,3] (zR 2 11),(ro 8 rfl (oq (weigh_ok _ r.jX (ad[((jv s r.qI)[aq]!).toNat]!) (H.get 10 rfl).1 (H.get 0 rfl).1 (by exact G.out _ qf)) H fun w86 H=>⟨H.pick [1,2,3] (zR 2 11),?_⟩))⟩)))
  refine rt 9 _ (y_add (ownTo r ad k) (VO r.jX (ad[((jv s r.qI)[aq]!).toNat]!)) rfl rfl (by (omega))) (H.pick [1,2,3] (zR 2 11)) ?_
  refine ro 10 rfl (zf H underlying24 ti2 [yI ((ownTo r ad k)+(VO r.jX (ad[((jv s r.qI)[aq]!).toNat]!)))] fun b88 w89 H=>⟨H.pick [2,3,4] (zR 2 11),(ro 11 rfl (zo H 1 rfl 0 rfl underlying24 ti2 rfl qj rfl rfl rfl qw qp qf fun a90 c91 Yj H=>?_))⟩)
  rw [snocI] at H
  refine ⟨H.pick [2,3,4] (zR 2 11),(rtl 12 (H.pick [2,3,4] (zR 2 11)) ?_)⟩
  refine xw qh (b_n (t_n (xJ (sw (zn aq 1 rfl rfl (by (omega)) (sq 1 (xO (qX (m' :=(((jv s r.qI).length) - ((aq+1):Int)).toNat) qf ⟨_,_,_,_,_,aq+1,uE7,?_,?_,rfl,N,H.pick (zR 1 4) (zR 2 11)⟩))))))))
  ·exact gains_snoc qf (by rw [show k=r.xe.length by omega])
  ·omega
 refine zx4 (zcr (sq 2 (zjr (rH1 (Sv jB vC jw) H ?_))))
 rw [← take_all (l:=jv s r.qI) (k:=aq) qf]
 exact ⟨jB,vC,jw,rfl,N,H.pick [0] []⟩
theorem weightsCode_ok (w:World) (s:qC) (ad:yLL) (qP:zP w xk qG qE s.qA) (xm:zP w xW qO qN s.qB) (ap:zP w aK ao aj ad) (p0:ve s) (p1:WtOk s ad):Calls Tryz.prog 44 #[.agg #[yI s.xK,Sv qG s.qA.length qE,Sv qO s.qB.length qN],Sv ao ad.length aj] w (Ret (fun v w' =>v=yI 0) w):=by
 refine en func44 ntmps44 ?_
 have H:=(((St.start w).arg ap).arg xm).arg qP
 clear qP xm ap
 refine zcr (sw (zZ H (yS s qG qE qO qN) fun b1 w2 H=>sp (yI 0) (zjn (xQ (qR (zcr (sw (xU (yS s qG qE qO qN) isAgg27 sizeOf27 rfl (qF (H.cells 0 rfl) 0 3) (sw (oq (validSystem_ok _ s (H.get 0 rfl).1 (H.get 1 rfl).1) H fun w4 H=>sq 2 (zjn (zT _ rfl (fun h=>absurd p0 (zM (xB h))) (fun h6=>?_)))))))))))))
 replace h6:=xn h6
 replace h6:=yG h6
 refine zcr (sw (xU (yS s qG qE qO qN) isAgg27 sizeOf27 rfl (qF (H.cells 0 rfl) 0 3) (sq 1 (sw (oq (areWeights_ok _ s ad (H.get 0 rfl).1 (H.get 1 rfl).1 (H.get 2 rfl).1 qg qg) H fun w8 H=>sp (Bv !true) (sp (Bv !true) (zjn (zT _ rfl (fun h=>Bool.noConfusion (xB h)) (fun aZ=>?_)))))))))
 replace aZ:=xn aZ
 refine qV (b_n (t_n (zcr (sp (yI 0) (zjr (rH1 (yI 0) H ?_))))))
 rfl
theorem isPotential_ok (w:World) (s:qC) (ad:yLL) (qP:zP w xk qG qE s.qA) (xm:zP w xW qO qN s.qB) (ap:zP w aK ao aj ad) (p0:ve s) (p2:WtOk s ad):Calls Tryz.prog 9 #[.agg #[yI s.xK,Sv qG s.qA.length qE,Sv qO s.qB.length qN],Sv ao ad.length aj] w (Ret (fun v w' =>v=.tuple #[Bv (dec (Falls s ad)),yI 0]) w):=by
 refine en func9 ntmps9 ?_
 have H:=(((St.start w).arg ap).arg xm).arg qP
 have zB:=qM qP
 have vP:=qM xm
 have da:=qM ap
 clear qP xm ap
 have N:=Fresh.nil w.heap.size
 have p3:=p2.len
 have p4:=p0.1.2.1
 have p5:=p0.1
 have p6:=p0.2.1
 have p7:=p0.1.1
 refine zcr (sw (zZ H (yS s qG qE qO qN) fun b1 w2 H=>sp (Bv false) (sp (yI 0) (zjcc (sw (xU (yS s qG qE qO qN) isAgg27 sizeOf27 rfl (qF (H.cells 0 rfl) 0 3) (sq 1 (sw (oq (weightsCode_ok _ s ad (H.get 0 rfl).1 (H.get 1 rfl).1 (H.get 2 rfl).1 qg qg) H fun w4 H=>sp (yI 0) (zjc (sp (yI 0) (sp (Bv false) (zjn (cFr rfl (qV (t_n (zcc (sq 1 (oN rfl (sp (yI 0) (zjn (qR (zl ((fun Z0 Z1 Z2 Z3=>fun m' ρ w6=>∃ (xE:Env) (k:Nat),ρ=upd (upd (upd (upd (upd xE 1 (Sv ao ad.length aj)) 2 (pp b1 0)) 15 (Sv ao ad.length aj)) 16 (yI ad.length)) 17 (yI k)/\((k:Int)<=ad.length)/\m' =(ad.length - (k:Int)).toNat/\Fresh w.heap.size []/\St w w6 [Z0] [Z1,Z2,Z3]) _ _ _ _) ((ad.length - (0:Int)).toNat) ⟨_,0,uE5,qf,rfl,N,H⟩ ?_)))))))))))))))))))))))
 clear H N
 rintro m' ρ w7 ⟨xE,k,rfl,i0,rfl,N,H⟩
 have MJ:=fun h=>wt_in p2 (c:=k) h
 refine zcr (sq 1 (zjn (xQ (cD rfl (fun h8=>?_) (fun h8=>?_)))))
 ·refine qV (t_n (xQ (qR (zcr ?_))))
  obtain ⟨b9,Tb,rfl⟩:=H.addr 2 rfl qf
  obtain ⟨ayR,asH,ayW,H⟩:=H.zW 2 rfl k k qf qf qf
  refine oI rfl rfl (oL rfl (H.xP 1 rfl 0 rfl) (sq 1 (zjc (sq 1 ?_))))
  have r1:=(MJ qf).1
  refine sw (oq (minI_ok _ (ad[k]!) (H.get 0 rfl).1 qg) H fun Et H=>sp (Bv (decide ((minL (ad[k]!):Int) < 0))) (zjn (cD rfl (fun GX=>?_) (fun GX=>?_))))
  ·refine zcr (sp (Bv false) (sp (yI 0) (zjr (zr5 (ret2 (Bv false) (yI 0) rfl rfl rfl ⟨_,rfl,?_,H.base⟩)))))
   (exfalso;exact (minL_neg qf).1 ‹minL _ < 0› (fun k hk=>((MJ qf).2 k hk).1))
  refine qV (b_n (t_n (xJ (sw (zn k 1 rfl rfl qf (sq 1 (xO (qX (m' :=(ad.length - ((k+1):Int)).toNat) qf ⟨_,k+1,uE5,?_,rfl,N,H.pick [0] [2,3,4]⟩))))))))
  ·omega
 refine zx4 (zcr (sw (xU (yS s qG qE qO qN) isAgg27 sizeOf27 rfl (qF (H.cells 0 rfl) 0 3) (sq 1 (sw (zQ #[.agg #[yI s.xK,Sv qG s.qA.length qE,Sv qO s.qB.length qN],Sv ao ad.length aj,.func (.func 49) #[] #[],.func (.func 50) #[] #[]] rfl rfl call45 (en func45 ntmps45 ?_)))))))
 refine zcr (sw (zZ H (yS s qG qE qO qN) fun Q0 Dn H=>sp (Bv false) (zjcc (oF rfl (oL rfl (H.cell 0 rfl rfl) (oN rfl (sp (yI 0) (zjn (qR (zl ((fun Z0 Z1 Z2 Z3 Z4=>fun m' ρ s0=>∃ (xE:Env) (aq:Nat),ρ=upd (upd (upd (upd (upd (upd (upd xE 1 (Sv ao ad.length aj)) 2 (.func (.func 49) #[] #[])) 3 (.func (.func 50) #[] #[])) 4 (pp Q0 0)) 19 (Sv qO s.qB.length qN)) 20 (yI s.qB.length)) 21 (yI aq)/\((aq:Int)<=s.qB.length)/\(GainsTo s ad aq)/\m' =(s.qB.length - (aq:Int)).toNat/\Fresh w.heap.size []/\St w s0 [Z0,Z1] [Z2,Z3,Z4]) _ _ _ _ _) ((s.qB.length - (0:Int)).toNat) ⟨_,0,uE7,qf,(by exact GainsTo.zero s ad),rfl,N,H⟩ ?_))))))))))
 clear H N
 rintro m' ρ rO ⟨xE,aq,rfl,i0,i1,rfl,N,H⟩
 refine zcr (sq 1 (zjn (xQ (cD rfl (fun lN=>?_) (fun lN=>?_)))))
 ·refine qV (t_n (xQ (qR (zcr ?_))))
  obtain ⟨fH,JX,rfl⟩:=H.addr 1 rfl qf
  obtain ⟨lT,mX,Gg,mZ,lH,D6,l8,ng,EW,lE,mH,E9,pc,o0,I7,mi,ms,Ec,H⟩:=H.jZ 1 rfl aq aq qf qf qf
  refine oI rfl rfl (sw (xU [yI ((s.qB[aq]!).qI),yI ((s.qB[aq]!).jG),Sv lT (((s.qB[aq]!).zk).length) mX,Sv mZ (((s.qB[aq]!).vk).length) lH,Sv l8 (((s.qB[aq]!).vw).length) ng,Sv lE (((s.qB[aq]!).zS).length) mH,Sv pc (((s.qB[aq]!).jX).length) o0,Sv mi (((s.qB[aq]!).xe).length) ms,Bv ((s.qB[aq]!).vg)] isAgg70 sizeOf70 rfl (qF (H.get 6 rfl) 0 9) (sw (xq H ti70 [yI 0,yI 0,yN,yN,yN,yN,yN,yN,Bv false] fun Rz Ge H=>(sw (xY H 0 [yI ((s.qB[aq]!).qI),yI ((s.qB[aq]!).jG),Sv lT (((s.qB[aq]!).zk).length) mX,Sv mZ (((s.qB[aq]!).vk).length) lH,Sv l8 (((s.qB[aq]!).vw).length) ng,Sv lE (((s.qB[aq]!).zS).length) mH,Sv pc (((s.qB[aq]!).jX).length) o0,Sv mi (((s.qB[aq]!).xe).length) ms,Bv ((s.qB[aq]!).vg)] sizeOf70 fun FG H=>zjc (sw (xU [yI s.xK,Sv qG s.qA.length qE,Sv (aa fH JX) s.qB.length qN] isAgg27 sizeOf27 rfl (qF (H.cells 1 rfl) 0 3) (sw (xU [yI ((s.qB[aq]!).qI),yI ((s.qB[aq]!).jG),Sv lT (((s.qB[aq]!).zk).length) mX,Sv mZ (((s.qB[aq]!).vk).length) lH,Sv l8 (((s.qB[aq]!).vw).length) ng,Sv lE (((s.qB[aq]!).zS).length) mH,Sv pc (((s.qB[aq]!).jX).length) o0,Sv mi (((s.qB[aq]!).xe).length) ms,Bv ((s.qB[aq]!).vg)] isAgg70 sizeOf70 rfl (qF (H.cells 0 rfl) 0 9) (sq 1 ?_)))))))))))
  have q:=p0.rule (i:=aq) qf
  refine sw (oc (gains_ok _ s (s.qB[aq]!) ad (H.get 7 rfl).1 (H.get 8 rfl).1 (H.get 0 rfl).1 (H.get 1 rfl).1 (H.get 2 rfl).1 (H.get 3 rfl).1 (H.get 4 rfl).1 (H.get 5 rfl).1 (H.get 9 rfl).1 qg qg qg) ?_)
  rintro _ AP ⟨amh,Wc,akf,rfl,M,K⟩ _
  replace H:=H.merge K M
  obtain rfl:=H.jC 0 rfl
  refine oN rfl (sp (yI 0) (zjn (qR (zl ((fun Z0 Z1 Z2 Z3 Z4 Z5 Z6 Z7 Z8 Z9 bx bG dy fj=>fun m' ρ Dr=>∃ (xE:Env) (ay:Nat),ρ=upd (upd (upd (upd (upd (upd (upd (upd (upd (upd xE 1 (Sv ao ad.length aj)) 2 (.func (.func 49) #[] #[])) 3 (.func (.func 50) #[] #[])) 4 (pp Q0 0)) 19 (Sv (aa fH JX) s.qB.length qN)) 20 (yI s.qB.length)) 21 (yI aq)) 28 (Sv amh ((jy (s.qB[aq]!) ad (jv s (s.qB[aq]!).qI)).length) akf)) 29 (yI ((jy (s.qB[aq]!) ad (jv s (s.qB[aq]!).qI)).length))) 30 (yI ay)/\((ay:Int)<=((jy (s.qB[aq]!) ad (jv s (s.qB[aq]!).qI)).length))/\(NegTo (jy (s.qB[aq]!) ad (jv s (s.qB[aq]!).qI)) ay)/\m' =(((jy (s.qB[aq]!) ad (jv s (s.qB[aq]!).qI)).length) - (ay:Int)).toNat/\Fresh w.heap.size []/\St w Dr [Z0,Z1,Z2,Z3] [Z4,Z5,Z6,Z7,Z8,Z9,bx,bG,dy,fj]) _ _ _ _ _ _ _ _ _ _ _ _ _ _) ((((jy (s.qB[aq]!) ad (jv s (s.qB[aq]!).qI)).length) - (0:Int)).toNat) ⟨_,0,uE10,qf,qx,rfl,N,H⟩ ?_))))
  clear H N
  rintro m' ρ Ks ⟨xE,ay,rfl,i0,i2,rfl,N,H⟩
  have gl:=gains_len (s.qB[aq]!) ad (jv s (s.qB[aq]!).qI)
  have pq:=placeI_len p5 (s.qB[aq]!).qI
  refine zcr (sq 1 (zjn (xQ (cD rfl (fun uF=>?_) (fun uF=>?_)))))
  ·refine qV (t_n (xQ (qR (zcr ?_))))
   obtain ⟨nm,rfl⟩:=H.jK 0 rfl qf
   refine oI rfl rfl (oL rfl (H.QJ 0 rfl (iv:=ay) (i:=ay) qf qf) (sq 1 (zjc (sp (.func (.func 49) #[] #[]) (sq 1 (sw (zQ #[yI ((jy (s.qB[aq]!) ad (jv s (s.qB[aq]!).qI))[ay]!)] rfl rfl call49 (en func49 ntmps49 ?_))))))))
   refine zcr (sp (Bv false) (zjc (sq 1 (sp (Bv (decide (((jy (s.qB[aq]!) ad (jv s (s.qB[aq]!).qI))[ay]! :Int) < 0))) (sp (Bv (decide (((jy (s.qB[aq]!) ad (jv s (s.qB[aq]!).qI))[ay]! :Int) < 0))) (zjr (ret1 (Bv (decide (((jy (s.qB[aq]!) ad (jv s (s.qB[aq]!).qI))[ay]! :Int) < 0))) rfl rfl ⟨_,rfl,(sp (Bv (!(decide (((jy (s.qB[aq]!) ad (jv s (s.qB[aq]!).qI))[ay]! :Int) < 0)))) (zjn ?_))⟩)))))))
   refine zT (!(decide (((jy (s.qB[aq]!) ad (jv s (s.qB[aq]!).qI))[ay]! :Int) < 0))) rfl (fun tm=>?_) (fun tm=>?_)
   ·replace tm:=xB tm
    replace tm:=of_decide_eq_false tm
    refine zcr (sp (Bv false) (zjr (b_r (t_r (t_r (b_r (zr5 (ret1 (Bv false) rfl rfl ⟨_,rfl,?_⟩))))))))
    replace H:=H.erases [2,1,0]
    dsimp only [vz,List.eraseIdx] at H
    refine sp (Bv false) (sp (yI 0) (zjr (ret2 (Bv false) (yI 0) rfl rfl rfl ⟨_,rfl,?_,H.base⟩)))
    rw [xh (neg_no (i:=aq) (k:=ay) (l:=jv s (s.qB[aq]!).qI) qf (fun x=>VI) qf qf)]
   replace tm:=xn tm
   replace tm:=of_decide_eq_true tm
   refine qV (b_n (t_n (xJ (sw (zn ay 1 rfl rfl qf (sq 1 (xO (qX (m' :=(((jy (s.qB[aq]!) ad (jv s (s.qB[aq]!).qI)).length) - ((ay+1):Int)).toNat) qf ⟨_,ay+1,uE10,?_,?_,rfl,N,H⟩))))))))
   ·omega
   ·exact i2.succ qf
  refine Qx (t_x (t_x (b_x (b_n (t_n (xJ (sw (zn aq 1 rfl rfl qf (sq 1 (xO (qX (m' :=(s.qB.length - ((aq+1):Int)).toNat) qf ⟨_,aq+1,uE7,?_,?_,rfl,N,H.pick [2,3] [7,8,9]⟩)))))))))))
  ·omega
  ·exact i1.succ ((neg_iff (fun x=>VI)).1 (fun j hj=>i2 j qf))
 refine zx4 (zcc (oF rfl (oL rfl (H.cell 0 rfl rfl) (sw (oq (sizeI_ok _ s.qA (H.get 0 rfl).1) H fun w40 H=>sp (yI 0) (zjn (qR (zl ((fun Z0 Z1 Z2 Z3 Z4=>fun m' ρ wR=>∃ (xE:Env) (c:Nat),ρ=upd (upd (upd (upd (upd xE 1 (Sv ao ad.length aj)) 3 (.func (.func 50) #[] #[])) 4 (pp Q0 0)) 42 (yI (s.qA.length:Int))) 43 (yI c)/\((c:Int)<=(s.qA.length:Int))/\(MeltsGe s ad c)/\m' =((s.qA.length:Int) - (c:Int)).toNat/\Fresh w.heap.size []/\St w wR [Z0,Z1] [Z2,Z3,Z4]) _ _ _ _ _) (((s.qA.length:Int) - (0:Int)).toNat) ⟨_,0,uE5,qf,(by exact fun c hc=>by omega),rfl,N,H⟩ ?_))))))))
 clear H N
 rintro m' ρ Df ⟨xE,c,rfl,i0,i3,rfl,N,H⟩
 refine zcr (sq 1 (zjn (xQ (cD rfl (fun Hf=>?_) (fun Hf=>?_)))))
 ·refine qV (t_n (xQ (qR (zcr (sp (yI c) (sp (yI c) (zjcc (sw (xU (yS s qG qE qO qN) isAgg27 sizeOf27 rfl (qF (H.cells 0 rfl) 0 3) (sp (yI c) (sw (oq (canMelt_ok _ s c (H.get 0 rfl).1 (H.get 1 rfl).1) H fun C1 H=>sq 1 (zjn (cQ rfl (fun oW=>?_) (fun oW=>?_)))))))))))))))
  ·refine Qx (t_x (b_x (t_n (xJ (sw (zn c 1 rfl rfl qf (sq 1 (xO (qX (m' :=((s.qA.length:Int) - ((c+1):Int)).toNat) qf ⟨_,c+1,uE5,?_,?_,rfl,N,H⟩)))))))))
   ·omega
   ·exact i3.succ (fun h=>absurd h ql)
  refine qV (t_n (zcr (sw (xU (yS s qG qE qO qN) isAgg27 sizeOf27 rfl (qF (H.cells 0 rfl) 0 3) (sp (yI c) (sw (oc (possParents_ok _ s c (H.get 0 rfl).1 (H.get 1 rfl).1 qg qg) ?_)))))))
  rintro _ HC ⟨C2,aeD,wI,rfl,M,K⟩ _
  replace H:=H.merge K M
  obtain rfl:=H.jC 0 rfl
  refine oN rfl (sp (yI 0) (zjn (qR (zl ((fun Z0 Z1 Z2 Z3 Z4 Z5=>fun m' ρ Hz=>∃ (xE:Env) (ay:Nat),ρ=upd (upd (upd (upd (upd (upd (upd (upd (upd xE 1 (Sv ao ad.length aj)) 3 (.func (.func 50) #[] #[])) 4 (pp Q0 0)) 13 (yI c)) 42 (yI (s.qA.length:Int))) 43 (yI c)) 52 (Sv C2 ((Qz s c).length) wI)) 53 (yI ((Qz s c).length))) 54 (yI ay)/\((ay:Int)<=((Qz s c).length))/\(GeTo ad (Qz s (c:Int)) (c:Int) ay)/\m' =(((Qz s c).length) - (ay:Int)).toNat/\Fresh w.heap.size []/\St w Hz [Z0,Z1,Z2] [Z3,Z4,Z5]) _ _ _ _ _ _) ((((Qz s c).length) - (0:Int)).toNat) ⟨_,0,uE9,qf,qx,rfl,N,H⟩ ?_))))
  clear H N
  rintro m' ρ L8 ⟨xE,ay,rfl,i0,i5,rfl,N,H⟩
  have pk:=fun h=>poss_in p5 (c:=(c:Int)) ⟨by omega,by omega⟩ (k:=ay) h
  have pq:=possL_len p5 (c:Int)
  refine zcr (sq 1 (zjn (xQ (cD rfl (fun De=>?_) (fun De=>?_)))))
  ·refine qV (t_n (xQ (qR (zcr ?_))))
   obtain ⟨b58,rfl⟩:=H.jK 0 rfl qf
   refine oI rfl rfl (oL rfl (H.QJ 0 rfl (iv:=ay) (i:=ay) qf qf) (sq 1 (zjc (sq 1 (sp (yI c) ?_)))))
   obtain ⟨ZG,o60,rfl⟩:=H.addr 2 rfl qf
   obtain ⟨CR,Cb,Nt,H⟩:=H.zW 2 rfl c c qf qf qf
   refine oI rfl rfl (oL rfl (H.xP 1 rfl 0 rfl) (oN rfl (sp (yI 0) (zjn (qR (zl ((fun Z0 Z1 Z2 Z3 Z4 Z5 Z6 Z7=>fun m' ρ w63=>∃ (xE:Env) (cq:Nat),ρ=upd (upd (upd (upd (upd (upd (upd (upd (upd (upd (upd (upd (upd xE 1 (Sv (aa ZG o60) ad.length aj)) 3 (.func (.func 50) #[] #[])) 4 (pp Q0 0)) 13 (yI c)) 15 (yI ((Qz s c)[ay]!))) 42 (yI (s.qA.length:Int))) 43 (yI c)) 52 (Sv (aa b58 0) ((Qz s c).length) wI)) 53 (yI ((Qz s c).length))) 54 (yI ay)) 61 (Sv CR ((ad[c]!).length) Cb)) 62 (yI ((ad[c]!).length))) 63 (yI cq)/\((cq:Int)<=((ad[c]!).length))/\(Vw (ad[((Qz s (c:Int))[ay]!).toNat]!) (ad[c]!) cq)/\m' =(((ad[c]!).length) - (cq:Int)).toNat/\Fresh w.heap.size []/\St w w63 [Z0,Z1,Z2] [Z3,Z4,Z5,Z6,Z7]) _ _ _ _ _ _ _ _) ((((ad[c]!).length) - (0:Int)).toNat) ⟨_,0,uE13,qf,(by exact withinTo_zero _ _),rfl,N,H⟩ ?_))))))
   clear H N
   rintro m' ρ RU ⟨xE,cq,rfl,i0,i6,rfl,N,H⟩
   refine zcr (sq 1 (zjn (xQ (cD rfl (fun h65=>?_) (fun h65=>?_)))))
   ·have pz:=pk qf
    have pz1:=pz.1
    have e1:=(wt_in p2 (c:=((Qz s (c:Int))[ay]!).toNat) qf).1
    have e2:=(wt_in p2 (c:=c) qf).1
    refine qV (t_n (xQ (qR (zcr (sq 1 ?_)))))
    obtain ⟨b66,o67,rfl⟩:=H.addr 0 rfl qf
    refine oI rfl rfl (oL rfl (H.zA 0 rfl cq qf) (sq 2 (zjc (sp (.func (.func 50) #[] #[]) (sq 3 ?_)))))
    obtain ⟨ayF,avB,ays,H⟩:=H.zW 4 rfl ((Qz s c)[ay]!) (((Qz s c)[ay]!).toNat) qf qf qf
    refine oI rfl rfl (oL rfl (H.xP 1 rfl 0 rfl) (sq 1 ?_))
    obtain ⟨Mg,o71,rfl⟩:=H.addr 0 rfl qf
    refine oI rfl rfl (oL rfl (H.zA 0 rfl cq qf) (sw (zQ #[yI ((ad[c]!)[cq]!),yI ((ad[((Qz s c)[ay]!).toNat]!)[cq]!)] rfl rfl call50 (en func50 ntmps50 ?_))))
    refine zcr (sp (Bv false) (zjc (sq 4 (zjr (ret1 (Bv (decide (((ad[c]!)[cq]! :Int)>=((ad[((Qz s c)[ay]!).toNat]!)[cq]!)))) rfl rfl ⟨_,rfl,(sq 1 (zjn ?_))⟩)))))
    refine zT _ rfl (fun D7=>?_) (fun D7=>?_)
    ·replace D7:=xB D7
     replace D7:=of_decide_eq_false D7
     refine zcr (sp (Bv false) (zjr (b_r (t_r (t_r (b_r (b_r (t_r (t_r (b_r (zr5 (ret1 (Bv false) rfl rfl ⟨_,rfl,?_⟩))))))))))))
     replace H:=H.erases [1,0]
     dsimp only [vz,List.eraseIdx] at H
     refine sp (Bv false) (sp (yI 0) (zjr (ret2 (Bv false) (yI 0) rfl rfl rfl ⟨_,rfl,?_,H.base⟩)))
     rw [xh (ge_no2 (c:=c) (k:=ay) (j:=cq) (l:=(Qz s (c:Int))) qf (fun x=>mem_poss) qf ql qf qf)]
    replace D7:=xn D7
    replace D7:=of_decide_eq_true D7
    refine qV (b_n (t_n (xJ (sw (zn cq 1 rfl rfl qf (sq 1 (xO (qX (m' :=(((ad[c]!).length) - ((cq+1):Int)).toNat) qf ⟨_,cq+1,uE13,?_,?_,rfl,N,H.pick [0,1,2] (zR 2 5)⟩))))))))
    ·omega
    ·exact withinTo_succ i6 qf
   have pz:=pk qf
   have e1:=(wt_in p2 (c:=((Qz s (c:Int))[ay]!).toNat) qf).1
   have e2:=(wt_in p2 (c:=c) qf).1
   refine Qx (t_x (t_x (b_x (b_n (t_n (xJ (sw (zn ay 1 rfl rfl qf (sq 1 (xO (qX (m' :=(((Qz s c).length) - ((ay+1):Int)).toNat) qf ⟨_,ay+1,uE9,?_,?_,rfl,N,H.pick [0,1,2] [2,3,4]⟩)))))))))))
   ·omega
   ·exact i5.go (n:=cq) qf i6
  refine Qx (t_x (t_x (b_x (b_n (t_n (xJ (sw (zn c 1 rfl rfl qf (sq 1 (xO (qX (m' :=((s.qA.length:Int) - ((c+1):Int)).toNat) qf ⟨_,c+1,uE5,?_,?_,rfl,N,H.pick [1,2] [0,1,2]⟩)))))))))))
  ·omega
  ·exact i3.succ ((ge_iff (fun x=>mem_poss)).1 (fun _ j hj=>i5 j qf))
 refine zx4 (zcr (sp (Bv true) (zjr (ret1 (Bv true) rfl rfl ⟨_,rfl,?_⟩))))
 replace H:=H.erases [0]
 dsimp only [vz,List.eraseIdx] at H
 refine sp (Bv true) (sp (yI 0) (zjr (ret2 (Bv true) (yI 0) rfl rfl rfl ⟨_,rfl,?_,H.base⟩)))
 rw [jH ⟨fun j hj=>i1 j qf,fun j hj=>i3 j qf⟩]
theorem implBound_ok (w:World) (s:qC) (t:qH) (ad:yLL) (qP:zP w xk qG qE s.qA) (xm:zP w xW qO qN s.qB) (zi:zP w zD xg xf t.qK) (zI:zP w vF xI xG t.qQ) (xM:zP w zh qZ qY t.qL) (ap:zP w aK ao aj ad) (p0:ve s/\xZ s t) (p1:WtOk s ad):Calls Tryz.prog 10 #[.agg #[yI s.xK,Sv qG s.qA.length qE,Sv qO s.qB.length qN],.agg #[Sv xg t.qK.length xf,Sv xI t.qQ.length xG,Sv qZ t.qL.length qY],Sv ao ad.length aj] w (Ret (fun v w' =>v=.tuple #[yI (bndV s t ad),yI (bndC s ad)]) w):=by
 refine en func10 ntmps10 ?_
 have H:=((((((St.start w).arg ap).arg xM).arg zI).arg zi).arg xm).arg qP
 clear qP xm zi zI xM ap
 have k1:=p0.1
 have Z:=wtSt p0.1 p1 p0.2
 refine zcr (sw (zZ H (yS s qG qE qO qN) fun b1 w2 H=>sw (zZ H (yT t xg xf xI xG qZ qY) fun b3 w4 H=>sp (yI 0) (sp (yI 0) (zjcc (sw (xU (yS s qG qE qO qN) isAgg27 sizeOf27 rfl (qF (H.cells 1 rfl) 0 3) (sw (xU (yT t xg xf xI xG qZ qY) isAgg31 sizeOf31 rfl (qF (H.cells 0 rfl) 0 3) (sw (oq (validState_ok _ s t (H.get 0 rfl).1 (H.get 1 rfl).1 (H.get 2 rfl).1 (H.get 3 rfl).1 (H.get 4 rfl).1) H fun w6 H=>sq 1 (zjn (zT _ rfl (fun h=>absurd p0 (zM (xB h))) (fun h8=>?_))))))))))))))
 replace h8:=xn h8
 replace h8:=yG h8
 refine qV (t_n (zcr (sw (xU (yS s qG qE qO qN) isAgg27 sizeOf27 rfl (qF (H.cells 1 rfl) 0 3) (sq 1 (sw (oq (isPotential_ok _ s ad (H.get 0 rfl).1 (H.get 1 rfl).1 (H.get 5 rfl).1 qg qg) H fun nq H=>sq 2 (sp (yI 0) (sq 1 (sp (yI 0) (zjcc (sp (yI 0) (sp (Bv true) (sp (Bv true) (qJ 22 rfl rfl (sq 1 (qJ 22 rfl rfl (sq 2 (zjn (cQ rfl (fun db=>?_) (fun db=>?_)))))))))))))))))))))
 ·refine xJ (sp (yI 8) (zjcc (sp (yI 8) (sp (Bv true) (zjn (cTr rfl (zcr (sp (yI 8) (sp (yI 0) (sp (yI 8) (zjr (t_r (ret2 (yI 0) (yI 8) rfl rfl rfl ⟨_,rfl,?_,H.base⟩)))))))))))))
  rw [(bnd_no (t:=t) ql).1,(bnd_no (t:=t) ql).2]
 refine qV (t_n (zcc (sp (yI 0) (sp (Bv false) (zjn (cFr rfl (qV (t_n (zcr (sw (xU (yT t xg xf xI xG qZ qY) isAgg31 sizeOf31 rfl (qF (H.cells 0 rfl) 0 3) (sq 1 (sw (oq (weighState_ok _ t ad (H.get 2 rfl).1 (H.get 3 rfl).1 (H.get 4 rfl).1 (H.get 5 rfl).1 qg) H fun Et H=>sq 1 (sp (yI 0) (zjr (ret2 (yI (weight t ad)) (yI 0) rfl rfl rfl ⟨_,rfl,?_,H.base⟩)))))))))))))))))
 rw [(bnd_yes (t:=t) ql).1,(bnd_yes (t:=t) ql).2]
end
section
def GainZ (s:qC) (w:yLL) (i:Nat):Prop:=∀ p∈places s (s.qB[i]!).qI,gain (s.qB[i]!) w p=0
def MeltEq (s:qC) (w:yLL) (c:Int):Prop:=yP s c->∀ p∈chain s s.qA.length (s.qA[c.toNat]!),w[c.toNat]! =w[p.toNat]!
def GainsZ (s:qC) (w:yLL) (k:Nat):Prop:=∀ i,i < k->GainZ s w i
def MeltsEq (s:qC) (w:yLL) (k:Nat):Prop:=∀ c:Nat,c < k->MeltEq s w (c:Int)
def Keeps (s:qC) (w:yLL):Prop:=GainsZ s w s.qB.length/\MeltsEq s w s.qA.length
theorem GainsZ.zero (s:qC) (w:yLL):GainsZ s w 0:=fun i hi=>by omega
theorem GainsZ.succ (h:GainsZ s w k) (h1:GainZ s w k):GainsZ s w (k+1):=fun i hi=>by
 by_cases e:i=k
 ·subst e;exact h1
 ·exact h i qf
theorem MeltsEq.succ (h:MeltsEq s w k) (h1:MeltEq s w (k:Int)):MeltsEq s w (k+1):=fun c hc=>by
 by_cases e:c=k
 ·subst e;exact h1
 ·exact h c qf
theorem meltsEq_1 (hs:ve s) (w:yLL):MeltsEq s w 1:=fun c hc h=>by
 obtain rfl:c=0:=by omega
 exact absurd h (mayMelt_skin hs)
def ZeroTo (l:yLI) (k:Nat):Prop:=∀ j,j < k->l[j]! =0
theorem ZeroTo.succ (h:ZeroTo l k) (h1:l[k]! =0):ZeroTo l (k+1):=fun j hj=>by
 by_cases e:j=k
 ·subst e;exact h1
 ·exact h j qf
theorem zero_iff {m:yLI} (hm:∀ x,x∈l<->x∈m):ZeroTo (jy r w l) (jy r w l).length<->∀ p∈m,gain r w p=0:=by
 constructor
 ·intro h p hp
  obtain ⟨k,hk,e⟩:=List.mem_iff_getElem.1 ((hm p).2 hp)
  have:=h k (by simpa [jy] using hk)
  rw [getElem!_pos _ k (by simpa [jy] using hk)] at this
  simpa [jy,e] using this
 ·intro h j hj
  have rd :j < l.length:=by simpa [jy] using hj
  rw [getElem!_pos _ j hj]
  simp only [jy,List.getElem_map]
  exact h _ ((hm _).1 (List.getElem_mem rd))
def EqL (w:yLL) (l:yLI) (c:Int) (k:Nat):Prop:=∀ j,j < k->w[c.toNat]! =w[(l[j]!).toNat]!
theorem EqL.succ (h:EqL w l c k) (h1:w[c.toNat]! =w[(l[k]!).toNat]!):EqL w l c (k+1):=fun j hj=>by
 by_cases e:j=k
 ·subst e;exact h1
 ·exact h j qf
theorem keq_iff (hl:∀ x,x∈l<->x∈chain s s.qA.length (s.qA[c.toNat]!)):(yP s c->EqL w l c l.length)<->MeltEq s w c:=by
 constructor
 ·intro h hm p hp
  obtain ⟨k,hk,e⟩:=List.mem_iff_getElem.1 ((hl p).2 hp)
  have:=h hm k hk
  rw [getElem!_pos l k hk,e] at this
  exact this
 ·intro h hm j hj
  refine h hm _ ((hl _).1 ?_)
  rw [getElem!_pos l j hj];exact List.getElem_mem hj
theorem zero_no (hi:i < s.qB.length) (hl:∀ x,x∈l<->x∈places s (s.qB[i]!).qI) (hk:k < (jy (s.qB[i]!) w l).length) (h1:¬ (jy (s.qB[i]!) w l)[k]! =0):¬ Keeps s w:=fun h=>h1 ((zero_iff hl).2 (h.1 i hi) k hk)
theorem keq_no {c:Nat} (hc:c < s.qA.length) (hl:∀ x,x∈l<->x∈chain s s.qA.length (s.qA[c]!)) (hk:k < l.length) (hm:yP s (c:Int)) (h1:¬ w[c]! =w[(l[k]!).toNat]!):¬ Keeps s w:=fun h=>
 h1 (h.2 c hc hm (l[k]!) ((hl _).1 (by rw [getElem!_pos l k hk];exact List.getElem_mem hk)))
theorem keq_no2 {c:Nat} (hc:c < s.qA.length) (hl:∀ x,x∈l<->x∈chain s s.qA.length (s.qA[c]!)) (hk:k < l.length) (hm:yP s (c:Int)) (h1:¬ (w[c]!)[j]! =(w[(l[k]!).toNat]!)[j]!):¬ Keeps s w:=
 keq_no hc hl hk hm fun e=>h1 (by rw [e])
end
section
variable {qE qN aj : Nat}
theorem l04Asked_ok (w:World) (s:qC) (ad:yLL) {bs os:Nat} (hs:vY w bs os (yS s qG qE qO qN)) (qP:zP w xk qG qE s.qA) (xm:zP w xW qO qN s.qB) (ap:zP w aK ao aj ad) (p0:ve s) (p1:WtOk s ad):Calls Tryz.prog 54 #[pp bs os,Sv ao ad.length aj] w (Ret (fun v w' =>v=yI 0) w):=by
 refine en func54 ntmps54 ?_
 have H:=((((St.start w).arg ap).arg xm).arg qP).Xr hs
 clear hs qP xm ap
 refine zcr (sp (yI 0) (zjcc (sq 1 (sw (oq (l02Ok_ok _ s (qF (H.get 0 rfl) 0 3) (H.get 1 rfl).1 (H.get 2 rfl).1) H fun w1 H=>sq 1 (zjn (zT _ rfl (fun h=>absurd p0 (zM (xB h))) (fun h3=>?_))))))))
 replace h3:=xn h3
 replace h3:=yG h3
 refine qV (t_n (zcc (sq 2 (sw (oq (l02Weights_ok _ s ad (qF (H.get 0 rfl) 0 3) (H.get 1 rfl).1 (H.get 2 rfl).1 (H.get 3 rfl).1 qg qg) H fun w5 H=>sp (Bv !true) (zjn (zT _ rfl (fun h=>Bool.noConfusion (xB h)) (fun h7=>?_))))))))
 replace h7:=xn h7
 refine qV (t_n (zcr (sp (yI 0) (zjr (rH1 (yI 0) H ?_)))))
 rfl
theorem specInv_ok (w:World) (s:qC) (ad:yLL) (qP:zP w xk qG qE s.qA) (xm:zP w xW qO qN s.qB) (ap:zP w aK ao aj ad) (p0:ve s) (p2:WtOk s ad):Calls Tryz.prog 12 #[.agg #[yI s.xK,Sv qG s.qA.length qE,Sv qO s.qB.length qN],Sv ao ad.length aj] w (Ret (fun v w' =>v=.tuple #[Bv (dec (Keeps s ad)),yI 0]) w):=by
 refine en func12 ntmps12 ?_
 have H:=(((St.start w).arg ap).arg xm).arg qP
 have zB:=qM qP
 have vP:=qM xm
 have da:=qM ap
 clear qP xm ap
 have N:=Fresh.nil w.heap.size
 have p3:=p2.len
 have p4:=p0.1.2.1
 have p5:=p0.1
 have p6:=p0.2.1
 refine zcr (sw (zZ H (yS s qG qE qO qN) fun b1 w2 H=>sp (Bv false) (sp (yI 0) (zjcc (sq 1 (sw (oq (l04Asked_ok _ s ad (qF (H.cells 0 rfl) 0 3) (H.get 0 rfl).1 (H.get 1 rfl).1 (H.get 2 rfl).1 qg qg) H fun w4 H=>sp (yI 0) (zjc (sp (yI 0) (sp (Bv false) (zjn (cFr rfl (qV (t_n (zcc (sp (yI 0) (zjn (qR (zl ((fun Z0 Z1 Z2 Z3=>fun m' ρ w6=>∃ (xE:Env) (i:Nat),ρ=upd (upd (upd xE 1 (Sv ao ad.length aj)) 2 (pp b1 0)) 7 (yI i)/\((i:Int)<=s.qB.length)/\(GainsZ s ad i)/\m' =(s.qB.length - (i:Int)).toNat/\Fresh w.heap.size []/\St w w6 [Z0] [Z1,Z2,Z3]) _ _ _ _) ((s.qB.length - (0:Int)).toNat) ⟨_,0,uE3,qf,(by exact GainsZ.zero s ad),rfl,N,H⟩ ?_)))))))))))))))))))
 clear H N
 rintro m' ρ w7 ⟨xE,i,rfl,i0,i1,rfl,N,H⟩
 refine zcc (sp (yI i) (oF rfl (oL rfl (H.cell 0 rfl rfl) (oN rfl (sq 1 (zjn (cD rfl (fun h8=>?_) (fun h8=>?_))))))))
 ·refine qV (t_n (xQ (qR (zcr (oF rfl (oL rfl (H.cell 0 rfl rfl) (sp (yI i) ?_)))))))
  obtain ⟨b9,Tb,rfl⟩:=H.addr 1 rfl qf
  obtain ⟨GR,Fu,FC,Es,FD,Ey,EN,El,Fp,ED,Eu,DM,JB,Ik,J6,FU,EO,GB,H⟩:=H.jZ 1 rfl i i qf qf qf
  refine oI rfl rfl (sq 1 ?_)
  have q:=p0.rule (i:=i) qf
  refine sw (oc (l04Gains_ok _ s (s.qB[i]!) ad (qF (H.cells 0 rfl) 0 3) (H.get 7 rfl).1 (H.get 8 rfl).1 (qF (H.get 6 rfl) 0 9) (H.get 0 rfl).1 (H.get 1 rfl).1 (H.get 2 rfl).1 (H.get 3 rfl).1 (H.get 4 rfl).1 (H.get 5 rfl).1 (H.get 9 rfl).1 qg qg qg) ?_)
  rintro _ Et ⟨aci,afH,WB,rfl,M,K⟩ _
  replace H:=H.merge K M
  obtain rfl:=H.jC 0 rfl
  refine sq 1 (zjc (sp (yI 0) (zjn (qR (zl ((fun Z0 Z1 Z2 Z3 Z4 Z5 Z6 Z7 Z8 Z9 bx bG=>fun m' ρ s0=>∃ (xE:Env) (k:Nat),ρ=upd (upd (upd (upd (upd xE 1 (Sv ao ad.length aj)) 2 (pp b1 0)) 7 (yI i)) 8 (Sv aci ((jy (s.qB[i]!) ad (jM s (s.qB[i]!).qI)).length) WB)) 9 (yI k)/\((k:Int)<=((jy (s.qB[i]!) ad (jM s (s.qB[i]!).qI)).length))/\(ZeroTo (jy (s.qB[i]!) ad (jM s (s.qB[i]!).qI)) k)/\m' =(((jy (s.qB[i]!) ad (jM s (s.qB[i]!).qI)).length) - (k:Int)).toNat/\Fresh w.heap.size []/\St w s0 [Z0,Z1] [Z2,Z3,Z4,Z5,Z6,Z7,Z8,Z9,bx,bG]) _ _ _ _ _ _ _ _ _ _ _ _) ((((jy (s.qB[i]!) ad (jM s (s.qB[i]!).qI)).length) - (0:Int)).toNat) ⟨_,0,uE5,qf,qx,rfl,N,H⟩ ?_)))))
  clear H N
  rintro m' ρ rO ⟨xE,k,rfl,i0,i2,rfl,N,H⟩
  have gl:=gains_len (s.qB[i]!) ad (jM s (s.qB[i]!).qI)
  have pq:=placeS_len p5 (s.qB[i]!).qI
  refine zcc (sp (yI k) (sq 1 (oN rfl (sq 1 (zjn (cD rfl (fun lN=>?_) (fun lN=>?_)))))))
  ·refine qV (t_n (xQ (qR (zcr (sq 1 (sp (yI k) ?_))))))
   obtain ⟨fH,rfl⟩:=H.jK 0 rfl qf
   refine oI rfl rfl (oL rfl (H.QJ 0 rfl (iv:=k) (i:=k) qf qf) (sp (Bv (((jy (s.qB[i]!) ad (jM s (s.qB[i]!).qI))[k]! :Int) != 0)) (zjn (zT (((jy (s.qB[i]!) ad (jM s (s.qB[i]!).qI))[k]! :Int) != 0) rfl (fun Dq=>?_) (fun Dq=>?_)))))
   ·replace Dq:=bne_iff_ne.1 Dq
    refine zcr (sp (Bv false) (sp (yI 0) (zjr (b_r (t_r (t_r (b_r (zr5 (ret2 (Bv false) (yI 0) rfl rfl rfl ⟨_,rfl,?_,H.base⟩)))))))))
    rw [xh (zero_no (i:=i) (k:=k) (l:=jM s (s.qB[i]!).qI) qf (fun x=>VH p5 (p0.rule qf).1) qf qf)]
   replace Dq:=xx Dq
   refine qV (b_n (t_n (xJ (sp (yI k) (sw (zn k 1 rfl rfl qf (sq 1 (xO (qX (m' :=(((jy (s.qB[i]!) ad (jM s (s.qB[i]!).qI)).length) - ((k+1):Int)).toNat) qf ⟨_,k+1,uE5,?_,?_,rfl,N,H⟩)))))))))
   ·omega
   ·exact i2.succ qf
  refine Qx (t_x (t_x (b_x (b_n (t_n (xJ (sp (yI i) (sw (zn i 1 rfl rfl qf (sq 1 (xO (qX (m' :=(s.qB.length - ((i+1):Int)).toNat) qf ⟨_,i+1,uE3,?_,?_,rfl,N,H.pick [1] [7,8,9]⟩))))))))))))
  ·omega
  ·exact i1.succ ((zero_iff (fun x=>VH p5 (p0.rule qf).1)).1 (fun j hj=>i2 j qf))
 refine zx4 (zcc (sp (yI 1) (zjn (qR (zl ((fun Z0 Z1 Z2 Z3=>fun m' ρ Bo=>∃ (xE:Env) (c:Nat),ρ=upd (upd (upd xE 1 (Sv ao ad.length aj)) 2 (pp b1 0)) 10 (yI c)/\((c:Int)<=s.qA.length)/\(MeltsEq s ad c)/\(1<=(c:Int))/\m' =(s.qA.length - (c:Int)).toNat/\Fresh w.heap.size []/\St w Bo [Z0] [Z1,Z2,Z3]) _ _ _ _) ((s.qA.length - (1:Int)).toNat) ⟨_,1,uE3,qf,(by exact meltsEq_1 p0 ad),qf,rfl,N,H⟩ ?_)))))
 clear H N
 rintro m' ρ C5 ⟨xE,c,rfl,i0,i3,i4,rfl,N,H⟩
 refine zcc (sp (yI c) (oF rfl (oL rfl (H.cell 0 rfl rfl) (oN rfl (sq 1 (zjn (cD rfl (fun Gu=>?_) (fun Gu=>?_))))))))
 ·refine qV (t_n (xQ (qR (zcr (sp (yI c) (sw (oc (l04Parents_ok _ s c (qF (H.cells 0 rfl) 0 3) (H.get 0 rfl).1 (H.get 1 rfl).1 qg qg) ?_)))))))
  rintro _ FG ⟨agm,alZ,M3,rfl,M,K⟩ _
  replace H:=H.merge K M
  obtain rfl:=H.jC 0 rfl
  refine sq 1 (zjc (sp (yI 0) (zjn (qR (zl ((fun Z0 Z1 Z2 Z3 Z4=>fun m' ρ CC=>∃ (xE:Env) (k:Nat),ρ=upd (upd (upd (upd (upd xE 1 (Sv ao ad.length aj)) 2 (pp b1 0)) 10 (yI c)) 11 (Sv agm ((VD s c).length) M3)) 12 (yI k)/\(EqL ad (VD s (c:Int)) (c:Int) k)/\(k<=(VD s (c:Int)).length)/\m' =((VD s (c:Int)).length - k)/\Fresh w.heap.size []/\St w CC [Z0,Z1] [Z2,Z3,Z4]) _ _ _ _ _) (((VD s (c:Int)).length - 0)) ⟨_,0,uE5,qx,qf,rfl,N,H⟩ ?_)))))
  clear H N
  rintro m' ρ Dg ⟨xE,k,rfl,i5,i6,rfl,N,H⟩
  have pk:=fun h=>parS_in p5 (c:=(c:Int)) ⟨by omega,by omega⟩ (k:=k) h
  have pq:=parS_len p5 (c:Int)
  refine zcc (sp (yI k) (sq 1 (oN rfl (sp (Bv (decide ((k:Int) < ((VD s c).length)))) (sp (Bv (decide ((k:Int) < ((VD s c).length)))) ?_)))))
  cases Dj:(decide ((k:Int) < ((VD s c).length)))
  ·replace Dj:=of_decide_eq_false Dj
   refine xR [56,57] (sp (Bv false) (zjn (cFr rfl (Qx (t_x (t_x (b_x (b_n (t_n (xJ (sp (yI c) (sw (zn c 1 rfl rfl qf (sq 1 (xO (qX (m' :=(s.qA.length - ((c+1):Int)).toNat) qf ⟨_,c+1,uE3,?_,?_,?_,rfl,N,H.pick [1] [0,1,2]⟩))))))))))))))))
   ·omega
   ·exact i3.succ ((keq_iff (fun x=>mem_parS p5 ⟨by omega,by omega⟩)).1 (fun _ j hj=>i5 j qf))
   ·omega
  replace Dj:=of_decide_eq_true Dj
  refine qJ 55 rfl rfl (sp (yI c) (qJ 55 rfl rfl (sw (oq (l04Melts_ok _ s c (qF (H.cells 1 rfl) 0 3) (H.get 0 rfl).1 (H.get 1 rfl).1) H fun N6 H=>sq 1 (zjn (cP rfl (fun tm=>?_) (fun tm=>?_)))))))
  ·have pz:=pk qf
   have pz1:=pz.1
   refine qV (t_n (xQ (qR (xQ ?_))))
   obtain ⟨Kc,Sj,rfl⟩:=H.addr 2 rfl qf
   obtain ⟨DG,rfl⟩:=H.jK 0 rfl qf
   refine VP (fun ρ HC=>∃ (xE:Env) (F44:yLN) (a45:yOA) (c46:Nat) (F47:yLN) (a48:yOA) (c49:Nat),ρ=upd (upd (upd (upd (upd (upd (upd (upd xE 1 (Sv (aa Kc Sj) ad.length aj)) 2 (pp b1 0)) 10 (yI c)) 11 (Sv (aa DG 0) ((VD s c).length) M3)) 12 (yI k)) 56 (yI c)) 57 (Bv (dec (yP s c)))) 73 (Bv (!(decide ((ad[c]!)=(ad[((VD s c)[k]!).toNat]!)))))/\Fresh w.heap.size []/\St w HC [rr (aa DG 0) ((VD s c).length) M3 2 1 ((VD s c).map (Value.int .i64)),.box b1 (yS s qG qE qO qN) 27] [sF false F44 a45 c46 (ad[((VD s c)[k]!).toNat]!),atF Kc (Sj+((VD s c)[k]! :Int).toNat * 1) [Sv a45 ((ad[((VD s c)[k]!).toNat]!).length) c46],sF false F47 a48 c49 (ad[c]!),atF Kc (Sj+(c:Int).toNat * 1) [Sv a48 ((ad[c]!).length) c49],sF false xk qG qE s.qA,sF false xW qO qN s.qB,sF false aK (aa Kc Sj) aj ad]) ?_ ?_
   ·refine jE rfl H fun H=>rtl 0 H ?_
    refine rtp 1 (yI c) H ?_
    obtain ⟨JT,Ib,WS,H⟩:=H.zW 2 rfl c c qf qf qf
    have S:=H.jm [0,1] [2,3,4]
    refine tI 2 rfl rfl rfl S ?_
    refine rtl 4 S ?_
    refine rtl 5 S ?_
    refine rtp 6 (yI k) S ?_
    refine tI 7 rfl rfl rfl S ?_
    refine tL 8 rfl rfl (fun _ h=>h.QJ 0 rfl (iv:=k) (i:=k) qf qf) S ?_
    obtain ⟨IP,JW,TW,H⟩:=H.zW 4 rfl ((VD s c)[k]!) (((VD s c)[k]!).toNat) qf qf qf
    refine tI 9 rfl rfl rfl (H.pick [0,1] [4,5,6]) (vK [3,10] qh qm (jb rfl ?_ (jb rfl ?_ vM)))
    ·refine x9 (Sv JT ((ad[c]!).length) Ib) isAgg24 rfl (H.xP 3 rfl 0 rfl) (⟨H.pick [0,1] [4,5,6],(ro 10 rfl (x9 (Sv IP ((ad[((VD s c)[k]!).toNat]!).length) JW) isAgg24 rfl (H.xP 1 rfl 0 rfl) (⟨H.pick [0,1] [4,5,6],(ro 11 rfl (oq (l00Same_ok _ (ad[c]!) (ad[((VD s c)[k]!).toNat]!) (H.get 2 rfl).1 (H.get 0 rfl).1) H fun Hz H=>⟨H.pick [0,1] [4,5,6],(rtl 12 (H.pick [0,1] [4,5,6]) ?_)⟩))⟩)))⟩)
     refine xw qh ((meet ⟨_,TW,IP,JW,WS,JT,Ib,uE8,N,H⟩))
    refine x9 (Sv IP ((ad[((VD s c)[k]!).toNat]!).length) JW) isAgg24 rfl (H.xP 1 rfl 0 rfl) (⟨H.pick [0,1] [4,5,6],(ro 3 rfl (x9 (Sv JT ((ad[c]!).length) Ib) isAgg24 rfl (H.xP 3 rfl 0 rfl) (⟨H.pick [0,1] [4,5,6],(ro 11 rfl (oq (l00Same_ok _ (ad[c]!) (ad[((VD s c)[k]!).toNat]!) (H.get 2 rfl).1 (H.get 0 rfl).1) H fun Jp H=>⟨H.pick [0,1] [4,5,6],(rtl 12 (H.pick [0,1] [4,5,6]) ?_)⟩))⟩)))⟩)
    refine xw qh ((meet ⟨_,TW,IP,JW,WS,JT,Ib,uE8,N,H⟩))
   clear H N
   rintro ρ w60 ⟨xE,F44,a45,c46,F47,a48,c49,rfl,N,H⟩
   refine t_n (zT _ rfl (fun uD=>?_) (fun uD=>?_))
   ·replace uD:=xB uD
    replace uD:=of_decide_eq_false uD
    refine zcr (sp (Bv false) (sp (yI 0) (zjr (b_r (t_r (t_r (b_r (zr5 (ret2 (Bv false) (yI 0) rfl rfl rfl ⟨_,rfl,?_,H.base⟩)))))))))
    rw [xh (keq_no (c:=c) (k:=k) (l:=VD s (c:Int)) qf (fun x=>mem_parS p5 ⟨by omega,by omega⟩) qf ql ql)]
   replace uD:=xn uD
   replace uD:=of_decide_eq_true uD
   refine qV (b_n (t_n (xJ (sp (yI k) (sw (zn k 1 rfl rfl qf (sq 1 (xO (qX (m' :=((VD s (c:Int)).length - (k+1))) qf ⟨_,k+1,uE5,?_,?_,rfl,N,H.pick [0,1] [4,5,6]⟩)))))))))
   ·exact i5.succ ql
   ·omega
  refine Qx (t_x (t_x (b_x (b_n (t_n (xJ (sp (yI c) (sw (zn c 1 rfl rfl qf (sq 1 (xO (qX (m' :=(s.qA.length - ((c+1):Int)).toNat) qf ⟨_,c+1,uE3,?_,?_,?_,rfl,N,H.pick [1] [0,1,2]⟩))))))))))))
  ·omega
  ·exact i3.succ (fun h=>absurd h ql)
  ·omega
 refine zx4 (zcr (sp (Bv true) (sp (yI 0) (zjr (ret2 (Bv true) (yI 0) rfl rfl rfl ⟨_,rfl,?_,H.base⟩)))))
 rw [jH ⟨fun j hj=>i1 j qf,fun j hj=>i3 j qf⟩]
theorem specPot_ok (w:World) (s:qC) (ad:yLL) (qP:zP w xk qG qE s.qA) (xm:zP w xW qO qN s.qB) (ap:zP w aK ao aj ad) (p0:ve s) (p2:WtOk s ad):Calls Tryz.prog 13 #[.agg #[yI s.xK,Sv qG s.qA.length qE,Sv qO s.qB.length qN],Sv ao ad.length aj] w (Ret (fun v w' =>v=.tuple #[Bv (dec (Falls s ad)),yI 0]) w):=by
 refine en func13 ntmps13 ?_
 have H:=(((St.start w).arg ap).arg xm).arg qP
 clear qP xm ap
 refine zcr (sw (zZ H (yS s qG qE qO qN) fun b1 w2 H=>sp (Bv false) (sp (yI 0) (zjcc (sq 1 (sw (oq (l04Asked_ok _ s ad (qF (H.cells 0 rfl) 0 3) (H.get 0 rfl).1 (H.get 1 rfl).1 (H.get 2 rfl).1 qg qg) H fun w4 H=>sp (yI 0) (zjc (sp (yI 0) (sp (Bv false) (zjn (cFr rfl (qV (t_n (zcr (sq 1 (sw (oq (l04Falls_ok _ s ad (qF (H.cells 0 rfl) 0 3) (H.get 0 rfl).1 (H.get 1 rfl).1 (H.get 2 rfl).1 qg qg) H fun w7 H=>sq 1 (sp (yI 0) (zjr (ret2 (Bv (dec (Falls s ad))) (yI 0) rfl rfl rfl ⟨_,rfl,?_,H.base⟩)))))))))))))))))))))
 rfl
theorem implInv_ok (w:World) (s:qC) (ad:yLL) (qP:zP w xk qG qE s.qA) (xm:zP w xW qO qN s.qB) (ap:zP w aK ao aj ad) (p0:ve s) (p2:WtOk s ad):Calls Tryz.prog 8 #[.agg #[yI s.xK,Sv qG s.qA.length qE,Sv qO s.qB.length qN],Sv ao ad.length aj] w (Ret (fun v w' =>v=.tuple #[Bv (dec (Keeps s ad)),yI 0]) w):=by
 refine en func8 ntmps8 ?_
 have H:=(((St.start w).arg ap).arg xm).arg qP
 have zB:=qM qP
 have vP:=qM xm
 have da:=qM ap
 clear qP xm ap
 have N:=Fresh.nil w.heap.size
 have p3:=p2.len
 have p4:=p0.1.2.1
 have p5:=p0.1
 have p6:=p0.2.1
 have p7:=p0.1.1
 refine zcr (sw (zZ H (yS s qG qE qO qN) fun b1 w2 H=>sp (Bv false) (sp (yI 0) (zjcc (sw (xU (yS s qG qE qO qN) isAgg27 sizeOf27 rfl (qF (H.cells 0 rfl) 0 3) (sq 1 (sw (oq (weightsCode_ok _ s ad (H.get 0 rfl).1 (H.get 1 rfl).1 (H.get 2 rfl).1 qg qg) H fun w4 H=>sp (yI 0) (zjc (sp (yI 0) (sp (Bv false) (zjn (cFr rfl (qV (t_n (zcr (sw (xU (yS s qG qE qO qN) isAgg27 sizeOf27 rfl (qF (H.cells 0 rfl) 0 3) (sq 1 (sw (zQ #[.agg #[yI s.xK,Sv qG s.qA.length qE,Sv qO s.qB.length qN],Sv ao ad.length aj,.func (.func 46) #[] #[],.func (.func 47) #[] #[]] rfl rfl call45 (en func45 ntmps45 ?_)))))))))))))))))))))))
 refine zcr (sw (zZ H (yS s qG qE qO qN) fun b6 w7 H=>sp (Bv false) (zjcc (oF rfl (oL rfl (H.cell 0 rfl rfl) (oN rfl (sp (yI 0) (zjn (qR (zl ((fun Z0 Z1 Z2 Z3 Z4=>fun m' ρ w8=>∃ (xE:Env) (k:Nat),ρ=upd (upd (upd (upd (upd (upd (upd xE 1 (Sv ao ad.length aj)) 2 (.func (.func 46) #[] #[])) 3 (.func (.func 47) #[] #[])) 4 (pp b6 0)) 19 (Sv qO s.qB.length qN)) 20 (yI s.qB.length)) 21 (yI k)/\((k:Int)<=s.qB.length)/\(GainsZ s ad k)/\m' =(s.qB.length - (k:Int)).toNat/\Fresh w.heap.size []/\St w w8 [Z0,Z1] [Z2,Z3,Z4]) _ _ _ _ _) ((s.qB.length - (0:Int)).toNat) ⟨_,0,uE7,qf,(by exact GainsZ.zero s ad),rfl,N,H⟩ ?_))))))))))
 clear H N
 rintro m' ρ w9 ⟨xE,k,rfl,i0,i1,rfl,N,H⟩
 refine zcr (sq 1 (zjn (xQ (cD rfl (fun aZ=>?_) (fun aZ=>?_)))))
 ·refine qV (t_n (xQ (qR (zcr ?_))))
  obtain ⟨ls,Ih,rfl⟩:=H.addr 1 rfl qf
  obtain ⟨sc,pI,SW,ri,pO,SJ,rM,pZ,Yh,rz,pM,aaY,uh,tK,aea,qD,rh,TD,H⟩:=H.jZ 1 rfl k k qf qf qf
  refine oI rfl rfl (sw (xU [yI ((s.qB[k]!).qI),yI ((s.qB[k]!).jG),Sv sc (((s.qB[k]!).zk).length) pI,Sv ri (((s.qB[k]!).vk).length) pO,Sv rM (((s.qB[k]!).vw).length) pZ,Sv rz (((s.qB[k]!).zS).length) pM,Sv uh (((s.qB[k]!).jX).length) tK,Sv qD (((s.qB[k]!).xe).length) rh,Bv ((s.qB[k]!).vg)] isAgg70 sizeOf70 rfl (qF (H.get 6 rfl) 0 9) (sw (xq H ti70 [yI 0,yI 0,yN,yN,yN,yN,yN,yN,Bv false] fun wm yb H=>sw (xY H 0 [yI ((s.qB[k]!).qI),yI ((s.qB[k]!).jG),Sv sc (((s.qB[k]!).zk).length) pI,Sv ri (((s.qB[k]!).vk).length) pO,Sv rM (((s.qB[k]!).vw).length) pZ,Sv rz (((s.qB[k]!).zS).length) pM,Sv uh (((s.qB[k]!).jX).length) tK,Sv qD (((s.qB[k]!).xe).length) rh,Bv ((s.qB[k]!).vg)] sizeOf70 fun HF H=>(zjc (sw (xU [yI s.xK,Sv qG s.qA.length qE,Sv (aa ls Ih) s.qB.length qN] isAgg27 sizeOf27 rfl (qF (H.cells 1 rfl) 0 3) (sw (xU [yI ((s.qB[k]!).qI),yI ((s.qB[k]!).jG),Sv sc (((s.qB[k]!).zk).length) pI,Sv ri (((s.qB[k]!).vk).length) pO,Sv rM (((s.qB[k]!).vw).length) pZ,Sv rz (((s.qB[k]!).zS).length) pM,Sv uh (((s.qB[k]!).jX).length) tK,Sv qD (((s.qB[k]!).xe).length) rh,Bv ((s.qB[k]!).vg)] isAgg70 sizeOf70 rfl (qF (H.cells 0 rfl) 0 9) (sq 1 ?_)))))))))))
  have q:=p0.rule (i:=k) qf
  refine sw (oc (gains_ok _ s (s.qB[k]!) ad (H.get 7 rfl).1 (H.get 8 rfl).1 (H.get 0 rfl).1 (H.get 1 rfl).1 (H.get 2 rfl).1 (H.get 3 rfl).1 (H.get 4 rfl).1 (H.get 5 rfl).1 (H.get 9 rfl).1 qg qg qg) ?_)
  rintro _ s0 ⟨fE,ae4,alm,rfl,M,K⟩ _
  replace H:=H.merge K M
  obtain rfl:=H.jC 0 rfl
  refine oN rfl (sp (yI 0) (zjn (qR (zl ((fun Z0 Z1 Z2 Z3 Z4 Z5 Z6 Z7 Z8 Z9 bx bG dy fj=>fun m' ρ Bo=>∃ (xE:Env) (aq:Nat),ρ=upd (upd (upd (upd (upd (upd (upd (upd (upd (upd xE 1 (Sv ao ad.length aj)) 2 (.func (.func 46) #[] #[])) 3 (.func (.func 47) #[] #[])) 4 (pp b6 0)) 19 (Sv (aa ls Ih) s.qB.length qN)) 20 (yI s.qB.length)) 21 (yI k)) 28 (Sv fE ((jy (s.qB[k]!) ad (jv s (s.qB[k]!).qI)).length) alm)) 29 (yI ((jy (s.qB[k]!) ad (jv s (s.qB[k]!).qI)).length))) 30 (yI aq)/\((aq:Int)<=((jy (s.qB[k]!) ad (jv s (s.qB[k]!).qI)).length))/\(ZeroTo (jy (s.qB[k]!) ad (jv s (s.qB[k]!).qI)) aq)/\m' =(((jy (s.qB[k]!) ad (jv s (s.qB[k]!).qI)).length) - (aq:Int)).toNat/\Fresh w.heap.size []/\St w Bo [Z0,Z1,Z2,Z3] [Z4,Z5,Z6,Z7,Z8,Z9,bx,bG,dy,fj]) _ _ _ _ _ _ _ _ _ _ _ _ _ _) ((((jy (s.qB[k]!) ad (jv s (s.qB[k]!).qI)).length) - (0:Int)).toNat) ⟨_,0,uE10,qf,qx,rfl,N,H⟩ ?_))))
  clear H N
  rintro m' ρ C5 ⟨xE,aq,rfl,i0,i2,rfl,N,H⟩
  have gl:=gains_len (s.qB[k]!) ad (jv s (s.qB[k]!).qI)
  have pq:=placeI_len p5 (s.qB[k]!).qI
  refine zcr (sq 1 (zjn (xQ (cD rfl (fun Gu=>?_) (fun Gu=>?_)))))
  ·refine qV (t_n (xQ (qR (zcr ?_))))
   obtain ⟨b27,rfl⟩:=H.jK 0 rfl qf
   refine oI rfl rfl (oL rfl (H.QJ 0 rfl (iv:=aq) (i:=aq) qf qf) (sq 1 (zjc (sp (.func (.func 46) #[] #[]) (sq 1 (sw (zQ #[yI ((jy (s.qB[k]!) ad (jv s (s.qB[k]!).qI))[aq]!)] rfl rfl call46 (en func46 ntmps46 ?_))))))))
   refine zcr (sp (Bv false) (zjc (sq 1 (sp (Bv (((jy (s.qB[k]!) ad (jv s (s.qB[k]!).qI))[aq]! :Int) == 0)) (sp (Bv (((jy (s.qB[k]!) ad (jv s (s.qB[k]!).qI))[aq]! :Int) == 0)) (zjr (ret1 (Bv (((jy (s.qB[k]!) ad (jv s (s.qB[k]!).qI))[aq]! :Int) == 0)) rfl rfl ⟨_,rfl,(sp (Bv (!(((jy (s.qB[k]!) ad (jv s (s.qB[k]!).qI))[aq]! :Int) == 0))) (zjn ?_))⟩)))))))
   refine zT (!(((jy (s.qB[k]!) ad (jv s (s.qB[k]!).qI))[aq]! :Int) == 0)) rfl (fun te=>?_) (fun te=>?_)
   ·replace te:=xB te
    replace te:=ne_of_beq_false te
    refine zcr (sp (Bv false) (zjr (b_r (t_r (t_r (b_r (zr5 (ret1 (Bv false) rfl rfl ⟨_,rfl,?_⟩))))))))
    replace H:=H.erases [2,1,0]
    dsimp only [vz,List.eraseIdx] at H
    refine sp (Bv false) (sp (yI 0) (zjr (ret2 (Bv false) (yI 0) rfl rfl rfl ⟨_,rfl,?_,H.base⟩)))
    rw [xh (zero_no (i:=k) (k:=aq) (l:=jv s (s.qB[k]!).qI) qf (fun x=>VI) qf qf)]
   replace te:=xn te
   replace te:=eq_of_beq te
   refine qV (b_n (t_n (xJ (sw (zn aq 1 rfl rfl qf (sq 1 (xO (qX (m' :=(((jy (s.qB[k]!) ad (jv s (s.qB[k]!).qI)).length) - ((aq+1):Int)).toNat) qf ⟨_,aq+1,uE10,?_,?_,rfl,N,H⟩))))))))
   ·omega
   ·exact i2.succ qf
  refine Qx (t_x (t_x (b_x (b_n (t_n (xJ (sw (zn k 1 rfl rfl qf (sq 1 (xO (qX (m' :=(s.qB.length - ((k+1):Int)).toNat) qf ⟨_,k+1,uE7,?_,?_,rfl,N,H.pick [2,3] [7,8,9]⟩)))))))))))
  ·omega
  ·exact i1.succ ((zero_iff (fun x=>VI)).1 (fun j hj=>i2 j qf))
 refine zx4 (zcc (oF rfl (oL rfl (H.cell 0 rfl rfl) (sw (oq (sizeI_ok _ s.qA (H.get 0 rfl).1) H fun Dk H=>sp (yI 0) (zjn (qR (zl ((fun Z0 Z1 Z2 Z3 Z4=>fun m' ρ Mi=>∃ (xE:Env) (c:Nat),ρ=upd (upd (upd (upd (upd xE 1 (Sv ao ad.length aj)) 3 (.func (.func 47) #[] #[])) 4 (pp b6 0)) 42 (yI (s.qA.length:Int))) 43 (yI c)/\((c:Int)<=(s.qA.length:Int))/\(MeltsEq s ad c)/\m' =((s.qA.length:Int) - (c:Int)).toNat/\Fresh w.heap.size []/\St w Mi [Z0,Z1] [Z2,Z3,Z4]) _ _ _ _ _) (((s.qA.length:Int) - (0:Int)).toNat) ⟨_,0,uE5,qf,(by exact fun c hc=>by omega),rfl,N,H⟩ ?_))))))))
 clear H N
 rintro m' ρ Dc ⟨xE,c,rfl,i0,i3,rfl,N,H⟩
 refine zcr (sq 1 (zjn (xQ (cD rfl (fun tA=>?_) (fun tA=>?_)))))
 ·refine qV (t_n (xQ (qR (zcr (sp (yI c) (sp (yI c) (zjcc (sw (xU (yS s qG qE qO qN) isAgg27 sizeOf27 rfl (qF (H.cells 0 rfl) 0 3) (sp (yI c) (sw (oq (canMelt_ok _ s c (H.get 0 rfl).1 (H.get 1 rfl).1) H fun Dr H=>sq 1 (zjn (cQ rfl (fun uF=>?_) (fun uF=>?_)))))))))))))))
  ·refine Qx (t_x (b_x (t_n (xJ (sw (zn c 1 rfl rfl qf (sq 1 (xO (qX (m' :=((s.qA.length:Int) - ((c+1):Int)).toNat) qf ⟨_,c+1,uE5,?_,?_,rfl,N,H⟩)))))))))
   ·omega
   ·exact i3.succ (fun h=>absurd h ql)
  refine qV (t_n (zcr (sw (xU (yS s qG qE qO qN) isAgg27 sizeOf27 rfl (qF (H.cells 0 rfl) 0 3) (sp (yI c) (sw (oc (possParents_ok _ s c (H.get 0 rfl).1 (H.get 1 rfl).1 qg qg) ?_)))))))
  rintro _ E4 ⟨ak8,asU,kI,rfl,M,K⟩ _
  replace H:=H.merge K M
  obtain rfl:=H.jC 0 rfl
  refine oN rfl (sp (yI 0) (zjn (qR (zl ((fun Z0 Z1 Z2 Z3 Z4 Z5=>fun m' ρ Dy=>∃ (xE:Env) (aq:Nat),ρ=upd (upd (upd (upd (upd (upd (upd (upd (upd xE 1 (Sv ao ad.length aj)) 3 (.func (.func 47) #[] #[])) 4 (pp b6 0)) 13 (yI c)) 42 (yI (s.qA.length:Int))) 43 (yI c)) 52 (Sv ak8 ((Qz s c).length) kI)) 53 (yI ((Qz s c).length))) 54 (yI aq)/\((aq:Int)<=((Qz s c).length))/\(EqL ad (Qz s (c:Int)) (c:Int) aq)/\m' =(((Qz s c).length) - (aq:Int)).toNat/\Fresh w.heap.size []/\St w Dy [Z0,Z1,Z2] [Z3,Z4,Z5]) _ _ _ _ _ _) ((((Qz s c).length) - (0:Int)).toNat) ⟨_,0,uE9,qf,qx,rfl,N,H⟩ ?_))))
  clear H N
  rintro m' ρ Ou ⟨xE,aq,rfl,i0,i5,rfl,N,H⟩
  have pk:=fun h=>poss_in p5 (c:=(c:Int)) ⟨by omega,by omega⟩ (k:=aq) h
  have pq:=possL_len p5 (c:Int)
  refine zcr (sq 1 (zjn (xQ (cD rfl (fun HO=>?_) (fun HO=>?_)))))
  ·refine qV (t_n (xQ (qR (zcr ?_))))
   obtain ⟨RC,rfl⟩:=H.jK 0 rfl qf
   refine oI rfl rfl (oL rfl (H.QJ 0 rfl (iv:=aq) (i:=aq) qf qf) (sq 1 (zjc (sq 1 (sp (yI c) ?_)))))
   obtain ⟨b48,o49,rfl⟩:=H.addr 2 rfl qf
   obtain ⟨aiW,amr,ato,H⟩:=H.zW 2 rfl c c qf qf qf
   refine oI rfl rfl (oL rfl (H.xP 1 rfl 0 rfl) (oN rfl (sp (yI 0) (zjn (qR (zl ((fun Z0 Z1 Z2 Z3 Z4 Z5 Z6 Z7=>fun m' ρ P5=>∃ (xE:Env) (ay:Nat),ρ=upd (upd (upd (upd (upd (upd (upd (upd (upd (upd (upd (upd (upd xE 1 (Sv (aa b48 o49) ad.length aj)) 3 (.func (.func 47) #[] #[])) 4 (pp b6 0)) 13 (yI c)) 15 (yI ((Qz s c)[aq]!))) 42 (yI (s.qA.length:Int))) 43 (yI c)) 52 (Sv (aa RC 0) ((Qz s c).length) kI)) 53 (yI ((Qz s c).length))) 54 (yI aq)) 61 (Sv aiW ((ad[c]!).length) amr)) 62 (yI ((ad[c]!).length))) 63 (yI ay)/\((ay:Int)<=((ad[c]!).length))/\((ad[c]!).take ay=(ad[((Qz s (c:Int))[aq]!).toNat]!).take ay)/\m' =(((ad[c]!).length) - (ay:Int)).toNat/\Fresh w.heap.size []/\St w P5 [Z0,Z1,Z2] [Z3,Z4,Z5,Z6,Z7]) _ _ _ _ _ _ _ _) ((((ad[c]!).length) - (0:Int)).toNat) ⟨_,0,uE13,qf,(by rfl),rfl,N,H⟩ ?_))))))
   clear H N
   rintro m' ρ Hi ⟨xE,ay,rfl,i0,i6,rfl,N,H⟩
   refine zcr (sq 1 (zjn (xQ (cD rfl (fun DJ=>?_) (fun DJ=>?_)))))
   ·have pz:=pk qf
    have pz1:=pz.1
    have e1:=(wt_in p2 (c:=((Qz s (c:Int))[aq]!).toNat) qf).1
    have e2:=(wt_in p2 (c:=c) qf).1
    refine qV (t_n (xQ (qR (zcr (sq 1 ?_)))))
    obtain ⟨RK,o56,rfl⟩:=H.addr 0 rfl qf
    refine oI rfl rfl (oL rfl (H.zA 0 rfl ay qf) (sq 2 (zjc (sp (.func (.func 47) #[] #[]) (sq 3 ?_)))))
    obtain ⟨avo,axd,azF,H⟩:=H.zW 4 rfl ((Qz s c)[aq]!) (((Qz s c)[aq]!).toNat) qf qf qf
    refine oI rfl rfl (oL rfl (H.xP 1 rfl 0 rfl) (sq 1 ?_))
    obtain ⟨ZG,o60,rfl⟩:=H.addr 0 rfl qf
    refine oI rfl rfl (oL rfl (H.zA 0 rfl ay qf) (sw (zQ #[yI ((ad[c]!)[ay]!),yI ((ad[((Qz s c)[aq]!).toNat]!)[ay]!)] rfl rfl call47 (en func47 ntmps47 ?_))))
    refine zcr (sp (Bv false) (zjc (sq 4 (zjr (ret1 (Bv (((ad[c]!)[ay]! :Int) == ((ad[((Qz s c)[aq]!).toNat]!)[ay]!))) rfl rfl ⟨_,rfl,(sq 1 (zjn ?_))⟩)))))
    refine zT _ rfl (fun wD=>?_) (fun wD=>?_)
    ·replace wD:=xB wD
     replace wD:=ne_of_beq_false wD
     refine zcr (sp (Bv false) (zjr (b_r (t_r (t_r (b_r (b_r (t_r (t_r (b_r (zr5 (ret1 (Bv false) rfl rfl ⟨_,rfl,?_⟩))))))))))))
     replace H:=H.erases [1,0]
     dsimp only [vz,List.eraseIdx] at H
     refine sp (Bv false) (sp (yI 0) (zjr (ret2 (Bv false) (yI 0) rfl rfl rfl ⟨_,rfl,?_,H.base⟩)))
     rw [xh (keq_no2 (c:=c) (k:=aq) (j:=ay) (l:=(Qz s (c:Int))) qf (fun x=>mem_poss) qf ql qf)]
    replace wD:=xn wD
    replace wD:=eq_of_beq wD
    refine qV (b_n (t_n (xJ (sw (zn ay 1 rfl rfl qf (sq 1 (xO (qX (m' :=(((ad[c]!).length) - ((ay+1):Int)).toNat) qf ⟨_,ay+1,uE13,?_,?_,rfl,N,H.pick [0,1,2] (zR 2 5)⟩))))))))
    ·omega
    ·exact eqTo_succ qf qf i6 qf
   have pz:=pk qf
   have e1:=(wt_in p2 (c:=((Qz s (c:Int))[aq]!).toNat) qf).1
   have e2:=(wt_in p2 (c:=c) qf).1
   refine Qx (t_x (t_x (b_x (b_n (t_n (xJ (sw (zn aq 1 rfl rfl qf (sq 1 (xO (qX (m' :=(((Qz s c).length) - ((aq+1):Int)).toNat) qf ⟨_,aq+1,uE9,?_,?_,rfl,N,H.pick [0,1,2] [2,3,4]⟩)))))))))))
   ·omega
   ·exact i5.succ (eq_of_take (l:=ad[c]!) (k:=ay) qf qf i6)
  refine Qx (t_x (t_x (b_x (b_n (t_n (xJ (sw (zn c 1 rfl rfl qf (sq 1 (xO (qX (m' :=((s.qA.length:Int) - ((c+1):Int)).toNat) qf ⟨_,c+1,uE5,?_,?_,rfl,N,H.pick [1,2] [0,1,2]⟩)))))))))))
  ·omega
  ·exact i3.succ ((keq_iff (fun x=>mem_poss)).1 (fun _ j hj=>i5 j qf))
 refine zx4 (zcr (sp (Bv true) (zjr (ret1 (Bv true) rfl rfl ⟨_,rfl,?_⟩))))
 replace H:=H.erases [0]
 dsimp only [vz,List.eraseIdx] at H
 refine sp (Bv true) (sp (yI 0) (zjr (ret2 (Bv true) (yI 0) rfl rfl rfl ⟨_,rfl,?_,H.base⟩)))
 rw [jH ⟨fun j hj=>i1 j qf,fun j hj=>i3 j qf⟩]
end
section
section
variable {W0 w : World} {ps : List Prv} {Γ : List Fact}
theorem own_at (H:St W0 w ps Γ) (i:Nat) (hq:ps[i]? =some (.row v e 1 m (z.map (Value.int .i64)))):
 ∃ G,OwnAt e w G v z/\(∀ x∈G,jP ps i=some x)/\yf w G/\G.Nodup:=by
 have ho:=(H.has _ (List.mem_of_getElem? hq):w.ownsRow W0.heap.size e 1 v m (z.map (Value.int .i64)))
 have hm:m=z.length:=by have:=ho.1;simp at this;omega
 subst hm
 rcases ho.2 with ⟨rfl,h0⟩ | ⟨g,dw,dx,rfl,hb,hg,Hl,hcm,th,htake⟩
 ·exact ⟨[],Or.inl ⟨rfl,List.eq_nil_of_length_eq_zero h0,rfl⟩,by simp,yf.nil _,by simp⟩
 ·refine ⟨[g],Or.inr ⟨g,dw,dx,rfl,rfl,hg,Hl,hcm,by omega,by rw [Nat.mul_one] at htake;exact htake⟩,fun x hx=>?_,fun x hx=>?_,by simp⟩
  ·obtain rfl:=List.mem_singleton.1 hx
   simp [jP,hq,Prv.blk,Value.ownBlock]
  ·obtain rfl:=List.mem_singleton.1 hx
   exact ⟨_,_,hg⟩
theorem dead_at {p:Prv} (hq:ps[i]? =some p):∀ (b' i' :Nat),jP (ps.set i (.row (Sv none 0 0) 0 1 0 [])) i' =some b' ->i' ≠i/\jP ps i' =some b' :=by
 intro b' i' h
 unfold jP at h ⊢
 by_cases hi:i' =i
 ·subst hi
  rw [set_at hq] at h
  simp [Prv.blk,Value.ownBlock] at h
 ·rw [List.getElem?_set_ne (Ne.symm hi)] at h
  exact ⟨hi,h⟩
theorem St.snocI (H:St W0 w ps Γ) (i:Nat) (hq:ps[i]? =some (.row v e 1 m (z.map (Value.int .i64)))) (j:Nat) {l:List (OwnI e)} (hf:Γ[j]? =some (xy true F xs l))
 {L:List yLN} (N:Fresh W0.heap.size (F::L)) (ha:∀ K∈L,∀ b∈K,∀ i,jP ps i≠some b):
 ∃ F',Fresh W0.heap.size (F'::L)/\St W0 w (ps.set i (.row (Sv none 0 0) 0 1 0 [])) (xy true F' (xs++[v]) (l++[⟨z⟩])::Γ):=by
 have hF:=(H.facts _ (List.mem_of_getElem? hf)).2
 obtain ⟨G,hG,oO,NB,Nm⟩:=own_at H i hq
 have Oi:∀ x∈G,x∉F:=fun x hx h=>(hF x h).2 i (oO x hx)
 have N4:∀ K∈L,∀ x∈K,x∉G:=fun K hK x hx h=>ha K hK x hx i (oO x h)
 have sk:∀ x∈G,W0.heap.size<=x:=fun x hx=>(QP H (oO x hx)).1
 have ee:=dead_at hq
 refine ⟨F++G,⟨fun K hK=>?_,fun K hK x hx=>?_,?_⟩,?_⟩
 ·rcases List.mem_cons.1 hK with rfl | h
  ·exact List.nodup_append.2 ⟨N.nd F qm,Nm,fun x hx y hy e=>Oi y hy (e▸hx)⟩
  ·exact N.nd K (List.mem_cons_of_mem _ h)
 ·rcases List.mem_cons.1 hK with rfl | h
  ·rcases List.mem_append.1 hx with h | h
   ·exact N.ge F qm x h
   ·exact sk x h
  ·exact N.ge K (List.mem_cons_of_mem _ h) x hx
 ·have hd:=List.pairwise_cons.1 N.dj
  refine List.pairwise_cons.2 ⟨fun K hK x hx=>?_,hd.2⟩
  rcases List.mem_append.1 hx with h | h
  ·exact hd.1 K hK x h
  ·exact fun Ps=>N4 K hK x Ps h
 ·refine (H.dead i hq).add _ ⟨yO (H.get j hf).1 (reps_one (show qW.rep w G [v] (⟨z⟩:OwnI e) from ⟨v,rfl,hG⟩)),fun _ x hx=>?_⟩ fun x hx=>?_
  ·rcases List.mem_append.1 hx with h | h
   ·exact (H.get j hf).2 rfl x h
   ·exact NB x h
  ·rcases List.mem_append.1 hx with h | h
   ·exact ⟨(hF x h).1,fun i' gw =>(hF x h).2 i' (ee x i' gw).2⟩
   ·exact ⟨(QP H (oO x h)).2,fun i' gw =>(ee x i' gw).1 (H.dist i' i x (ee x i' gw).2 (oO x h))⟩
theorem St.closeI (H:St W0 w ps Γ) (i:Nat) (hq:ps[i]? =some (.row v e 1 m (z.map (Value.int .i64)))) (j:Nat) {l:List (OwnI e)} {c:Nat} (hf:Γ[j]? =some (xy true F (xs.set c (Sv none 0 0)) l))
 {L:List yLN} (N:Fresh W0.heap.size (F::L)) (ha:∀ K∈L,∀ b∈K,∀ i,jP ps i≠some b) (h2:c < xs.length):
 ∃ F',Fresh W0.heap.size (F'::L)/\St W0 w (ps.set i (.row (Sv none 0 0) 0 1 0 [])) (xy true F' (xs.set c v) (l.set c ⟨z⟩)::Γ):=by
 have hF:=(H.facts _ (List.mem_of_getElem? hf)).2
 obtain ⟨G,hG,oO,NB,Nm⟩:=own_at H i hq
 have ee:=dead_at hq
 have hll:(xs.set c (Sv none 0 0)).length=l.length * 1:=Vx (H.get j hf).1
 rw [List.length_set] at hll
 obtain ⟨F',hr,Cg,hs2⟩:=reps_set (H.get j hf).1 (show qW.rep w G [v] (⟨z⟩:OwnI e) from ⟨v,rfl,hG⟩) c qf
 have e1:(xs.set c (Sv none 0 0)).take (c * qW.size (OwnI e))++[v]++(xs.set c (Sv none 0 0)).drop (c * qW.size (OwnI e)+[v].length)=xs.set c v:=by
  show (xs.set c (Sv none 0 0)).take (c * 1)++[v]++(xs.set c (Sv none 0 0)).drop (c * 1+1)=xs.set c v
  rw [Nat.mul_one,List.take_set_of_le (Nat.le_refl _),List.drop_set_of_lt qf,List.set_eq_take_append_cons_drop,if_pos qf]
  simp
 rw [e1] at hr
 have Oi:∀ x∈G,x∉F:=fun x hx h=>(hF x h).2 i (oO x hx)
 have N4:∀ K∈L,∀ x∈K,x∉G:=fun K hK x hx h=>ha K hK x hx i (oO x h)
 have sk:∀ x∈G,W0.heap.size<=x:=fun x hx=>(QP H (oO x hx)).1
 refine ⟨F',⟨fun K hK=>?_,fun K hK x hx=>?_,?_⟩,?_⟩
 ·rcases List.mem_cons.1 hK with rfl | h
  ·exact hs2 (N.nd F qm) Nm fun x hx h=>Oi x h hx
  ·exact N.nd K (List.mem_cons_of_mem _ h)
 ·rcases List.mem_cons.1 hK with rfl | h
  ·rcases Cg x hx with h | h
   ·exact N.ge F qm x h
   ·exact sk x h
  ·exact N.ge K (List.mem_cons_of_mem _ h) x hx
 ·have hd:=List.pairwise_cons.1 N.dj
  refine List.pairwise_cons.2 ⟨fun K hK x hx=>?_,hd.2⟩
  rcases Cg x hx with h | h
  ·exact hd.1 K hK x h
  ·exact fun Ps=>N4 K hK x Ps h
 ·refine (H.dead i hq).add _ ⟨hr,fun _ x hx=>?_⟩ fun x hx=>?_
  ·rcases Cg x hx with h | h
   ·exact (H.get j hf).2 rfl x h
   ·exact NB x h
  ·rcases Cg x hx with h | h
   ·exact ⟨(hF x h).1,fun i' gw =>(hF x h).2 i' (ee x i' gw).2⟩
   ·exact ⟨(QP H (oO x h)).2,fun i' gw =>(ee x i' gw).1 (H.dist i' i x (ee x i' gw).2 (oO x h))⟩
theorem inner_get (H:St W0 w ps Γ) (j:Nat) {l:List (OwnI e)} (hf:Γ[j]? =some (xy true F xs l)) (c:Nat) (hc:c < l.length):
 ∃ G v,xs[c]? =some v/\OwnAt e w G v (l[c]!).l/\∀ x∈G,x∈F:=by
 obtain ⟨F1,Fk,F2,v1,cs,v2,L6,P2,JH,hl2,⟨u,rfl,hu⟩,_,_⟩:=reps_get (H.get j hf).1 c hc
 have BO :v1.length=c:=by rw [JH];exact Nat.mul_one _
 refine ⟨Fk,u,?_,by rw [getElem!_pos l c hc];exact hu,fun x hx=>by rw [L6];simp [hx]⟩
 refine (congrArg (fun z:List Value=>z[c]?) P2).trans ?_
 show (v1++[u]++v2)[c]? =_
 rw [List.append_assoc,List.getElem?_append_right qf]
 simp [BO]
theorem St.innerHead (H:St W0 w ps Γ) (j:Nat) {l:List (OwnI e)} (hf:Γ[j]? =some (xy true F xs l)) (c:Nat) (hc:c < l.length):∃ a m,xs[c]? =some (Sv a (l[c]!).l.length m):=by
 obtain ⟨G,v,h1,h2,_⟩:=inner_get H j hf c hc
 obtain ⟨a,m,rfl⟩:=h2.slice
 exact ⟨a,m,h1⟩
theorem St.innerAddr (H:St W0 w ps Γ) (j:Nat) {l:List (OwnI e)} (hf:Γ[j]? =some (xy true F xs l)) (c:Nat) (hc:c < l.length) (hx:xs[c]? =some (Sv a n m)) (h0:0 < (l[c]!).l.length):
 ∃ g,a=some ⟨g,0,none⟩:=by
 obtain ⟨G,v,h1,h2,_⟩:=inner_get H j hf c hc
 rw [hx] at h1
 obtain rfl:=Option.some.inj h1
 rcases h2 with ⟨_,h,_⟩ | ⟨g,dw,dx,h,_⟩
 ·rw [h] at h0;simp at h0
 ·simp only [Value.slice.injEq] at h
  exact ⟨g,h.1⟩
end
section
variable {P : Program} {Q : Exit -> Act -> World -> Prop} {n : Nat} {ρ : Env} {W0 w : World} {ps : List Prv} {Γ : List Fact}
 {d:Nat} {ty:TypeId} {pos:String} {af:Array Edge} {K:Env->World->Prop}
theorem o_storeII [Dfr] {t e2:TypeId} {x y:Operand} {b c' :Nat} (H:St W0 w ps Γ) (k:Nat) (hp:ps[k]? =some (.row (Sv (some ⟨b,0,none⟩) nn c') e2 1 nn xs)) (j:Nat) {l:List (OwnI e)} (hf:Γ[j]? =some (xy true F xs l))
 {L:List yLN} (N:Fresh W0.heap.size (F::L)) (ha:∀ K∈L,∀ b∈K,∀ i,jP ps i≠some b) (Γ' :List Fact) (hΓ:∀ f∈Γ',f∈Γ/\∀ x∈f.F,x∉F)
 (c:Nat) (hc:c < nn) {g m m' :Nat} (hx:xs[c]? =some (Sv (some ⟨g,0,none⟩) m m')) {iv:Int} {q:Nat} (u:Int) (hs:∀ w,(Go.sizeOf t).run P w=.ok 1 w)
 (hxp:ev n ρ x=.pointer (some ⟨g,0+iv.toNat * 1,none⟩)) (hy:ev n ρ y=.int .i64 u) (hq:iv.toNat=q) (h2:q < (l[c]!).l.length)
 (kk:∀ w' F',Fresh W0.heap.size (F'::L)->St W0 w' ps (xy true F' xs (l.set c ⟨(l[c]!).l.set q u⟩)::Γ')->K ρ w'):
 OW P Q ⟨none,.store t x y,ty,pos,af,none⟩ n ρ w K:=by
 have DQ:=H.rowLen k hp
 have hnl:nn=l.length:=H.rowCountO k hp j hf
 obtain ⟨a,mm,F1,i9,N1,H1⟩:=H.openI k hp j hf N (iv:=(c:Int)) c rfl hc Γ' hΓ
 have Pv :w.cell? ⟨b,c,none⟩=some (Sv (some ⟨g,0,none⟩) m m'):=H.Vk k hp hx
 have ec:(0:Nat)+((c:Int)).toNat * 1=c:=by omega
 rw [ec,Pv] at i9
 simp only [Option.some.injEq,Value.slice.injEq] at i9
 obtain ⟨rfl,rfl,rfl⟩:=i9
 refine y5 H1 0 rfl u hs hxp hy hq h2 fun w1 H2=>?_
 -- the blocks of the others are others
 obtain ⟨G,hG,oO,_,_⟩:=own_at H2 0 rfl
 have hgG:G=[g]:=by
  rcases hG with ⟨h,_,_⟩ | ⟨g',dw,dx,h,h',_⟩
  ·simp at h
  ·simp only [Value.slice.injEq,Option.some.injEq,Addr.mk.injEq,and_true] at h
   rw [h',h.1]
 have hgF:g∈F:=by
  obtain ⟨G',v,h1,h3,h4⟩:=inner_get H j hf c qf
  rw [hx] at h1
  obtain rfl:=Option.some.inj h1
  rcases h3 with ⟨h,_,_⟩ | ⟨g',dw,dx,h,h',_⟩
  ·simp at h
  ·simp only [Value.slice.injEq,Option.some.injEq,Addr.mk.injEq,and_true] at h
   rw [h.1];exact h4 g' (by rw [h'];simp)
 have ha1:∀ K∈L,∀ x∈K,∀ i,jP ((.row (Sv (some ⟨g,0,none⟩) (l[c]!).l.length m') e 1 (l[c]!).l.length (((l[c]!).l.set q u).map (Value.int .i64)))::ps) i≠some x:=by
  intro K hK x hx' i
  cases i with
  | zero=>
   intro h
   have h' :g=x:=by simpa [jP,Prv.blk,Value.ownBlock] using h
   subst h'
   exact (List.pairwise_cons.1 N.dj).1 K hK g hgF hx'
  | succ i=>exact ha K hK x hx' i
 obtain ⟨F2,N2,H3⟩:=H2.closeI 0 rfl 0 rfl N1 ha1 qf
 have e1:xs.set c (Sv (some ⟨g,0,none⟩) (l[c]!).l.length m')=xs:=by
  refine List.ext_getElem? fun i=>?_
  by_cases hi:c=i
  ·subst hi;rw [List.getElem?_set_self qf,hx]
  ·rw [List.getElem?_set_ne hi]
 have e2' :(l.set c ⟨[]⟩).set c (⟨(l[c]!).l.set q u⟩:OwnI e)=l.set c ⟨(l[c]!).l.set q u⟩:=by rw [List.set_set]
 rw [e1,e2'] at H3
 have H4:St W0 w1 ps (xy true F2 xs (l.set c ⟨(l[c]!).l.set q u⟩)::Γ'):=by
  refine (H3.erases [0]).sub _ fun f hf' =>?_
  rcases List.mem_cons.1 hf' with rfl | h
  ·exact List.mem_cons_self ..
  ·exact List.mem_cons_of_mem _ (List.mem_cons_of_mem _ h)
 exact kk w1 F2 N2 H4
end
section
variable {B : Nat} {F : yLN} {L : List yLN}
theorem away_new (N:Fresh B (F::L)) (i:Nat) (h:L[i]? =some G):∀ x∈G,x∉F:=fun x hx hF=>(List.pairwise_cons.1 N.dj).1 G (List.mem_of_getElem? h) x hF hx
theorem kept (j:Nat) (hf:Γ[j]? =some f) (h:∀ x∈f.F,x∉F):f∈Γ/\∀ x∈f.F,x∉F:=⟨List.mem_of_getElem? hf,h⟩
theorem keeps_cons (h:f∈Γ/\∀ x∈f.F,x∉F) (k:∀ f∈Δ,f∈Γ/\∀ x∈f.F,x∉F):∀ g∈f::Δ,g∈Γ/\∀ x∈g.F,x∉F:=fun g hg=>by
 rcases List.mem_cons.1 hg with rfl | hg
 ·exact h
 ·exact k g hg
end
theorem St.rebase {W0 w:World} {ps:List Prv} (H:St W0 w ps Γ) (Δ:List Fact) (h:∀ f∈Δ,f.φ w/\∀ b∈f.F,b < w.heap.size):St w w [] Δ:=
 ⟨Below.refl _ _,by simp,by intro i j b hi;simp [jP] at hi,fun f hf=>⟨(h f hf).1,fun b hb=>⟨(h f hf).2 b hb,fun i=>by simp [jP]⟩⟩⟩
end
section
section
variable {P : Program} {io : Array Oper} {Q : Exit -> Act -> World -> Prop} {n : Nat} {ρ : Env} {W0 w : World} {ai : List Oper} {ps : List Prv} {Γ : List Fact}
variable {P : Program} {n : Nat} {ρ : Env} {W0 w : World} {ps : List Prv} {Γ : List Fact}
theorem retCCT {fn:Func} {R:Ending->World->Prop} {t u z T U b c:Nat} {cs ds:List Value} {tb tc:TypeId} (H:St W0 w ps Γ) (i:Nat) (hp:ps[i]? =some (.box b cs tb)) (j:Nat) (hq:ps[j]? =some (.box c ds tc)) (x:Value) (hr:fn.results=#[.cell t T,.cell u U,.tmp z])
 (ha:∀ w,(isAgg T).run P w=.ok true w) (hs:∀ w,(Go.sizeOf T).run P w=.ok cs.length w) (ha' :∀ w,(isAgg U).run P w=.ok true w) (hs' :∀ w,(Go.sizeOf U).run P w=.ok ds.length w)
 (hv:ev n ρ (.tmp t)=.pointer (some ⟨b,0,none⟩)) (hx:ev n ρ (.tmp u)=.pointer (some ⟨c,0,none⟩)) (hz:ev n ρ (.tmp z)=x) (h:R (.returned (.tuple #[.agg cs.toArray,.agg ds.toArray,x])) w):bodyPost P fn R .ret (mk n ρ) w:=by
 have hl:=run_loadCells_list (P:=P) w ⟨b,0,none⟩ cs (fun j v hv=>by rw [Addr.add_mid];exact H.cells i hp j v hv)
 have KM :=run_loadCells_list (P:=P) w ⟨c,0,none⟩ ds (fun k v hv=>by rw [Addr.add_mid];exact H.cells j hq k v hv)
 have e:=congrFun (QA n ρ) (.tmp t)
 have e' :=congrFun (QA n ρ) (.tmp u)
 have Hk :=congrFun (QA n ρ) (.tmp z)
 simp only [Act.eval,Array.getD_eq_getD_getElem?] at e e' Hk
 rw [hv] at e
 rw [hx] at e'
 rw [hz] at Hk
 exact bodyPost_ret (v:=.tuple #[.agg cs.toArray,.agg ds.toArray,x]) (by simp [results,hr,e,e',Hk,asAddr,loadVar,ha,hs,hl,ha',hs',KM]) rfl h
end
section
variable {W0 w : World} {ps : List Prv} {Γ : List Fact}
theorem St.snocA (H:St W0 w ps Γ) (i:Nat) (hq:ps[i]? =some (.row v e 1 m (z.map (Value.int .i64)))) (j:Nat) {l:List (OwnI e)} (hf:Γ[j]? =some (xy true F xs l))
 {L:List yLN} (N:Fresh W0.heap.size (F::L)) (ha:∀ K∈L,∀ b∈K,∀ i,jP ps i≠some b):
 ∃ F',(∀ x∈F',x∈F\/jP ps i=some x)/\Fresh W0.heap.size (F'::L)/\St W0 w (ps.set i (.row (Sv none 0 0) 0 1 0 [])) (xy true F' (xs++[v]) (l++[⟨z⟩])::Γ):=by
 have hF:=(H.facts _ (List.mem_of_getElem? hf)).2
 obtain ⟨G,hG,oO,NB,Nm⟩:=own_at H i hq
 have Oi:∀ x∈G,x∉F:=fun x hx h=>(hF x h).2 i (oO x hx)
 have N4:∀ K∈L,∀ x∈K,x∉G:=fun K hK x hx h=>ha K hK x hx i (oO x h)
 have sk:∀ x∈G,W0.heap.size<=x:=fun x hx=>(QP H (oO x hx)).1
 have ee:=dead_at hq
 refine ⟨F++G,fun x hx=>(List.mem_append.1 hx).imp id (oO x),⟨fun K hK=>?_,fun K hK x hx=>?_,?_⟩,?_⟩
 ·rcases List.mem_cons.1 hK with rfl | h
  ·exact List.nodup_append.2 ⟨N.nd F qm,Nm,fun x hx y hy e=>Oi y hy (e▸hx)⟩
  ·exact N.nd K (List.mem_cons_of_mem _ h)
 ·rcases List.mem_cons.1 hK with rfl | h
  ·rcases List.mem_append.1 hx with h | h
   ·exact N.ge F qm x h
   ·exact sk x h
  ·exact N.ge K (List.mem_cons_of_mem _ h) x hx
 ·have hd:=List.pairwise_cons.1 N.dj
  refine List.pairwise_cons.2 ⟨fun K hK x hx=>?_,hd.2⟩
  rcases List.mem_append.1 hx with h | h
  ·exact hd.1 K hK x h
  ·exact fun Ps=>N4 K hK x Ps h
 ·refine (H.dead i hq).add _ ⟨yO (H.get j hf).1 (reps_one (show qW.rep w G [v] (⟨z⟩:OwnI e) from ⟨v,rfl,hG⟩)),fun _ x hx=>?_⟩ fun x hx=>?_
  ·rcases List.mem_append.1 hx with h | h
   ·exact (H.get j hf).2 rfl x h
   ·exact NB x h
  ·rcases List.mem_append.1 hx with h | h
   ·exact ⟨(hF x h).1,fun i' gw =>(hF x h).2 i' (ee x i' gw).2⟩
   ·exact ⟨(QP H (oO x h)).2,fun i' gw =>(ee x i' gw).1 (H.dist i' i x (ee x i' gw).2 (oO x h))⟩
theorem St.partA {β:Type} [qW β] (H:St W0 w ps Γ) (j:Nat) {l:List vS} (hf:Γ[j]? =some (xy fr F X l)) (m:Nat) {z:β} (hg:Γ[m]? =some (isF wl G v z))
 {iv:Int} (i:Nat) (hi:iv.toNat=i) (h1:i < l.length) (q:Nat) (hq:q < 9) (f:vS) (hr:∀ Fk ck,qW.rep w Fk ck (l[i]!)->∃ F',qW.rep w F' (ck.set q v) f/\∀ b∈F',b∈Fk\/b∈G):
 ∃ F',(∀ x∈F',x∈F\/x∈G)/\St W0 w ps (xy false F' (X.set (0+iv.toNat * 9+q) v) (l.set i f)::Γ):=by
 subst hi
 obtain ⟨F',h2,h3⟩:=reps_part (α:=vS) iv.toNat q h1 hq hr (H.get j hf).1
 refine ⟨F',h3,H.add _ ⟨by rw [Nat.zero_add];exact h2,by simp⟩ fun b hb=>?_⟩
 rcases h3 b hb with h | h
 ·exact (H.facts _ (List.mem_of_getElem? hf)).2 b h
 ·exact (H.facts _ (List.mem_of_getElem? hg)).2 b h
theorem St.partA_5 (H:St W0 w ps Γ) (j:Nat) {l:List vS} (hf:Γ[j]? =some (xy fr F X l)) (m:Nat) (hg:Γ[m]? =some (isF wl G v z)) (i:Nat) (hi:iv.toNat=i) (h1:i < l.length):
 ∃ F',(∀ x∈F',x∈F\/x∈G)/\St W0 w ps (xy false F' (X.set (0+iv.toNat * 9+5) v) (l.set i { l[i]! with zS:=z })::Γ):=by
 refine H.partA j hf m hg i hi h1 5 qj _ fun Fk ck hk=>?_
 obtain ⟨v1,v2,v3,v4,v5,v6,F1,F2,F3,F4,F5,F6,rfl,rfl,k1,k2,k3,k4,k5,k6⟩:=hk
 refine ⟨_,⟨v1,v2,v3,v,v5,v6,F1,F2,F3,G,F5,F6,rfl,rfl,k1,k2,k3,(H.get m hg).1,k5,k6⟩,fun b hb=>?_⟩
 simp only [List.mem_append] at hb
 rcases hb with ((((hb | hb) | hb) | hb) | hb) | hb <;> simp [hb]
theorem St.partA_6 (H:St W0 w ps Γ) (j:Nat) {l:List vS} (hf:Γ[j]? =some (xy fr F X l)) (m:Nat) (hg:Γ[m]? =some (isF wl G v z)) (i:Nat) (hi:iv.toNat=i) (h1:i < l.length):
 ∃ F',(∀ x∈F',x∈F\/x∈G)/\St W0 w ps (xy false F' (X.set (0+iv.toNat * 9+6) v) (l.set i { l[i]! with jX:=z })::Γ):=by
 refine H.partA j hf m hg i hi h1 6 qj _ fun Fk ck hk=>?_
 obtain ⟨v1,v2,v3,v4,v5,v6,F1,F2,F3,F4,F5,F6,rfl,rfl,k1,k2,k3,k4,k5,k6⟩:=hk
 refine ⟨_,⟨v1,v2,v3,v4,v,v6,F1,F2,F3,F4,G,F6,rfl,rfl,k1,k2,k3,k4,(H.get m hg).1,k6⟩,fun b hb=>?_⟩
 simp only [List.mem_append] at hb
 rcases hb with ((((hb | hb) | hb) | hb) | hb) | hb <;> simp [hb]
theorem St.partA_7 (H:St W0 w ps Γ) (j:Nat) {l:List vS} (hf:Γ[j]? =some (xy fr F X l)) (m:Nat) {z:List Xj} (hg:Γ[m]? =some (isF wl G v z)) (i:Nat) (hi:iv.toNat=i) (h1:i < l.length):
 ∃ F',(∀ x∈F',x∈F\/x∈G)/\St W0 w ps (xy false F' (X.set (0+iv.toNat * 9+7) v) (l.set i { l[i]! with xe:=z })::Γ):=by
 refine H.partA j hf m hg i hi h1 7 qj _ fun Fk ck hk=>?_
 obtain ⟨v1,v2,v3,v4,v5,v6,F1,F2,F3,F4,F5,F6,rfl,rfl,k1,k2,k3,k4,k5,k6⟩:=hk
 refine ⟨_,⟨v1,v2,v3,v4,v5,v,F1,F2,F3,F4,F5,G,rfl,rfl,k1,k2,k3,k4,k5,(H.get m hg).1⟩,fun b hb=>?_⟩
 simp only [List.mem_append] at hb
 rcases hb with ((((hb | hb) | hb) | hb) | hb) | hb <;> simp [hb]
theorem mem_behind (m:Nat) (e:Δ.drop m=Γ) (hf:f∈Γ):f∈Δ:=List.mem_of_mem_drop (i:=m) (by rw [e];exact hf)
theorem keeps_behind (m:Nat) (e:Δ.drop m=Γ) (h:∀ f∈Γ,∀ x∈F,x∉f.F):∀ f∈Γ,f∈Δ/\∀ x∈f.F,x∉F:=fun f hf=>⟨mem_behind m e hf,fun x hx hF=>h f hf x hF hx⟩
theorem Fresh.apart2 {B:Nat} {L:List yLN} (N:Fresh B (F::G::L)):∀ x∈F,x∉G:=fun x hx=>(List.pairwise_cons.1 N.dj).1 G qm x hx
end
end
end Go.Proofs.YtdhklgjmiamiaaaGreat
