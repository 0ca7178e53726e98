/- Walks and laws, printed by program and by hand: what each function comes to, for all arguments, part 4. -/
import Derived.Test.YtdhklgjmiamiaaaGreatA3
import Derived.Shelf.SlSortCmp.Whole1
import Derived.Ground.SlsfProg
namespace Go.Proofs.YtdhklgjmiamiaaaGreat
open Go.Proofs.Tryz
set_option linter.unusedVariables false
set_option linter.unusedSimpArgs false
set_option maxRecDepth 100000
set_option maxHeartbeats 4000000
open Go.RowKit
open Go.Proofs.Tryz
open Go.Proofs.YtdhklgjmiamiaaaGreat.Tot (tot)
open Go.Proofs.YtdhklgjmiamiaaaGreat.Mark (cnt mrk mkd mkd_mark cnt_mark)
variable {D D' M M' a b l:yLI} {Fa tW rG xo Fb uy rD wY Uk Fl Ay uT Ew vF xW xk zD zh:yLN} {O:List Bool} {R cs:yLL} {S nx:List qH} {W0 w:World} {gz eC ld ab gR eo lz LK al kw fR nM qG qO qZ xI xg:yOA} {bs bt c cl kv f4 nO f i i' j j' k m n os ot:Nat} {d left:Int} {e:TypeId} {ps:List Prv} {s:qC} {t u:qH} {Γ:List Fact}
section
open Go.RowKit Go.Shelf Go.Lib Go.Sort
def cmpL:yLI->yLI->Int
 | [],[]=>0
 | [],_::_=> -1
 | _::_,[]=>1
 | x::a,y::b=>if x < y then -1 else if y < x then 1 else cmpL a b
theorem cmpL_refl:∀ a,cmpL a a=0
 | []=>rfl
 | x::a=>by rw [cmpL,if_neg (Int.lt_irrefl x),if_neg (Int.lt_irrefl x),cmpL_refl a]
theorem cmpL_trans:∀ {a b c:yLI},cmpL a b < 0->cmpL b c < 0->cmpL a c < 0
 | [],[],_,h,_=>by simp [cmpL] at h
 | [],_::_,[],_,h=>by simp [cmpL] at h
 | [],_::_,_::_,_,_=>by simp [cmpL]
 | _::_,[],_,h,_=>by simp [cmpL] at h
 | _::_,_::_,[],_,h=>by simp [cmpL] at h
 | x::a,y::b,z::c,h1,h2=>by
  rw [cmpL] at h1 h2 ⊢
  by_cases e1:x < y
  ·by_cases e2:y < z
   ·rw [if_pos qf];omega
   ·rw [if_neg e2] at h2
    by_cases e3:z < y
    ·rw [if_pos e3] at h2;omega
    ·rw [if_pos qf];omega
  ·rw [if_neg e1] at h1
   by_cases e2:y < x
   ·rw [if_pos e2] at h1;omega
   ·rw [if_neg e2] at h1
    by_cases e3:y < z
    ·rw [if_pos qf];omega
    ·rw [if_neg e3] at h2
     by_cases e4:z < y
     ·rw [if_pos e4] at h2;omega
     ·rw [if_neg e4] at h2
      rw [if_neg qf,if_neg qf]
      exact cmpL_trans h1 h2
theorem cmpL_ntrans:∀ {a b c:yLI},¬ cmpL a b < 0->¬ cmpL b c < 0->¬ cmpL a c < 0
 | [],[],[],_,_=>by simp [cmpL]
 | _::_,_,[],_,_=>by simp [cmpL]
 | [],_::_,_,h,_=>by simp [cmpL] at h
 | _,[],_::_,_,h=>by simp [cmpL] at h
 | x::a,y::b,z::c,h1,h2=>by
  rw [cmpL] at h1 h2 ⊢
  by_cases e1:x < y
  ·rw [if_pos e1] at h1;omega
  ·rw [if_neg e1] at h1
   by_cases e2:y < z
   ·rw [if_pos e2] at h2;omega
   ·rw [if_neg e2] at h2
    rw [if_neg qf]
    by_cases e3:z < x
    ·rw [if_pos e3];omega
    ·rw [if_neg e3]
     have ey:¬ y < x:=by omega
     have ez:¬ z < y:=by omega
     rw [if_neg ey] at h1
     rw [if_neg ez] at h2
     exact cmpL_ntrans h1 h2
theorem drop_cons (h:i < l.length):l.drop i=l[i]! :: l.drop (i+1):=by
 rw [getElem!_pos l i h];exact (List.drop_eq_getElem_cons h)
theorem cmp_a (h:i < a.length) (h1:b.length<=i):cmpL (a.drop i) (b.drop i)=1:=by rw [drop_cons h,List.drop_eq_nil_of_le h1,cmpL]
theorem cmp_b (h:a.length<=i) (h1:i < b.length):cmpL (a.drop i) (b.drop i)= -1:=by rw [drop_cons h1,List.drop_eq_nil_of_le h,cmpL]
theorem cmp_c (h:a.length<=i) (h1:b.length<=i):cmpL (a.drop i) (b.drop i)=0:=by rw [List.drop_eq_nil_of_le h,List.drop_eq_nil_of_le h1,cmpL]
theorem cmp_d (h:i < a.length) (h1:i < b.length) (h2:a[i]! < b[i]!):cmpL (a.drop i) (b.drop i)= -1:=by rw [drop_cons h,drop_cons h1,cmpL,if_pos h2]
theorem cmp_e (h:i < a.length) (h1:i < b.length) (h2:a[i]! > b[i]!):cmpL (a.drop i) (b.drop i)=1:=by rw [drop_cons h,drop_cons h1,cmpL,if_neg qf,if_pos h2]
theorem cmp_f (h:i < a.length) (h1:i < b.length) (h2:¬ a[i]! < b[i]!) (h3:¬ a[i]! > b[i]!):cmpL (a.drop i) (b.drop i)=cmpL (a.drop (i+1)) (b.drop (i+1)):=by rw [drop_cons h,drop_cons h1,cmpL,if_neg h2,if_neg h3]
theorem cmpL_ahead:∀ {a b:yLI},a.length=b.length->(cmpL a b < 0<->ahead a b)
 | [],[],_=>⟨fun h=>by simp [cmpL] at h,fun ⟨i,h,_⟩=>by simp at h⟩
 | x::a,[],h=>by simp at h
 | [],y::b,h=>by simp at h
 | x::a,y::b,h=>by
  have ih:=cmpL_ahead (a:=a) (b:=b) (by simpa using h)
  rw [cmpL]
  constructor
  ·intro h1
   by_cases e:x < y
   ·exact ⟨0,by simp,fun j hj=>by omega,by simpa using e⟩
   ·rw [if_neg e] at h1
    by_cases e2:y < x
    ·rw [if_pos e2] at h1;omega
    ·rw [if_neg e2] at h1
     obtain ⟨i,h2,h3,h4⟩:=ih.1 h1
     refine ⟨i+1,by simp;omega,fun j hj=>?_,by simpa using h4⟩
     cases j with
     | zero=>simp;omega
     | succ j=>simpa using h3 j qf
  ·rintro ⟨i,h2,h3,h4⟩
   cases i with
   | zero=>rw [if_pos (by simpa using h4)];omega
   | succ i=>
    have h0:=h3 0 qf
    simp only [List.getElem!_cons_zero] at h0
    rw [if_neg qf,if_neg qf]
    exact ih.2 ⟨i,by simpa using h2,fun j hj=>by simpa using h3 (j+1) qf,by simpa using h4⟩
section
variable {W0 w : World} {ps : List Prv} {Γ : List Fact}
theorem sw_block {α:Type} [Inhabited α] {enc:α->Value} {blk:Nat} {d:Array α} {os:Array Obj} (hk:k < w.heap.size) (kS:k≠blk):(sortWorld enc w blk 0 m d os).heap[k]? =w.heap[k]? :=by
 unfold sortWorld putRow mapBlock grow
 show ((Sort.ahead w m).heap.modify blk _++os)[k]? =_
 have hs:((Sort.ahead w m).heap.modify blk (onCells (putCells enc 0 d))).size=w.heap.size:=by rw [Array.size_modify];rfl
 rw [Array.getElem?_append_left (by rw [hs];exact hk),Array.getElem?_modify,if_neg (Ne.symm kS)]
 rfl
theorem sw_row {α:Type} [Inhabited α] {enc:α->Value} {blk:Nat} {d:Array α} {os:Array Obj} {dx:Array Value} (h:w.heap[blk]? =some (.cells dx e (0,0))):(sortWorld enc w blk 0 m d os).heap[blk]? =some (.cells (putCells enc 0 d dx) e (0,0)):=by
 have hk:blk < w.heap.size:=(Array.getElem?_eq_some_iff.1 h).1
 unfold sortWorld putRow mapBlock grow
 show ((Sort.ahead w m).heap.modify blk _++os)[blk]? =_
 have hs:((Sort.ahead w m).heap.modify blk (onCells (putCells enc 0 d))).size=w.heap.size:=by rw [Array.size_modify];rfl
 rw [Array.getElem?_append_left (by rw [hs];exact hk),Array.getElem?_modify,if_pos rfl]
 show (w.heap[blk]?).map _=_
 rw [h]
 rfl
theorem sortRow {P:Program} {ρ:Ren} (L:SlLaysF.n6 P ρ) {g:Nat} (eg:∀ args w,(callFunc g args).run P w=.ok (.enter g args) w)
 (cmp:∀ (W:World) (x y:yLI) (a:yOA) (c:Nat) (F:yLN) (a' :yOA) (c' :Nat) (F' :yLN),qW.rep W F [Sv a x.length c] x->qW.rep W F' [Sv a' y.length c'] y→
  Calls P g #[Sv a x.length c,Sv a' y.length c'] W fun e w' =>e=.returned (.int .i64 (cmpL x y))/\w' =W)
 (H:St W0 w ps Γ) (k:Nat) {b c:Nat} {e:TypeId} {nn:Nat} {xs:List Value} (hp:ps[k]? =some (.row (Sv (some ⟨b,0,none⟩) nn c) e 1 nn xs)) (j:Nat) {fr:Bool} {F:yLN} {l:yLL} (hf:Γ[j]? =some (xy fr F xs l)) (h0:0 < l.length) (Tu:l.length < 4611686018427387904):
 Calls P (ρ.f 6) #[Sv (some ⟨b,0,none⟩) nn c,.func (.func g) #[] #[]] w fun e' w' =>∃ v,e' =.returned v/\∃ Yc F' l',v=.tuple #[]/\F'.Perm F/\l.Perm l' /\(∀ i j,i < j->j < l'.length->¬ cmpL (l'[j]!) (l'[i]!) < 0)∧
  St W0 w' (ps.set k (.row (Sv (some ⟨b,0,none⟩) nn c) e 1 nn Yc)) (xy fr F' Yc l'::Γ):=by
 have ho:=(H.has _ (List.mem_of_getElem? hp):w.ownsRow W0.heap.size e 1 _ nn xs)
 obtain ⟨hr,ff⟩:=H.get j hf
 have DQ:xs.length=l.length:=by have:=Vx hr;simpa [qW.size] using this
 have hnn:nn=l.length:=by have:=ho.1;omega
 subst hnn
 obtain ⟨hl,h | ⟨g',dw,dx,hv,hB,hg,hn,hm,th,ht⟩⟩:=ho
 ·simp at h
 simp only [Value.slice.injEq,Option.some.injEq,Addr.mk.injEq,and_true] at hv
 obtain ⟨rfl,_,rfl⟩:=hv
 have hF:=(H.facts _ (List.mem_of_getElem? hf)).2
 have wr:∀ x∈F,x≠b:=fun x hx e' =>(hF x hx).2 k (by simp [jP,hp,Prv.blk,Value.ownBlock,e'])
 let enc:Nat->Value:=fun i=>xs[i % l.length]!
 let cf:Nat->Nat->Int:=fun i j=>cmpL (l[i % l.length]!) (l[j % l.length]!)
 have F9:∀ i,i % l.length < l.length:=fun i=>Nat.mod_lt _ h0
 have x6:∀ i,∃ a c' G,(∀ x∈G,x∈F)/\enc i=Sv a (l[i % l.length]!).length c' /\qW.rep w G [Sv a (l[i % l.length]!).length c'] (l[i % l.length]!):=fun i=>by
  obtain ⟨F1,Fk,F2,v1,cs,v2,L6,P2,JH,hl2,hu,_,_⟩:=reps_get hr (i % l.length) (F9 i)
  obtain ⟨a,c',rfl,hx⟩:=id hu
  have BO :v1.length=i % l.length:=by rw [JH];exact Nat.mul_one _
  refine ⟨a,c',Fk,fun x hx=>by rw [L6];simp [hx],?_,?_⟩
  ·show xs[i % l.length]! =_
   rw [getElem!_pos l _ (F9 i),getElem!_pos xs _ (by rw [DQ];exact F9 i)]
   have:xs[i % l.length]? =some (Sv a (l[i % l.length]'(F9 i)).length c'):=by
    refine (congrArg (fun z:List Value=>z[i % l.length]?) P2).trans ?_
    show (v1++[_]++v2)[i % l.length]? =_
    rw [List.append_assoc,List.getElem?_append_right qf]
    simp [BO]
   exact (List.getElem?_eq_some_iff.1 this).2
  ·rw [getElem!_pos l _ (F9 i)];exact hu
 have hO:OneCell enc:=fun i=>by obtain ⟨a,c',G,_,he,_⟩:=x6 i;show Value.oneCell' (enc i)=true;rw [he];rfl
 have hS:SWO (ltOf cf):=by
  refine ⟨fun x=>?_,fun x y z h1 h2=>?_,fun x y z h1 h2=>?_⟩ <;> unfold ltOf at *
  ·show decide (cmpL _ _ < 0)=false
   rw [cmpL_refl];rfl
  ·exact decide_eq_true (cmpL_trans (of_decide_eq_true h1) (of_decide_eq_true h2))
  ·exact decide_eq_false (cmpL_ntrans (of_decide_eq_false h1) (of_decide_eq_false h2))
 let d:Array Nat:=Array.range l.length
 have hds:d.size=l.length:=Array.size_range
 have hdi:∀ i,i < l.length->d[i]! =i:=fun i hi=>by rw [getElem!_pos d i (by rw [hds];exact hi)];exact Array.getElem_range _
 have Y0:∀ i,i < l.length->dx[i]? =some (enc i):=fun i hi=>by
  have h1:xs[i]? =some (enc i):=by
   show xs[i]? =some (xs[i % l.length]!)
   rw [Nat.mod_eq_of_lt hi,getElem!_pos xs i qf]
   exact List.getElem?_eq_getElem qf
  rw [← ht,List.getElem?_take,if_pos qf] at h1
  simpa using h1
 have hH:Holds enc w b 0 d:=fun i hi=>by
  have gw :i < l.length:=by rw [hds] at hi;exact hi
  rw [hdi i gw,Nat.zero_add]
  constructor
  ·rw [World.cell?,hg];exact Y0 i gw
  ·rw [World.frozen?,hg];simp
 have akt:CmpLays1 P g #[] enc cf b 0 d.size w:=fun m os dk hs x y=>by
  obtain ⟨a,c1,G,hG,he,hx⟩:=x6 x
  obtain ⟨a2,c2,G2,hG2,he2,hy⟩:=x6 y
  have st:∀ z∈F,(sortWorld enc w b 0 m dk os).heap[z]? =w.heap[z]? :=fun z hz=>sw_block (hF z hz).1 (wr z hz)
  rw [he,he2]
  refine (cmp _ _ _ a c1 G a2 c2 G2 (qW.stay hx fun z hz=>st z (hG z hz)) (qW.stay hy fun z hz=>st z (hG2 z hz))).mono fun e' w' h=>⟨h.1,0,#[],?_⟩
  rw [grow_empty];exact h.2
 have ww:b < w.heap.size:=(Array.getElem?_eq_some_iff.1 hg).1
 have hc:=Any.slices_SortFunc L enc hO cf hS g #[] b 0 c d w eg akt hH ww (by rw [hds];exact Tu)
 rw [hds] at hc
 refine hc.mono fun e' w' ⟨he,d',n,os,hpm,hso,hw⟩=>⟨_,he,?_⟩
 have Ds :d'.size=l.length:=hpm.1.trans hds
 have KN:d'.toList.Perm (List.range l.length):=by
  have:=hpm.2.2
  rw [Array.extract_eq_self_of_le qf,Array.extract_eq_self_of_le qf] at this
  simpa [d] using this
 have oT:∀ x∈d'.toList,x < l.length:=fun x hx=>List.mem_range.1 (KN.subset hx)
 -- the pairs
 have hz:(xs.zip l).Perm (d'.toList.map fun i=>(xs[i]!,l[i]!)):=by
  have e1:xs.zip l=(List.range l.length).map fun i=>(xs[i]!,l[i]!):=by
   refine List.ext_getElem (by simp [DQ]) fun i h1 h2=>?_
   have hi:i < l.length:=by simpa using h2
   rw [List.getElem_zip,List.getElem_map,List.getElem_range,getElem!_pos xs i qf,getElem!_pos l i hi]
  rw [e1]
  exact (KN.map _).symm
 have Pj :reps w F ((xs.zip l).map Prod.fst) ((xs.zip l).map Prod.snd):=by rw [zip_fst DQ,zip_snd DQ];exact hr
 obtain ⟨F',En,hr2⟩:=reps_perm rfl hz Pj
 rw [List.map_map,List.map_map] at hr2
 refine ⟨d'.toList.map fun i=>xs[i]!,F',d'.toList.map fun i=>l[i]!,rfl,En,?_,?_,?_⟩
 ·have:=hz.map Prod.snd
  rw [zip_snd DQ,List.map_map] at this
  exact this
 ·intro i j He hj
  rw [List.length_map,Array.length_toList,Ds] at hj
  have sk:∀ q,q < l.length->(d'.toList.map fun i=>l[i]!)[q]! =l[d'[q]! % l.length]! :=fun q hq=>by
   rw [getElem!_pos _ q (by simp [Ds,hq]),List.getElem_map,Array.getElem_toList]
   have:d'[q]! =d'[q]:=getElem!_pos d' q qf
   rw [this,Nat.mod_eq_of_lt (oT _ qm)]
  rw [sk i qf,sk j hj]
  exact of_decide_eq_false (hso i j (Nat.zero_le _) He hj)
 ·subst hw
  have dv:∀ q,q < l.length->(putCells enc 0 d' dx)[q]? =some (xs[d'[q]!]!):=fun q hq=>by
   unfold putCells
   rw [Array.getElem?_mapIdx]
   have hcq:=Y0 q hq
   rw [hcq]
   simp only [Option.map_some,Nat.zero_le,true_and,Nat.zero_add,Ds,if_pos hq,Nat.sub_zero]
   show some (xs[d'[q]! % l.length]!)=_
   have:d'[q]! =d'[q]:=getElem!_pos d' q qf
   rw [this,Nat.mod_eq_of_lt (oT _ qm)]
  have tx:(sortWorld enc w b 0 n d' os).ownsRow W0.heap.size e 1 (Sv (some ⟨b,0,none⟩) l.length c) l.length (d'.toList.map fun i=>xs[i]!):=by
   refine ⟨by simp [Ds],Or.inr ⟨b,c,putCells enc 0 d' dx,rfl,hB,sw_row hg,hn,hm,by unfold putCells;rw [Array.size_mapIdx];exact th,?_⟩⟩
   rw [Nat.mul_one]
   refine List.ext_getElem? fun q=>?_
   rw [List.getElem?_take]
   split
   ·next hq=>
    rw [Array.getElem?_toList,dv q hq,List.getElem?_map,Array.getElem?_toList]
    have:d'[q]! =d'[q]:=getElem!_pos d' q qf
    rw [this,Array.getElem?_eq_getElem qf]
    rfl
   ·next hq=>rw [List.getElem?_eq_none qy]
  have Bz:w.heap.size<=(sortWorld enc w b 0 n d' os).heap.size:=by
   unfold sortWorld putRow mapBlock grow
   show _<=((Sort.ahead w n).heap.modify b _++os).size
   rw [Array.size_append,Array.size_modify]
   exact Nat.le_add_right _ _
  have H1:=H.change k hp (w' :=sortWorld enc w b 0 n d' os) (p' :=.row (Sv (some ⟨b,0,none⟩) l.length c) e 1 l.length (d'.toList.map fun i=>xs[i]!)) rfl rfl rfl Bz (fun i hi kS=>sw_block hi (fun e2=>kS (by subst e2;rfl))) tx (Or.inl rfl)
  refine H1.add _ ⟨?_,fun e2 x hx=>?_⟩ fun x hx=>?_
  ·exact reps_stay hr2 fun z hz=>sw_block (hF z (En.subset hz)).1 (wr z (En.subset hz))
  ·have h2:=ff e2 x (En.subset hx)
   obtain ⟨o1,o2,ho⟩:=h2
   exact ⟨o1,o2,(sw_block (hF x (En.subset hx)).1 (wr x (En.subset hx))).trans ho⟩
  ·refine ⟨Nat.lt_of_lt_of_le (hF x (En.subset hx)).1 Bz,fun i hi=>?_⟩
   have h3:=(hF x (En.subset hx)).2
   by_cases e3:i=k
   ·subst e3
    have:(ps.set i (Prv.row (Sv (some ⟨b,0,none⟩) l.length c) e 1 l.length (d'.toList.map fun i=>xs[i]!)))[i]? =some (Prv.row (Sv (some ⟨b,0,none⟩) l.length c) e 1 l.length (d'.toList.map fun i=>xs[i]!)):=set_at hp
    simp only [jP,this,Option.bind_some,Prv.blk,Value.ownBlock,Option.some.injEq] at hi
    exact wr x (En.subset hx) hi.symm
   ·have:jP (ps.set k (Prv.row (Sv (some ⟨b,0,none⟩) l.length c) e 1 l.length (d'.toList.map fun i=>xs[i]!))) i=jP ps i:=by unfold jP;rw [List.getElem?_set_ne (Ne.symm e3)]
    rw [this] at hi
    exact h3 i hi
end
end
section
variable {qE qN xf xG qY : Nat}
theorem compareL_ok (w:World) (a:yLI) (b:yLI) (aa:yOA) (ca:Nat) (Fa:yLN) (ab:yOA) (cb:Nat) (Fb:yLN) (ha:zP w Fa aa ca a) (hb:zP w Fb ab cb b):Calls Tryz.prog 79 #[Sv aa a.length ca,Sv ab b.length cb] w (Ret (fun v w' =>v=yI (cmpL a b)/\w' =w) w):=by
 refine en func79 ntmps79 ?_
 have H:=((St.start w).arg hb).arg ha
 have WG:=qM ha
 have nhb:=qM hb
 clear ha hb
 have N:=Fresh.nil w.heap.size
 refine zcr (sp (yI 0) (zjcc (sq 1 (oN rfl (sp (yI 0) (zjn (qR (zl ((fun Z0 Z1=>fun m' ρ w1=>∃ (xE:Env) (i:Nat),ρ=upd (upd (upd (upd (upd xE 0 (Sv aa a.length ca)) 1 (Sv ab b.length cb)) 9 (Sv aa a.length ca)) 10 (yI a.length)) 11 (yI i)/\((i:Int)<=a.length)/\(w1=w)/\(cmpL a b=cmpL (a.drop i) (b.drop i))/\(i<=b.length)/\m' =(a.length - (i:Int)).toNat/\Fresh w.heap.size []/\St w w1 [] [Z0,Z1]) _ _) ((a.length - (0:Int)).toNat) ⟨_,0,uE5,qf,(by rfl),(by rfl),qf,rfl,N,H⟩ ?_))))))))
 clear H N
 rintro m' ρ w2 ⟨xE,i,rfl,i0,wk,i1,i2,rfl,N,H⟩
 refine zcr (sq 1 (zjn (xQ (cD rfl (fun h3=>?_) (fun h3=>?_)))))
 ·refine qV (t_n (xQ (qR (zcr (sp (yI i) ?_)))))
  obtain ⟨b4,o5,rfl⟩:=H.addr 0 rfl qf
  refine oI rfl rfl (oL rfl (H.zA 0 rfl i qf) (sp (yI i) (sq 1 (zjcc (sp (yI i) (sq 1 (oN rfl (sq 1 (zjn (cD rfl (fun h7=>?_) (fun h7=>?_)))))))))))
  ·refine zcr (sp (yI 1) (zjr (t_r (zr5 (rH1 (yI 1) H (⟨?_,wk⟩))))))
   rw [i1,show cmpL (a.drop i) (b.drop i)=1 by exact cmp_a qf qf]
  refine qV (t_n (zcr (sq 1 (sp (yI i) ?_))))
  obtain ⟨b8,o9,rfl⟩:=H.addr 1 rfl qf
  refine oI rfl rfl (oL rfl (H.zA 1 rfl i qf) (sq 1 (zjc (sq 2 (sw (zQ #[yI (a[i]!),yI (b[i]!)] rfl rfl call134 (en func134 ntmps134 ?_)))))))
  refine zcr (sp (yI 0) (zjc (sq 1 (sw (zQ #[yI (a[i]!)] rfl rfl call180 (en func180 ntmps180 ?_))))))
  refine zcr (sp (Bv false) (zjc (sq 4 (zjr (ret1 (Bv ((a[i]! :Int) != (a[i]!))) rfl rfl ⟨_,rfl,(sq 1 (zjc (sq 1 (sw (zQ #[yI (b[i]!)] rfl rfl call180 (en func180 ntmps180 ?_))))))⟩)))))
  refine zcr (sp (Bv false) (zjc (sq 4 (zjr (ret1 (Bv ((b[i]! :Int) != (b[i]!))) rfl rfl ⟨_,rfl,(sq 1 (zjcc (sq 1 (zjn (zT _ rfl (fun h=>absurd rfl (bne_iff_ne.1 h)) (fun aU=>?_))))))⟩)))))
  replace aU:=xx aU
  refine qV (t_n (zcc (sq 1 (zjn (zT _ rfl (fun h=>absurd rfl (bne_iff_ne.1 h)) (fun db=>?_))))))
  replace db:=xx db
  refine qV (t_n (zcc (sq 3 (zjn (cD rfl (fun ir=>?_) (fun ir=>?_))))))
  ·refine zcr (sq 1 (zjr (t_r (ret1 (yI (-1)) rfl rfl ⟨_,rfl,(sq 1 (zjc (sq 1 (sp (Bv true) (zjn (cTr rfl (zcr (sq 2 (zjr (zr5 (rH1 (yI (-1)) H (⟨?_,wk⟩))))))))))))⟩))))
   rw [i1,show cmpL (a.drop i) (b.drop i)= -1 by exact cmp_d qf qf ‹_›]
  refine qV (t_n (zcc (sq 3 (zjn (cD rfl (fun dO=>?_) (fun dO=>?_))))))
  ·refine zcr (sp (yI 1) (zjr (t_r (ret1 (yI 1) rfl rfl ⟨_,rfl,(sp (yI 1) (zjc (sp (yI 1) (sp (Bv true) (zjn (cTr rfl (zcr (sp (yI 1) (sp (yI 1) (zjr (zr5 (rH1 (yI 1) H (⟨?_,wk⟩)))))))))))))⟩))))
   rw [i1,show cmpL (a.drop i) (b.drop i)=1 by exact cmp_e qf qf ‹_›]
  refine qV (t_n (zcr (sp (yI 0) (zjr (ret1 (yI 0) rfl rfl ⟨_,rfl,(sp (yI 0) (zjc (sp (yI 0) (sp (Bv false) (zjn (cFr rfl (qV (b_n (t_n (xJ (sw (zn i 1 rfl rfl qf (sq 1 (xO (qX (m' :=(a.length - ((i+1):Int)).toNat) qf ⟨_,i+1,uE5,?_,?_,?_,?_,rfl,N,H⟩)))))))))))))))⟩)))))
  ·omega
  ·exact wk
  ·exact i1.trans (cmp_f qf qf ‹_› ‹_›)
  ·omega
 refine zx4 (zcc (sq 1 (oN rfl (sq 1 (oN rfl (sq 1 (zjn (cD rfl (fun kL=>?_) (fun kL=>?_)))))))))
 ·refine zcr (sq 1 (zjr (t_r (rH1 (yI (-1)) H (⟨?_,wk⟩)))))
  rw [i1,show cmpL (a.drop i) (b.drop i)= -1 by exact cmp_b qf qf]
 refine qV (t_n (zcr (sp (yI 0) (zjr (rH1 (yI 0) H (⟨?_,wk⟩))))))
 rw [i1,cmp_c qf qf]
def sortL_ren:Go.Shelf.Ren:=⟨fun | 6=>78 | 15=>133 | 14=>132 | 28=>178 | 29=>179 | 20=>170 | 21=>171 | 22=>172 | 23=>173 | 24=>174 | 25=>175 | 26=>176 | 27=>177 | 46=>199 | 47=>200 | 48=>201 | 49=>202 | 50=>203 | 57=>217 | n=>n,fun | 22=>29 | 24=>24 | 25=>110 | 3=>3 | 39=>155 | 0=>0 | 53=>198 | 55=>113 | 4=>4 | 46=>191 | 45=>190 | 50=>195 | 5=>5 | 9=>9 | 66=>214 | 70=>218 | 76=>229 | 77=>230 | n=>n,fun | n=>n⟩
theorem sortL:Go.Proofs.SlLaysF.n6 Tryz.prog sortL_ren:={
 mixed:=by kernel_rfl
 f6:=⟨Tryz.f78.name,by decide,Tryz.func78.trans (congrArg some (by kernel_rfl))⟩
 f14:=⟨Tryz.f132.name,by decide,Tryz.func132.trans (congrArg some (by kernel_rfl))⟩
 f15:=Tryz.func133.trans (congrArg some (by kernel_rfl))
 f20:=⟨Tryz.f170.name,by decide,Tryz.func170.trans (congrArg some (by kernel_rfl))⟩
 f21:=⟨Tryz.f171.name,by decide,Tryz.func171.trans (congrArg some (by kernel_rfl))⟩
 f22:=⟨Tryz.f172.name,by decide,Tryz.func172.trans (congrArg some (by kernel_rfl))⟩
 f23:=⟨Tryz.f173.name,by decide,Tryz.func173.trans (congrArg some (by kernel_rfl))⟩
 f24:=⟨Tryz.f174.name,by decide,Tryz.func174.trans (congrArg some (by kernel_rfl))⟩
 f25:=⟨Tryz.f175.name,by decide,Tryz.func175.trans (congrArg some (by kernel_rfl))⟩
 f26:=⟨Tryz.f176.name,by decide,Tryz.func176.trans (congrArg some (by kernel_rfl))⟩
 f27:=⟨Tryz.f177.name,by decide,Tryz.func177.trans (congrArg some (by kernel_rfl))⟩
 f28:=Tryz.func178.trans (congrArg some (by kernel_rfl))
 f29:=Tryz.func179.trans (congrArg some (by kernel_rfl))
 f46:=⟨Tryz.f199.name,by decide,Tryz.func199.trans (congrArg some (by kernel_rfl))⟩
 f47:=Tryz.func200.trans (congrArg some (by kernel_rfl))
 f48:=Tryz.func201.trans (congrArg some (by kernel_rfl))
 f49:=⟨Tryz.f202.name,by decide,Tryz.func202.trans (congrArg some (by kernel_rfl))⟩
 f50:=⟨Tryz.f203.name,by decide,Tryz.func203.trans (congrArg some (by kernel_rfl))⟩
 f57:=⟨Tryz.f217.name,by decide,Tryz.func217.trans (congrArg some (by kernel_rfl))⟩
 t0:=underlying0
 a0:=isAgg0
 z0:=sizeOf0
 v0:=zeroValue0
 t3:=underlying3
 a3:=isAgg3
 z3:=sizeOf3
 v3:=zeroValue3
 t4:=underlying4
 a4:=isAgg4
 z4:=sizeOf4
 v4:=zeroValue4
 t5:=underlying5
 a5:=isAgg5
 z5:=sizeOf5
 v5:=zeroValue5
 t9:=underlying9
 a9:=isAgg9
 z9:=sizeOf9
 v9:=zeroValue9
 t22:=underlying29
 a22:=isAgg29
 z22:=sizeOf29
 v22:=zeroValue29
 a24:=isAgg24
 z24:=sizeOf24
 t25:=underlying110
 a25:=isAgg110
 z25:=sizeOf110
 v25:=zeroValue110
 t39:=underlying155
 a39:=isAgg155
 z39:=sizeOf155
 v39:=zeroValue155
 t45:=underlying190
 a45:=isAgg190
 z45:=sizeOf190
 v45:=zeroValue190
 t46:=underlying191
 a46:=isAgg191
 z46:=sizeOf191
 v46:=zeroValue191
 t50:=underlying195
 a50:=isAgg195
 z50:=sizeOf195
 v50:=zeroValue195
 t53:=underlying198
 a53:=isAgg198
 z53:=sizeOf198
 v53:=zeroValue198
 t55:=underlying113
 a55:=isAgg113
 z55:=sizeOf113
 v55:=zeroValue113
 t66:=underlying214
 a66:=isAgg214
 z66:=sizeOf214
 v66:=zeroValue214
 t70:=underlying218
 a70:=isAgg218
 z70:=sizeOf218
 v70:=zeroValue218
 t76:=underlying229
 a76:=isAgg229
 z76:=sizeOf229
 v76:=zeroValue229
 t77:=underlying230
 a77:=isAgg230
 z77:=sizeOf230
 v77:=zeroValue230 }
theorem cmpSort (W:World) (x y:yLI) (a:yOA) (c:Nat) (F:yLN) (a' :yOA) (c' :Nat) (F' :yLN) (hx:zP W F a c x) (hy:qW.rep W F' [Sv a' y.length c'] y):
 Calls Tryz.prog 79 #[Sv a x.length c,Sv a' y.length c'] W fun e w' =>e=.returned (yI (cmpL x y))/\w' =W:=
 (compareL_ok W x y a c F a' c' F' hx hy).mono fun _ _ ⟨_,he,⟨hv,hw⟩,_⟩=>⟨he.trans (by rw [hv]),hw⟩
theorem choices_ok (w:World) (s:qC) (t:qH) (qP:zP w xk qG qE s.qA) (xm:zP w xW qO qN s.qB) (zi:zP w zD xg xf t.qK) (zI:zP w vF xI xG t.qQ) (xM:zP w zh qZ qY t.qL) (p0:ve s) (p1:xZ s t):Calls Tryz.prog 108 #[.agg #[yI s.xK,Sv qG s.qA.length qE,Sv qO s.qB.length qN],.agg #[Sv xg t.qK.length xf,Sv xI t.qQ.length xG,Sv qZ t.qL.length qY]] w (Ret (fun v w' =>∃ (kN:yOA) (kY:Nat) (kQ:Nat) (kZ:List Value) (kR:yLN),v=.tuple #[Sv kN kY kQ,yI ((jf s t).2)]/\Fresh w.heap.size [kR]/\St w w' [rr kN kY kQ 24 1 kZ] [xy true kR kZ ((jf s t).1)]) w):=by
 refine en func108 ntmps108 ?_
 have H:=(((((St.start w).arg xM).arg zI).arg zi).arg xm).arg qP
 have zB:=qM qP
 have vP:=qM xm
 clear qP xm zi zI xM
 have N:=Fresh.nil w.heap.size
 have A:=H.ltN (L:=[xk,xW,zD,vF,zh]) (zR 0 5)
 have p2:=p0.2.1
 have p3:=p0.1.2.1
 have p4:=p1.1
 have p5:=p1.2.1
 refine zcr (sw (zZ H (yS s qG qE qO qN) fun b1 w2 H=>sw (zZ H (yT t xg xf xI xG qZ qY) fun b3 w4 H=>sq 1 (sp (yI 0) (zjc (sw (xU (yS s qG qE qO qN) isAgg27 sizeOf27 rfl (qF (H.cells 1 rfl) 0 3) (sw (xU (yT t xg xf xI xG qZ qY) isAgg31 sizeOf31 rfl (qF (H.cells 0 rfl) 0 3) (sw (zQ #[.agg #[yI s.xK,Sv qG s.qA.length qE,Sv qO s.qB.length qN],.agg #[Sv xg t.qK.length xf,Sv xI t.qQ.length xG,Sv qZ t.qL.length qY]] rfl rfl call158 (en func158 ntmps158 ?_))))))))))))
 refine zcr (sw (zZ H (yS s qG qE qO qN) fun b5 w6 H=>sw (zZ H (yT t xg xf xI xG qZ qY) fun b7 w8 H=>sq 1 (sp (yI 0) (zjc (oF rfl (oL rfl (H.cell 1 rfl rfl) (oN rfl (sw (o_makeZ (⟨[]⟩:OwnI 2) H underlying29 ti24 qj (fun _=>⟨yN,rfl,Or.inl ⟨rfl,rfl,rfl⟩⟩) s.qA.length rfl rfl qf qf qf fun b9 nq ajC H=>(sq 1 (zjcc (sw (xU (yS s qG qE qO qN) isAgg27 sizeOf27 rfl (qF (H.cells 2 rfl) 0 3) (sw (xU (yT t xg xf xI xG qZ qY) isAgg31 sizeOf31 rfl (qF (H.cells 1 rfl) 0 3) (sw (oc (applicable_ok _ s t (H.get 1 rfl).1 (H.get 2 rfl).1 (H.get 3 rfl).1 (H.get 4 rfl).1 (H.get 5 rfl).1 qg qg) ?_))))))))))))))))))
 rintro _ xV ⟨kH,abX,kM,rfl,M,K⟩ _
 replace H:=H.merge K M
 obtain rfl:=H.jC 0 rfl
 have al:(appls s t).length<=s.qB.length:=applL_le s t s.qB.length
 refine oN rfl (sp (yI 0) (zjn (qR (zl ((fun Z0 Z1 Z2 Z3 Z4 Z5 Z6 Z7 Z8 Z9=>fun m' ρ Dn=>∃ (xE:Env) (k:Nat) (own:List (OwnI 2)) (tu:List Value) (iS:yLN),ρ=upd (upd (upd (upd (upd (upd xE 2 (pp b5 0)) 3 (pp b7 0)) 6 (Sv (aa b9 0) s.qA.length s.qA.length)) 24 (Sv kH ((appls s t).length) kM)) 25 (yI ((appls s t).length))) 26 (yI k)/\own=(ownL 2 s t s.qA.length k)/\((k:Int)<=((appls s t).length))/\m' =(((appls s t).length) - (k:Int)).toNat/\Fresh w.heap.size [iS]/\St w Dn [Z0,rr (aa b9 0) s.qA.length s.qA.length 24 1 tu,Z1,Z2,Z3,Z4] [xy true iS tu own,Z5,Z6,Z7,Z8,Z9]) _ _ _ _ _ _ _ _ _ _) ((((appls s t).length) - (0:Int)).toNat) ⟨_,0,(List.replicate s.qA.length (⟨[]⟩:OwnI 2)),ajC,[],uE6,(by exact ownL_zero 2 s t _),qf,rfl,N.emp,H⟩ ?_))))
 clear H N
 rintro m' ρ s0 ⟨xE,k,own,tu,iS,rfl,rfl,i0,rfl,N,H⟩
 have xb:=H.zg (α:=OwnI 2) 1 rfl 0 rfl qj
 refine zcr (sq 1 (zjn (xQ (cD rfl (fun oV=>?_) (fun oV=>?_)))))
 ·obtain ⟨a0,a1,a2⟩:=appls_inH (s:=s) (t:=t) (q:=k) qf
  have q:=p0.rule (i:=((appls s t)[k]!).toNat) qf
  have qc:=q.1
  have qk:(s.qB[((appls s t)[k]!).toNat]!).qI.toNat < s.qA.length:=q.cell
  have le:=ownL_le (e:=2) (s:=s) (t:=t) (n:=s.qA.length) (q:=k) (c:=(s.qB[((appls s t)[k]!).toNat]!).qI.toNat) qf
  have sm:=vX (p1.2.2.2.2 (s.qB[((appls s t)[k]!).toNat]!).qI.toNat qf).1
  refine qV (t_n (xQ (qR (zcr ?_))))
  obtain ⟨sg,rfl⟩:=H.jK 0 rfl qf
  refine oI rfl rfl (oL rfl (H.QJ 0 rfl (iv:=k) (i:=k) qf qf) (sq 1 (zjc (oF rfl (oL rfl (H.cell 3 rfl rfl) (sq 1 ?_))))))
  obtain ⟨fH,JX,rfl⟩:=H.addr 2 rfl qf
  obtain ⟨lT,mX,Gg,mZ,lH,D6,l8,ng,EW,lE,mH,E9,pc,o0,I7,mi,ms,Ec,H⟩:=H.jZ 2 rfl ((appls s t)[k]!) (((appls s t)[k]!).toNat) qf qf qf
  refine oI rfl rfl (oF rfl (oL rfl (H.xP 6 rfl 0 rfl) (sq 1 (zjcc (oF rfl (oL rfl (H.cell 2 rfl rfl) (sq 1 ?_)))))))
  obtain ⟨Rz,o27,rfl⟩:=H.addr 11 rfl qf
  obtain ⟨ast,ayE,avO,H⟩:=H.zW 11 rfl ((s.qB[((appls s t)[k]!).toNat]!).qI) (((s.qB[((appls s t)[k]!).toNat]!).qI).toNat) qf qf qf
  refine oI rfl rfl (oL rfl (H.xP 1 rfl 0 rfl) (sw (oq (XC _ (t.qQ[((s.qB[((appls s t)[k]!).toNat]!).qI).toNat]!) (H.get 0 rfl).1 (by assumption)) H fun AP H=>sp (Bv (decide ((QS (t.qQ[((s.qB[((appls s t)[k]!).toNat]!).qI).toNat]!):Int) > 16))) (zjn (cD rfl (fun Nh=>?_) (fun Nh=>?_))))))
  ·refine zcr (sq 1 (sp (yI 3) (zjr (t_r (zr5 (ret2 yN (yI 3) rfl rfl rfl ⟨_,rfl,?_⟩))))))
   replace H:=H.erases [3,2,1,0]
   dsimp only [vz,List.eraseIdx] at H
   refine sq 2 (sp (yI 3) (sq 1 (sp (yI 3) (zjcc (sp (yI 3) (sp (Bv true) (zjn (cTr rfl (zcr (sp (yI 3) (sq 1 (sp (yI 3) (zjr (t_r ?_))))))))))))))
   replace H:=H.nilRow 24 1
   replace H:=H.jo (α:=yLI)
   refine ret2 yN (yI 3) rfl rfl rfl ⟨_,rfl,?_,H.base⟩
   rw [cho_3 (.inl (own_bad p0 (q:=k) qf qf))]
   exact ⟨none,0,0,[],[],rfl,(N.emp.pick [0]),H.pick [0] [0]⟩
  refine qV (t_n (xJ (sq 4 (oI rfl rfl ?_))))
  replace N:Fresh w.heap.size [iS]:=N
  obtain ⟨a33,c34,F35,h36,N,H⟩:=H.openI 1 rfl 9 rfl N (iv:=(s.qB[((appls s t)[k]!).toNat]!).qI) (((s.qB[((appls s t)[k]!).toNat]!).qI).toNat) qf qf [sF false xk qG qE s.qA,sF false xW (aa fH JX) qN s.qB,sF false zD xg xf t.qK,sF false vF (aa Rz o27) xG t.qQ,sF false zh qZ qY t.qL] (keepA A N (zR 10 5) rfl rfl)
  refine oL rfl h36 (sq 1 (sw (zf H underlying24 ti2 [yI ((appls s t)[k]!)] fun b37 KT H=>sw (zo H 1 rfl 0 rfl underlying24 ti2 rfl qj rfl rfl rfl qw qp qf fun a39 P3 Mx H=>?_))))
  rw [snocI] at H
  refine oI rfl rfl (sw (o_closeI H 3 rfl 1 qj rfl 0 rfl (c:=(((s.qB[((appls s t)[k]!).toNat]!).qI).toNat)) (N:Fresh w.heap.size [F35]) (H.jA []) sizeOf24 rfl rfl qf qf fun wR F43 N H=>xO (b_n (t_n (xJ (sw (zn k 1 rfl rfl qf (sq 1 (xO (qX (m' :=(((appls s t).length) - ((k+1):Int)).toNat) qf ⟨_,k+1,_,_,_,uE6,?_,?_,rfl,N,H.pick (zR 2 6) (0::zR 2 5)⟩))))))))))
  ·exact ownL_set qf rfl qf qf (by rw [List.set_set])
  ·omega
 refine zx4 (zcr (sw (vW H underlying176 ti180 fun Hq Ou H=>sq 1 (zjcc (sq 1 (oN rfl (sp (yI 0) (zjn (qR ?_)))))))))
 replace H:=H.ofOwn 0 rfl
 rw [ownL_end qf] at H
 have cl:=cellsR_len s t s.qA.length
 replace H:=H.boxRow 0 rfl 2 0 rfl qj
 replace H:=H.jo (α:=inCellD)
 replace H:St _ _ [rr (aa Hq 0) 0 0 180 2 [],rr kH ((appls s t).length) kM 2 1 ((appls s t).map (Value.int .i64)),rr (aa b9 0) s.qA.length s.qA.length 24 1 tu,.box b7 (yT t xg xf xI xG qZ qY) 31,.box b5 (yS s qG qE qO qN) 27,.box b3 (yT t xg xf xI xG qZ qY) 31,.box b1 (yS s qG qE qO qN) 27] [xy true [] [] ([]:List inCellD),xy true iS tu (cellsR s t s.qA.length),xy true iS tu (ownL 2 s t s.qA.length k),sF false xk qG qE s.qA,sF false xW qO qN s.qB,sF false zD xg xf t.qK,sF false vF xI xG t.qQ,sF false zh qZ qY t.qL]:=H
 refine zl ((fun Z0 Z1 Z2 Z3 Z4 Z5 Z6 Z7 Z8 Z9 bx bG dy=>fun m' ρ C1=>∃ (xE:Env) (jB:yOA) (vC:Nat) (jw:Nat) (out:List inCellD) (bC:List Value) (QW:yLN) (c:Nat),ρ=upd (upd (upd (upd (upd (upd xE 2 (pp b5 0)) 3 (pp b7 0)) 10 (Sv jB vC jw)) 55 (Sv (aa b9 0) s.qA.length s.qA.length)) 56 (yI s.qA.length)) 57 (yI c)/\out=(XR s t c)/\((c:Int)<=s.qA.length)/\(GoodP s t c)/\m' =(s.qA.length - (c:Int)).toNat/\Fresh w.heap.size [iS]/\St w C1 [rr jB vC jw 180 2 bC,Z0,Z1,Z2,Z3,Z4,Z5] [xy true QW bC out,Z6,Z7,Z8,Z9,bx,bG,dy]) _ _ _ _ _ _ _ _ _ _ _ _ _) ((s.qA.length - (0:Int)).toNat) ⟨_,(aa Hq 0),0,0,([]:List inCellD),[],[],0,uE6,(by rfl),qf,qx,rfl,N,H⟩ ?_
 clear H N
 rintro m' ρ Ng ⟨xE,jB,vC,jw,out,bC,QW,c,rfl,rfl,i0,gp,rfl,N,H⟩
 have bR:=H.zg (α:=inCellD) 0 rfl 0 rfl qj
 have ce:=cells_len s t c
 have rl:=rules_le s t c
 refine zcr (sq 1 (zjn (xQ (cD rfl (fun oW=>?_) (fun oW=>?_)))))
 ·refine qV (t_n (xQ (qR (zcr (sp (yI c) (oI rfl rfl ?_))))))
  obtain ⟨Ed,GY,G51,s52,h53,H⟩:=H.yg 2 rfl 1 rfl (iv:=c) c qf qf
  refine oL rfl (h53) (sp (yI c) (sq 1 (zjcc (sq 1 (oN rfl (sp (Bv ((((cellsR s t s.qA.length)[c]!).length:Int) == 0)) (zjn (cE rfl (fun DJ=>?_) (fun DJ=>?_)))))))))
  ·rw [cellsR_get (s:=s) (t:=t) (n:=s.qA.length) (c:=c) qf] at H DJ ⊢
   refine Qx (t_x (b_x (t_n (xJ (sw (zn c 1 rfl rfl qf (sq 1 (xO (qX (m' :=(s.qA.length - ((c+1):Int)).toNat) qf ⟨_,_,_,_,_,_,_,c+1,uE6,?_,?_,?_,rfl,N,H.pick (zR 0 7) (zR 1 8)⟩)))))))))
   ·exact cells_no qf
   ·omega
   ·exact gp.succ (by exact .inl qf)
  rw [cellsR_get (s:=s) (t:=t) (n:=s.qA.length) (c:=c) qf] at H DJ ⊢
  refine qV (t_n (zcr (sw (vW H underlying29 ti24 fun RK L8 H=>sq 1 (zjcc (sq 1 (oN rfl (sp (yI 0) (zjn (qR ?_))))))))))
  replace H:=H.boxRow 0 rfl 1 0 rfl qj
  replace H:=H.jo (α:=yLI)
  replace H:=H.unfree 0 rfl
  refine zl ((fun Z0 Z1 Z2 Z3 Z4 Z5 Z6 Z7 Z8 Z9 bx bG dy fj ix oS=>fun m' ρ PZ=>∃ (xE:Env) (ct:yOA) (cu:Nat) (cw:Nat) (i8:yLL) (dp:List Value) (fy:yLN) (aq:Nat),ρ=upd (upd (upd (upd (upd (upd (upd (upd (upd (upd (upd (upd xE 2 (pp b5 0)) 3 (pp b7 0)) 10 (Sv jB vC jw)) 11 (yI c)) 12 (Sv Ed ((je s t c).length) GY)) 13 (Sv ct cu cw)) 55 (Sv (aa b9 0) s.qA.length s.qA.length)) 56 (yI s.qA.length)) 57 (yI c)) 66 (Sv Ed ((je s t c).length) GY)) 67 (yI ((je s t c).length))) 68 (yI aq)/\i8=(jd s ((je s t c).take aq))/\((aq:Int)<=((je s t c).length))/\m' =(((je s t c).length) - (aq:Int)).toNat/\Fresh w.heap.size [iS]/\St w PZ [rr ct cu cw 24 1 dp,Z0,Z1,Z2,Z3,Z4,Z5,Z6] [xy false fy dp i8,Z7,Z8,Z9,bx,bG,dy,fj,ix,oS]) _ _ _ _ _ _ _ _ _ _ _ _ _ _ _ _) ((((je s t c).length) - (0:Int)).toNat) ⟨_,(aa RK 0),0,0,([]:yLL),[],[],0,uE12,(by rfl),qf,rfl,N,H.pick (zR 0 8) (0::zR 2 9)⟩ ?_
  clear H N
  rintro m' ρ Jp ⟨xE,ct,cu,cw,i8,dp,fy,aq,rfl,rfl,i0,rfl,N,H⟩
  have mT:=H.zg (α:=yLI) 0 rfl 0 rfl qj
  have nl:=Xp s ((je s t c).take aq)
  have tl:=List.length_take_le aq (je s t c)
  have cl8:=cellR_len (t:=t) p0 c
  refine zcr (sq 1 (zjn (xQ (cD rfl (fun h59=>?_) (fun h59=>?_)))))
  ·obtain ⟨e1,e2,e3,e4⟩:=cellR_at (s:=s) (t:=t) (c:=c) (j:=aq) qf
   refine qV (t_n (xQ (qR (zcr ?_))))
   obtain ⟨C4,HZ,rfl⟩:=H.addr 1 rfl qf
   refine oI rfl rfl (oL rfl (H.zA 1 rfl aq qf) (sq 1 (zjn (xJ (sq 1 (oF rfl (oL rfl (H.cell 5 rfl rfl) (sq 1 ?_))))))))
   obtain ⟨JO,o64,rfl⟩:=H.addr 6 rfl qf
   obtain ⟨FSz,Fv,WW,acZ,abn,Wy,acX,SC,aau,Tf,VR,Zc,adZ,adn,adM,YA,aaw,Zt,H⟩:=H.jZ 6 rfl ((je s t c)[aq]!) (((je s t c)[aq]!).toNat) qf qf qf
   refine oI rfl rfl (oF rfl (oL rfl (H.xP 6 rfl 2 rfl) (sw (zf H underlying29 ti24 [Sv FSz (((s.qB[((je s t c)[aq]!).toNat]!).zk).length) Fv] fun b67 Rr H=>sw (zo H 1 rfl 0 rfl underlying29 ti24 rfl qj rfl rfl rfl qw qp qf fun a69 c70 w71 H=>?_)))))
   replace H:=H.yx 7 rfl 0 rfl
   refine sq 1 (xO (b_n (t_n (xJ (sw (zn aq 1 rfl rfl qf (sq 1 (xO (qX (m' :=(((je s t c).length) - ((aq+1):Int)).toNat) qf ⟨_,_,_,_,_,_,_,aq+1,uE12,?_,?_,rfl,N,H.pick (zR 1 8) (0::zR 9 9)⟩)))))))))
   ·exact needs_take qf
   ·omega
  rw [List.take_of_length_le (l:=je s t c) (i:=aq) qf] at H
  refine zx4 (zcr (oF rfl (oL rfl (H.cell 4 rfl rfl) (sp (yI c) ?_))))
  obtain ⟨b72,o73,rfl⟩:=H.addr 8 rfl qf
  obtain ⟨awO,au7,arX,H⟩:=H.zW 8 rfl c c qf qf qf
  refine oI rfl rfl (oL rfl (H.xP 1 rfl 0 rfl) (sq 1 ?_))
  obtain ⟨G76,W8,h78⟩:=H.jY (α:=yLI) 0 rfl 2 rfl qj
  have cp:=cell_pack p0 p1 (c:=c) qf
  have nl2:=Xp s (je s t c)
  have agE:=H.base.size
  have ahy:=H.ltN (L:=[iS]) [5]
  refine sw (oc (VG (by rw [← W8]) (maxPack_ok _ (t.qQ[c]!) (jd s (je s t c)) (H.get 0 rfl).1 (W8▸h78) qg qg)) ?_)
  rintro _ MS ⟨Gc,amH,GL,anM,ano,rfl,M,K⟩ _
  replace N:=N.merge agE ahy M
  replace H:=H.merge K M
  obtain rfl:=H.zg (α:=yLI) 0 rfl 0 rfl qj
  refine sq 5 (zjcc (sq 1 (sp (Bv (((yD (t.qQ[c]!) (jd s (je s t c))).2:Int) != 0)) (zjn (zT (((yD (t.qQ[c]!) (jd s (je s t c))).2:Int) != 0) rfl (fun Q1=>?_) (fun Q1=>?_))))))
  ·replace Q1:=bne_iff_ne.1 Q1
   refine zcr (sq 3 (zjr (t_r (zr5 (ret2 yN (yI ((yD (t.qQ[c]!) (jd s (je s t c))).2)) rfl rfl rfl ⟨_,rfl,?_⟩)))))
   replace H:=H.erases [6,5,4,3,2,1,0]
   dsimp only [vz,List.eraseIdx] at H
   refine sq 5 (zjcc (sq 1 (sp (Bv (((yD (t.qQ[c]!) (jd s (je s t c))).2:Int) != 0)) (zjn (zT (((yD (t.qQ[c]!) (jd s (je s t c))).2:Int) != 0) rfl (fun lB=>?_) (fun h=>absurd (xx h) Q1))))))
   replace lB:=bne_iff_ne.1 lB
   refine zcr (sq 3 (zjr (t_r ?_)))
   replace H:=H.nilRow 24 1
   replace H:=H.jo (α:=yLI)
   refine ret2 yN (yI ((yD (t.qQ[c]!) (jd s (je s t c))).2)) rfl rfl rfl ⟨_,rfl,?_,H.base⟩
   rw [cho_code (bad_code (c:=c) qf qf ‹_›) ‹_›]
   exact ⟨none,0,0,[],[],rfl,(N.emp.pick [0]),H.pick [0] [0]⟩
  replace Q1:=xx Q1
  refine qV (t_n (xJ (sq 3 (sw (vU [Sv Ed ((je s t c).length) GY,Sv Gc (((yD (t.qQ[c]!) (jd s (je s t c))).1).length) GL] [(0,Sv Ed ((je s t c).length) GY),(1,Sv Gc (((yD (t.qQ[c]!) (jd s (je s t c))).1).length) GL)] (sw (zf H underlying176 ti180 [Sv Ed ((je s t c).length) GY,Sv Gc (((yD (t.qQ[c]!) (jd s (je s t c))).1).length) GL] fun tM Mn H=>?_)))))))
  have H0:=H
  obtain ⟨G92,aa6,au6,H⟩:=H.Ql (α:=yLI) 1 rfl 0 rfl qj
  replace N:Fresh w.heap.size [G92,iS]:=Fresh.ice N H0 1 aa6.1 aa6.2 (H0.jA [6])
  clear H0
  refine sw (zo H 3 rfl 0 rfl underlying176 ti180 rfl qj rfl rfl rfl qw qp qf fun a89 c90 TN H=>?_)
  replace H:=H.snoc_inCellD 6 rfl 5 rfl 0 rfl
  refine sq 1 (xO (b_n (t_n (xJ (sw (zn c 1 rfl rfl qf (sq 1 (xO (qX (m' :=(s.qA.length - ((c+1):Int)).toNat) qf ⟨_,_,_,_,_,_,_,c+1,uE6,?_,?_,?_,rfl,(N.pick [1]),H.pick (zR 3 7) (0::zR 8 7)⟩)))))))))
  ·exact cells_yes qf
  ·omega
  ·exact gp.succ (by exact .inr (show (yD _ _).2=0 from ‹_›))
 refine zx4 (zcr (sq 2 (sp (yI 0) (zjr (ret2 (Sv jB vC jw) (yI 0) rfl rfl rfl ⟨_,rfl,?_⟩)))))
 replace H:=H.erases [4,3,2,1]
 dsimp only [vz,List.eraseIdx] at H
 obtain rfl:c=s.qA.length:=by omega
 have kn:=packsL_ne p0 p1 (k:=s.qA.length) qf gp
 have kl:=packsL_le s t s.qA.length
 refine sq 2 (sp (yI 0) (sq 1 (sp (yI 0) (zjcc (sp (yI 0) (sp (Bv false) (zjn (cFr rfl (qV (t_n (zcr (oF rfl (oL rfl (H.cell 2 rfl rfl) (oN rfl (sw (zV H underlying24 ti2 s.qB.length rfl rfl qf qf qf fun b95 YS H=>sw (zf H underlying29 ti24 [Sv (aa b95 0) s.qB.length s.qB.length] fun b97 w98 H=>sq 1 (zjcc (sq 1 (oN rfl (sp (yI 0) (zjn (qR ?_)))))))))))))))))))))))
 obtain ⟨G99,am2,ab5,H⟩:=H.Ql (α:=inCellD) 2 rfl 0 rfl qj
 replace H:=H.boxRow 0 rfl 1 1 rfl qj
 replace H:=H.jo (α:=yLI)
 obtain ⟨Jb,N,Lz,H⟩:=H.zN 1 rfl N (H.jA [3])
 replace H:=H.Vy true 0 rfl 1 rfl qm
 replace N:Fresh w.heap.size [(Jb++[]),iS]:=(N.emp.pick [1,0,2]).join
 refine zl ((fun Z0 Z1 Z2 Z3 Z4 Z5 Z6 Z7=>fun m' ρ EP=>∃ (xE:Env) (pt:yOA) (Vf:Nat) (eh:Nat) (du:yLL) (ea:List Value) (cv:yLN) (aq:Nat),ρ=upd (upd (upd (upd xE 8 (Sv pt Vf eh)) 33 (Sv jB vC jw)) 34 (yI vC)) 35 (yI aq)/\du=(y7 s.qB.length (xN s t s.qA.length) (zu s t s.qA.length) aq)/\((aq:Int)<=vC)/\((y7 s.qB.length (xN s t s.qA.length) (zu s t s.qA.length) aq).length<=300)/\m' =(vC - (aq:Int)).toNat/\Fresh w.heap.size [cv]/\St w EP [rr pt Vf eh 24 1 ea,Z0,Z1] [xy true cv ea du,Z2,Z3,Z4,Z5,Z6,Z7]) _ _ _ _ _ _ _ _) ((vC - (0:Int)).toNat) ⟨_,(aa b97 0),1,1,[(List.replicate s.qB.length (0:Int))],[Sv (aa b95 0) s.qB.length s.qB.length],(Jb++[]),0,uE4,(by rfl),qf,(by rw [Xo];show 1<=300;omega),rfl,(N.pick [0]),H.pick [0,3,4] (0::3::zR 7 5)⟩ ?_
 clear H N
 rintro m' ρ I6 ⟨xE,pt,Vf,eh,du,ea,cv,aq,rfl,rfl,i0,g3,rfl,N,H⟩
 have bR:=H.zg (α:=yLI) 0 rfl 0 rfl qj
 refine zcr (sq 1 (zjn (xQ (cD rfl (fun Od=>?_) (fun Od=>?_)))))
 ·obtain ⟨gb,gc⟩:=cell_few (s:=s) (t:=t) (n:=s.qA.length) (i:=aq) p0 qf
  refine qV (t_n (xQ (qR (zcr ?_))))
  obtain ⟨Nu,NJ,rfl⟩:=H.addr 1 rfl qf
  obtain ⟨lc,lp,Pn,fC,dH,Hp,H⟩:=H.elem_inCellD 1 rfl aq aq qf qf qf
  refine oI rfl rfl (sw (xU [Sv lc ((((XR s t s.qA.length)[aq]!).frules).length) lp,Sv fC ((((XR s t s.qA.length)[aq]!).fpackings).length) dH] isAgg180 sizeOf180 rfl (qF (H.get 2 rfl) 0 2) (sw (xq H ti180 [yN,yN] fun tG PA H=>sw (xY H 0 [Sv lc ((((XR s t s.qA.length)[aq]!).frules).length) lp,Sv fC ((((XR s t s.qA.length)[aq]!).fpackings).length) dH] sizeOf180 fun Ga H=>zjc (sw (vW H underlying29 ti24 fun ahh agx H=>(sq 1 (zjcc (sq 1 (oN rfl (sp (yI 0) (zjn (qR ?_))))))))))))))
  obtain ⟨ce1,ce2⟩:=cells_at (s:=s) (t:=t) (k:=s.qA.length) (i:=aq) qf
  rw [ce1,ce2] at H
  replace H:=H.boxRow 0 rfl 1 0 rfl qj
  replace H:=H.jo (α:=yLI)
  refine zl ((fun Z0 Z1 Z2 Z3 Z4 Z5 Z6 Z7 Z8 Z9 bx bG dy fj=>fun m' ρ tJ=>∃ (xE:Env) (gB:yOA) (gA:Nat) (gU:Nat) (next:yLL) (gK:List Value) (gZ:yLN) (ay:Nat),ρ=upd (upd (upd (upd (upd (upd (upd (upd xE 10 (pp tG 0)) 11 (Sv gB gA gU)) 33 (Sv (aa Nu NJ) vC jw)) 34 (yI vC)) 35 (yI aq)) 40 (Sv pt Vf eh)) 41 (yI Vf)) 42 (yI ay)/\next=(nextK (y7 s.qB.length (xN s t s.qA.length) (zu s t s.qA.length) aq) ((xN s t s.qA.length)[aq]!) ((zu s t s.qA.length)[aq]!) ay)/\((ay:Int)<=Vf)/\((nextK (y7 s.qB.length (xN s t s.qA.length) (zu s t s.qA.length) aq) ((xN s t s.qA.length)[aq]!) ((zu s t s.qA.length)[aq]!) ay).length<=300)/\m' =(Vf - (ay:Int)).toNat/\Fresh w.heap.size [cv,gZ]/\St w tJ [rr gB gA gU 24 1 gK,Z0,Z1,Z2,Z3] [xy true gZ gK next,Z4,Z5,Z6,Z7,Z8,Z9,bx,bG,dy,fj]) _ _ _ _ _ _ _ _ _ _ _ _ _ _) ((Vf - (0:Int)).toNat) ⟨_,(aa ahh 0),0,0,([]:yLL),[],[],0,uE8,(by rfl),qf,(by show 0<=300;omega),rfl,(N.emp.pick [1,0]),H⟩ ?_
  clear H N
  rintro m' ρ ayb ⟨xE,gB,gA,gU,next,gK,gZ,ay,rfl,rfl,i0,n3,rfl,N,H⟩
  have Ae:=H.zg (α:=yLI) 0 rfl 0 rfl qj
  refine zcr (sq 1 (zjn (xQ (cD rfl (fun ajK=>?_) (fun ajK=>?_)))))
  ·refine qV (t_n (xQ (qR (zcr ?_))))
   obtain ⟨xr,rfl⟩:=H.jK 2 rfl qf
   refine oI rfl rfl ?_
   obtain ⟨acD,acS,Om,arz,al4,H⟩:=H.yg 2 rfl 4 rfl (iv:=ay) ay qf qf
   refine oL rfl (al4) (sq 1 (zjcc (oF rfl (oL rfl (H.cell 1 rfl rfl) (oN rfl (sp (yI 0) (zjn (qR (zl ((fun Z0 Z1 Z2 Z3 Z4 Z5 Z6 Z7 Z8 Z9 bx bG dy fj ix=>fun m' ρ IT=>∃ (xE:Env) (dq:yOA) (cx:Nat) (df:Nat) (lw:yLL) (eT:List Value) (Va:yLN) (cq:Nat),ρ=upd (upd (upd (upd (upd (upd (upd (upd (upd (upd (upd (upd xE 10 (pp tG 0)) 11 (Sv dq cx df)) 13 (Sv acD (((y7 s.qB.length (xN s t s.qA.length) (zu s t s.qA.length) aq)[ay]!).length) acS)) 33 (Sv (aa Nu NJ) vC jw)) 34 (yI vC)) 35 (yI aq)) 40 (Sv (aa xr 0) Vf eh)) 41 (yI Vf)) 42 (yI ay)) 47 (Sv fC (((zu s t s.qA.length)[aq]!).length) dH)) 48 (yI (((zu s t s.qA.length)[aq]!).length))) 49 (yI cq)/\lw=(nextX (y7 s.qB.length (xN s t s.qA.length) (zu s t s.qA.length) aq) ((xN s t s.qA.length)[aq]!) ((zu s t s.qA.length)[aq]!) ay cq)/\((cq:Int)<=(((zu s t s.qA.length)[aq]!).length))/\m' =((((zu s t s.qA.length)[aq]!).length) - (cq:Int)).toNat/\Fresh w.heap.size [cv,Va]/\St w IT [rr dq cx df 24 1 eT,Z0,Z1,Z2,Z3] [Z4,xy true Va eT lw,Z5,Z6,Z7,Z8,Z9,bx,bG,dy,fj,ix]) _ _ _ _ _ _ _ _ _ _ _ _ _ _ _) (((((zu s t s.qA.length)[aq]!).length) - (0:Int)).toNat) ⟨_,gB,gA,gU,(nextK (y7 s.qB.length (xN s t s.qA.length) (zu s t s.qA.length) aq) ((xN s t s.qA.length)[aq]!) ((zu s t s.qA.length)[aq]!) ay),gK,gZ,0,uE12,(by exact nextX_zero _ _ _ _),qf,rfl,N,H⟩ ?_)))))))))
   clear H N
   rintro m' ρ H7 ⟨xE,dq,cx,df,lw,eT,Va,cq,rfl,rfl,i0,rfl,N,H⟩
   have Ae:=H.zg (α:=yLI) 0 rfl 1 rfl qj
   refine zcr (sq 1 (zjn (xQ (cD rfl (fun akD=>?_) (fun akD=>?_)))))
   ·have nx:=nextX_len (r:=((xN s t s.qA.length)[aq]!)) (show ay < (y7 s.qB.length (xN s t s.qA.length) (zu s t s.qA.length) aq).length by omega) (show cq<=((zu s t s.qA.length)[aq]!).length by omega)
    have nk:=nextK_len (r:=((xN s t s.qA.length)[aq]!)) (P:=((zu s t s.qA.length)[aq]!)) (show ay<=(y7 s.qB.length (xN s t s.qA.length) (zu s t s.qA.length) aq).length by omega)
    have g1:=prodG_at (n:=s.qB.length) (rs:=(xN s t s.qA.length)) (all:=(zu s t s.qA.length)) (i:=aq) (k:=ay) qf
    have g2:=pack_at (s:=s) (t:=t) (n:=s.qA.length) (i:=aq) (x:=cq) qf qf
    refine qV (t_n (xQ (qR (zcr ?_))))
    obtain ⟨dZ,ag1,rfl⟩:=H.addr 3 rfl qf
    obtain ⟨ab9,acl,apm,H⟩:=H.zW 3 rfl cq cq qf qf qf
    refine oI rfl rfl (oL rfl (H.xP 1 rfl 0 rfl) (sq 1 (zjc (sq 1 (sw (oc (cloneI_ok _ ((y7 s.qB.length (xN s t s.qA.length) (zu s t s.qA.length) aq)[ay]!) (H.get 2 rfl).1 qg) ?_))))))
    rintro ar2 BQ amk ahc
    replace H:=H.zH ahc amk
    obtain ⟨D5,FY,rfl,aoj,aoS⟩:=H.jL 0 rfl
    refine sq 1 (zjcc (oF rfl (oL rfl (H.cell 2 rfl rfl) (oN rfl (sp (yI 0) (zjn (qR (zl ((fun Z0 Z1 Z2 Z3 Z4 Z5 Z6 Z7 Z8 Z9 bx bG dy fj ix oS BX FT Ic=>fun m' ρ Pa=>∃ (xE:Env) (nb:Nat) (DK:yLI),ρ=upd (upd (upd (upd (upd (upd (upd (upd (upd (upd (upd (upd (upd (upd (upd (upd (upd xE 10 (pp tG 0)) 11 (Sv dq cx df)) 13 (Sv acD (((y7 s.qB.length (xN s t s.qA.length) (zu s t s.qA.length) aq)[ay]!).length) acS)) 15 (Sv ab9 ((((zu s t s.qA.length)[aq]!)[cq]!).length) acl)) 16 (Sv D5 (((y7 s.qB.length (xN s t s.qA.length) (zu s t s.qA.length) aq)[ay]!).length) FY)) 33 (Sv (aa Nu NJ) vC jw)) 34 (yI vC)) 35 (yI aq)) 40 (Sv (aa xr 0) Vf eh)) 41 (yI Vf)) 42 (yI ay)) 47 (Sv (aa dZ ag1) (((zu s t s.qA.length)[aq]!).length) dH)) 48 (yI (((zu s t s.qA.length)[aq]!).length))) 49 (yI cq)) 56 (Sv lc (((xN s t s.qA.length)[aq]!).length) lp)) 57 (yI (((xN s t s.qA.length)[aq]!).length))) 58 (yI nb)/\DK=(setTo ((y7 s.qB.length (xN s t s.qA.length) (zu s t s.qA.length) aq)[ay]!) ((xN s t s.qA.length)[aq]!) (((zu s t s.qA.length)[aq]!)[cq]!) nb)/\((nb:Int)<=(((xN s t s.qA.length)[aq]!).length))/\m' =((((xN s t s.qA.length)[aq]!).length) - (nb:Int)).toNat/\Fresh w.heap.size [cv,Va]/\St w Pa [rr D5 (((y7 s.qB.length (xN s t s.qA.length) (zu s t s.qA.length) aq)[ay]!).length) FY 2 1 (DK.map (Value.int .i64)),Z0,Z1,Z2,Z3,Z4] [Z5,Z6,Z7,Z8,Z9,bx,bG,dy,fj,ix,oS,BX,FT,Ic]) _ _ _ _ _ _ _ _ _ _ _ _ _ _ _ _ _ _ _) (((((xN s t s.qA.length)[aq]!).length) - (0:Int)).toNat) ⟨_,0,((y7 s.qB.length (xN s t s.qA.length) (zu s t s.qA.length) aq)[ay]!),uE17,(by rfl),qf,rfl,N,H⟩ ?_))))))))
    clear H N
    rintro m' ρ Pu ⟨xE,nb,DK,rfl,rfl,i0,rfl,N,H⟩
    have xb:=H.jC 0 rfl
    refine zcr (sq 1 (zjn (xQ (cD rfl (fun NP=>?_) (fun NP=>?_)))))
    ·obtain ⟨g3',g4⟩:=choice_at (s:=s) (t:=t) (n:=s.qA.length) (i:=aq) (r:=nb) qf qf
     refine qV (t_n (xQ (qR (zcr (sq 1 ?_)))))
     obtain ⟨vp,arH,rfl⟩:=H.addr 4 rfl qf
     refine oI rfl rfl (oL rfl (H.zA 4 rfl nb qf) (sq 2 (zjn (xJ (sq 4 ?_)))))
     obtain ⟨ayV,auX,rfl⟩:=H.addr 0 rfl qf
     refine oI rfl rfl (oL rfl (H.zA 0 rfl nb qf) ?_)
     obtain ⟨pG,rfl⟩:=H.jK 0 rfl qf
     refine oI rfl rfl (sw (y5 H 0 rfl ((((zu s t s.qA.length)[aq]!)[cq]!)[nb]!) sizeOf2 rfl rfl (i:=((((xN s t s.qA.length)[aq]!)[nb]!).toNat)) qf qf fun Kg H=>xO (b_n (t_n (xJ (sw (zn nb 1 rfl rfl qf (sq 1 (xO (qX (m' :=((((xN s t s.qA.length)[aq]!).length) - ((nb+1):Int)).toNat) qf ⟨_,nb+1,_,uE17,?_,?_,rfl,N,H⟩))))))))))
     ·rfl
     ·omega
    refine zx4 (xJ (sq 2 (sw (zf H underlying29 ti24 [Sv D5 (((y7 s.qB.length (xN s t s.qA.length) (zu s t s.qA.length) aq)[ay]!).length) FY] fun yo Iy H=>?_))))
    obtain ⟨afR,N,aqH,H⟩:=H.zN 1 rfl N (H.jA [7,3])
    refine sw (zo H 2 rfl 0 rfl underlying29 ti24 rfl qj rfl rfl rfl qw qp qf fun aus asm FF H=>?_)
    replace H:=H.yx 4 rfl 0 rfl
    replace N:Fresh w.heap.size [(Va++afR),cv]:=(N.pick [2,0,1]).join
    refine sq 1 (xO (b_n (t_n (xJ (sw (zn cq 1 rfl rfl qf (sq 1 (xO (qX (m' :=((((zu s t s.qA.length)[aq]!).length) - ((cq+1):Int)).toNat) qf ⟨_,_,_,_,_,_,_,cq+1,uE12,?_,?_,rfl,(N.pick [1,0]),H.pick (zR 2 5) (4::0::zR 6 10)⟩)))))))))
    ·exact nextX_succ qf (by rw [show nb=((xN s t s.qA.length)[aq]!).length by omega];rfl)
    ·omega
   refine zx4 (zcr (sq 1 (oN rfl (sp (Bv (decide ((cx:Int) > 300))) (zjn (cD rfl (fun aja=>?_) (fun aja=>?_)))))))
   ·refine zcr (sq 1 (sp (yI 3) (zjr (zr5 (zr5 ?_)))))
    replace H:=H.nilRow 24 1
    replace H:=H.jo (α:=yLI)
    refine ret2 yN (yI 3) rfl rfl rfl ⟨_,rfl,?_,H.base⟩
    rw [cho_3 (.inr (prod_stop (G:=(y7 s.qB.length (xN s t s.qA.length) (zu s t s.qA.length) aq)) (r:=((xN s t s.qA.length)[aq]!)) (k:=ay+1) (i:=aq) kn qf (Xo _) qf (by rw [← nextX_end (x:=cq) qf qf];omega)))]
    exact ⟨none,0,0,[],[],rfl,(N.emp.pick [0]),H.pick [0] [0]⟩
   refine qV (b_n (t_n (xJ (sw (zn ay 1 rfl rfl qf (sq 1 (xO (qX (m' :=(Vf - ((ay+1):Int)).toNat) qf ⟨_,_,_,_,_,_,_,ay+1,uE8,?_,?_,?_,rfl,N,H.pick (zR 0 5) (zR 1 11)⟩))))))))
   ·exact nextX_end qf qf
   ·omega
   ·rw [← nextX_end (x:=cq) qf qf];omega
  refine zx4 (xJ (sq 2 (xO (b_n (t_n (xJ (sw (zn aq 1 rfl rfl qf (sq 1 (xO (qX (m' :=(vC - ((aq+1):Int)).toNat) qf ⟨_,_,_,_,_,_,_,aq+1,uE4,?_,?_,?_,rfl,(N.pick [1]),H.pick [0,3,4] (0::zR 5 6)⟩)))))))))))
  ·rw [show ay=(y7 s.qB.length (xN s t s.qA.length) (zu s t s.qA.length) aq).length by omega];rfl
  ·omega
  ·show (nextK (y7 s.qB.length (xN s t s.qA.length) (zu s t s.qA.length) aq) ((xN s t s.qA.length)[aq]!) ((zu s t s.qA.length)[aq]!) (y7 s.qB.length (xN s t s.qA.length) (zu s t s.qA.length) aq).length).length<=300;rw [← show ay=(y7 s.qB.length (xN s t s.qA.length) (zu s t s.qA.length) aq).length by omega];exact n3
 obtain rfl:aq=(zu s t s.qA.length).length:=by omega
 have on:0 < (y7 s.qB.length (xN s t s.qA.length) (zu s t s.qA.length) (zu s t s.qA.length).length).length:=by rw [Xo];exact prod_mono kn (Nat.zero_le _) (Nat.le_refl _)
 have kc:¬ Xt (zu s t s.qA.length) (zu s t s.qA.length).length > 300:=by rw [Xo] at g3;omega
 refine zx4 (zcr (sq 1 ?_))
 obtain ⟨DO,rfl⟩:=H.jK 0 rfl qf
 refine sw (zL #[Sv (aa DO 0) Vf eh,.func (.func 79) #[] #[]] rfl rfl call78 (sortRow sortL call79 cmpSort H 0 rfl 0 rfl qf qf) ?_)
 rintro _ GV ⟨Y9,ac0,ax1,rfl,abL,D4,Tp,H⟩
 replace N:Fresh w.heap.size [ac0]:=Fresh.perm N abL
 refine zjc (sq 2 (sp (yI 0) (zjr (ret2 (Sv (aa DO 0) Vf eh) (yI 0) rfl rfl rfl ⟨_,rfl,?_,H.base⟩))))
 rw [cho_0 gp kc D4 (in_order (Nat.le_refl _) fun a b h1 h2 h3=>Tp a b h1 h2 ((cmpL_ahead ((perm_rows D4 b qf).trans (perm_rows D4 a qf).symm)).2 h3))]
 exact ⟨(aa DO 0),Vf,eh,Y9,ac0,rfl,N,H.pick [0] [0]⟩
theorem around_ok (w:World) (s:qC) (qP:zP w xk qG qE s.qA) (xm:zP w xW qO qN s.qB):Calls Tryz.prog 129 #[.agg #[yI s.xK,Sv qG s.qA.length qE,Sv qO s.qB.length qN]] w (Ret (fun v w' =>v=yI s.qA.length) w):=by
 refine en func129 ntmps129 ?_
 have H:=((St.start w).arg xm).arg qP
 clear qP xm
 refine zcr (sw (zZ H (yS s qG qE qO qN) fun b1 w2 H=>sp (yI 0) (zjc (oF rfl (oL rfl (H.cell 0 rfl rfl) (oN rfl (sq 1 (zjr (rH1 (yI s.qA.length) H ?_)))))))))
 rfl
theorem step_ok (w:World) (s:qC) (t:qH) (counts:yLI) {aV:yOA} {aP:Nat} {di:yLN} (qP:zP w xk qG qE s.qA) (xm:zP w xW qO qN s.qB) (zi:zP w zD xg xf t.qK) (zI:zP w vF xI xG t.qQ) (xM:zP w zh qZ qY t.qL) (fq:zP w di aV aP counts) (p0:ve s) (p1:xZ s t) (p2:Vu s counts) (p3:IsCh s t counts):Calls Tryz.prog 74 #[.agg #[yI s.xK,Sv qG s.qA.length qE,Sv qO s.qB.length qN],.agg #[Sv xg t.qK.length xf,Sv xI t.qQ.length xG,Sv qZ t.qL.length qY],Sv aV counts.length aP] w (Ret (fun v w' =>∃ (iu:yOA) (iB:Nat) (iH:Nat) (mR:yOA) (na:Nat) (mJ:Nat) (mw:List Value) (lQ:yLN) (fL:yOA) (fM:Nat) (fX:Nat),v=.tuple #[.agg #[Sv iu iB iH,Sv mR na mJ,Sv fL fM fX],yI ((vV s t counts).2)]/\Fresh w.heap.size [lQ]/\St w w' [rr iu iB iH 4 1 ((((vV s t counts).1).qK).map (Value.bool)),rr mR na mJ 24 1 mw,rr fL fM fX 2 1 ((((vV s t counts).1).qL).map (Value.int .i64))] [xy true lQ mw (((vV s t counts).1).qQ)]) w):=by
 refine en func74 ntmps74 ?_
 have H:=((((((St.start w).arg fq).arg xM).arg zI).arg zi).arg xm).arg qP
 have vP:=qM xm
 have y9:=qM zI
 clear qP xm zi zI xM fq
 have N:=Fresh.nil w.heap.size
 have p5:=p0.2.1
 have p6:=p2.1
 have p7:=p1.2.1
 have p8:=kinds_le p0
 have p9:=p0.1.2.1
 have p11:xX s=s.qA.length:=rfl
 have wi:=p1.1
 have p15:=p0.1
 have p16:=p0.1.1
 refine zcr (sw (zZ H (yS s qG qE qO qN) fun b1 w2 H=>sw (zZ H (yT t xg xf xI xG qZ qY) fun b3 w4 H=>sw (xq H ti31 [yN,yN,yN] fun b5 w6 H=>sp (yI 0) (zjn (xQ (VP (fun ρ nr=>∃ (xE:Env) (a7:yOA) (c8:Nat) (rx9:List Value) (Pp:yLN),ρ=upd (upd (upd (upd (upd xE 2 (Sv aV counts.length aP)) 3 (pp b1 0)) 4 (pp b3 0)) 6 (pp b5 0)) 8 (Sv a7 (t.qQ.length+1) c8)/\Fresh w.heap.size []/\St w nr [rr a7 (t.qQ.length+1) c8 24 1 (rx9++[Sv qZ t.qL.length qY]),.box b5 [yN,yN,yN] 31,.box b3 (yT t xg xf xI xG qZ qY) 31,.box b1 (yS s qG qE qO qN) 27] [xy false (Pp++zh) (rx9++[Sv qZ t.qL.length qY]) (t.qQ++[t.qL]),sF false xk qG qE s.qA,sF false xW qO qN s.qB,sF false zD xg xf t.qK,sF false vF xI xG t.qQ,sF false zh qZ qY t.qL,sF false di aV aP counts]) ?_ ?_)))))))
 ·refine jE rfl H fun H=>tF 0 rfl rfl H ?_
  refine tL 1 rfl rfl (fun _ h=>h.cell 1 rfl rfl) H ?_
  refine tF 3 rfl rfl H ?_
  refine tL 4 rfl rfl (fun _ h=>h.cell 1 rfl rfl) H ?_
  refine vK [2,5] qh qm (jb rfl ?_ (jb rfl ?_ vM))
  ·refine oc (cloneSS_ok _ t.qQ (H.get 3 rfl).1 qg) ?_
   rintro _ Et ⟨aci,afH,WB,agU,ahk,rfl,ais,K⟩ _
   replace H:=H.mergeIn K 3 rfl ais
   obtain rfl:=H.zg (α:=yLI) 0 rfl 0 rfl qj
   refine ⟨H.pick [1,2,3] (zR 1 6),(ro 5 rfl (zf H underlying29 ti24 [Sv qZ t.qL.length qY] fun kJ rO H=>⟨H.pick [2,3,4] (zR 1 6),(ro 6 rfl (zo H 1 rfl 0 rfl underlying29 ti24 rfl qj rfl rfl rfl qw qp qf fun a21 c22 wT H=>?_))⟩))⟩
   replace H:=H.yx 0 rfl 5 rfl
   refine ⟨H.pick [2,3,4] (zR 2 6),(rtl 7 (H.pick [2,3,4] (zR 2 6)) ?_)⟩
   refine xw qh ((meet ⟨_,a21,c22,agU,ahk,uE5,N,H.pick (zR 1 4) (0::zR 2 6)⟩))
  refine zf H underlying29 ti24 [Sv qZ t.qL.length qY] fun b24 C5 H=>⟨H.pick [1,2,3] (zR 0 6),(ro 2 rfl ?_)⟩
  refine oc (cloneSS_ok _ t.qQ (H.get 3 rfl).1 qg) ?_
  rintro _ Ge ⟨li,ajX,ajJ,M9,ajx,rfl,ahs,K⟩ _
  replace H:=H.mergeIn K 3 rfl ahs
  obtain rfl:=H.zg (α:=yLI) 0 rfl 0 rfl qj
  refine ⟨H.pick [2,3,4] (zR 1 6),(ro 6 rfl (zo H 0 rfl 1 rfl underlying29 ti24 rfl qj rfl rfl rfl qw qp qf fun RT PP Dg H=>?_))⟩
  replace H:=H.yx 0 rfl 5 rfl
  refine ⟨H.pick [2,3,4] (zR 2 6),(rtl 7 (H.pick [2,3,4] (zR 2 6)) ?_)⟩
  refine xw qh ((meet ⟨_,RT,PP,M9,ajx,uE5,N,H.pick [0,2,3,4] (0::zR 2 6)⟩))
 clear H N
 rintro ρ Dr ⟨xE,a7,c8,rx9,Pp,rfl,N,H⟩
 refine t_n (zcr (oF rfl (oL rfl (H.cell 3 rfl rfl) (oN rfl (sw (o_makeB H underlying28 ti4 s.qA.length rfl rfl qf qf qf fun wt N6 H=>sq 1 (zjcc (sq 1 (oN rfl (sp (yI 0) (zjn (qR (zl ((fun Z0 Z1 Z2 Z3 Z4 Z5 Z6 Z7 Z8=>fun m' ρ KT=>∃ (xE:Env) (i:Nat) (melts:List Bool) (bags:yLL) (gT:List Value) (nA:yLN),ρ=upd (upd (upd (upd (upd (upd (upd (upd xE 3 (pp b1 0)) 4 (pp b3 0)) 6 (pp b5 0)) 8 (Sv a7 (t.qQ.length+1) c8)) 9 (Sv (aa wt 0) s.qA.length s.qA.length)) 26 (Sv aV counts.length aP)) 27 (yI counts.length)) 28 (yI i)/\melts=Qv s counts s.qA.length i/\((i:Int)<=counts.length)/\(Ent (s.qA.length+1) (zt s) (fun p q=>base0 s t p q+allS s t counts i p q) (20000000+6000000 * i) bags)/\(bags.length=s.qA.length+1)/\m' =(counts.length - (i:Int)).toNat/\Fresh w.heap.size []/\St w KT [rr (aa wt 0) s.qA.length s.qA.length 4 1 (melts.map (Value.bool)),rr a7 (t.qQ.length+1) c8 24 1 gT,Z0,Z1,Z2] [xy false nA gT bags,Z3,Z4,Z5,Z6,Z7,Z8]) _ _ _ _ _ _ _ _ _) ((counts.length - (0:Int)).toNat) ⟨_,0,(List.replicate s.qA.length (false)),(t.qQ++[t.qL]),rx9++[Sv qZ t.qL.length qY],(Pp++zh),uE8,(by exact meltsL_zero s counts _),qf,(by exact (start_ent p1).to (fun _ _=>rfl) qf),qy,rfl,N,H⟩ ?_)))))))))))))
 clear H N
 rintro m' ρ E4 ⟨xE,i,melts,bags,gT,nA,rfl,rfl,i0,dG,agV,rfl,N,H⟩
 have Wi:=H.VM 0 rfl
 refine zcr (sq 1 (zjn (xQ (cD rfl (fun tk=>?_) (fun tk=>?_)))))
 ·have q:=p0.rule (i:=i) qf
  have qc:=q.1
  have qk:=q.cell
  have SE:=q.2.2.2.2.1
  have KI:=q.2.2.2.2.2.2.2.1
  have DR:=q.2.2.2.2.2.2.2.2.1
  have ln1:=SE.len
  have ln2:=KI.len
  have ln3:=DR.len
  have p10:=p2.bd (i:=i) qf
  have qn:=q.2.2.2.1
  refine qV (t_n (xQ (qR (zcr (sp (yI i) ?_)))))
  obtain ⟨Bd,o42,rfl⟩:=H.addr 6 rfl qf
  refine oI rfl rfl (oL rfl (H.zA 6 rfl i qf) (sp (yI i) (sq 1 (zjc (oF rfl (oL rfl (H.cell 4 rfl rfl) (sp (yI i) ?_)))))))
  obtain ⟨Hq,o45,rfl⟩:=H.addr 2 rfl qf
  obtain ⟨iR,j9,aaI,iD,iA,X1,iL,j7,W9,fZ,gk,Yk,gO,gV,adz,eM,eD,ab8,H⟩:=H.jZ 2 rfl i i qf qf qf
  refine oI rfl rfl (sw (xU [yI ((s.qB[i]!).qI),yI ((s.qB[i]!).jG),Sv iR (((s.qB[i]!).zk).length) j9,Sv iD (((s.qB[i]!).vk).length) iA,Sv iL (((s.qB[i]!).vw).length) j7,Sv fZ (((s.qB[i]!).zS).length) gk,Sv gO (((s.qB[i]!).jX).length) gV,Sv eM (((s.qB[i]!).xe).length) eD,Bv ((s.qB[i]!).vg)] isAgg70 sizeOf70 rfl (qF (H.get 6 rfl) 0 9) (sw (xq H ti70 [yI 0,yI 0,yN,yN,yN,yN,yN,yN,Bv false] fun b48 Pz H=>sw (xY H 0 [yI ((s.qB[i]!).qI),yI ((s.qB[i]!).jG),Sv iR (((s.qB[i]!).zk).length) j9,Sv iD (((s.qB[i]!).vk).length) iA,Sv iL (((s.qB[i]!).vw).length) j7,Sv fZ (((s.qB[i]!).zS).length) gk,Sv gO (((s.qB[i]!).jX).length) gV,Sv eM (((s.qB[i]!).xe).length) eD,Bv ((s.qB[i]!).vg)] sizeOf70 fun HC H=>(zjn (xQ (yK rfl H [0,1,3,4,5] fun H=>?_))))))))
  have S:=H.jm [0,1,3,4,5] (zR 0 14)
  refine rtl 0 S ?_
  refine tF 1 rfl rfl S ?_
  refine tL 2 rfl rfl (fun _ h=>h.cell 0 rfl rfl) S ?_
  refine rtl 3 S ?_
  refine tF 4 rfl rfl S ?_
  refine tL 5 rfl rfl (fun _ h=>h.cell 0 rfl rfl) S ?_
  obtain ⟨PK,rfl⟩:=H.jK 2 rfl qf
  have S:=H.jm [0,1,3,4,5] (zR 0 14)
  refine tI 6 rfl rfl rfl S ?_
  refine tF 8 rfl rfl S ?_
  refine tL 9 rfl rfl (fun _ h=>h.cell 0 rfl rfl) S ?_
  refine rtl 10 S ?_
  refine rt 11 _ (y_neg (counts[i]!) rfl qf) S ?_
  refine ro 7 rfl ?_
  obtain ⟨a53,c54,G55,s56,De,H⟩:=H.yg 2 rfl 7 rfl (iv:=(s.qB[i]!).qI) (((s.qB[i]!).qI).toNat) qf qf
  refine x9 (Sv a53 ((bags[((s.qB[i]!).qI).toNat]!).length) c54) isAgg24 rfl (De) (⟨H.pick [0,1,3,4,5] (zR 1 14),(ro 12 rfl ?_)⟩)
  obtain ⟨u1,u2⟩:=dG.sh.row (c:=((s.qB[i]!).qI).toNat) qf p8 qf
  have u4:=(by exact SE.yQ qf:SmallT ((s.qB[i]!).zk) (-(counts[i]!)))
  refine oc (plus_ok _ (bags[((s.qB[i]!).qI).toNat]!) ((s.qB[i]!).zk) (-(counts[i]!)) (H.get 0 rfl).1 (H.get 1 rfl).1 qg qg qg) ?_
  rintro v63 KY r63 x62
  replace H:=H.zH x62 r63
  obtain ⟨a64,c65,rfl,asV,awh⟩:=H.jL 0 rfl
  refine ⟨H.pick [1,2,4,5,6] (zR 1 14),(tI 13 rfl rfl rfl (H.pick [1,2,4,5,6] (zR 1 14)) ?_)⟩
  refine ro 14 rfl ?_
  obtain ⟨G69,N,afC,H⟩:=H.zN 0 rfl N (H.jA [])
  refine yh false H 3 rfl 9 rfl (Sv a64 ((jT (bags[((s.qB[i]!).qI).toNat]!) ((s.qB[i]!).zk) (-(counts[i]!))).length) c65) 0 rfl rfl sizeOf24 rfl rfl (i:=(((s.qB[i]!).qI).toNat)) qf qf qm fun Rr at5 F72 azn H=>⟨H.pick [1,2,4,5,6] (zR 3 14),(xw qh (t_n (zcr (sw (xU [yI s.xK,Sv qG s.qA.length qE,Sv (aa Hq o45) s.qB.length qN] isAgg27 sizeOf27 rfl (qF (H.cells 6 rfl) 0 3) ?_)))))⟩
  refine sw (xU (yT t xg xf xI xG qZ qY) isAgg31 sizeOf31 rfl (qF (H.cells 5 rfl) 0 3) (sq 1 (sw (xU [yI ((s.qB[i]!).qI),yI ((s.qB[i]!).jG),Sv iR (((s.qB[i]!).zk).length) j9,Sv iD (((s.qB[i]!).vk).length) iA,Sv iL (((s.qB[i]!).vw).length) j7,Sv fZ (((s.qB[i]!).zS).length) gk,Sv gO (((s.qB[i]!).jX).length) gV,Sv eM (((s.qB[i]!).xe).length) eD,Bv ((s.qB[i]!).vg)] isAgg70 sizeOf70 rfl (qF (H.cells 1 rfl) 0 9) (sq 1 ?_)))))
  obtain ⟨GD,DZ⟩:∃ z,z=(bags.set (((s.qB[i]!).qI).toNat) (jT (bags[((s.qB[i]!).qI).toNat]!) ((s.qB[i]!).zk) (-(counts[i]!)))):=⟨_,rfl⟩
  rw [← DZ] at H
  have xv:=Ent.add (D:=1000000) dG DZ qf (by exact SE.mul qf) qf
  have amd:=xv.sh.1
  refine sw (zQ #[.agg #[yI s.xK,Sv qG s.qA.length qE,Sv (aa Hq o45) s.qB.length qN],.agg #[Sv xg t.qK.length xf,Sv xI t.qQ.length xG,Sv qZ t.qL.length qY],Sv (aa PK 0) (t.qQ.length+1) c8,.agg #[yI ((s.qB[i]!).qI),yI ((s.qB[i]!).jG),Sv iR (((s.qB[i]!).zk).length) j9,Sv iD (((s.qB[i]!).vk).length) iA,Sv iL (((s.qB[i]!).vw).length) j7,Sv fZ (((s.qB[i]!).zS).length) gk,Sv gO (((s.qB[i]!).jX).length) gV,Sv eM (((s.qB[i]!).xe).length) eD,Bv ((s.qB[i]!).vg)],yI (counts[i]!)] rfl rfl call128 (en func128 ntmps128 ?_))
  refine zcr (sw (zZ H [yI s.xK,Sv qG s.qA.length qE,Sv (aa Hq o45) s.qB.length qN] fun b75 WR H=>sw (zZ H (yT t xg xf xI xG qZ qY) fun ws WE H=>sw (zZ H [Sv (aa PK 0) (t.qQ.length+1) c8] fun kF MS H=>(sw (zZ H [yI ((s.qB[i]!).qI),yI ((s.qB[i]!).jG),Sv iR (((s.qB[i]!).zk).length) j9,Sv iD (((s.qB[i]!).vk).length) iA,Sv iL (((s.qB[i]!).vw).length) j7,Sv fZ (((s.qB[i]!).zS).length) gk,Sv gO (((s.qB[i]!).jX).length) gV,Sv eM (((s.qB[i]!).xe).length) eD,Bv ((s.qB[i]!).vg)] fun b81 w82 H=>sw (zZ H [yI (counts[i]!)] fun ns HG H=>zjc (sp (.func (.func 169) #[] #[pp kF 0,pp ns 0]) (sp (.func (.func 169) #[] #[pp kF 0,pp ns 0]) (zjc (sp (.func (.func 169) #[] #[pp kF 0,pp ns 0]) (oF rfl (oL rfl (H.cell 1 rfl rfl) (oF rfl (oL rfl (H.cell 1 rfl rfl) (sw (zQ #[yI ((s.qB[i]!).qI),Sv fZ (((s.qB[i]!).zS).length) gk,pp kF 0,pp ns 0] rfl rfl call169 (en func169 ntmps169 ?_))))))))))))))))))
  refine yK rfl H [0,1,2,3,4,5,6,7,9,10,11] fun H=>?_
  have S:=H.jm [0,1,2,3,4,5,6,7,9,10,11] (zR 0 17)
  refine tL 0 rfl rfl (fun _ h=>h.cell 2 rfl rfl) S ?_
  refine rtl 1 S ?_
  refine tL 2 rfl rfl (fun _ h=>h.cell 2 rfl rfl) S ?_
  refine rtl 3 S ?_
  refine tI 4 rfl rfl rfl S ?_
  refine rtl 6 S ?_
  refine tL 7 rfl rfl (fun _ h=>h.cell 0 rfl rfl) S ?_
  refine ro 5 rfl ?_
  obtain ⟨a86,c87,PQ,s89,wB,H⟩:=H.yg 8 rfl 0 rfl (iv:=(s.qB[i]!).qI) (((s.qB[i]!).qI).toNat) qf qf
  refine x9 (Sv a86 ((GD[((s.qB[i]!).qI).toNat]!).length) c87) isAgg24 rfl (wB) (⟨H.pick [0,1,2,3,4,5,6,7,9,10,11] (zR 1 17),(ro 8 rfl ?_)⟩)
  obtain ⟨u1,u2⟩:=xv.sh.row (c:=((s.qB[i]!).qI).toNat) qf p8 qf
  have u4:=(by exact KI.yQ qf:SmallT ((s.qB[i]!).zS) (counts[i]!))
  refine oc (plus_ok _ (GD[((s.qB[i]!).qI).toNat]!) ((s.qB[i]!).zS) (counts[i]!) (H.get 0 rfl).1 (H.get 7 rfl).1 qg qg qg) ?_
  rintro v96 Zw r96 x95
  replace H:=H.zH x95 r96
  obtain ⟨a97,c98,rfl,awd,aqr⟩:=H.jL 0 rfl
  refine ⟨H.pick [1,2,3,4,5,6,7,8,10,11,12] (zR 1 17),(tI 9 rfl rfl rfl (H.pick [1,2,3,4,5,6,7,8,10,11,12] (zR 1 17)) ?_)⟩
  refine ro 10 rfl ?_
  obtain ⟨Jb,N,Lz,H⟩:=H.zN 0 rfl N (H.jA [2])
  refine yh false H 9 rfl 2 rfl (Sv a97 ((jT (GD[((s.qB[i]!).qI).toNat]!) ((s.qB[i]!).zS) (counts[i]!)).length) c98) 0 rfl rfl sizeOf24 rfl rfl (i:=(((s.qB[i]!).qI).toNat)) qf qf qm fun abj ane VS aoe H=>⟨H.pick [1,2,3,4,5,6,7,8,10,11,12] (zR 3 17),(xw qh ((ret0 rfl ⟨_,rfl,?_⟩)))⟩
  replace H:=H.erases [6,0]
  dsimp only [vz,List.eraseIdx] at H
  obtain ⟨kX,AF⟩:∃ z,z=(GD.set (((s.qB[i]!).qI).toNat) (jT (GD[((s.qB[i]!).qI).toNat]!) ((s.qB[i]!).zS) (counts[i]!))):=⟨_,rfl⟩
  rw [← AF] at H
  have lV:=Ent.add (D:=1000000) xv AF qf (by exact KI.mul qf) qf
  have adN:=lV.sh.1
  refine zjcc (sw (xU [yI s.xK,Sv qG s.qA.length qE,Sv (aa Hq o45) s.qB.length qN] isAgg27 sizeOf27 rfl (qF (H.cells 4 rfl) 0 3) (sw (xU (yT t xg xf xI xG qZ qY) isAgg31 sizeOf31 rfl (qF (H.cells 3 rfl) 0 3) (oF rfl (oL rfl (H.cell 1 rfl rfl) ?_))))))
  have qc' :=qc
  refine sw (oq (parentNow_ok _ s t ((s.qB[i]!).qI) (H.get 14 rfl).1 (H.get 15 rfl).1 (H.get 16 rfl).1 (H.get 17 rfl).1 (H.get 18 rfl).1 qg qg qg) H fun N8 H=>?_)
  have pl:=parentNow_lt p15 p1.2.2.1 qc
  refine sq 1 (zjc (sq 1 (sp (Bv (decide ((xF s t ((s.qB[i]!).qI):Int)>=0))) (zjn (cD rfl (fun afm=>?_) (fun afm=>?_))))))
  ·have po:=outPl_in (r:=s.qB[i]!) p15 ‹_›
   refine xJ (sp (.func (.func 169) #[] #[pp kF 0,pp ns 0]) (sq 1 (oF rfl (oL rfl (H.cell 1 rfl rfl) (sw (zQ #[yI (xF s t ((s.qB[i]!).qI)),Sv gO (((s.qB[i]!).jX).length) gV,pp kF 0,pp ns 0] rfl rfl call169 (en func169 ntmps169 ?_)))))))
   refine yK rfl H [0,1,2,3,4,5,6,8,9,10] fun H=>?_
   have S:=H.jm [0,1,2,3,4,5,6,8,9,10] (zR 0 20)
   refine tL 0 rfl rfl (fun _ h=>h.cell 2 rfl rfl) S ?_
   refine rtl 1 S ?_
   refine tL 2 rfl rfl (fun _ h=>h.cell 2 rfl rfl) S ?_
   refine rtl 3 S ?_
   refine tI 4 rfl rfl rfl S ?_
   refine rtl 6 S ?_
   refine tL 7 rfl rfl (fun _ h=>h.cell 0 rfl rfl) S ?_
   refine ro 5 rfl ?_
   obtain ⟨aiN,ahr,GI,att,afP,H⟩:=H.yg 7 rfl 0 rfl (iv:=xF s t ((s.qB[i]!).qI)) ((xF s t ((s.qB[i]!).qI)).toNat) qf qf
   refine x9 (Sv aiN ((kX[(xF s t ((s.qB[i]!).qI)).toNat]!).length) ahr) isAgg24 rfl (afP) (⟨H.pick [0,1,2,3,4,5,6,8,9,10] (zR 1 20),(ro 8 rfl ?_)⟩)
   obtain ⟨u1,u2⟩:=lV.sh.row (c:=(xF s t ((s.qB[i]!).qI)).toNat) qf p8 qf
   have u4:=(by exact DR.yQ qf:SmallT ((s.qB[i]!).jX) (counts[i]!))
   refine oc (plus_ok _ (kX[(xF s t ((s.qB[i]!).qI)).toNat]!) ((s.qB[i]!).jX) (counts[i]!) (H.get 0 rfl).1 (H.get 11 rfl).1 qg qg qg) ?_
   rintro ayr Cl ald af6
   replace H:=H.zH af6 ald
   obtain ⟨ahf,aj7,rfl,amJ,amO⟩:=H.jL 0 rfl
   refine ⟨H.pick [1,2,3,4,5,6,7,9,10,11] (zR 1 20),(tI 9 rfl rfl rfl (H.pick [1,2,3,4,5,6,7,9,10,11] (zR 1 20)) ?_)⟩
   refine ro 10 rfl ?_
   obtain ⟨NV,N,LN,H⟩:=H.zN 0 rfl N (H.jA [2,5])
   refine yh false H 8 rfl 2 rfl (Sv ahf ((jT (kX[(xF s t ((s.qB[i]!).qI)).toNat]!) ((s.qB[i]!).jX) (counts[i]!)).length) aj7) 0 rfl rfl sizeOf24 rfl rfl (i:=((xF s t ((s.qB[i]!).qI)).toNat)) qf qf qm fun Zd S1 ac5 anH H=>⟨H.pick [1,2,3,4,5,6,7,9,10,11] (zR 3 20),(xw qh ((ret0 rfl ⟨_,rfl,?_⟩)))⟩
   replace H:=H.erases [0]
   dsimp only [vz,List.eraseIdx] at H
   obtain ⟨YR,ze⟩:∃ z,z=(kX.set ((xF s t ((s.qB[i]!).qI)).toNat) (jT (kX[(xF s t ((s.qB[i]!).qI)).toNat]!) ((s.qB[i]!).jX) (counts[i]!))):=⟨_,rfl⟩
   rw [← ze] at H
   have AG:=Ent.add (D:=1000000) lV ze qf (by exact DR.mul qf) qf
   have adt:=AG.sh.1
   have eR:=AG
   refine zjc (oF rfl (oL rfl (H.cell 1 rfl rfl) (oN rfl (sp (yI 0) (zjn (qR (zl ((fun Z0 Z1 Z2 Z3 Z4 Z5 Z6 Z7 Z8 Z9 bx bG dy fj ix oS BX FT Ic O3 Ph TS Z22 Z23 Z24=>fun m' ρ BQ=>∃ (xE:Env) (k:Nat) (bL:yLL) (eI:List Value) (jN:yLN),ρ=upd (upd (upd (upd xE 10 (.func (.func 169) #[] #[pp kF 0,pp ns 0])) 40 (Sv eM (((s.qB[i]!).xe).length) eD)) 41 (yI (((s.qB[i]!).xe).length))) 42 (yI k)/\((k:Int)<=(((s.qB[i]!).xe).length))/\(Ent (s.qA.length+1) (zt s) (fun p q=>base0 s t p q+allS s t counts i p q+at' p (s.qB[i]!).qI.toNat (-(counts[i]!) * ((s.qB[i]!).zk)[q]!)+at' p (s.qB[i]!).qI.toNat ((counts[i]!) * ((s.qB[i]!).zS)[q]!)+at' p (outPl s t (s.qB[i]!)) ((counts[i]!) * ((s.qB[i]!).jX)[q]!)+Xq (s.qB[i]!) (counts[i]!) k p q) (23000000+6000000 * i+1000000 * k) bL)/\(bL.length=s.qA.length+1)/\m' =((((s.qB[i]!).xe).length) - (k:Int)).toNat/\Fresh w.heap.size [G69]/\St w BQ [Z0,Z1,Z2,Z3,Z4,Z5,Z6,rr (aa PK 0) (t.qQ.length+1) c8 24 1 eI,Z7,Z8,Z9] [xy false jN eI bL,bx,bG,dy,fj,ix,oS,BX,FT,Ic,O3,Ph,TS,Z22,Z23,Z24]) _ _ _ _ _ _ _ _ _ _ _ _ _ _ _ _ _ _ _ _ _ _ _ _ _) (((((s.qB[i]!).xe).length) - (0:Int)).toNat) ⟨_,0,YR,S1,ac5,uE4,qf,(by exact eR.to (fun p q=>by rw [po];simp only [Xq];omega) qf),qf,rfl,(N.pick [2]),H.pick (zR 0 11) [0,7,8,9,10,11,12,13,14,15,17,18,19,20,21,22]⟩ ?_)))))))
   clear H N
   rintro m' ρ abf ⟨xE,k,bL,eI,jN,rfl,i0,cd,Ex,rfl,N,H⟩
   refine zcr (sq 1 (zjn (xQ (cD rfl (fun CA=>?_) (fun CA=>?_)))))
   ·have qi:=q.2.2.2.2.2.2.2.2.2.2 k qf
    have qi1:=qi.1
    have wG:=qi.2.2.1
    have ln4:=wG.len
    refine qV (t_n (xQ (qR (zcr ?_))))
    obtain ⟨wL,ayX,rfl⟩:=H.addr 8 rfl qf
    obtain ⟨pQ,pS,Zp,H⟩:=H.yJ 8 rfl k k qf qf qf
    refine oI rfl rfl (sw (xU [yI ((((s.qB[i]!).xe)[k]!).qI),Sv pQ (((((s.qB[i]!).xe)[k]!).Qa).length) pS] isAgg128 sizeOf128 rfl (qF (H.get 1 rfl) 0 2) (sw (xq H ti128 [yI 0,yN] fun lF Pu H=>sw (xY H 0 [yI ((((s.qB[i]!).xe)[k]!).qI),Sv pQ (((((s.qB[i]!).xe)[k]!).Qa).length) pS] sizeOf128 fun Nn H=>zjn (xJ (sp (.func (.func 169) #[] #[pp kF 0,pp ns 0]) (oF rfl (oL rfl (H.cell 0 rfl rfl) (oF rfl (oL rfl (H.cell 0 rfl rfl) (sw (zQ #[yI ((((s.qB[i]!).xe)[k]!).qI),Sv pQ (((((s.qB[i]!).xe)[k]!).Qa).length) pS,pp kF 0,pp ns 0] rfl rfl call169 (en func169 ntmps169 ?_))))))))))))))
    refine yK rfl H [0,1,2,3,4,5,6,7,9,10,11] fun H=>?_
    have S:=H.jm [0,1,2,3,4,5,6,7,9,10,11] (zR 0 18)
    refine tL 0 rfl rfl (fun _ h=>h.cell 3 rfl rfl) S ?_
    refine rtl 1 S ?_
    refine tL 2 rfl rfl (fun _ h=>h.cell 3 rfl rfl) S ?_
    refine rtl 3 S ?_
    refine tI 4 rfl rfl rfl S ?_
    refine rtl 6 S ?_
    refine tL 7 rfl rfl (fun _ h=>h.cell 1 rfl rfl) S ?_
    refine ro 5 rfl ?_
    obtain ⟨alX,amb,age,avV,Nc,H⟩:=H.yg 8 rfl 2 rfl (iv:=(((s.qB[i]!).xe)[k]!).qI) (((((s.qB[i]!).xe)[k]!).qI).toNat) qf qf
    refine x9 (Sv alX ((bL[((((s.qB[i]!).xe)[k]!).qI).toNat]!).length) amb) isAgg24 rfl (Nc) (⟨H.pick [0,1,2,3,4,5,6,7,9,10,11] (zR 1 18),(ro 8 rfl ?_)⟩)
    obtain ⟨u1,u2⟩:=cd.sh.row (c:=((((s.qB[i]!).xe)[k]!).qI).toNat) qf p8 qf
    have u4:=(by exact wG.yQ qf:SmallT ((((s.qB[i]!).xe)[k]!).Qa) (counts[i]!))
    refine oc (plus_ok _ (bL[((((s.qB[i]!).xe)[k]!).qI).toNat]!) ((((s.qB[i]!).xe)[k]!).Qa) (counts[i]!) (H.get 0 rfl).1 (H.get 1 rfl).1 qg qg qg) ?_
    rintro atN Iy ak5 amp
    replace H:=H.zH amp ak5
    obtain ⟨ahx,aeE,rfl,ao0,amR⟩:=H.jL 0 rfl
    refine ⟨H.pick [1,2,3,4,5,6,7,8,10,11,12] (zR 1 18),(tI 9 rfl rfl rfl (H.pick [1,2,3,4,5,6,7,8,10,11,12] (zR 1 18)) ?_)⟩
    refine ro 10 rfl ?_
    obtain ⟨ars,N,apY,H⟩:=H.zN 0 rfl N (H.jA [4])
    refine yh false H 9 rfl 4 rfl (Sv ahx ((jT (bL[((((s.qB[i]!).xe)[k]!).qI).toNat]!) ((((s.qB[i]!).xe)[k]!).Qa) (counts[i]!)).length) aeE) 0 rfl rfl sizeOf24 rfl rfl (i:=(((((s.qB[i]!).xe)[k]!).qI).toNat)) qf qf qm fun OC aoA azE aqJ H=>⟨H.pick [1,2,3,4,5,6,7,8,10,11,12] (zR 3 18),(xw qh ((ret0 rfl ⟨_,rfl,?_⟩)))⟩
    replace H:=H.erases [0]
    dsimp only [vz,List.eraseIdx] at H
    obtain ⟨am7,Ar⟩:∃ z,z=(bL.set (((((s.qB[i]!).xe)[k]!).qI).toNat) (jT (bL[((((s.qB[i]!).xe)[k]!).qI).toNat]!) ((((s.qB[i]!).xe)[k]!).Qa) (counts[i]!))):=⟨_,rfl⟩
    rw [← Ar] at H
    have Af:=Ent.add (D:=1000000) cd Ar qf (by exact wG.mul qf) qf
    have adK:=Af.sh.1
    have eR:=Af
    refine xO (b_n (t_n (xJ (sw (zn k 1 rfl rfl qf (sq 1 (xO (qX (m' :=((((s.qB[i]!).xe).length) - ((k+1):Int)).toNat) qf ⟨_,k+1,_,_,_,uE4,?_,?_,?_,rfl,(N.pick [1]),H.pick (zR 1 11) (0::zR 6 15)⟩))))))))
    ·omega
    ·exact eR.to (fun p q=>by simp only [Xq];omega) qf
    ·omega
   refine Qx (t_x (t_x (b_x (ret0 rfl ⟨_,rfl,?_⟩))))
   replace H:=H.erases [4,3,2,1,0]
   dsimp only [vz,List.eraseIdx] at H
   refine zjn (yK rfl H [0,2,3,4,5] fun H=>?_)
   have S:=H.jm [0,2,3,4,5] (zR 0 16)
   refine rtl 0 S ?_
   refine tF 1 rfl rfl S ?_
   refine tL 2 rfl rfl (fun _ h=>h.cell 0 rfl rfl) S ?_
   refine rtl 3 S ?_
   refine tF 4 rfl rfl S ?_
   refine tL 5 rfl rfl (fun _ h=>h.cell 0 rfl rfl) S ?_
   refine tI 6 rfl rfl rfl S ?_
   refine ro 7 rfl (x9 (Bv ((Qv s counts s.qA.length i)[((s.qB[i]!).qI).toNat]!)) isAgg4 rfl (H.rowBool 1 rfl (iv:=(s.qB[i]!).qI) (i:=(((s.qB[i]!).qI).toNat)) qf qf) (⟨H.pick [0,2,3,4,5] (zR 0 16),(rtp 8 (Bv ((Qv s counts s.qA.length i)[((s.qB[i]!).qI).toNat]!)) (H.pick [0,2,3,4,5] (zR 0 16)) ?_)⟩))
   cases Y2:((Qv s counts s.qA.length i)[((s.qB[i]!).qI).toNat]!)
   ·have S:=H.jm [0,2,3,4,5] (zR 0 16)
    refine rgl 9 66 S ?_
    refine rgp 10 (Bv (decide ((counts[i]! :Int) > 0))) 66 S ?_
    refine rgp 11 (Bv (decide ((counts[i]! :Int) > 0))) 66 S ?_
    cases tE:(decide ((counts[i]! :Int) > 0))
    ·replace tE:=of_decide_eq_false tE
     refine vG [12,13] 2 (H.pick [0,2,3,4,5] (zR 0 16)) ?_
     have S:=H.jm [0,2,3,4,5] (zR 0 16)
     refine rgp 14 (Bv false) 66 S ?_
     refine rtp 15 (Bv false) S ?_
     refine tI 16 rfl rfl rfl S ?_
     refine ro 17 rfl (Qq H 1 rfl false sizeOf4 rfl rfl (i:=(((s.qB[i]!).qI).toNat)) qf qf fun alV H=>⟨H.pick [0,2,3,4,5] (zR 0 16),(xw qh (b_n (t_n (xJ (sw (zn i 1 rfl rfl qf (sq 1 (xO (qX (m' :=(counts.length - ((i+1):Int)).toNat) qf ⟨_,i+1,_,_,_,_,uE8,?_,?_,?_,?_,rfl,(N.pick []),H.pick (zR 1 5) (0::zR 10 6)⟩)))))))))⟩)
     ·exact meltsL_2 qf qf ‹_› qf
     ·omega
     ·exact cd.to (fun p q=>by rw [show k=((s.qB[i]!).xe).length by omega];simp only [allS,needF,putF];omega) qf
     ·omega
    replace tE:=of_decide_eq_true tE
    have S:=H.jm [0,2,3,4,5] (zR 0 16)
    refine gF 12 rfl rfl S ?_
    refine gL 13 rfl rfl (fun _ h=>h.cell 0 rfl rfl) S ?_
    refine rgl 14 66 S ?_
    refine rtl 15 S ?_
    refine tI 16 rfl rfl rfl S ?_
    refine ro 17 rfl (Qq H 1 rfl ((s.qB[i]!).vg) sizeOf4 rfl rfl (i:=(((s.qB[i]!).qI).toNat)) qf qf fun agR H=>⟨H.pick [0,2,3,4,5] (zR 0 16),(xw qh (b_n (t_n (xJ (sw (zn i 1 rfl rfl qf (sq 1 (xO (qX (m' :=(counts.length - ((i+1):Int)).toNat) qf ⟨_,i+1,_,_,_,_,uE8,?_,?_,?_,?_,rfl,(N.pick []),H.pick (zR 1 5) (0::zR 10 6)⟩)))))))))⟩)
    ·exact meltsL_3 qf qf ‹_› qf
    ·omega
    ·exact cd.to (fun p q=>by rw [show k=((s.qB[i]!).xe).length by omega];simp only [allS,needF,putF];omega) qf
    ·omega
   refine vG (zR 9 6) 6 (H.pick [0,2,3,4,5] (zR 0 16)) ?_
   have S:=H.jm [0,2,3,4,5] (zR 0 16)
   refine rtp 15 (Bv true) S ?_
   refine tI 16 rfl rfl rfl S ?_
   refine ro 17 rfl (Qq H 1 rfl true sizeOf4 rfl rfl (i:=(((s.qB[i]!).qI).toNat)) qf qf fun ZF H=>⟨H.pick [0,2,3,4,5] (zR 0 16),(xw qh (b_n (t_n (xJ (sw (zn i 1 rfl rfl qf (sq 1 (xO (qX (m' :=(counts.length - ((i+1):Int)).toNat) qf ⟨_,i+1,_,_,_,_,uE8,?_,?_,?_,?_,rfl,(N.pick []),H.pick (zR 1 5) (0::zR 10 6)⟩)))))))))⟩)
   ·exact meltsL_1 qf qf ‹_›
   ·omega
   ·exact cd.to (fun p q=>by rw [show k=((s.qB[i]!).xe).length by omega];simp only [allS,needF,putF];omega) qf
   ·omega
  have po:=outPl_out (r:=s.qB[i]!) p15 p1.2.2.1 qc qf
  refine yK rfl H [0,1,2,3,4,5,6,8,9,10] fun H=>?_
  have S:=H.jm [0,1,2,3,4,5,6,8,9,10] (zR 0 20)
  refine rtp 0 (.func (.func 169) #[] #[pp kF 0,pp ns 0]) S ?_
  refine rt 1 _ (y8 (cs:=[yI s.xK,Sv qG s.qA.length qE,Sv (aa Hq o45) s.qB.length qN]) isAgg27 sizeOf27 rfl (fun _ h=>qF (h.cells 4 rfl) 0 3)) S ?_
  refine tF 3 rfl rfl S ?_
  refine tL 4 rfl rfl (fun _ h=>h.cell 1 rfl rfl) S ?_
  refine ro 2 rfl (oq (around_ok _ s (H.get 14 rfl).1 (H.get 15 rfl).1) H fun O6 H=>⟨H.pick [0,1,2,3,4,5,6,8,9,10] (zR 0 20),(ro 5 rfl (zQ #[yI s.qA.length,Sv gO (((s.qB[i]!).jX).length) gV,pp kF 0,pp ns 0] rfl rfl call169 (en func169 ntmps169 ?_)))⟩)
  refine yK rfl H [0,1,2,3,4,5,6,8,9,10] fun H=>?_
  have S:=H.jm [0,1,2,3,4,5,6,8,9,10] (zR 0 20)
  refine tL 0 rfl rfl (fun _ h=>h.cell 2 rfl rfl) S ?_
  refine rtl 1 S ?_
  refine tL 2 rfl rfl (fun _ h=>h.cell 2 rfl rfl) S ?_
  refine rtl 3 S ?_
  refine tI 4 rfl rfl rfl S ?_
  refine rtl 6 S ?_
  refine tL 7 rfl rfl (fun _ h=>h.cell 0 rfl rfl) S ?_
  refine ro 5 rfl ?_
  obtain ⟨ajY,agN,ayZ,atH,wU,H⟩:=H.yg 7 rfl 0 rfl (iv:=s.qA.length) s.qA.length qf qf
  refine x9 (Sv ajY ((kX[s.qA.length]!).length) agN) isAgg24 rfl (wU) (⟨H.pick [0,1,2,3,4,5,6,8,9,10] (zR 1 20),(ro 8 rfl ?_)⟩)
  obtain ⟨u1,u2⟩:=lV.sh.row (c:=s.qA.length) qf p8 qf
  have u4:=(by exact DR.yQ qf:SmallT ((s.qB[i]!).jX) (counts[i]!))
  refine oc (plus_ok _ (kX[s.qA.length]!) ((s.qB[i]!).jX) (counts[i]!) (H.get 0 rfl).1 (H.get 11 rfl).1 qg qg qg) ?_
  rintro atW YG alC ahj
  replace H:=H.zH ahj alC
  obtain ⟨ahT,ahF,rfl,aqO,ap2⟩:=H.jL 0 rfl
  refine ⟨H.pick [1,2,3,4,5,6,7,9,10,11] (zR 1 20),(tI 9 rfl rfl rfl (H.pick [1,2,3,4,5,6,7,9,10,11] (zR 1 20)) ?_)⟩
  refine ro 10 rfl ?_
  obtain ⟨UO,N,abx,H⟩:=H.zN 0 rfl N (H.jA [2,5])
  refine yh false H 8 rfl 2 rfl (Sv ahT ((jT (kX[s.qA.length]!) ((s.qB[i]!).jX) (counts[i]!)).length) ahF) 0 rfl rfl sizeOf24 rfl rfl (i:=s.qA.length) qf qf qm fun au8 TU afg aqz H=>⟨H.pick [1,2,3,4,5,6,7,9,10,11] (zR 3 20),(xw qh ((ret0 rfl ⟨_,rfl,?_⟩)))⟩
  replace H:=H.erases [0]
  dsimp only [vz,List.eraseIdx] at H
  obtain ⟨Ya,Bu⟩:∃ z,z=(kX.set s.qA.length (jT (kX[s.qA.length]!) ((s.qB[i]!).jX) (counts[i]!))):=⟨_,rfl⟩
  rw [← Bu] at H
  have By:=Ent.add (D:=1000000) lV Bu qf (by exact DR.mul qf) qf
  have aer:=By.sh.1
  have eR:=By
  refine ⟨H.pick [0,1,2,3,4,5,6,8,9,10] (zR 3 20),(xw qh (t_n (zcr (oF rfl (oL rfl (H.cell 1 rfl rfl) (oN rfl (sp (yI 0) (zjn (qR ?_)))))))))⟩
  refine zl ((fun Z0 Z1 Z2 Z3 Z4 Z5 Z6 Z7 Z8 Z9 bx bG dy fj ix oS BX FT Ic O3 Ph TS Z22 Z23 Z24=>fun m' ρ Ot=>∃ (xE:Env) (k:Nat) (bL:yLL) (eI:List Value) (jN:yLN),ρ=upd (upd (upd (upd xE 10 (.func (.func 169) #[] #[pp kF 0,pp ns 0])) 40 (Sv eM (((s.qB[i]!).xe).length) eD)) 41 (yI (((s.qB[i]!).xe).length))) 42 (yI k)/\((k:Int)<=(((s.qB[i]!).xe).length))/\(Ent (s.qA.length+1) (zt s) (fun p q=>base0 s t p q+allS s t counts i p q+at' p (s.qB[i]!).qI.toNat (-(counts[i]!) * ((s.qB[i]!).zk)[q]!)+at' p (s.qB[i]!).qI.toNat ((counts[i]!) * ((s.qB[i]!).zS)[q]!)+at' p (outPl s t (s.qB[i]!)) ((counts[i]!) * ((s.qB[i]!).jX)[q]!)+Xq (s.qB[i]!) (counts[i]!) k p q) (23000000+6000000 * i+1000000 * k) bL)/\(bL.length=s.qA.length+1)/\m' =((((s.qB[i]!).xe).length) - (k:Int)).toNat/\Fresh w.heap.size [G69]/\St w Ot [Z0,Z1,Z2,Z3,Z4,Z5,Z6,rr (aa PK 0) (t.qQ.length+1) c8 24 1 eI,Z7,Z8,Z9] [xy false jN eI bL,bx,bG,dy,fj,ix,oS,BX,FT,Ic,O3,Ph,TS,Z22,Z23,Z24]) _ _ _ _ _ _ _ _ _ _ _ _ _ _ _ _ _ _ _ _ _ _ _ _ _) (((((s.qB[i]!).xe).length) - (0:Int)).toNat) ⟨_,0,Ya,TU,afg,uE4,qf,(by exact eR.to (fun p q=>by rw [po];simp only [Xq];omega) qf),qf,rfl,(N.pick [2]),H.pick (zR 0 11) [0,7,8,9,10,11,12,13,14,15,17,18,19,20,21,22]⟩ ?_
  clear H N
  rintro m' ρ OX ⟨xE,k,bL,eI,jN,rfl,i0,cd,Ex,rfl,N,H⟩
  refine zcr (sq 1 (zjn (xQ (cD rfl (fun air=>?_) (fun air=>?_)))))
  ·have qi:=q.2.2.2.2.2.2.2.2.2.2 k qf
   have qi1:=qi.1
   have wG:=qi.2.2.1
   have ln4:=wG.len
   refine qV (t_n (xQ (qR (zcr ?_))))
   obtain ⟨Jt,avM,rfl⟩:=H.addr 8 rfl qf
   obtain ⟨pX,pT,aaR,H⟩:=H.yJ 8 rfl k k qf qf qf
   refine oI rfl rfl (sw (xU [yI ((((s.qB[i]!).xe)[k]!).qI),Sv pX (((((s.qB[i]!).xe)[k]!).Qa).length) pT] isAgg128 sizeOf128 rfl (qF (H.get 1 rfl) 0 2) (sw (xq H ti128 [yI 0,yN] fun Us aak H=>sw (xY H 0 [yI ((((s.qB[i]!).xe)[k]!).qI),Sv pX (((((s.qB[i]!).xe)[k]!).Qa).length) pT] sizeOf128 fun akl H=>zjn (xJ (sp (.func (.func 169) #[] #[pp kF 0,pp ns 0]) (oF rfl (oL rfl (H.cell 0 rfl rfl) (oF rfl (oL rfl (H.cell 0 rfl rfl) (sw (zQ #[yI ((((s.qB[i]!).xe)[k]!).qI),Sv pX (((((s.qB[i]!).xe)[k]!).Qa).length) pT,pp kF 0,pp ns 0] rfl rfl call169 (en func169 ntmps169 ?_))))))))))))))
   refine yK rfl H [0,1,2,3,4,5,6,7,9,10,11] fun H=>?_
   have S:=H.jm [0,1,2,3,4,5,6,7,9,10,11] (zR 0 18)
   refine tL 0 rfl rfl (fun _ h=>h.cell 3 rfl rfl) S ?_
   refine rtl 1 S ?_
   refine tL 2 rfl rfl (fun _ h=>h.cell 3 rfl rfl) S ?_
   refine rtl 3 S ?_
   refine tI 4 rfl rfl rfl S ?_
   refine rtl 6 S ?_
   refine tL 7 rfl rfl (fun _ h=>h.cell 1 rfl rfl) S ?_
   refine ro 5 rfl ?_
   obtain ⟨akq,aeV,ahO,axG,ah4,H⟩:=H.yg 8 rfl 2 rfl (iv:=(((s.qB[i]!).xe)[k]!).qI) (((((s.qB[i]!).xe)[k]!).qI).toNat) qf qf
   refine x9 (Sv akq ((bL[((((s.qB[i]!).xe)[k]!).qI).toNat]!).length) aeV) isAgg24 rfl (ah4) (⟨H.pick [0,1,2,3,4,5,6,7,9,10,11] (zR 1 18),(ro 8 rfl ?_)⟩)
   obtain ⟨u1,u2⟩:=cd.sh.row (c:=((((s.qB[i]!).xe)[k]!).qI).toNat) qf p8 qf
   have u4:=(by exact wG.yQ qf:SmallT ((((s.qB[i]!).xe)[k]!).Qa) (counts[i]!))
   refine oc (plus_ok _ (bL[((((s.qB[i]!).xe)[k]!).qI).toNat]!) ((((s.qB[i]!).xe)[k]!).Qa) (counts[i]!) (H.get 0 rfl).1 (H.get 1 rfl).1 qg qg qg) ?_
   rintro avk Px ajz akW
   replace H:=H.zH akW ajz
   obtain ⟨agK,aiA,rfl,aok,aqI⟩:=H.jL 0 rfl
   refine ⟨H.pick [1,2,3,4,5,6,7,8,10,11,12] (zR 1 18),(tI 9 rfl rfl rfl (H.pick [1,2,3,4,5,6,7,8,10,11,12] (zR 1 18)) ?_)⟩
   refine ro 10 rfl ?_
   obtain ⟨as2,N,aqa,H⟩:=H.zN 0 rfl N (H.jA [4])
   refine yh false H 9 rfl 4 rfl (Sv agK ((jT (bL[((((s.qB[i]!).xe)[k]!).qI).toNat]!) ((((s.qB[i]!).xe)[k]!).Qa) (counts[i]!)).length) aiA) 0 rfl rfl sizeOf24 rfl rfl (i:=(((((s.qB[i]!).xe)[k]!).qI).toNat)) qf qf qm fun aw2 aoc UH aqs H=>⟨H.pick [1,2,3,4,5,6,7,8,10,11,12] (zR 3 18),(xw qh ((ret0 rfl ⟨_,rfl,?_⟩)))⟩
   replace H:=H.erases [0]
   dsimp only [vz,List.eraseIdx] at H
   obtain ⟨apU,Bm⟩:∃ z,z=(bL.set (((((s.qB[i]!).xe)[k]!).qI).toNat) (jT (bL[((((s.qB[i]!).xe)[k]!).qI).toNat]!) ((((s.qB[i]!).xe)[k]!).Qa) (counts[i]!))):=⟨_,rfl⟩
   rw [← Bm] at H
   have AK:=Ent.add (D:=1000000) cd Bm qf (by exact wG.mul qf) qf
   have adq:=AK.sh.1
   have eR:=AK
   refine xO (b_n (t_n (xJ (sw (zn k 1 rfl rfl qf (sq 1 (xO (qX (m' :=((((s.qB[i]!).xe).length) - ((k+1):Int)).toNat) qf ⟨_,k+1,_,_,_,uE4,?_,?_,?_,rfl,(N.pick [1]),H.pick (zR 1 11) (0::zR 6 15)⟩))))))))
   ·omega
   ·exact eR.to (fun p q=>by simp only [Xq];omega) qf
   ·omega
  refine Qx (t_x (t_x (b_x (ret0 rfl ⟨_,rfl,?_⟩))))
  replace H:=H.erases [4,3,2,1,0]
  dsimp only [vz,List.eraseIdx] at H
  refine zjn (yK rfl H [0,2,3,4,5] fun H=>?_)
  have S:=H.jm [0,2,3,4,5] (zR 0 16)
  refine rtl 0 S ?_
  refine tF 1 rfl rfl S ?_
  refine tL 2 rfl rfl (fun _ h=>h.cell 0 rfl rfl) S ?_
  refine rtl 3 S ?_
  refine tF 4 rfl rfl S ?_
  refine tL 5 rfl rfl (fun _ h=>h.cell 0 rfl rfl) S ?_
  refine tI 6 rfl rfl rfl S ?_
  refine ro 7 rfl (x9 (Bv ((Qv s counts s.qA.length i)[((s.qB[i]!).qI).toNat]!)) isAgg4 rfl (H.rowBool 1 rfl (iv:=(s.qB[i]!).qI) (i:=(((s.qB[i]!).qI).toNat)) qf qf) (⟨H.pick [0,2,3,4,5] (zR 0 16),(rtp 8 (Bv ((Qv s counts s.qA.length i)[((s.qB[i]!).qI).toNat]!)) (H.pick [0,2,3,4,5] (zR 0 16)) ?_)⟩))
  cases h235:((Qv s counts s.qA.length i)[((s.qB[i]!).qI).toNat]!)
  ·have S:=H.jm [0,2,3,4,5] (zR 0 16)
   refine rgl 9 66 S ?_
   refine rgp 10 (Bv (decide ((counts[i]! :Int) > 0))) 66 S ?_
   refine rgp 11 (Bv (decide ((counts[i]! :Int) > 0))) 66 S ?_
   cases Jv:(decide ((counts[i]! :Int) > 0))
   ·replace Jv:=of_decide_eq_false Jv
    refine vG [12,13] 2 (H.pick [0,2,3,4,5] (zR 0 16)) ?_
    have S:=H.jm [0,2,3,4,5] (zR 0 16)
    refine rgp 14 (Bv false) 66 S ?_
    refine rtp 15 (Bv false) S ?_
    refine tI 16 rfl rfl rfl S ?_
    refine ro 17 rfl (Qq H 1 rfl false sizeOf4 rfl rfl (i:=(((s.qB[i]!).qI).toNat)) qf qf fun aht H=>⟨H.pick [0,2,3,4,5] (zR 0 16),(xw qh (b_n (t_n (xJ (sw (zn i 1 rfl rfl qf (sq 1 (xO (qX (m' :=(counts.length - ((i+1):Int)).toNat) qf ⟨_,i+1,_,_,_,_,uE8,?_,?_,?_,?_,rfl,(N.pick []),H.pick (zR 1 5) (0::zR 10 6)⟩)))))))))⟩)
    ·exact meltsL_2 qf qf ‹_› qf
    ·omega
    ·exact cd.to (fun p q=>by rw [show k=((s.qB[i]!).xe).length by omega];simp only [allS,needF,putF];omega) qf
    ·omega
   replace Jv:=of_decide_eq_true Jv
   have S:=H.jm [0,2,3,4,5] (zR 0 16)
   refine gF 12 rfl rfl S ?_
   refine gL 13 rfl rfl (fun _ h=>h.cell 0 rfl rfl) S ?_
   refine rgl 14 66 S ?_
   refine rtl 15 S ?_
   refine tI 16 rfl rfl rfl S ?_
   refine ro 17 rfl (Qq H 1 rfl ((s.qB[i]!).vg) sizeOf4 rfl rfl (i:=(((s.qB[i]!).qI).toNat)) qf qf fun aks H=>⟨H.pick [0,2,3,4,5] (zR 0 16),(xw qh (b_n (t_n (xJ (sw (zn i 1 rfl rfl qf (sq 1 (xO (qX (m' :=(counts.length - ((i+1):Int)).toNat) qf ⟨_,i+1,_,_,_,_,uE8,?_,?_,?_,?_,rfl,(N.pick []),H.pick (zR 1 5) (0::zR 10 6)⟩)))))))))⟩)
   ·exact meltsL_3 qf qf ‹_› qf
   ·omega
   ·exact cd.to (fun p q=>by rw [show k=((s.qB[i]!).xe).length by omega];simp only [allS,needF,putF];omega) qf
   ·omega
  refine vG (zR 9 6) 6 (H.pick [0,2,3,4,5] (zR 0 16)) ?_
  have S:=H.jm [0,2,3,4,5] (zR 0 16)
  refine rtp 15 (Bv true) S ?_
  refine tI 16 rfl rfl rfl S ?_
  refine ro 17 rfl (Qq H 1 rfl true sizeOf4 rfl rfl (i:=(((s.qB[i]!).qI).toNat)) qf qf fun E5 H=>⟨H.pick [0,2,3,4,5] (zR 0 16),(xw qh (b_n (t_n (xJ (sw (zn i 1 rfl rfl qf (sq 1 (xO (qX (m' :=(counts.length - ((i+1):Int)).toNat) qf ⟨_,i+1,_,_,_,_,uE8,?_,?_,?_,?_,rfl,(N.pick []),H.pick (zR 1 5) (0::zR 10 6)⟩)))))))))⟩)
  ·exact meltsL_1 qf qf ‹_›
  ·omega
  ·exact cd.to (fun p q=>by rw [show k=((s.qB[i]!).xe).length by omega];simp only [allS,needF,putF];omega) qf
  ·omega
 refine zx4 (xQ ?_)
 obtain ⟨oK,rfl⟩:=H.jK 1 rfl qf
 refine VP (fun ρ ace=>∃ (xE:Env) (xT:Nat) (eu:yOA) (e7:Nat) (fY:yOA) (eH:Nat) (fv:yOA) (fB:Nat) (Bb:List Value) (yr:yLN),ρ=upd (upd (upd (upd xE 3 (pp b1 0)) 6 (pp b5 0)) 9 (Sv (aa wt 0) s.qA.length s.qA.length)) 13 (pp xT 0)/\Fresh w.heap.size [yr]/\St w ace [.box xT [Sv eu (((⟨t.qK,(bags.take s.qA.length),bags[s.qA.length]!⟩:qH).qK).length) e7,Sv fY (((⟨t.qK,(bags.take s.qA.length),bags[s.qA.length]!⟩:qH).qQ).length) eH,Sv fv (((⟨t.qK,(bags.take s.qA.length),bags[s.qA.length]!⟩:qH).qL).length) fB] 31,rr eu (((⟨t.qK,(bags.take s.qA.length),bags[s.qA.length]!⟩:qH).qK).length) e7 4 1 (((⟨t.qK,(bags.take s.qA.length),bags[s.qA.length]!⟩:qH).qK).map (Value.bool)),rr fY (((⟨t.qK,(bags.take s.qA.length),bags[s.qA.length]!⟩:qH).qQ).length) eH 24 1 Bb,rr fv (((⟨t.qK,(bags.take s.qA.length),bags[s.qA.length]!⟩:qH).qL).length) fB 2 1 (((⟨t.qK,(bags.take s.qA.length),bags[s.qA.length]!⟩:qH).qL).map (Value.int .i64)),rr (aa wt 0) s.qA.length s.qA.length 4 1 ((Qv s counts s.qA.length i).map (Value.bool)),rr none 0 0 0 1 [],.box b5 [yN,yN,yN] 31,.box b3 (yT t xg xf xI xG qZ qY) 31,.box b1 (yS s qG qE qO qN) 27] [xy true yr Bb ((⟨t.qK,(bags.take s.qA.length),bags[s.qA.length]!⟩:qH).qQ),sF false xk qG qE s.qA,sF false xW qO qN s.qB,sF false zD xg xf t.qK,sF false vF xI xG t.qQ,sF false zh qZ qY t.qL]) ?_ ?_
 ·refine yK rfl H [0,2,3,4] fun H=>?_
  refine Qc (fun ρ Wm=>∃ (xE:Env) (xc:yOA) (xd:Nat) (wy:yOA) (Ye:yLN) (U9:yLN),ρ=upd (upd (upd (upd (upd (upd xE 3 (pp b1 0)) 6 (pp b5 0)) 9 (Sv (aa wt 0) s.qA.length s.qA.length)) 77 (Sv xg t.qK.length xf)) 81 (Sv wy ((bags.take s.qA.length).length) c8)) 86 (Sv xc ((bags[s.qA.length]!).length) xd)/\Fresh w.heap.size []/\St w Wm [rr (aa wt 0) s.qA.length s.qA.length 4 1 ((Qv s counts s.qA.length i).map (Value.bool)),rr none 0 0 0 1 [],.box b5 [yN,yN,yN] 31,.box b3 (yT t xg xf xI xG qZ qY) 31,.box b1 (yS s qG qE qO qN) 27] [sF false Ye wy c8 (bags.take s.qA.length),sF false U9 xc xd (bags[s.qA.length]!),xy false nA gT bags,sF false xk qG qE s.qA,sF false xW qO qN s.qB,sF false zD xg xf t.qK,sF false vF xI xG t.qQ,sF false zh qZ qY t.qL,sF false di aV aP counts]) 4 #[true,true,true,true,true,true,true,true,true,true,true,false,false,false,false] ?_ fun UC=>?_
  ·rintro ρ aj4 ⟨xE,xc,xd,wy,Ye,U9,rfl,N,H⟩
   refine vK [11,13] qh qm (jb rfl ?_ (jb rfl ?_ vM))
   ·refine vU [Sv xg t.qK.length xf,Sv wy ((bags.take s.qA.length).length) c8,Sv xc ((bags[s.qA.length]!).length) xd] [(0,Sv xg t.qK.length xf),(1,Sv wy ((bags.take s.qA.length).length) c8),(2,Sv xc ((bags[s.qA.length]!).length) xd)] (⟨H.pick [0,2,3,4] (zR 2 7),(vK [12,13] qh qm (jb rfl ?_ (jb rfl ?_ vM)))⟩)
    ·obtain ⟨Mu,LZ,K4,Mh⟩:=copy_pre (al:=t.qK) dG p8 p9.2 wi
     have Tv:=H.base.size
     refine oc (Vm _ (⟨t.qK,(bags.take s.qA.length),bags[s.qA.length]!⟩:qH) (H.get 5 rfl).1 (H.get 0 rfl).1 (H.get 1 rfl).1 qg qg qg qg) ?_
     rintro _ aiI ⟨pU,Nb,rW,sV,Rk,sC,CO,BW,n8,Ls,oz,rfl,M,K⟩ _
     replace N:=N.merge Tv qm M
     replace H:=H.merge K M
     obtain rfl:=H.VM 0 rfl
     obtain rfl:=H.zg (α:=yLI) 1 rfl 0 rfl qj
     obtain rfl:=H.jC 2 rfl
     refine ⟨H.pick [3,5,6,7] (zR 3 7),(ro 13 rfl (xq H ti31 [yN,yN,yN] fun Of aig H=>⟨H.pick [4,6,7,8] (zR 3 7),(ro 14 rfl (xY H 0 [Sv pU (((⟨t.qK,(bags.take s.qA.length),bags[s.qA.length]!⟩:qH).qK).length) rW,Sv sV (((⟨t.qK,(bags.take s.qA.length),bags[s.qA.length]!⟩:qH).qQ).length) sC,Sv n8 (((⟨t.qK,(bags.take s.qA.length),bags[s.qA.length]!⟩:qH).qL).length) oz] sizeOf31 fun arq H=>⟨H.pick [4,6,7,8] (zR 3 7),?_⟩))⟩))⟩
     refine xw qh ((meet ⟨_,Of,pU,rW,sV,sC,n8,oz,CO,BW,uE4,N,H.pick (zR 0 9) (0::zR 4 5)⟩))
    refine xq H ti31 [yN,yN,yN] fun afJ Ta H=>⟨H.pick [1,3,4,5] (zR 2 7),(ro 12 rfl ?_)⟩
    obtain ⟨Mu,LZ,K4,Mh⟩:=copy_pre (al:=t.qK) dG p8 p9.2 wi
    have WP:=H.base.size
    refine oc (Vm _ (⟨t.qK,(bags.take s.qA.length),bags[s.qA.length]!⟩:qH) (H.get 5 rfl).1 (H.get 0 rfl).1 (H.get 1 rfl).1 qg qg qg qg) ?_
    rintro _ Sw ⟨rA,NS,pV,s9,Re,tf,Cv,BG,oE,Kx,ov,rfl,M,K⟩ _
    replace N:=N.merge WP qm M
    replace H:=H.merge K M
    obtain rfl:=H.VM 0 rfl
    obtain rfl:=H.zg (α:=yLI) 1 rfl 0 rfl qj
    obtain rfl:=H.jC 2 rfl
    refine ⟨H.pick [4,6,7,8] (zR 3 7),(ro 14 rfl (xY H 3 [Sv rA (((⟨t.qK,(bags.take s.qA.length),bags[s.qA.length]!⟩:qH).qK).length) pV,Sv s9 (((⟨t.qK,(bags.take s.qA.length),bags[s.qA.length]!⟩:qH).qQ).length) tf,Sv oE (((⟨t.qK,(bags.take s.qA.length),bags[s.qA.length]!⟩:qH).qL).length) ov] sizeOf31 fun axb H=>⟨H.pick [4,6,7,8] (zR 3 7),(xw qh (?_))⟩))⟩
    exact meet ⟨_,afJ,rA,pV,s9,tf,oE,ov,Cv,BG,uE4,N,H.pick [3,0,1,2,4,5,6,7,8] (0::zR 4 5)⟩
   refine xq H ti31 [yN,yN,yN] fun alQ abv H=>⟨H.pick [1,3,4,5] (zR 2 7),(ro 11 rfl (vU [Sv xg t.qK.length xf,Sv wy ((bags.take s.qA.length).length) c8,Sv xc ((bags[s.qA.length]!).length) xd] [(0,Sv xg t.qK.length xf),(1,Sv wy ((bags.take s.qA.length).length) c8),(2,Sv xc ((bags[s.qA.length]!).length) xd)] (⟨H.pick [1,3,4,5] (zR 2 7),(ro 12 rfl ?_)⟩)))⟩
   obtain ⟨Mu,LZ,K4,Mh⟩:=copy_pre (al:=t.qK) dG p8 p9.2 wi
   have W4:=H.base.size
   refine oc (Vm _ (⟨t.qK,(bags.take s.qA.length),bags[s.qA.length]!⟩:qH) (H.get 5 rfl).1 (H.get 0 rfl).1 (H.get 1 rfl).1 qg qg qg qg) ?_
   rintro _ ajh ⟨rp,OQ,rE,sJ,RD,ta,CG,BP,oo,K8,oD,rfl,M,K⟩ _
   replace N:=N.merge W4 qm M
   replace H:=H.merge K M
   obtain rfl:=H.VM 0 rfl
   obtain rfl:=H.zg (α:=yLI) 1 rfl 0 rfl qj
   obtain rfl:=H.jC 2 rfl
   refine ⟨H.pick [4,6,7,8] (zR 3 7),(ro 14 rfl (xY H 3 [Sv rp (((⟨t.qK,(bags.take s.qA.length),bags[s.qA.length]!⟩:qH).qK).length) rE,Sv sJ (((⟨t.qK,(bags.take s.qA.length),bags[s.qA.length]!⟩:qH).qQ).length) ta,Sv oo (((⟨t.qK,(bags.take s.qA.length),bags[s.qA.length]!⟩:qH).qL).length) oD] sizeOf31 fun arv H=>⟨H.pick [4,6,7,8] (zR 3 7),(xw qh (?_))⟩))⟩
   exact meet ⟨_,alQ,rp,rE,sJ,ta,oo,oD,CG,BP,uE4,N,H.pick [3,0,1,2,4,5,6,7,8] (0::zR 4 5)⟩
  refine Qc (fun ρ w297=>∃ (xE:Env) (Cn:yOA) (HR:yLN) (ab3:yLN),ρ=upd (upd (upd (upd (upd (upd xE 3 (pp b1 0)) 6 (pp b5 0)) 9 (Sv (aa wt 0) s.qA.length s.qA.length)) 77 (Sv xg t.qK.length xf)) 81 (Sv Cn ((bags.take s.qA.length).length) c8)) 85 (pp oK (0+(s.qA.length:Int).toNat * 1))/\Fresh w.heap.size []/\St w w297 [rr (aa wt 0) s.qA.length s.qA.length 4 1 ((Qv s counts s.qA.length i).map (Value.bool)),rr none 0 0 0 1 [],.box b5 [yN,yN,yN] 31,.box b3 (yT t xg xf xI xG qZ qY) 31,.box b1 (yS s qG qE qO qN) 27] [sF false HR Cn c8 (bags.take s.qA.length),isF false ab3 (Sv (aa oK 0) (t.qQ.length+1) c8) bags,xy false nA gT bags,sF false xk qG qE s.qA,sF false xW qO qN s.qB,sF false zD xg xf t.qK,sF false vF xI xG t.qQ,sF false zh qZ qY t.qL,sF false di aV aP counts]) 5 #[true,true,true,true,true,true,true,true,true,true,false,false,false,false,false] ?_ fun acv=>?_
  ·rintro ρ arp ⟨xE,Cn,HR,ab3,rfl,N,H⟩
   refine vK [10,13] qh qm (jb rfl ?_ (jb rfl ?_ vM))
   ·obtain ⟨Lb,L0,ab7,H⟩:=H.zW 1 rfl s.qA.length s.qA.length qf qf qf
    refine x9 (Sv Lb ((bags[s.qA.length]!).length) L0) isAgg24 rfl (H.xP 1 rfl 0 rfl) (⟨H.pick [0,2,3,4] (zR 4 7),(jS UC ⟨_,Lb,L0,Cn,HR,ab7,uE6,N,H.pick (zR 0 5) (2::0::zR 4 7)⟩)⟩)
   refine xq H ti31 [yN,yN,yN] fun ak9 avR H=>⟨H.pick [1,3,4,5] (zR 2 7),(ro 10 rfl ?_)⟩
   obtain ⟨ER,DV,aq3,H⟩:=H.zW 1 rfl s.qA.length s.qA.length qf qf qf
   refine x9 (Sv ER ((bags[s.qA.length]!).length) DV) isAgg24 rfl (H.xP 1 rfl 0 rfl) (⟨H.pick [1,3,4,5] (zR 4 7),(ro 11 rfl (vU [Sv xg t.qK.length xf,Sv Cn ((bags.take s.qA.length).length) c8,Sv ER ((bags[s.qA.length]!).length) DV] [(0,Sv xg t.qK.length xf),(1,Sv Cn ((bags.take s.qA.length).length) c8),(2,Sv ER ((bags[s.qA.length]!).length) DV)] (⟨H.pick [1,3,4,5] (zR 4 7),(ro 12 rfl ?_)⟩)))⟩)
   obtain ⟨Mu,LZ,K4,Mh⟩:=copy_pre (al:=t.qK) dG p8 p9.2 wi
   have SY:=H.base.size
   refine oc (Vm _ (⟨t.qK,(bags.take s.qA.length),bags[s.qA.length]!⟩:qH) (H.get 7 rfl).1 (H.get 2 rfl).1 (H.get 0 rfl).1 qg qg qg qg) ?_
   rintro _ auv ⟨rK,PM,qS,tr,Qt,sT,CV,Cm,nZ,Lu,oG,rfl,M,K⟩ _
   replace N:=N.merge SY qm M
   replace H:=H.merge K M
   obtain rfl:=H.VM 0 rfl
   obtain rfl:=H.zg (α:=yLI) 1 rfl 0 rfl qj
   obtain rfl:=H.jC 2 rfl
   refine ⟨H.pick [4,6,7,8] (zR 5 7),(ro 14 rfl (xY H 3 [Sv rK (((⟨t.qK,(bags.take s.qA.length),bags[s.qA.length]!⟩:qH).qK).length) qS,Sv tr (((⟨t.qK,(bags.take s.qA.length),bags[s.qA.length]!⟩:qH).qQ).length) sT,Sv nZ (((⟨t.qK,(bags.take s.qA.length),bags[s.qA.length]!⟩:qH).qL).length) oG] sizeOf31 fun avq H=>⟨H.pick [4,6,7,8] (zR 5 7),(xw qh (?_))⟩))⟩
   exact meet ⟨_,ak9,rK,qS,tr,sT,nZ,oG,CV,Cm,uE4,N,H.pick [3,0,1,2,4,5,6,7,8] (0::zR 6 5)⟩
  refine Qc (fun ρ abk=>∃ (xE:Env) (F7:Nat),ρ=upd (upd (upd (upd (upd (upd (upd (upd xE 3 (pp b1 0)) 6 (pp b5 0)) 9 (Sv (aa wt 0) s.qA.length s.qA.length)) 13 (pp F7 0)) 77 (Sv xg t.qK.length xf)) 78 (Sv (aa oK 0) (t.qQ.length+1) c8)) 80 (yI s.qA.length)) 85 (pp oK (0+(s.qA.length:Int).toNat * 1))/\Fresh w.heap.size []/\St w abk [.box F7 [yN,yN,yN] 31,rr (aa wt 0) s.qA.length s.qA.length 4 1 ((Qv s counts s.qA.length i).map (Value.bool)),rr (aa oK 0) (t.qQ.length+1) c8 24 1 gT,.box b5 [yN,yN,yN] 31,.box b3 (yT t xg xf xI xG qZ qY) 31,.box b1 (yS s qG qE qO qN) 27] [xy false nA gT bags,sF false xk qG qE s.qA,sF false xW qO qN s.qB,sF false zD xg xf t.qK,sF false vF xI xG t.qQ,sF false zh qZ qY t.qL,sF false di aV aP counts]) 5 #[true,true,true,true,true,false,true,true,true,true,false,false,false,true,false] ?_ fun WV=>?_
  ·rintro ρ aeJ ⟨xE,F7,rfl,N,H⟩
   refine vK [5,10] qh qm (jb rfl ?_ (jb rfl ?_ vM))
   ·obtain ⟨avp,aqP,anJ,H⟩:=H.Ql (α:=yLI) 2 rfl 0 rfl qj
    refine o_head H 0 rfl s.qA.length underlying29 ti24 rfl rfl qf qf fun acK azG am5 H=>?_
    have aqL:(bags.take s.qA.length).length=s.qA.length:=List.length_take_of_le qf
    refine ⟨H.pick [1,3,4,5] (zR 2 7),(ro 10 rfl ?_)⟩
    obtain ⟨EE,EQ,ap1,H⟩:=H.zW 1 rfl s.qA.length s.qA.length qf qf qf
    refine x9 (Sv EE ((bags[s.qA.length]!).length) EQ) isAgg24 rfl (H.xP 1 rfl 0 rfl) (⟨H.pick [1,3,4,5] (zR 4 7),(ro 11 rfl (vU [Sv xg t.qK.length xf,Sv acK ((bags.take s.qA.length).length) c8,Sv EE ((bags[s.qA.length]!).length) EQ] [(0,Sv xg t.qK.length xf),(1,Sv acK ((bags.take s.qA.length).length) c8),(2,Sv EE ((bags[s.qA.length]!).length) EQ)] (⟨H.pick [1,3,4,5] (zR 4 7),(ro 12 rfl ?_)⟩)))⟩)
    obtain ⟨Mu,LZ,K4,Mh⟩:=copy_pre (al:=t.qK) dG p8 p9.2 wi
    have ZZ:=H.base.size
    refine oc (Vm _ (⟨t.qK,(bags.take s.qA.length),bags[s.qA.length]!⟩:qH) (H.get 7 rfl).1 (H.get 2 rfl).1 (H.get 0 rfl).1 qg qg qg qg) ?_
    rintro _ ayN ⟨pA,M6,rv,tt,P6,sL,Ca,Ct,oj,KJ,oh,rfl,M,K⟩ _
    replace N:=N.merge ZZ qm M
    replace H:=H.merge K M
    obtain rfl:=H.VM 0 rfl
    obtain rfl:=H.zg (α:=yLI) 1 rfl 0 rfl qj
    obtain rfl:=H.jC 2 rfl
    refine ⟨H.pick [4,6,7,8] (zR 5 7),(ro 14 rfl (xY H 3 [Sv pA (((⟨t.qK,(bags.take s.qA.length),bags[s.qA.length]!⟩:qH).qK).length) rv,Sv tt (((⟨t.qK,(bags.take s.qA.length),bags[s.qA.length]!⟩:qH).qQ).length) sL,Sv oj (((⟨t.qK,(bags.take s.qA.length),bags[s.qA.length]!⟩:qH).qL).length) oh] sizeOf31 fun axE H=>⟨H.pick [4,6,7,8] (zR 5 7),(xw qh (?_))⟩))⟩
    exact meet ⟨_,F7,pA,rv,tt,sL,oj,oh,Ca,Ct,uE4,N,H.pick [3,0,1,2,4,5,6,7,8] (0::zR 6 5)⟩
   obtain ⟨M4,NG,atb,asj,alD,H⟩:=H.yg 2 rfl 0 rfl (iv:=s.qA.length) s.qA.length qf qf
   refine x9 (Sv M4 ((bags[s.qA.length]!).length) NG) isAgg24 rfl (alD) (⟨H.pick [1,3,4,5] (zR 1 7),(ro 5 rfl ?_)⟩)
   obtain ⟨ay7,aql,aox,H⟩:=H.Ql (α:=yLI) 2 rfl 1 rfl qj
   refine o_head H 0 rfl s.qA.length underlying29 ti24 rfl rfl qf qf fun TA awy am1 H=>(⟨H.pick [1,3,4,5] (zR 3 7),(ro 11 rfl (vU [Sv xg t.qK.length xf,Sv TA ((bags.take s.qA.length).length) c8,Sv M4 ((bags[s.qA.length]!).length) NG] [(0,Sv xg t.qK.length xf),(1,Sv TA ((bags.take s.qA.length).length) c8),(2,Sv M4 ((bags[s.qA.length]!).length) NG)] (⟨H.pick [1,3,4,5] (zR 3 7),(ro 12 rfl ?_)⟩)))⟩)
   obtain ⟨Mu,LZ,K4,Mh⟩:=copy_pre (al:=t.qK) dG p8 p9.2 wi
   have Ub:=H.base.size
   refine oc (Vm _ (⟨t.qK,(bags.take s.qA.length),bags[s.qA.length]!⟩:qH) (H.get 6 rfl).1 (H.get 0 rfl).1 (H.get 2 rfl).1 qg qg qg qg) ?_
   rintro _ auj ⟨qd,OB,pN,sW,Rf,sD,BH,Cj,nX,Kt,oC,rfl,M,K⟩ _
   replace N:=N.merge Ub qm M
   replace H:=H.merge K M
   obtain rfl:=H.VM 0 rfl
   obtain rfl:=H.zg (α:=yLI) 1 rfl 0 rfl qj
   obtain rfl:=H.jC 2 rfl
   refine ⟨H.pick [4,6,7,8] (zR 4 7),(ro 14 rfl (xY H 3 [Sv qd (((⟨t.qK,(bags.take s.qA.length),bags[s.qA.length]!⟩:qH).qK).length) pN,Sv sW (((⟨t.qK,(bags.take s.qA.length),bags[s.qA.length]!⟩:qH).qQ).length) sD,Sv nX (((⟨t.qK,(bags.take s.qA.length),bags[s.qA.length]!⟩:qH).qL).length) oC] sizeOf31 fun aiu H=>⟨H.pick [4,6,7,8] (zR 4 7),(xw qh (?_))⟩))⟩
   exact meet ⟨_,F7,qd,pN,sW,sD,nX,oC,BH,Cj,uE4,N,H.pick [3,0,1,2,4,5,6,7,8] (0::zR 5 5)⟩
  refine Qc (fun ρ w361=>∃ (xE:Env) (Gv:Nat),ρ=upd (upd (upd (upd (upd (upd (upd (upd (upd xE 3 (pp b1 0)) 6 (pp b5 0)) 9 (Sv (aa wt 0) s.qA.length s.qA.length)) 13 (pp Gv 0)) 77 (Sv xg t.qK.length xf)) 78 (Sv (aa oK 0) (t.qQ.length+1) c8)) 80 (yI s.qA.length)) 82 (Sv (aa oK 0) (t.qQ.length+1) c8)) 83 (.agg #[yI s.xK,Sv qG s.qA.length qE,Sv qO s.qB.length qN])/\Fresh w.heap.size []/\St w w361 [.box Gv [yN,yN,yN] 31,rr (aa wt 0) s.qA.length s.qA.length 4 1 ((Qv s counts s.qA.length i).map (Value.bool)),rr (aa oK 0) (t.qQ.length+1) c8 24 1 gT,.box b5 [yN,yN,yN] 31,.box b3 (yT t xg xf xI xG qZ qY) 31,.box b1 (yS s qG qE qO qN) 27] [xy false nA gT bags,sF false xk qG qE s.qA,sF false xW qO qN s.qB,sF false zD xg xf t.qK,sF false vF xI xG t.qQ,sF false zh qZ qY t.qL,sF false di aV aP counts]) 7 #[true,true,true,true,true,false,true,true,false,false,false,false,false,true,false] ?_ fun aaA=>?_
  ·rintro ρ auQ ⟨xE,Gv,rfl,N,H⟩
   refine vK [5,8] qh qm (jb rfl ?_ (jb rfl ?_ vM))
   ·obtain ⟨awk,amK,anU,H⟩:=H.Ql (α:=yLI) 2 rfl 0 rfl qj
    refine o_head H 0 rfl s.qA.length underlying29 ti24 rfl rfl qf qf fun SN ar0 apl H=>?_
    have aph:(bags.take s.qA.length).length=s.qA.length:=List.length_take_of_le qf
    refine ⟨H.pick [1,3,4,5] (zR 2 7),(ro 8 rfl (oq (around_ok _ s (H.get 3 rfl).1 (H.get 4 rfl).1) H fun avX H=>⟨H.pick [1,3,4,5] (zR 2 7),?_⟩))⟩
    obtain ⟨Ej,Gb,aor,H⟩:=H.zW 1 rfl s.qA.length s.qA.length qf qf qf
    refine tI 9 rfl rfl rfl (H.pick [1,3,4,5] (zR 4 7)) (ro 10 rfl (x9 (Sv Ej ((bags[s.qA.length]!).length) Gb) isAgg24 rfl (H.xP 1 rfl 0 rfl) (⟨H.pick [1,3,4,5] (zR 4 7),(ro 11 rfl (vU [Sv xg t.qK.length xf,Sv SN ((bags.take s.qA.length).length) c8,Sv Ej ((bags[s.qA.length]!).length) Gb] [(0,Sv xg t.qK.length xf),(1,Sv SN ((bags.take s.qA.length).length) c8),(2,Sv Ej ((bags[s.qA.length]!).length) Gb)] (⟨H.pick [1,3,4,5] (zR 4 7),(ro 12 rfl ?_)⟩)))⟩)))
    obtain ⟨Mu,LZ,K4,Mh⟩:=copy_pre (al:=t.qK) dG p8 p9.2 wi
    have aa4:=H.base.size
    refine oc (Vm _ (⟨t.qK,(bags.take s.qA.length),bags[s.qA.length]!⟩:qH) (H.get 7 rfl).1 (H.get 2 rfl).1 (H.get 0 rfl).1 qg qg qg qg) ?_
    rintro _ aln ⟨qT,Np,rN,sZ,PY,sS,Co,CI,nY,KL,ow,rfl,M,K⟩ _
    replace N:=N.merge aa4 qm M
    replace H:=H.merge K M
    obtain rfl:=H.VM 0 rfl
    obtain rfl:=H.zg (α:=yLI) 1 rfl 0 rfl qj
    obtain rfl:=H.jC 2 rfl
    refine ⟨H.pick [4,6,7,8] (zR 5 7),(ro 14 rfl (xY H 3 [Sv qT (((⟨t.qK,(bags.take s.qA.length),bags[s.qA.length]!⟩:qH).qK).length) rN,Sv sZ (((⟨t.qK,(bags.take s.qA.length),bags[s.qA.length]!⟩:qH).qQ).length) sS,Sv nY (((⟨t.qK,(bags.take s.qA.length),bags[s.qA.length]!⟩:qH).qL).length) ow] sizeOf31 fun al8 H=>⟨H.pick [4,6,7,8] (zR 5 7),(xw qh (?_))⟩))⟩
    exact meet ⟨_,Gv,qT,rN,sZ,sS,nY,ow,Co,CI,uE4,N,H.pick [3,0,1,2,4,5,6,7,8] (0::zR 6 5)⟩
   refine oq (around_ok _ s (H.get 1 rfl).1 (H.get 2 rfl).1) H fun ar6 H=>⟨H.pick [1,3,4,5] (zR 0 7),(tI 9 rfl rfl rfl (H.pick [1,3,4,5] (zR 0 7)) ?_)⟩
   exact jS WV ⟨_,Gv,uE8,N,H⟩
  have S:=H.jm [0,2,3,4] (zR 0 7)
  refine tF 0 rfl rfl S ?_
  refine tL 1 rfl rfl (fun _ h=>h.cell 2 rfl rfl) S ?_
  refine rtl 2 S ?_
  refine rt 3 _ (y8 (cs:=(yS s qG qE qO qN)) isAgg27 sizeOf27 rfl (fun _ h=>qF (h.cells 3 rfl) 0 3)) S ?_
  refine rtl 6 S ?_
  refine rt 7 _ (y8 (cs:=(yS s qG qE qO qN)) isAgg27 sizeOf27 rfl (fun _ h=>qF (h.cells 3 rfl) 0 3)) S ?_
  refine vK [4,13] qh qm (jb rfl ?_ (jb rfl ?_ vM))
  ·refine oq (around_ok _ s (H.get 1 rfl).1 (H.get 2 rfl).1) H fun awe H=>⟨H.pick [0,2,3,4] (zR 0 7),(vK [5,8,13] qh qm (jb rfl ?_ (jb rfl ?_ (jb rfl ?_ vM))))⟩
   ·obtain ⟨akv,aoJ,aoG,H⟩:=H.Ql (α:=yLI) 1 rfl 0 rfl qj
    refine o_head H 0 rfl s.qA.length underlying29 ti24 rfl rfl qf qf fun Ov alh aqZ H=>?_
    have aqd:(bags.take s.qA.length).length=s.qA.length:=List.length_take_of_le qf
    refine ⟨H.pick [0,2,3,4] (zR 2 7),(vK [8,13] qh qm (jb rfl ?_ (jb rfl ?_ vM)))⟩
    ·refine oq (around_ok _ s (H.get 3 rfl).1 (H.get 4 rfl).1) H fun awm H=>⟨H.pick [0,2,3,4] (zR 2 7),?_⟩
     obtain ⟨an1,aqG,apP,H⟩:=H.zW 1 rfl s.qA.length s.qA.length qf qf qf
     refine tI 9 rfl rfl rfl (H.pick [0,2,3,4] (zR 4 7)) ?_
     exact jS acv ⟨_,Ov,alh,akv,uE6,N,H.pick (zR 0 5) (zR 2 9)⟩
    refine xq H ti31 [yN,yN,yN] fun akj avm H=>⟨H.pick [1,3,4,5] (zR 2 7),(ro 8 rfl (oq (around_ok _ s (H.get 3 rfl).1 (H.get 4 rfl).1) H fun auL H=>⟨H.pick [1,3,4,5] (zR 2 7),?_⟩))⟩
    obtain ⟨DA,Ef,amW,H⟩:=H.zW 1 rfl s.qA.length s.qA.length qf qf qf
    refine tI 9 rfl rfl rfl (H.pick [1,3,4,5] (zR 4 7)) (ro 10 rfl (x9 (Sv DA ((bags[s.qA.length]!).length) Ef) isAgg24 rfl (H.xP 1 rfl 0 rfl) (⟨H.pick [1,3,4,5] (zR 4 7),(ro 11 rfl (vU [Sv xg t.qK.length xf,Sv Ov ((bags.take s.qA.length).length) c8,Sv DA ((bags[s.qA.length]!).length) Ef] [(0,Sv xg t.qK.length xf),(1,Sv Ov ((bags.take s.qA.length).length) c8),(2,Sv DA ((bags[s.qA.length]!).length) Ef)] (⟨H.pick [1,3,4,5] (zR 4 7),(ro 12 rfl ?_)⟩)))⟩)))
    obtain ⟨Mu,LZ,K4,Mh⟩:=copy_pre (al:=t.qK) dG p8 p9.2 wi
    have Zk:=H.base.size
    refine oc (Vm _ (⟨t.qK,(bags.take s.qA.length),bags[s.qA.length]!⟩:qH) (H.get 7 rfl).1 (H.get 2 rfl).1 (H.get 0 rfl).1 qg qg qg qg) ?_
    rintro _ avY ⟨qs,Py,pW,s7,Ry,sP,B9,CB,n9,KP,ox,rfl,M,K⟩ _
    replace N:=N.merge Zk qm M
    replace H:=H.merge K M
    obtain rfl:=H.VM 0 rfl
    obtain rfl:=H.zg (α:=yLI) 1 rfl 0 rfl qj
    obtain rfl:=H.jC 2 rfl
    refine ⟨H.pick [4,6,7,8] (zR 5 7),(ro 14 rfl (xY H 3 [Sv qs (((⟨t.qK,(bags.take s.qA.length),bags[s.qA.length]!⟩:qH).qK).length) pW,Sv s7 (((⟨t.qK,(bags.take s.qA.length),bags[s.qA.length]!⟩:qH).qQ).length) sP,Sv n9 (((⟨t.qK,(bags.take s.qA.length),bags[s.qA.length]!⟩:qH).qL).length) ox] sizeOf31 fun ate H=>⟨H.pick [4,6,7,8] (zR 5 7),(xw qh (?_))⟩))⟩
    exact meet ⟨_,akj,qs,pW,s7,sP,n9,ox,B9,CB,uE4,N,H.pick [3,0,1,2,4,5,6,7,8] (0::zR 6 5)⟩
   ·refine oq (around_ok _ s (H.get 1 rfl).1 (H.get 2 rfl).1) H fun ayw H=>⟨H.pick [0,2,3,4] (zR 0 7),(tI 9 rfl rfl rfl (H.pick [0,2,3,4] (zR 0 7)) ?_)⟩
    refine vK [5,10,13] qh qm (jb rfl ?_ (jb rfl ?_ (jb rfl ?_ vM)))
    ·obtain ⟨ahX,amN,amQ,H⟩:=H.Ql (α:=yLI) 1 rfl 0 rfl qj
     refine o_head H 0 rfl s.qA.length underlying29 ti24 rfl rfl qf qf fun agu af8 anm H=>(⟨H.pick [0,2,3,4] (zR 2 7),(jS acv ⟨_,agu,af8,ahX,uE6,N,H⟩)⟩)
    ·obtain ⟨Jy,JL,af5,auZ,agX,H⟩:=H.yg 1 rfl 0 rfl (iv:=s.qA.length) s.qA.length qf qf
     refine x9 (Sv Jy ((bags[s.qA.length]!).length) JL) isAgg24 rfl (agX) (⟨H.pick [0,2,3,4] (zR 1 7),(vK [5,13] qh qm (jb rfl ?_ (jb rfl ?_ vM)))⟩)
     ·obtain ⟨auG,ap9,anq,H⟩:=H.Ql (α:=yLI) 1 rfl 1 rfl qj
      refine o_head H 0 rfl s.qA.length underlying29 ti24 rfl rfl qf qf fun ahG amj ap3 H=>(⟨H.pick [0,2,3,4] (zR 3 7),(jS UC ⟨_,Jy,JL,ahG,amj,af5,uE6,N,H.pick (zR 0 5) (0::zR 2 8)⟩)⟩)
     refine xq H ti31 [yN,yN,yN] fun ahZ axi H=>⟨H.pick [1,3,4,5] (zR 1 7),(ro 5 rfl ?_)⟩
     obtain ⟨auF,apb,am0,H⟩:=H.Ql (α:=yLI) 2 rfl 1 rfl qj
     refine o_head H 0 rfl s.qA.length underlying29 ti24 rfl rfl qf qf fun Zl ayI ap4 H=>(⟨H.pick [1,3,4,5] (zR 3 7),(ro 11 rfl (vU [Sv xg t.qK.length xf,Sv Zl ((bags.take s.qA.length).length) c8,Sv Jy ((bags[s.qA.length]!).length) JL] [(0,Sv xg t.qK.length xf),(1,Sv Zl ((bags.take s.qA.length).length) c8),(2,Sv Jy ((bags[s.qA.length]!).length) JL)] (⟨H.pick [1,3,4,5] (zR 3 7),(ro 12 rfl ?_)⟩)))⟩)
     obtain ⟨Mu,LZ,K4,Mh⟩:=copy_pre (al:=t.qK) dG p8 p9.2 wi
     have aby:=H.base.size
     refine oc (Vm _ (⟨t.qK,(bags.take s.qA.length),bags[s.qA.length]!⟩:qH) (H.get 6 rfl).1 (H.get 0 rfl).1 (H.get 2 rfl).1 qg qg qg qg) ?_
     rintro _ asx ⟨rQ,MY,rm,sM,P7,tj,Ce,Cs,nU,Mv,nV,rfl,M,K⟩ _
     replace N:=N.merge aby qm M
     replace H:=H.merge K M
     obtain rfl:=H.VM 0 rfl
     obtain rfl:=H.zg (α:=yLI) 1 rfl 0 rfl qj
     obtain rfl:=H.jC 2 rfl
     refine ⟨H.pick [4,6,7,8] (zR 4 7),(ro 14 rfl (xY H 3 [Sv rQ (((⟨t.qK,(bags.take s.qA.length),bags[s.qA.length]!⟩:qH).qK).length) rm,Sv sM (((⟨t.qK,(bags.take s.qA.length),bags[s.qA.length]!⟩:qH).qQ).length) tj,Sv nU (((⟨t.qK,(bags.take s.qA.length),bags[s.qA.length]!⟩:qH).qL).length) nV] sizeOf31 fun akY H=>⟨H.pick [4,6,7,8] (zR 4 7),(xw qh (?_))⟩))⟩
     exact meet ⟨_,ahZ,rQ,rm,sM,tj,nU,nV,Ce,Cs,uE4,N,H.pick [3,0,1,2,4,5,6,7,8] (0::zR 5 5)⟩
    refine xq H ti31 [yN,yN,yN] fun ahL atT H=>⟨H.pick [1,3,4,5] (zR 0 7),(jS WV ⟨_,ahL,uE8,N,H⟩)⟩
   refine xq H ti31 [yN,yN,yN] fun ak2 arA H=>⟨H.pick [1,3,4,5] (zR 0 7),(jS aaA ⟨_,ak2,uE9,N,H⟩)⟩
  refine xq H ti31 [yN,yN,yN] fun aj9 atU H=>⟨H.pick [1,3,4,5] (zR 0 7),(ro 4 rfl (oq (around_ok _ s (H.get 1 rfl).1 (H.get 2 rfl).1) H fun auK H=>⟨H.pick [1,3,4,5] (zR 0 7),(jS aaA ⟨_,aj9,uE9,N,H⟩)⟩))⟩
 clear H N
 rintro ρ awJ ⟨xE,xT,eu,e7,fY,eH,fv,fB,Bb,yr,rfl,N,H⟩
 refine t_n (zcc (sq 1 (oN rfl (sw (o_sub s.qA.length 1 rfl rfl qf (sq 1 (zjn (qR ?_))))))))
 obtain rfl:i=s.qB.length:=by omega
 have hl:=stepped_live p1 dG qf
 obtain ⟨s1,s2⟩:=step_tab dG
 rw [show (⟨t.qK,(bags.take s.qA.length),bags[s.qA.length]!⟩:qH)=xA s t counts from by rw [show bags.take s.qA.length=_ from s1,show bags[s.qA.length]! =_ from s2];rfl] at H
 refine zl ((fun Z0 Z1 Z2 Z3 Z4 Z5 Z6 Z7 Z8 Z9 bx=>fun m' ρ WD=>∃ (xE:Env) (c:Int) (dB:List Bool) (au:yLL) (jg:List Value) (zG:yLN) (j:Nat),ρ=upd (upd (upd (upd (upd xE 3 (pp b1 0)) 6 (pp b5 0)) 9 (Sv (aa wt 0) s.qA.length s.qA.length)) 13 (pp xT 0)) 14 (yI c)/\dB=(xC s counts (xA s t counts) j).qK/\au=(xC s counts (xA s t counts) j).qQ/\(c=(s.qA.length:Int) - 1 - j)/\(j+1<=s.qA.length)/\m' =(c:Int).toNat/\Fresh w.heap.size [zG]/\St w WD [Z0,rr eu (((xA s t counts).qK).length) e7 4 1 (dB.map (Value.bool)),rr fY (((xA s t counts).qQ).length) eH 24 1 jg,Z1,Z2,Z3,Z4,Z5] [xy true zG jg au,Z6,Z7,Z8,Z9,bx]) _ _ _ _ _ _ _ _ _ _ _) (((s.qA.length - 1):Int).toNat) ⟨_,s.qA.length - 1,(xA s t counts).qK,(xA s t counts).qQ,Bb,yr,0,uE5,(by rfl),(by rfl),qf,qf,rfl,N,H.pick [0,1,2,3,4,6,7,8] (zR 0 6)⟩ ?_
 clear H N
 rintro m' ρ aeA ⟨xE,c,dB,au,jg,zG,j,rfl,rfl,rfl,ic,jc,rfl,N,H⟩
 have t7:=H.VM 1 rfl
 have VE:=H.zg (α:=yLI) 2 rfl 0 rfl qj
 have L:=meltDown_live (counts:=counts) p0 hl j qf
 have L1:=L.alive
 have L2:=L.root
 have L3:=L.bags.1
 rw [← Qk s counts (xA s t counts) j] at H
 refine zcc (sp (yI c) (sp (Bv (decide ((c:Int) > 0))) (zjn (cD rfl (fun aeC=>?_) (fun aeC=>?_)))))
 ·refine qV (t_n (xQ (qR (zcr (sq 1 (sp (yI c) (oI rfl rfl (oL rfl (H.rowBool 4 rfl (iv:=c) (i:=c.toNat) qf qf) (zjn (zT _ rfl (fun ajB=>?_) (fun ajB=>?_)))))))))))
  ·refine xJ (sw (xU (yS s qG qE qO qN) isAgg27 sizeOf27 rfl (qF (H.cells 7 rfl) 0 3) (sp (yI c) (sw (zQ #[.agg #[yI s.xK,Sv qG s.qA.length qE,Sv qO s.qB.length qN],pp xT 0,yI c] rfl rfl call130 (en func130 ntmps130 ?_))))))
   refine zcr (sw (zZ H (yS s qG qE qO qN) fun UN aw7 H=>zjn (xQ (jE rfl H fun H=>rt 0 _ (y8 (cs:=(yS s qG qE qO qN)) isAgg27 sizeOf27 rfl (fun _ h=>qF (h.cells 0 rfl) 0 3)) H ?_))))
   refine rtl 1 H ?_
   refine rtl 2 H ?_
   refine rt 3 _ (y8 (cs:=[Sv eu (((xA s t counts).qK).length) e7,Sv fY (((xA s t counts).qQ).length) eH,Sv fv (((xC s counts (xA s t counts) j).qL).length) fB]) isAgg31 sizeOf31 rfl (fun _ h=>qF (h.cells 1 rfl) 0 3)) H ?_
   refine rtp 4 (yI c) H ?_
   refine ro 5 rfl ?_
   obtain ⟨ayh,Mr,alc⟩:=H.rowIsB 2 rfl
   obtain ⟨aum,Lv,afE⟩:=H.jY (α:=yLI) 3 rfl 0 rfl qj
   obtain ⟨arr,aqU,alw⟩:=H.yH 4 rfl
   refine oq (VG (by rw [← Mr,← Lv]) (parentNow_ok _ s (xC s counts (xA s t counts) j) c (H.get 1 rfl).1 (H.get 2 rfl).1 (Mr▸alc) (Lv▸afE) alw qg qg qg)) H fun avc H=>?_
   have pin:=QK (s:=s) (t:=(xC s counts (xA s t counts) j)) (c:=c) p0.1 L2 qf qf
   refine ⟨H,(rtl 6 H ?_)⟩
   refine xw qh (t_n (xQ ?_))
   obtain ⟨UT,rfl⟩:=H.jK 3 rfl qf
   refine VP (fun ρ w492=>∃ (xE:Env) (EF:List Value) (NN:yLN),ρ=upd (upd (upd xE 1 (pp xT 0)) 2 (yI c)) 3 (pp UN 0)/\Fresh w.heap.size [NN]/\St w w492 [.box UN (yS s qG qE qO qN) 27,.box xT [Sv eu (((xA s t counts).qK).length) e7,Sv (aa UT 0) (((xA s t counts).qQ).length) eH,Sv fv (((xC s counts (xA s t counts) j).qL).length) fB] 31,rr eu (((xA s t counts).qK).length) e7 4 1 (((xC s counts (xA s t counts) j).qK).map (Value.bool)),rr (aa UT 0) (((xA s t counts).qQ).length) eH 24 1 EF,rr fv (((xC s counts (xA s t counts) j).qL).length) fB 2 1 (((xC s counts (xA s t counts) j).qL).map (Value.int .i64)),rr (aa wt 0) s.qA.length s.qA.length 4 1 ((Qv s counts s.qA.length s.qB.length).map (Value.bool)),.box b5 [yN,yN,yN] 31,.box b3 (yT t xg xf xI xG qZ qY) 31,.box b1 (yS s qG qE qO qN) 27] [xy true NN EF (((xC s counts (xA s t counts) j).qQ).set ((xF s (xC s counts (xA s t counts) j) c).toNat) (jT (((xC s counts (xA s t counts) j).qQ)[(xF s (xC s counts (xA s t counts) j) c).toNat]!) (((xC s counts (xA s t counts) j).qQ)[c.toNat]!) 1)),sF false xk qG qE s.qA,sF false xW qO qN s.qB,sF false zD xg xf t.qK,sF false vF xI xG t.qQ,sF false zh qZ qY t.qL]) ?_ ?_
   ·refine yK rfl H [0,1,2,4,5,6,7,8] fun H=>?_
    have S:=H.jm [0,1,2,4,5,6,7,8] (zR 0 6)
    refine rtl 0 S ?_
    refine rtl 1 S ?_
    refine tF 2 rfl rfl S ?_
    refine tL 3 rfl rfl (fun _ h=>h.cell 1 rfl rfl) S ?_
    refine rtl 4 S ?_
    refine rtl 5 S ?_
    refine rtl 6 S ?_
    refine tF 7 rfl rfl S ?_
    refine tL 8 rfl rfl (fun _ h=>h.cell 1 rfl rfl) S ?_
    refine rtl 9 S ?_
    refine tI 10 rfl rfl rfl S ?_
    refine rtl 12 S ?_
    refine rtl 13 S ?_
    refine tF 14 rfl rfl S ?_
    refine tL 15 rfl rfl (fun _ h=>h.cell 1 rfl rfl) S ?_
    refine rtp 16 (yI c) S ?_
    refine tI 17 rfl rfl rfl S ?_
    refine vK [11,18] qh qm (jb rfl ?_ (jb rfl ?_ vM))
    ·obtain ⟨akh,akk,avE,avy,Pk,H⟩:=H.yg 3 rfl 0 rfl (iv:=xF s (xC s counts (xA s t counts) j) c) ((xF s (xC s counts (xA s t counts) j) c).toNat) qf qf
     refine x9 (Sv akh ((((xC s counts (xA s t counts) j).qQ)[(xF s (xC s counts (xA s t counts) j) c).toNat]!).length) akk) isAgg24 rfl (Pk) (⟨H.pick [0,1,2,4,5,6,7,8] (zR 1 6),(ro 18 rfl ?_)⟩)
     obtain ⟨agr,ajV,ari,ax6,aii,H⟩:=H.yg 3 rfl 1 rfl (iv:=c) c.toNat qf qf
     refine x9 (Sv agr ((((xC s counts (xA s t counts) j).qQ)[c.toNat]!).length) ajV) isAgg24 rfl (aii) (⟨H.pick [0,1,2,4,5,6,7,8] (zR 2 6),(ro 19 rfl ?_)⟩)
     obtain ⟨u1,u2,u4⟩:=L.rows p0 (bnd_le qf) (p:=(xF s (xC s counts (xA s t counts) j) c).toNat) (c:=c.toNat) qf qf
     refine oc (plus_ok _ (((xC s counts (xA s t counts) j).qQ)[(xF s (xC s counts (xA s t counts) j) c).toNat]!) (((xC s counts (xA s t counts) j).qQ)[c.toNat]!) 1 (H.get 1 rfl).1 (H.get 0 rfl).1 qg qg qg) ?_
     rintro auw azd aiJ aj6
     replace H:=H.zH aj6 aiJ
     obtain ⟨agt,akE,rfl,am8,aq0⟩:=H.jL 0 rfl
     refine ⟨H.pick [1,2,3,5,6,7,8,9] (zR 2 6),(tI 20 rfl rfl rfl (H.pick [1,2,3,5,6,7,8,9] (zR 2 6)) ?_)⟩
     refine ro 21 rfl ?_
     obtain ⟨as7,N,anE,H⟩:=H.zN 0 rfl N (H.jA [2])
     refine yh true H 4 rfl 3 rfl (Sv agt ((jT (((xC s counts (xA s t counts) j).qQ)[(xF s (xC s counts (xA s t counts) j) c).toNat]!) (((xC s counts (xA s t counts) j).qQ)[c.toNat]!) 1).length) akE) 0 rfl rfl sizeOf24 rfl rfl (i:=((xF s (xC s counts (xA s t counts) j) c).toNat)) qf qf qm fun awQ WK UD WH H=>?_
     replace N:Fresh w.heap.size [UD]:=(N.pick [1,0]).repl WH
     refine ⟨H.pick [1,2,3,5,6,7,8,9] (zR 4 6),(xw qh ((meet ⟨_,WK,UD,uE3,N,H.pick (zR 1 9) (0::zR 5 5)⟩)))⟩
    obtain ⟨aiU,agH,ayy,awR,aku,H⟩:=H.yg 3 rfl 0 rfl (iv:=c) c.toNat qf qf
    refine x9 (Sv aiU ((((xC s counts (xA s t counts) j).qQ)[c.toNat]!).length) agH) isAgg24 rfl (aku) (⟨H.pick [0,1,2,4,5,6,7,8] (zR 1 6),(ro 11 rfl ?_)⟩)
    obtain ⟨ae1,ajF,arh,asI,akg,H⟩:=H.yg 3 rfl 1 rfl (iv:=xF s (xC s counts (xA s t counts) j) c) ((xF s (xC s counts (xA s t counts) j) c).toNat) qf qf
    refine x9 (Sv ae1 ((((xC s counts (xA s t counts) j).qQ)[(xF s (xC s counts (xA s t counts) j) c).toNat]!).length) ajF) isAgg24 rfl (akg) (⟨H.pick [0,1,2,4,5,6,7,8] (zR 2 6),(ro 19 rfl ?_)⟩)
    obtain ⟨u1,u2,u4⟩:=L.rows p0 (bnd_le qf) (p:=(xF s (xC s counts (xA s t counts) j) c).toNat) (c:=c.toNat) qf qf
    refine oc (plus_ok _ (((xC s counts (xA s t counts) j).qQ)[(xF s (xC s counts (xA s t counts) j) c).toNat]!) (((xC s counts (xA s t counts) j).qQ)[c.toNat]!) 1 (H.get 0 rfl).1 (H.get 1 rfl).1 qg qg qg) ?_
    rintro aty avD amv al5
    replace H:=H.zH al5 amv
    obtain ⟨alg,ajp,rfl,aqp,amD⟩:=H.jL 0 rfl
    refine ⟨H.pick [1,2,3,5,6,7,8,9] (zR 2 6),(tI 20 rfl rfl rfl (H.pick [1,2,3,5,6,7,8,9] (zR 2 6)) ?_)⟩
    refine ro 21 rfl ?_
    obtain ⟨ash,N,apu,H⟩:=H.zN 0 rfl N (H.jA [2])
    refine yh true H 4 rfl 3 rfl (Sv alg ((jT (((xC s counts (xA s t counts) j).qQ)[(xF s (xC s counts (xA s t counts) j) c).toNat]!) (((xC s counts (xA s t counts) j).qQ)[c.toNat]!) 1).length) ajp) 0 rfl rfl sizeOf24 rfl rfl (i:=((xF s (xC s counts (xA s t counts) j) c).toNat)) qf qf qm fun ayA Yr VX aac H=>?_
    replace N:Fresh w.heap.size [VX]:=(N.pick [1,0]).repl aac
    refine ⟨H.pick [1,2,3,5,6,7,8,9] (zR 4 6),(xw qh ((meet ⟨_,Yr,VX,uE3,N,H.pick (zR 1 9) (0::zR 5 5)⟩)))⟩
   clear H N
   rintro ρ azo ⟨xE,EF,NN,rfl,N,H⟩
   refine t_n (xQ (yK rfl H [0,1,2,4,5,6,7,8] fun H=>?_))
   have S:=H.jm [0,1,2,4,5,6,7,8] (zR 0 6)
   refine rtl 0 S ?_
   refine rtl 1 S ?_
   refine tF 2 rfl rfl S ?_
   refine tL 3 rfl rfl (fun _ h=>h.cell 1 rfl rfl) S ?_
   refine rtp 4 (yI c) S ?_
   refine tF 5 rfl rfl S ?_
   refine tL 6 rfl rfl (fun _ h=>h.cell 0 rfl rfl) S ?_
   refine ro 7 rfl (zV H underlying24 ti2 s.xK.toNat rfl rfl qf qf qf fun alz ayJ H=>⟨H.pick [1,2,3,5,6,7,8,9] (zR 0 6),(tI 8 rfl rfl rfl (H.pick [1,2,3,5,6,7,8,9] (zR 0 6)) ?_)⟩)
   refine ro 9 rfl ?_
   obtain ⟨atf,N,ao8,H⟩:=H.zN 0 rfl N (H.jA [0])
   refine yh true H 4 rfl 1 rfl (Sv (aa alz 0) s.xK.toNat s.xK.toNat) 0 rfl rfl sizeOf24 rfl rfl (i:=c.toNat) qf qf qm fun as3 aoB agi YK H=>?_
   replace N:Fresh w.heap.size [agi]:=(N.pick [1,0]).repl YK
   refine ⟨H.pick [1,2,3,5,6,7,8,9] (zR 2 6),(xw qh (t_n (xJ (sq 2 (oF rfl (oL rfl (H.cell 2 rfl rfl) (sp (yI c) ?_)))))))⟩
   obtain ⟨at1,rfl⟩:=H.jK 3 rfl qf
   refine oI rfl rfl (sw (Qq H 3 rfl false sizeOf4 rfl rfl (i:=c.toNat) qf qf fun axS H=>xO (ret0 rfl ⟨_,rfl,?_⟩)))
   replace H:=H.erases [1,0]
   dsimp only [vz,List.eraseIdx] at H
   refine xO (b_n (t_n (xJ (sp (yI c) (sw (o_sub c 1 rfl rfl qf (sq 1 (xO ?_))))))))
   rw [Qk] at H
   refine qX (m' :=((c - 1):Int).toNat) qf ⟨_,_,_,_,_,_,j+1,uE5,?_,?_,?_,?_,rfl,N,H.pick (zR 0 8) (0::zR 3 5)⟩
   ·(rw [meltDown_yesL (c:=c) ‹_› qf qf rfl ic];rfl)
   ·(rw [meltDown_yesL (c:=c) ‹_› qf qf rfl ic];rfl)
   ·omega
   ·omega
  refine qV (b_n (t_n (xJ (sp (yI c) (sw (o_sub c 1 rfl rfl qf (sq 1 (xO ?_))))))))
  rw [Qk] at H
  refine qX (m' :=((c - 1):Int).toNat) qf ⟨_,_,_,_,_,_,j+1,uE5,?_,?_,?_,?_,rfl,N,H⟩
  ·rw [meltDown_noL (c:=c) ‹_› qf qf rfl ic]
  ·rw [meltDown_noL (c:=c) ‹_› qf qf rfl ic]
  ·omega
  ·omega
 refine zx4 (zcr (sw (xU (yS s qG qE qO qN) isAgg27 sizeOf27 rfl (qF (H.cells 7 rfl) 0 3) (sw (xU [Sv eu (((xA s t counts).qK).length) e7,Sv fY (((xA s t counts).qQ).length) eH,Sv fv (((xC s counts (xA s t counts) j).qL).length) fB] isAgg31 sizeOf31 rfl (qF (H.cells 0 rfl) 0 3) (sw (zQ #[.agg #[yI s.xK,Sv qG s.qA.length qE,Sv qO s.qB.length qN],.agg #[Sv eu (((xA s t counts).qK).length) e7,Sv fY (((xA s t counts).qQ).length) eH,Sv fv (((xC s counts (xA s t counts) j).qL).length) fB]] rfl rfl call131 (en func131 ntmps131 ?_))))))))
 refine zcr (sw (zZ H (yS s qG qE qO qN) fun axH avA H=>sw (zZ H [Sv eu (((xA s t counts).qK).length) e7,Sv fY (((xA s t counts).qQ).length) eH,Sv fv (((xC s counts (xA s t counts) j).qL).length) fB] fun atI aq9 H=>sw (xq H ti31 [yN,yN,yN] fun awb avW H=>sp (yI 0) (zjcc (sw (xU (yS s qG qE qO qN) isAgg27 sizeOf27 rfl (qF (H.cells 2 rfl) 0 3) (sw (xU [Sv eu (((xA s t counts).qK).length) e7,Sv fY (((xA s t counts).qQ).length) eH,Sv fv (((xC s counts (xA s t counts) j).qL).length) fB] isAgg31 sizeOf31 rfl (qF (H.cells 1 rfl) 0 3) ?_)))))))))
 obtain ⟨axX,Lw,ag6⟩:=H.rowIsB 4 rfl
 obtain ⟨awZ,Ll,aeZ⟩:=H.jY (α:=yLI) 5 rfl 0 rfl qj
 obtain ⟨arU,an3,aeL⟩:=H.yH 6 rfl
 refine sw (oq (VG (by rw [← Lw,← Ll]) (validState_ok _ s (xC s counts (xA s t counts) j) (H.get 1 rfl).1 (H.get 2 rfl).1 (Lw▸ag6) (Ll▸aeZ) aeL)) H fun au9 H=>sq 1 (zjn (cQ rfl (fun aft=>?_) (fun aft=>?_))))
 ·refine zcr (sw (vU [yN,yN,yN] [] (sw (xY H 0 [yN,yN,yN] sizeOf31 fun aud H=>sp (yI 3) (zjr (t_r (retC2 H 0 rfl (yI 3) rfl isAgg31 sizeOf31 rfl rfl ⟨_,rfl,?_⟩)))))))
  replace H:=H.erases [2,1,0]
  dsimp only [vz,List.eraseIdx] at H
  refine sq 1 (sp (yI 3) (sw (xY H 5 [yN,yN,yN] sizeOf31 fun awt H=>sp (yI 3) (zjr ?_))))
  replace H:=H.nilRowB 4
  replace H:=H.nilRow 24 1
  replace H:=H.jo (α:=yLI)
  replace H:=H.nilRowI 2
  refine retC2 H 8 rfl (yI 3) rfl isAgg31 sizeOf31 rfl rfl ⟨_,rfl,?_,H.base⟩
  rw [XX p3,stepRes,show xX s - 1=j by omega,told_no (fun h=>‹¬ (ve s/\_)› ⟨p0,h⟩)]
  exact ⟨none,0,0,none,0,0,[],[],none,0,0,rfl,(N.emp.pick [0]),H.pick [2,1,0] [0]⟩
 refine qV (t_n (zcr (sw (xU [Sv eu (((xA s t counts).qK).length) e7,Sv fY (((xA s t counts).qQ).length) eH,Sv fv (((xC s counts (xA s t counts) j).qL).length) fB] isAgg31 sizeOf31 rfl (qF (H.cells 1 rfl) 0 3) (sw (xY H 0 [Sv eu (((xA s t counts).qK).length) e7,Sv fY (((xA s t counts).qQ).length) eH,Sv fv (((xC s counts (xA s t counts) j).qL).length) fB] sizeOf31 fun ayL H=>sp (yI 0) (zjr (retC2 H 0 rfl (yI 0) rfl isAgg31 sizeOf31 rfl rfl ⟨_,rfl,?_⟩))))))))
 replace H:=H.erases [2,1,0]
 dsimp only [vz,List.eraseIdx] at H
 refine sq 1 (sp (yI 0) (sw (xY H 5 [Sv eu (((xA s t counts).qK).length) e7,Sv fY (((xA s t counts).qQ).length) eH,Sv fv (((xC s counts (xA s t counts) j).qL).length) fB] sizeOf31 fun avC H=>sp (yI 0) (zjr (retC2 H 5 rfl (yI 0) rfl isAgg31 sizeOf31 rfl rfl ⟨_,rfl,?_,H.base⟩)))))
 rw [XX p3,stepRes,show xX s - 1=j by omega,told_yes (‹ve s/\_›:ve s/\_).2]
 exact ⟨eu,((xA s t counts).qK).length,e7,fY,((xA s t counts).qQ).length,eH,jg,zG,fv,((xC s counts (xA s t counts) j).qL).length,fB,rfl,N,H.pick [1,2,3] [0]⟩
end
section
class CntTot (α:Type) [Mark α] [Tot α]:Prop where
 le:∀ x:α,cnt x<=10+10 * tot x
instance:CntTot Int:=⟨fun _=>by show 1<=_;omega⟩
instance:CntTot Bool:=⟨fun _=>by show 1<=_;omega⟩
section
variable {α : Type} [Mark α] [Tot α] [Inhabited α] [CntTot α]
theorem cntTo_tot (l:List α):∀ k,cntTo l k<=10 * k+10 * totTo l k
 | 0=>Nat.zero_le _
 | k+1=>by
  have h1:=cntTo_tot l k
  have h2:=CntTot.le (l[k]!)
  rw [cntTo_succ,totTo_succ]
  omega
theorem cntL_tot (l:List α):cnt l<=10 * tot l:=by
 have:=cntTo_tot l l.length
 rw [cnt_list,tot_list]
 omega
instance:CntTot (List α):=⟨fun l=>by have:=cntL_tot l;omega⟩
end
instance:CntTot Xj:=⟨fun x=>by
 have h1:=cntL_tot x.Qa
 have h2:=tot_IntoD x
 have h3:=cnt_IntoD x
 omega⟩
instance:CntTot vS:=⟨fun x=>by
 have h1:=cntL_tot x.zk
 have h2:=cntL_tot x.vk
 have h3:=cntL_tot x.vw
 have h4:=cntL_tot x.zS
 have h5:=cntL_tot x.jX
 have h6:=cntL_tot x.xe
 have h7:=tot_RuleD x
 have h8:=cnt_RuleD x
 omega⟩
theorem mem_appls (hi:i < s.qB.length):(i:Int)∈appls s t<->Appl s t i:=by
 unfold appls
 rw [mem_applL]
 constructor
 ·rintro ⟨_,_,h⟩;simpa using h
 ·intro h;exact ⟨Int.natCast_nonneg i,by simpa using hi,by simpa using h⟩
def minTo (l:yLI):Nat->Int
 | 0=>l[0]!
 | k+1=>if k=0 then l[0]! else min (minTo l k) (l[k]!)
theorem minTo_one (l:yLI):minTo l 1=l[0]! :=rfl
theorem minTo_succ (h:1<=k):minTo l (k+1)=min (minTo l k) (l[k]!):=by rw [minTo,if_neg qf]
def minL (l:yLI):Int:=minTo l l.length
theorem minTo_neg {l:yLI}:∀ {k:Nat},1<=k->(minTo l k < 0<->∃ j,j < k/\l[j]! < 0)
 | 1,_=>by
  rw [minTo_one]
  constructor
  ·intro h;exact ⟨0,by omega,h⟩
  ·rintro ⟨j,h,h1⟩;obtain rfl:j=0:=by omega
   exact h1
 | k+2,_=>by
  have ih:=minTo_neg (l:=l) (k:=k+1) qf
  rw [minTo_succ qf]
  constructor
  ·intro h
   by_cases h1:minTo l (k+1) < 0
   ·obtain ⟨j,h2,h3⟩:=ih.1 h1;exact ⟨j,by omega,h3⟩
   ·exact ⟨k+1,by omega,by omega⟩
  ·rintro ⟨j,h,h1⟩
   by_cases e:j=k+1
   ·subst e;omega
   ·have:=ih.2 ⟨j,by omega,h1⟩;omega
theorem minL_neg (h:1<=l.length):minL l < 0<->¬ ∀ k,k < l.length->0<=l[k]! :=by
 unfold minL
 rw [minTo_neg h]
 constructor
 ·rintro ⟨j,h1,h2⟩ h3;have:=h3 j h1;omega
 ·intro h1
  apply Classical.byContradiction
  intro h2
  refine h1 fun k hk=>?_
  have:¬ l[k]! < 0:=fun h3=>h2 ⟨k,hk,h3⟩
  omega
def single (s:qC) (i:Nat):yLI:=(List.replicate s.qB.length (0:Int)).set i 1
theorem single_len (s:qC) (i:Nat):(single s i).length=s.qB.length:=by simp [single]
theorem single_get (hi:i < s.qB.length) (hj:j < s.qB.length):(single s i)[j]! =if j=i then 1 else 0:=by
 unfold single
 rw [getset (by simpa using hi)]
 by_cases e:j=i
 ·rw [if_pos e,if_pos e]
 ·rw [if_neg e,if_neg e,getElem!_pos (List.replicate s.qB.length (0:Int)) j (by simpa using hj)];simp
theorem single_cnt (hi:i < s.qB.length):Vu s (single s i):=by
 refine ⟨single_len s i,fun j hj=>?_⟩
 rw [single_len] at hj
 rw [single_get hi hj]
 split <;> omega
theorem single_rest {s:qC} {t:qH} (hs:ve s) (ht:xZ s t) {i:Nat} (hi:i < s.qB.length):∀ k,k<=s.qB.length→
 Qb s t (single s i) k=if k<=i then t.qQ else t.qQ.set (s.qB[i]!).qI.toNat (jT (t.qQ[(s.qB[i]!).qI.toNat]!) (s.qB[i]!).zk (-1))
 | 0,_=>by rw [if_pos qf];rfl
 | k+1,h=>by
  have ih:=single_rest hs ht hi k qf
  by_cases e:k=i
  ·subst e
   rw [if_neg qf,Qb,ih,if_pos qf,single_get hi hi,if_pos rfl]
  ·rw [restR_skip hs ht qf (by rw [single_get hi qf,if_neg e]),ih]
   by_cases h1:k<=i
   ·rw [if_pos h1,if_pos qf]
   ·rw [if_neg h1,if_neg qf]
theorem single_isCh (hs:ve s) (ht:xZ s t) (hi:i < s.qB.length):IsCh s t (single s i)<->Appl s t i:=by
 constructor
 ·intro h
  apply Classical.byContradiction
  intro hn
  exact h.1 i (by rw [single_len];exact hi) ⟨by rw [single_get hi hi,if_pos rfl];omega,hn⟩
 ·intro ha
  constructor
  ·intro j hj
   rw [single_len] at hj
   rintro ⟨h1,h2⟩
   rw [single_get hi hj] at h1
   by_cases e:j=i
   ·subst e;exact h2 ha
   ·rw [if_neg e] at h1;omega
  ·rw [single_len,single_rest hs ht hi _ (Nat.le_refl _),if_neg qf]
   have hr:=hs.rule hi
   have hb:=hr.2.2.2.2.1
   have V9:=ht.box
   intro p hp k hk
   rw [ht.2.1] at hp
   rw [getset (by rw [ht.2.1];exact hr.cell)] at hk ⊢
   by_cases e:p=(s.qB[i]!).qI.toNat
   ·rw [if_pos e] at hk ⊢
    rw [Qd] at hk
    rw [Vz hk]
    have h1:=within_iff.1 ha.1.2.1 k (by rw [hb.len,← (V9.2 _ hr.cell).1];exact hk)
    omega
   ·rw [if_neg e] at hk ⊢
    have:=V9.2 p hp
    exact (this.2 k (by rw [← this.1];exact hk)).1
open Classical in
noncomputable def oneRes (s:qC) (t:qH) (i:Int):qH×Int:=
 if ¬ (ve s/\xZ s t) then (default,1) else if ¬ (0<=i/\i<=(s.qB.length:Int) - 1) then (default,2) else vV s t (single s i.toNat)
theorem one_0 {i:Int} (h:ve s/\xZ s t) (h1:0<=i/\i<=(s.qB.length:Int) - 1):oneRes s t i=vV s t (single s i.toNat):=by rw [oneRes,if_neg (by simpa using h),if_neg (by simpa using h1)]
end
section
theorem minI_ok (w:World) (l:yLI) (hl:zP w Fl al cl l) (p0:1<=l.length):Calls Tryz.prog 48 #[Sv al l.length cl] w (Ret (fun v w' =>v=yI (minL l)) w):=by
 refine en func48 ntmps48 ?_
 have H:=(St.start w).arg hl
 have Aa:=qM hl
 clear hl
 have N:=Fresh.nil w.heap.size
 refine zcr (sp (yI 0) (zjcc (sq 1 (oN rfl (sp (Bv (decide ((l.length:Int) < 1))) (zjn (cD rfl (fun h1=>?_) (fun h1=>?_))))))))
 ·exfalso;omega
 refine qV (t_n (zcr (sq 1 ?_)))
 obtain ⟨b2,o3,rfl⟩:=H.addr 0 rfl qf
 refine oI rfl rfl (oL rfl (H.zA 0 rfl 0 qf) (sq 1 (zjcc (sp (yI 1) (zjn (qR (zl ((fun Z0=>fun m' ρ w5=>∃ (xE:Env) (m:Int) (i:Nat),ρ=upd (upd (upd xE 0 (Sv (aa b2 o3) l.length cl)) 3 (yI m)) 4 (yI i)/\m=minTo l i/\((i:Int)<=l.length)/\(1<=i)/\m' =(l.length - (i:Int)).toNat/\Fresh w.heap.size []/\St w w5 [] [Z0]) _) ((l.length - (1:Int)).toNat) ⟨_,l[0]!,1,uE3,(by exact (minTo_one l).symm),qf,qf,rfl,N,H⟩ ?_)))))))
 clear H N
 rintro m' ρ w6 ⟨xE,m,i,rfl,rfl,i0,i2,rfl,N,H⟩
 refine zcc (sp (yI i) (sq 1 (oN rfl (sq 1 (zjn (cD rfl (fun h7=>?_) (fun h7=>?_)))))))
 ·refine qV (t_n (xQ (qR (xJ (sq 2 (sp (yI i) (oI rfl rfl (oL rfl (H.zA 0 rfl i qf) (sw (o_min (minTo l i) (l[i]!) rfl rfl (sq 1 (xO (b_n (t_n (xJ (sp (yI i) (sw (zn i 1 rfl rfl qf (sq 1 (xO (qX (m' :=(l.length - ((i+1):Int)).toNat) qf ⟨_,_,i+1,uE3,?_,?_,?_,rfl,N,H⟩)))))))))))))))))))))
  ·exact (minTo_succ qf).symm
  ·omega
  ·omega
 refine zx4 (zcr (sq 2 (zjr (rH1 (yI (minTo l i)) H ?_))))
 obtain rfl:i=l.length:=by omega
 rfl
end
section
theorem St.rowel_StateD (H:St W0 w ps Γ) (k:Nat) {b:Nat} {nn:Nat} {xs:List Value} (hp:ps[k]? =some (.row (Sv (some ⟨b,0,none⟩) nn c) e 3 nn xs)) (j:Nat) {fr:Bool} {F:yLN} {l:List qH}
 (hf:Γ[j]? =some (xy fr F xs l)) {iv:Int} (i:Nat) (h:iv.toNat=i) (h1:i < nn):
 ∃ (aA:yOA) (cA:Nat) (FA:yLN) (aB:yOA) (cB:Nat) (FB:yLN) (aO:yOA) (cO:Nat) (FO:yLN),
  (∀ (q:Nat) (v:Value),([Sv aA ((l[i]!).qK.length) cA,Sv aB ((l[i]!).qQ.length) cB,Sv aO ((l[i]!).qL.length) cO]:List Value)[q]? =some v->xs[0+iv.toNat * 3+q]? =some v)∧
  St W0 w ps (isF fr FA (Sv aA ((l[i]!).qK.length) cA) ((l[i]!).qK)::isF fr FB (Sv aB ((l[i]!).qQ.length) cB) ((l[i]!).qQ)::isF fr FO (Sv aO ((l[i]!).qL.length) cO) ((l[i]!).qL)::Γ):=by
 obtain ⟨cs,G,hc,hr,aT,ff,v1,v2,hv,ut⟩:=St.rowElem (α:=qH) H k hp j hf qj h h1
 obtain ⟨vA,vB,vO,FA,FB,FO,rfl,eb,hA,hB,hO⟩:=id hr
 obtain ⟨aA,cA,rfl⟩:=slice_form hA
 obtain ⟨aB,cB,rfl⟩:=slice_form hB
 obtain ⟨aO,cO,rfl⟩:=slice_form hO
 refine ⟨aA,cA,FA,aB,cB,FB,aO,cO,FO,fun q v hq=>?_,?_⟩
 ·have ut:v1.length=i * 3:=ut
  have oT:q < 3:=by
   rcases Nat.lt_or_ge q 3 with h | h
   ·exact h
   ·rw [List.getElem?_eq_none (by simpa using h)] at hq;cases hq
  rw [hv,List.append_assoc,Nat.zero_add,h,← ut,List.getElem?_append_right qf,Nat.add_sub_cancel_left,List.getElem?_append_left (by simpa using oT)]
  exact hq
 ·have s3:=H.yt j hf (isF fr FO (Sv aO ((l[i]!).qL.length) cO) ((l[i]!).qL)) ⟨hO,fun e=>(ff e).sub (by rw [eb];intro x hx;simp [hx])⟩ (fun x hx=>aT x (by rw [eb];have hx:x∈FO:=hx;simp [hx]))
  have s2:=s3.yt (j+1) hf (isF fr FB (Sv aB ((l[i]!).qQ.length) cB) ((l[i]!).qQ)) ⟨hB,fun e=>(ff e).sub (by rw [eb];intro x hx;simp [hx])⟩ (fun x hx=>aT x (by rw [eb];have hx:x∈FB:=hx;simp [hx]))
  exact s2.yt (j+2) hf (isF fr FA (Sv aA ((l[i]!).qK.length) cA) ((l[i]!).qK)) ⟨hA,fun e=>(ff e).sub (by rw [eb];intro x hx;simp [hx])⟩ (fun x hx=>aT x (by rw [eb];have hx:x∈FA:=hx;simp [hx]))
theorem state_eq {a b:qH} (h1:a.qK=b.qK) (h2:a.qQ=b.qQ) (h3:a.qL=b.qL):a=b:=by
 cases a;cases b;simp only at h1 h2 h3;subst h1 h2 h3;rfl
open Classical in
noncomputable def yC (s:qC) (t:qH) (cs:yLL):Nat->List qH
 | 0=>[]
 | k+1=>if (vV s t (cs[k]!)).1∈yC s t cs k then yC s t cs k else yC s t cs k++[(vV s t (cs[k]!)).1]
theorem nextTo_in (h:(vV s t (cs[k]!)).1∈yC s t cs k):yC s t cs k=yC s t cs (k+1):=by rw [yC,if_pos h]
theorem nextTo_new (h:¬ (vV s t (cs[k]!)).1∈yC s t cs k):yC s t cs k++[(vV s t (cs[k]!)).1]=yC s t cs (k+1):=by rw [yC,if_neg h]
theorem nextTo_len {s:qC} {t:qH} {cs:yLL}:∀ k,(yC s t cs k).length<=k
 | 0=>by simp [yC]
 | k+1=>by
  have:=nextTo_len (s:=s) (t:=t) (cs:=cs) k
  rw [yC]
  split
  ·omega
  ·simp;omega
def CodeBad (s:qC) (t:qH) (cs:yLL) (k:Nat):Prop:=(vV s t (cs[k]!)).2≠0
def NoBad (s:qC) (t:qH) (cs:yLL) (k:Nat):Prop:=∀ j,j < k->¬ CodeBad s t cs j
theorem NoBad.succ (h:NoBad s t cs k) (h1:(vV s t (cs[k]!)).2=0):NoBad s t cs (k+1):=fun j hj=>by
 by_cases e:j=k
 ·subst e;exact fun x=>x h1
 ·exact h j qf
open Classical in
noncomputable def Q8 (s:qC) (t:qH) (cs:yLL):List qH×Int:=
 if NoBad s t cs cs.length then (yC s t cs cs.length,0) else ([],(vV s t (cs[XF (CodeBad s t cs) cs.length]!)).2)
theorem next_ok (h:NoBad s t cs cs.length):Q8 s t cs=(yC s t cs cs.length,0):=by rw [Q8,if_pos h]
theorem next_bad (h:NoBad s t cs k) (hk:k < cs.length) (h1:(vV s t (cs[k]!)).2≠0):Q8 s t cs=([],(vV s t (cs[k]!)).2):=by
 rw [Q8,if_neg (fun x=>x k hk h1),stop_first h hk h1]
theorem find_mem {l:List qH}:firstIdx (fun k=>decide (l[k]! =u)) l.length < 0<->¬ u∈l:=by
 have h:=anyTo_first (fun k=>decide (l[k]! =u)) l.length
 constructor
 ·intro h1 hm
  obtain ⟨k,hk,e⟩:=List.mem_iff_getElem.1 hm
  have:anyTo (fun k=>decide (l[k]! =u)) l.length=true:=anyTo_iff.2 ⟨k,hk,by rw [getElem!_pos l k hk];simpa using e⟩
  rw [this] at h
  have:=of_decide_eq_true h
  omega
 ·intro hm
  apply Classical.byContradiction
  intro h1
  rw [decide_eq_true qf] at h
  obtain ⟨k,hk,e⟩:=anyTo_iff.1 h.symm
  rw [getElem!_pos l k hk] at e
  exact hm ((of_decide_eq_true e)▸List.getElem_mem hk)
theorem mem_at {l:List qH} (hk:k < l.length) (h:l[k]! =u):u∈l:=by
 rw [getElem!_pos l k hk] at h;rw [← h];exact List.getElem_mem hk
def NotIn (l:List qH) (u:qH) (k:Nat):Prop:=∀ j,j < k->l[j]! ≠u
theorem NotIn.succ {l:List qH} (h:NotIn l u k) (h1:l[k]! ≠u):NotIn l u (k+1):=fun j hj=>by
 by_cases e:j=k
 ·subst e;exact h1
 ·exact h j qf
theorem NotIn.out {l:List qH} (h:NotIn l u l.length):¬ u∈l:=fun hm=>by
 obtain ⟨k,hk,e⟩:=List.mem_iff_getElem.1 hm
 exact h k hk (by rw [getElem!_pos l k hk];exact e)
theorem appls_single (h:k < (appls s t).length):0<=(appls s t)[k]! /\((appls s t)[k]!).toNat < s.qB.length/\Appl s t ((appls s t)[k]!).toNat:=by
 have h:(appls s t)[k]! ∈appls s t:=by rw [getElem!_pos _ k h];exact List.getElem_mem h
 exact mem_applL.1 h
end
section
variable {ca cb gy gM ex gS gQ e9 qE qN xf xG qY Kd : Nat}
theorem l00Same_ok (w:World) (a:yLI) (b:yLI) {aa:yOA} (ha:zP w Fa aa ca a) (hb:zP w Fb ab cb b):Calls Tryz.prog 58 #[Sv aa a.length ca,Sv ab b.length cb] w (Ret (fun v w' =>v=Bv (decide (a=b))) w):=by
 refine en func58 ntmps58 ?_
 have H:=((St.start w).arg hb).arg ha
 have WG:=qM ha
 have nhb:=qM hb
 clear ha hb
 have N:=Fresh.nil w.heap.size
 refine zcr (sp (Bv false) (zjcc (sq 1 (oN rfl (sq 1 (oN rfl (sq 1 (zjn (zT _ rfl (fun h1=>?_) (fun h1=>?_))))))))))
 ·replace h1:=bne_iff_ne.1 h1
  refine zcr (sp (Bv false) (zjr (t_r (rH1 (Bv false) H ?_))))
  rw [decide_eq_false (fun e=>by subst e;omega)]
 replace h1:=xx h1
 refine qV (t_n (zcc (sp (yI 0) (zjn (qR (zl ((fun Z0 Z1=>fun m' ρ w2=>∃ (xE:Env) (i:Nat),ρ=upd (upd (upd xE 0 (Sv aa a.length ca)) 1 (Sv ab b.length cb)) 5 (yI i)/\((i:Int)<=a.length)/\(a.take i=b.take i)/\m' =(a.length - (i:Int)).toNat/\Fresh w.heap.size []/\St w w2 [] [Z0,Z1]) _ _) ((a.length - (0:Int)).toNat) ⟨_,0,uE3,qf,(by rfl),rfl,N,H⟩ ?_))))))
 clear H N
 rintro m' ρ w3 ⟨xE,i,rfl,i0,i1,rfl,N,H⟩
 refine zcc (sp (yI i) (sq 1 (oN rfl (sq 1 (zjn (cD rfl (fun h4=>?_) (fun h4=>?_)))))))
 ·refine qV (t_n (xQ (qR (xQ (jE rfl H fun H=>rtl 0 H ?_)))))
  refine rtp 1 (yI i) H ?_
  obtain ⟨b6,o7,rfl⟩:=H.addr 0 rfl qf
  refine tI 2 rfl rfl rfl H ?_
  refine tL 3 rfl rfl (fun _ h=>h.zA 0 rfl i qf) H ?_
  refine rtl 4 H ?_
  refine rtp 5 (yI i) H ?_
  obtain ⟨b9,Tb,rfl⟩:=H.addr 1 rfl qf
  refine tI 6 rfl rfl rfl H ?_
  refine tL 7 rfl rfl (fun _ h=>h.zA 1 rfl i qf) H ?_
  refine rtl 8 H ?_
  refine xw qh (t_n (zT _ rfl (fun db=>?_) (fun db=>?_)))
  ·replace db:=bne_iff_ne.1 db
   refine zcr (sp (Bv false) (zjr (zr5 (rH1 (Bv false) H ?_))))
   rw [decide_eq_false (fun e=>by subst e;omega)]
  replace db:=xx db
  refine qV (b_n (t_n (xJ (sp (yI i) (sw (zn i 1 rfl rfl qf (sq 1 (xO (qX (m' :=(a.length - ((i+1):Int)).toNat) qf ⟨_,i+1,uE3,?_,?_,rfl,N,H⟩)))))))))
  ·omega
  ·exact eqTo_succ qf qf i1 qg
 refine zx4 (zcr (sp (Bv true) (zjr (rH1 (Bv true) H ?_))))
 rw [decide_eq_true (eq_of_take (k:=i) qf qf i1)]
theorem equalI_ok (w:World) (a:yLI) (b:yLI) {aa:yOA} (ha:zP w Fa aa ca a) (hb:zP w Fb ab cb b):Calls Tryz.prog 81 #[Sv aa a.length ca,Sv ab b.length cb] w (Ret (fun v w' =>v=Bv (decide (a=b))) w):=by
 refine en func81 ntmps81 ?_
 have H:=((St.start w).arg hb).arg ha
 have WG:=qM ha
 have nhb:=qM hb
 clear ha hb
 have N:=Fresh.nil w.heap.size
 refine zcr (sp (Bv false) (zjcc (sq 1 (oN rfl (sq 1 (oN rfl (sq 1 (zjn (zT _ rfl (fun h1=>?_) (fun h1=>?_))))))))))
 ·replace h1:=bne_iff_ne.1 h1
  refine zcr (sp (Bv false) (zjr (t_r (rH1 (Bv false) H ?_))))
  rw [decide_eq_false (fun e=>by subst e;omega)]
 replace h1:=xx h1
 refine qV (t_n (zcc (sq 1 (oN rfl (sp (yI 0) (zjn (qR (zl ((fun Z0 Z1=>fun m' ρ w2=>∃ (xE:Env) (i:Nat),ρ=upd (upd (upd (upd xE 0 (Sv aa a.length ca)) 1 (Sv ab b.length cb)) 12 (yI a.length)) 13 (yI i)/\((i:Int)<=a.length)/\(a.take i=b.take i)/\m' =(a.length - (i:Int)).toNat/\Fresh w.heap.size []/\St w w2 [] [Z0,Z1]) _ _) ((a.length - (0:Int)).toNat) ⟨_,0,uE4,qf,(by rfl),rfl,N,H⟩ ?_))))))))
 clear H N
 rintro m' ρ w3 ⟨xE,i,rfl,i0,i1,rfl,N,H⟩
 refine zcr (sq 1 (zjn (xQ (cD rfl (fun h4=>?_) (fun h4=>?_)))))
 ·refine qV (t_n (xQ (qR (zcr (sp (yI i) (sp (yI i) (zjn (xQ (jE rfl H fun H=>rtl 0 H ?_)))))))))
  refine rtp 1 (yI i) H ?_
  obtain ⟨b6,o7,rfl⟩:=H.addr 0 rfl qf
  refine tI 2 rfl rfl rfl H ?_
  refine tL 3 rfl rfl (fun _ h=>h.zA 0 rfl i qf) H ?_
  refine rtl 4 H ?_
  refine rtp 5 (yI i) H ?_
  obtain ⟨b9,Tb,rfl⟩:=H.addr 1 rfl qf
  refine tI 6 rfl rfl rfl H ?_
  refine tL 7 rfl rfl (fun _ h=>h.zA 1 rfl i qf) H ?_
  refine rtl 8 H ?_
  refine xw qh (t_n (zT _ rfl (fun db=>?_) (fun db=>?_)))
  ·replace db:=bne_iff_ne.1 db
   refine zcr (sp (Bv false) (zjr (zr5 (rH1 (Bv false) H ?_))))
   rw [decide_eq_false (fun e=>by subst e;omega)]
  replace db:=xx db
  refine qV (b_n (t_n (xJ (sw (zn i 1 rfl rfl qf (sq 1 (xO (qX (m' :=(a.length - ((i+1):Int)).toNat) qf ⟨_,i+1,uE4,?_,?_,rfl,N,H⟩))))))))
  ·omega
  ·exact eqTo_succ qf qf i1 qg
 refine zx4 (zcr (sp (Bv true) (zjr (rH1 (Bv true) H ?_))))
 rw [decide_eq_true (eq_of_take (k:=i) qf qf i1)]
theorem equalB_ok (w:World) (a:List Bool) (b:List Bool) {aa:yOA} (ha:zP w Fa aa ca a) (hb:zP w Fb ab cb b):Calls Tryz.prog 161 #[Sv aa a.length ca,Sv ab b.length cb] w (Ret (fun v w' =>v=Bv (decide (a=b))) w):=by
 refine en func161 ntmps161 ?_
 have H:=((St.start w).arg hb).arg ha
 have WG:=qM ha
 have nhb:=qM hb
 clear ha hb
 have N:=Fresh.nil w.heap.size
 refine zcr (sp (Bv false) (zjcc (sq 1 (oN rfl (sq 1 (oN rfl (sq 1 (zjn (zT _ rfl (fun h1=>?_) (fun h1=>?_))))))))))
 ·replace h1:=bne_iff_ne.1 h1
  refine zcr (sp (Bv false) (zjr (t_r (rH1 (Bv false) H ?_))))
  rw [decide_eq_false (fun e=>by subst e;omega)]
 replace h1:=xx h1
 refine qV (t_n (zcc (sq 1 (oN rfl (sp (yI 0) (zjn (qR (zl ((fun Z0 Z1=>fun m' ρ w2=>∃ (xE:Env) (i:Nat),ρ=upd (upd (upd (upd xE 0 (Sv aa a.length ca)) 1 (Sv ab b.length cb)) 12 (yI a.length)) 13 (yI i)/\((i:Int)<=a.length)/\(a.take i=b.take i)/\m' =(a.length - (i:Int)).toNat/\Fresh w.heap.size []/\St w w2 [] [Z0,Z1]) _ _) ((a.length - (0:Int)).toNat) ⟨_,0,uE4,qf,(by rfl),rfl,N,H⟩ ?_))))))))
 clear H N
 rintro m' ρ w3 ⟨xE,i,rfl,i0,i1,rfl,N,H⟩
 refine zcr (sq 1 (zjn (xQ (cD rfl (fun h4=>?_) (fun h4=>?_)))))
 ·refine qV (t_n (xQ (qR (zcr (sp (yI i) (sp (yI i) (zjn (xQ (jE rfl H fun H=>rtl 0 H ?_)))))))))
  refine rtp 1 (yI i) H ?_
  obtain ⟨b6,o7,rfl⟩:=H.addr 0 rfl qf
  refine tI 2 rfl rfl rfl H ?_
  refine tL 3 rfl rfl (fun _ h=>h.elemBoolN 0 rfl i qf) H ?_
  refine rtl 4 H ?_
  refine rtp 5 (yI i) H ?_
  obtain ⟨b9,Tb,rfl⟩:=H.addr 1 rfl qf
  refine tI 6 rfl rfl rfl H ?_
  refine tL 7 rfl rfl (fun _ h=>h.elemBoolN 1 rfl i qf) H ?_
  refine rt 8 _ (y_neB underlying4 (a[i]!) (b[i]!) rfl rfl) H ?_
  refine xw qh (t_n (zT _ rfl (fun db=>?_) (fun db=>?_)))
  ·replace db:=bne_iff_ne.1 db
   refine zcr (sp (Bv false) (zjr (zr5 (rH1 (Bv false) H ?_))))
   rw [decide_eq_false (Xy (k:=i) ‹_›)]
  replace db:=xx db
  refine qV (b_n (t_n (xJ (sw (zn i 1 rfl rfl qf (sq 1 (xO (qX (m' :=(a.length - ((i+1):Int)).toNat) qf ⟨_,i+1,uE4,?_,?_,rfl,N,H⟩))))))))
  ·omega
  ·exact eqTo_succ qf qf i1 qg
 refine zx4 (zcr (sp (Bv true) (zjr (rH1 (Bv true) H ?_))))
 rw [decide_eq_true (eq_of_take (k:=i) qf qf i1)]
theorem l02Same_ok (w:World) (a:qH) (b:qH) {ba oa:Nat} {bb ob:Nat} (ha:vY w ba oa (yT a gz gy ld gM eC ex)) (lY:zP w tW gz gy a.qK) (k8:zP w xo ld gM a.qQ) (iC:zP w rG eC ex a.qL) (hb:vY w bb ob (yT b gR gS lz gQ eo e9)) (gW:zP w uy gR gS b.qK) (lu:zP w wY lz gQ b.qQ) (eN:zP w rD eo e9 b.qL):Calls Tryz.prog 67 #[pp ba oa,pp bb ob] w (Ret (fun v w' =>v=Bv (decide (a=b))) w):=by
 refine en func67 ntmps67 ?_
 have H:=((((((((St.start w).arg eN).arg lu).arg gW).Xr hb).arg iC).arg k8).arg lY).Xr ha
 have IS:=qM k8
 have FK:=qM gW
 have HT:=qM lu
 have BL:=qM eN
 clear ha lY k8 iC hb gW lu eN
 have N:=Fresh.nil w.heap.size
 refine zcr (sp (Bv false) (zjn (xQ (xQ (jE rfl H fun H=>rtl 0 H ?_)))))
 refine rtl 1 H ?_
 refine tF 2 rfl rfl H ?_
 refine tL 3 rfl rfl (fun _ h=>h.xP 0 rfl 0 rfl) H ?_
 refine tN 4 rfl rfl H ?_
 refine rtl 5 H ?_
 refine rtl 6 H ?_
 refine tF 7 rfl rfl H ?_
 refine tL 8 rfl rfl (fun _ h=>h.xP 4 rfl 0 rfl) H ?_
 refine tN 9 rfl rfl H ?_
 refine rtp 10 (Bv ((a.qK.length:Int) != b.qK.length)) H ?_
 refine rtp 11 (Bv ((a.qK.length:Int) != b.qK.length)) H ?_
 cases h2:((a.qK.length:Int) != b.qK.length)
 ·replace h2:=xx h2
  refine rgl 12 18 H ?_
  refine rgl 13 18 H ?_
  refine gF 14 rfl rfl H ?_
  refine gL 15 rfl rfl (fun _ h=>h.xP 0 rfl 1 rfl) H ?_
  refine gN 16 rfl rfl H ?_
  refine rgl 17 18 H ?_
  refine rgl 18 18 H ?_
  refine gF 19 rfl rfl H ?_
  refine gL 20 rfl rfl (fun _ h=>h.xP 4 rfl 1 rfl) H ?_
  refine gN 21 rfl rfl H ?_
  refine rgp 22 (Bv ((a.qQ.length:Int) != b.qQ.length)) 18 H ?_
  refine rtp 23 (Bv ((a.qQ.length:Int) != b.qQ.length)) H ?_
  refine rtp 24 (Bv ((a.qQ.length:Int) != b.qQ.length)) H ?_
  cases h3:((a.qQ.length:Int) != b.qQ.length)
  ·replace h3:=xx h3
   refine rgl 25 31 H ?_
   refine rgl 26 31 H ?_
   refine gF 27 rfl rfl H ?_
   refine gL 28 rfl rfl (fun _ h=>h.xP 0 rfl 2 rfl) H ?_
   refine rgl 29 31 H ?_
   refine rgl 30 31 H ?_
   refine gF 31 rfl rfl H ?_
   refine gL 32 rfl rfl (fun _ h=>h.xP 4 rfl 2 rfl) H ?_
   refine vK [33] qh qm (VN rfl (e:=31) rfl rfl (oq (l00Same_ok _ a.qL b.qL (H.get 3 rfl).1 (H.get 7 rfl).1) H fun w5 H=>⟨H,(rgl 34 31 H ?_)⟩) vM)
   refine rtl 35 H ?_
   refine xw qh (t_n (zT _ rfl (fun h7=>?_) (fun h7=>?_)))
   ·replace h7:=xB h7
    replace h7:=of_decide_eq_false h7
    refine zcr (sp (Bv false) (zjr (t_r (rH1 (Bv false) H ?_))))
    rw [decide_eq_false (fun e=>by subst e;exact absurd rfl ql)]
   replace h7:=xn h7
   replace h7:=of_decide_eq_true h7
   refine qV (t_n (zcc (sp (yI 0) (zjn (qR (zl ((fun Z0 Z1 Z2 Z3 Z4 Z5 Z6 Z7=>fun m' ρ w8=>∃ (xE:Env) (c:Nat),ρ=upd (upd (upd xE 0 (pp ba oa)) 1 (pp bb ob)) 5 (yI c)/\((c:Int)<=a.qK.length)/\(a.qK.take c=b.qK.take c)/\m' =(a.qK.length - (c:Int)).toNat/\Fresh w.heap.size []/\St w w8 [] [Z0,Z1,Z2,Z3,Z4,Z5,Z6,Z7]) _ _ _ _ _ _ _ _) ((a.qK.length - (0:Int)).toNat) ⟨_,0,uE3,qf,(by rfl),rfl,N,H⟩ ?_))))))
   clear H N
   rintro m' ρ w9 ⟨xE,c,rfl,i0,i1,rfl,N,H⟩
   refine zcc (sp (yI c) (sq 2 (oF rfl (oL rfl (H.xP 0 rfl 0 rfl) (oN rfl (sq 1 (zjn (cD rfl (fun aZ=>?_) (fun aZ=>?_)))))))))
   ·refine qV (t_n (xQ (qR (xQ (jE rfl H fun H=>rtl 0 H ?_)))))
    refine rtl 1 H ?_
    refine tF 2 rfl rfl H ?_
    refine tL 3 rfl rfl (fun _ h=>h.xP 0 rfl 0 rfl) H ?_
    refine rtp 4 (yI c) H ?_
    obtain ⟨vq,o13,rfl⟩:=H.addr 1 rfl qf
    refine tI 5 rfl rfl rfl H ?_
    refine tL 6 rfl rfl (fun _ h=>h.elemBoolN 1 rfl c qf) H ?_
    refine rtl 7 H ?_
    refine rtl 8 H ?_
    refine tF 9 rfl rfl H ?_
    refine tL 10 rfl rfl (fun _ h=>h.xP 4 rfl 0 rfl) H ?_
    refine rtp 11 (yI c) H ?_
    obtain ⟨wm,o16,rfl⟩:=H.addr 5 rfl qf
    refine tI 12 rfl rfl rfl H ?_
    refine tL 13 rfl rfl (fun _ h=>h.elemBoolN 5 rfl c qf) H ?_
    refine rt 14 _ (y_neB underlying4 (a.qK[c]!) (b.qK[c]!) rfl rfl) H ?_
    refine xw qh (t_n (zT _ rfl (fun dd=>?_) (fun dd=>?_)))
    ·replace dd:=bne_iff_ne.1 dd
     refine zcr (sp (Bv false) (zjr (zr5 (rH1 (Bv false) H ?_))))
     rw [decide_eq_false (fun e=>by subst e;exact absurd rfl ql)]
    replace dd:=xx dd
    refine qV (b_n (t_n (xJ (sp (yI c) (sw (zn c 1 rfl rfl qf (sq 1 (xO (qX (m' :=(a.qK.length - ((c+1):Int)).toNat) qf ⟨_,c+1,uE3,?_,?_,rfl,N,H⟩)))))))))
    ·omega
    ·exact eqTo_succ qf qf i1 qg
   refine zx4 (zcc (sp (yI 0) (zjn (qR (zl ((fun Z0 Z1 Z2 Z3 Z4 Z5 Z6 Z7=>fun m' ρ s0=>∃ (xE:Env) (aD:Nat),ρ=upd (upd (upd xE 0 (pp ba oa)) 1 (pp bb ob)) 6 (yI aD)/\((aD:Int)<=a.qQ.length)/\(a.qQ.take aD=b.qQ.take aD)/\m' =(a.qQ.length - (aD:Int)).toNat/\Fresh w.heap.size []/\St w s0 [] [Z0,Z1,Z2,Z3,Z4,Z5,Z6,Z7]) _ _ _ _ _ _ _ _) ((a.qQ.length - (0:Int)).toNat) ⟨_,0,uE3,qf,(by rfl),rfl,N,H⟩ ?_)))))
   clear H N
   rintro m' ρ rO ⟨xE,aD,rfl,i0,i2,rfl,N,H⟩
   refine zcc (sq 3 (oF rfl (oL rfl (H.xP 0 rfl 1 rfl) (oN rfl (sq 1 (zjn (cD rfl (fun lN=>?_) (fun lN=>?_))))))))
   ·refine qV (t_n (xQ (qR (xQ ?_))))
    obtain ⟨fH,JX,rfl⟩:=H.addr 2 rfl qf
    obtain ⟨LI,o26,rfl⟩:=H.addr 6 rfl qf
    refine VP (fun ρ Dg=>∃ (xE:Env) (F28:yLN) (P8:yOA) (Q6:Nat) (F31:yLN) (RT:yOA) (PP:Nat),ρ=upd (upd (upd (upd xE 0 (pp ba oa)) 1 (pp bb ob)) 6 (yI aD)) 91 (Bv (!(decide ((a.qQ[aD]!)=(b.qQ[aD]!)))))/\Fresh w.heap.size []/\St w Dg [] [sF false F28 P8 Q6 (b.qQ[aD]!),atF LI (o26+(aD:Int).toNat * 1) [Sv P8 ((b.qQ[aD]!).length) Q6],sF false F31 RT PP (a.qQ[aD]!),atF fH (JX+(aD:Int).toNat * 1) [Sv RT ((a.qQ[aD]!).length) PP],atF ba oa [Sv gz a.qK.length gy,Sv (aa fH JX) a.qQ.length gM,Sv eC a.qL.length ex],sF false tW gz gy a.qK,sF false xo (aa fH JX) gM a.qQ,sF false rG eC ex a.qL,atF bb ob [Sv gR b.qK.length gS,Sv (aa LI o26) b.qQ.length gQ,Sv eo b.qL.length e9],sF false uy gR gS b.qK,sF false wY (aa LI o26) gQ b.qQ,sF false rD eo e9 b.qL]) ?_ ?_
    ·refine jE rfl H fun H=>rtl 0 H ?_
     refine rtl 1 H ?_
     refine tF 2 rfl rfl H ?_
     refine tL 3 rfl rfl (fun _ h=>h.xP 0 rfl 1 rfl) H ?_
     refine rtl 4 H ?_
     obtain ⟨I8,H5,SI,H⟩:=H.zW 2 rfl aD aD qf qf qf
     have S:=H.jm [] (zR 2 8)
     refine tI 5 rfl rfl rfl S ?_
     refine rtl 7 S ?_
     refine rtl 8 S ?_
     refine tF 9 rfl rfl S ?_
     refine tL 10 rfl rfl (fun _ h=>h.xP 4 rfl 1 rfl) S ?_
     refine rtl 11 S ?_
     obtain ⟨J8,Jo,TV,H⟩:=H.zW 8 rfl aD aD qf qf qf
     refine tI 12 rfl rfl rfl (H.pick [] (zR 4 8)) (vK [6,13] qh qm (jb rfl ?_ (jb rfl ?_ vM)))
     ·refine x9 (Sv I8 ((a.qQ[aD]!).length) H5) isAgg24 rfl (H.xP 3 rfl 0 rfl) (⟨H.pick [] (zR 4 8),(ro 13 rfl (x9 (Sv J8 ((b.qQ[aD]!).length) Jo) isAgg24 rfl (H.xP 1 rfl 0 rfl) (⟨H.pick [] (zR 4 8),(ro 14 rfl (oq (l00Same_ok _ (a.qQ[aD]!) (b.qQ[aD]!) (H.get 2 rfl).1 (H.get 0 rfl).1) H fun E4 H=>⟨H.pick [] (zR 4 8),(rtl 15 (H.pick [] (zR 4 8)) ?_)⟩))⟩)))⟩)
      refine xw qh ((meet ⟨_,TV,J8,Jo,SI,I8,H5,uE4,N,H⟩))
     refine x9 (Sv J8 ((b.qQ[aD]!).length) Jo) isAgg24 rfl (H.xP 1 rfl 0 rfl) (⟨H.pick [] (zR 4 8),(ro 6 rfl (x9 (Sv I8 ((a.qQ[aD]!).length) H5) isAgg24 rfl (H.xP 3 rfl 0 rfl) (⟨H.pick [] (zR 4 8),(ro 14 rfl (oq (l00Same_ok _ (a.qQ[aD]!) (b.qQ[aD]!) (H.get 2 rfl).1 (H.get 0 rfl).1) H fun wR H=>⟨H.pick [] (zR 4 8),(rtl 15 (H.pick [] (zR 4 8)) ?_)⟩))⟩)))⟩)
     refine xw qh ((meet ⟨_,TV,J8,Jo,SI,I8,H5,uE4,N,H⟩))
    clear H N
    rintro ρ Dy ⟨xE,F28,P8,Q6,F31,RT,PP,rfl,N,H⟩
    refine t_n (zT _ rfl (fun oU=>?_) (fun oU=>?_))
    ·replace oU:=xB oU
     replace oU:=of_decide_eq_false oU
     refine zcr (sp (Bv false) (zjr (zr5 (rH1 (Bv false) H ?_))))
     rw [decide_eq_false (fun e=>by subst e;exact absurd rfl ql)]
    replace oU:=xn oU
    replace oU:=of_decide_eq_true oU
    refine qV (b_n (t_n (xJ (sq 1 (sw (zn aD 1 rfl rfl qf (sq 1 (xO (qX (m' :=(a.qQ.length - ((aD+1):Int)).toNat) qf ⟨_,aD+1,uE3,?_,?_,rfl,N,H.pick [] (zR 4 8)⟩)))))))))
    ·omega
    ·exact eqTo_succ qf qf i2 ql
   refine zx4 (zcr (sp (Bv true) (zjr (rH1 (Bv true) H ?_))))
   rw [decide_eq_true (state_eq (eq_of_take (k:=c) qf qf i1) (eq_of_take (k:=aD) qf qf i2) ql)]
  replace h3:=bne_iff_ne.1 h3
  refine vG (zR 25 10) 10 (H) (rtp 35 (Bv true) H ?_)
  refine xw qh (t_n (cTr rfl (zcr (sp (Bv false) (zjr (t_r (rH1 (Bv false) H ?_)))))))
  rw [decide_eq_false (fun e=>by subst e;omega)]
 replace h2:=bne_iff_ne.1 h2
 refine vG (zR 12 11) 11 (H) (rtp 23 (Bv true) H ?_)
 refine rtp 24 (Bv true) H ?_
 refine vG (zR 25 10) 10 (H) (rtp 35 (Bv true) H ?_)
 refine xw qh (t_n (cTr rfl (zcr (sp (Bv false) (zjr (t_r (rH1 (Bv false) H ?_)))))))
 rw [decide_eq_false (fun e=>by subst e;omega)]
theorem l03Find_ok (w:World) (l:List qH) (u:qH) {bu ou:Nat} (hl:zP w Fl al cl l) (hu:vY w bu ou (yT u kw kv nM nO fR f4)) (lS:zP w Ay kw kv u.qK) (rb:zP w Ew nM nO u.qQ) (jj:zP w uT fR f4 u.qL):Calls Tryz.prog 113 #[Sv al l.length cl,pp bu ou] w (Ret (fun v w' =>v=yI (firstIdx (fun zz=>decide (l[zz]! =u)) l.length)) w):=by
 refine en func113 ntmps113 ?_
 have H:=(((((St.start w).arg jj).arg rb).arg lS).Xr hu).arg hl
 have Aa:=qM hl
 clear hl hu lS rb jj
 have N:=Fresh.nil w.heap.size
 refine zcr (sp (yI 0) (zjcc (sp (yI 0) (zjn (qR (zl ((fun Z0 Z1 Z2 Z3 Z4=>fun m' ρ w1=>∃ (xE:Env) (i:Nat),ρ=upd (upd (upd xE 0 (Sv al l.length cl)) 1 (pp bu ou)) 5 (yI i)/\((i:Int)<=l.length)/\(noneTo (fun zz=>decide (l[zz]! =u)) i)/\m' =(l.length - (i:Int)).toNat/\Fresh w.heap.size []/\St w w1 [] [Z0,Z1,Z2,Z3,Z4]) _ _ _ _ _) ((l.length - (0:Int)).toNat) ⟨_,0,uE3,qf,qx,rfl,N,H⟩ ?_))))))
 clear H N
 rintro m' ρ w2 ⟨xE,i,rfl,i0,i1,rfl,N,H⟩
 refine zcc (sp (yI i) (sq 1 (oN rfl (sq 1 (zjn (cD rfl (fun h3=>?_) (fun h3=>?_)))))))
 ·refine qV (t_n (xQ (qR (zcr (sq 1 (sp (yI i) ?_))))))
  obtain ⟨b4,o5,rfl⟩:=H.addr 0 rfl qf
  obtain ⟨Sp,Se,aay,adG,adB,aej,RG,RQ,RS,H⟩:=H.elem_StateD 0 rfl i i qf qf qf
  refine oI rfl rfl (sq 1 (sw (oq (l02Same_ok _ (l[i]!) u (qF (H.get 3 rfl) 0 3) (H.get 0 rfl).1 (H.get 1 rfl).1 (H.get 2 rfl).1 (qF (H.get 5 rfl) 0 3) (H.get 6 rfl).1 (H.get 7 rfl).1 (H.get 8 rfl).1) H fun w9 H=>zjn (cD rfl (fun aU=>?_) (fun aU=>?_)))))
  ·refine zcr (sp (yI i) (sp (yI i) (zjr (zr5 (rH1 (yI i) H ?_)))))
   rw [firstIdx_some (k:=i) qf i1 (decide_eq_true ‹_›)]
  refine qV (b_n (t_n (xJ (sp (yI i) (sw (zn i 1 rfl rfl qf (sq 1 (xO (qX (m' :=(l.length - ((i+1):Int)).toNat) qf ⟨_,i+1,uE3,?_,?_,rfl,N,H.pick [] (zR 4 5)⟩)))))))))
  ·omega
  ·exact noneTo_succ i1 (decide_eq_false ‹_›)
 refine zx4 (zcr (sq 1 (zjr (rH1 (yI (-1)) H ?_))))
 rw [firstIdx_none (fun j hj=>i1 j qf)]
theorem l03Next_ok (w:World) (s:qC) (t:qH) (cs:yLL) (hs:vY w bs os (yS s qG qE qO qN)) (qP:zP w xk qG qE s.qA) (xm:zP w xW qO qN s.qB) (ht:vY w bt ot (yT t xg xf xI xG qZ qY)) (zi:zP w zD xg xf t.qK) (zI:zP w vF xI xG t.qQ) (xM:zP w zh qZ qY t.qL) (th:zP w Uk LK Kd cs) (p0:ve s) (p1:xZ s t) (p2:cs.length<=1000) (p3:∀ q,q < cs.length->Vu s (cs[q]!)):Calls Tryz.prog 107 #[pp bs os,pp bt ot,Sv LK cs.length Kd] w (Ret (fun v w' =>∃ (kN:yOA) (kY:Nat) (kQ:Nat) (kZ:List Value) (kR:yLN),v=.tuple #[Sv kN kY kQ,yI ((Q8 s t cs).2)]/\Fresh w.heap.size [kR]/\St w w' [rr kN kY kQ 31 3 kZ] [xy true kR kZ ((Q8 s t cs).1)]) w):=by
 refine en func107 ntmps107 ?_
 have H:=((((((((St.start w).arg th).arg xM).arg zI).arg zi).Xr ht).arg xm).arg qP).Xr hs
 clear hs qP xm ht zi zI xM th
 have N:=Fresh.nil w.heap.size
 refine zcr (sq 1 (sp (yI 0) (zjc (sw (vW H underlying38 ti31 fun b1 w2 H=>sq 1 (zjcc (sp (yI 0) (zjn (qR ?_)))))))))
 replace H:=H.boxRow 0 rfl 3 0 rfl qj
 replace H:=H.jo (α:=qH)
 replace H:St _ _ [rr (aa b1 0) 0 0 31 3 []] [xy true [] [] ([]:List qH),atF bs os (yS s qG qE qO qN),sF false xk qG qE s.qA,sF false xW qO qN s.qB,atF bt ot (yT t xg xf xI xG qZ qY),sF false zD xg xf t.qK,sF false vF xI xG t.qQ,sF false zh qZ qY t.qL,sF false Uk LK Kd cs]:=H
 refine zl ((fun Z0 Z1 Z2 Z3 Z4 Z5 Z6 Z7=>fun m' ρ w3=>∃ (xE:Env) (jB:yOA) (vC:Nat) (jw:Nat) (out:List qH) (bC:List Value) (QW:yLN) (i:Nat),ρ=upd (upd (upd (upd (upd xE 0 (pp bs os)) 1 (pp bt ot)) 2 (Sv LK cs.length Kd)) 8 (Sv jB vC jw)) 9 (yI i)/\out=yC s t cs i/\((i:Int)<=cs.length)/\(NoBad s t cs i)/\m' =(cs.length - (i:Int)).toNat/\Fresh w.heap.size [QW]/\St w w3 [rr jB vC jw 31 3 bC] [xy true QW bC out,Z0,Z1,Z2,Z3,Z4,Z5,Z6,Z7]) _ _ _ _ _ _ _ _) ((cs.length - (0:Int)).toNat) ⟨_,(aa b1 0),0,0,([]:List qH),[],[],0,uE5,(by rfl),qf,qx,rfl,N.emp,H⟩ ?_
 clear H N
 rintro m' ρ w4 ⟨xE,jB,vC,jw,out,bC,QW,i,rfl,rfl,i0,i1,rfl,N,H⟩
 have bR:=H.zg (α:=qH) 0 rfl 0 rfl qj
 have nl:=nextTo_len (s:=s) (t:=t) (cs:=cs) i
 refine zcc (sp (yI i) (sq 1 (oN rfl (sq 1 (zjn (cD rfl (fun h5=>?_) (fun h5=>?_)))))))
 ·refine qV (t_n (xQ (qR (zcr (sq 3 (sp (yI i) ?_))))))
  obtain ⟨b6,o7,rfl⟩:=H.addr 8 rfl qf
  obtain ⟨Bs,At,O9,H⟩:=H.zW 8 rfl i i qf qf qf
  refine oI rfl rfl (oL rfl (H.xP 1 rfl 0 rfl) ?_)
  have k3:=p3 i qf
  have afi:=H.base.size
  have afS:=H.ltN (L:=[QW]) [2]
  refine sw (oc (l03Step_ok _ s t (cs[i]!) (qF (H.get 3 rfl) 0 3) (H.get 4 rfl).1 (H.get 5 rfl).1 (qF (H.get 6 rfl) 0 3) (H.get 7 rfl).1 (H.get 8 rfl).1 (H.get 9 rfl).1 (H.get 0 rfl).1 qg qg qg) ?_)
  rintro _ nr ⟨eY,No,fd,gu,RP,gm,sR,BN,dP,Ms,dN,rfl,M,K⟩ _
  replace N:=N.merge afi afS M
  replace H:=H.merge K M
  obtain rfl:=H.VM 0 rfl
  obtain rfl:=H.zg (α:=yLI) 1 rfl 0 rfl qj
  obtain rfl:=H.jC 2 rfl
  refine sq 3 (sw (xq H ti31 [yN,yN,yN] fun Sa s0 H=>(sw (xY H 0 [Sv eY ((((vV s t (cs[i]!)).1).qK).length) fd,Sv gu ((((vV s t (cs[i]!)).1).qQ).length) gm,Sv dP ((((vV s t (cs[i]!)).1).qL).length) dN] sizeOf31 fun rO H=>sq 1 (zjcc (sq 1 (sp (Bv (((vV s t (cs[i]!)).2:Int) != 0)) (zjn (zT (((vV s t (cs[i]!)).2:Int) != 0) rfl (fun lN=>?_) (fun lN=>?_))))))))))
  ·replace lN:=bne_iff_ne.1 lN
   refine zcr (sw (vW H underlying38 ti31 fun fH wT H=>sq 3 (zjr (t_r (zr5 ?_)))))
   replace H:=H.boxRow 0 rfl 3 0 rfl qj
   replace H:=H.jo (α:=qH)
   replace H:St _ _ [rr (aa fH 0) 0 0 31 3 [],.box Sa [Sv eY ((((vV s t (cs[i]!)).1).qK).length) fd,Sv gu ((((vV s t (cs[i]!)).1).qQ).length) gm,Sv dP ((((vV s t (cs[i]!)).1).qL).length) dN] 31,rr eY ((((vV s t (cs[i]!)).1).qK).length) fd 4 1 ((((vV s t (cs[i]!)).1).qK).map (Value.bool)),rr gu ((((vV s t (cs[i]!)).1).qQ).length) gm 24 1 sR,rr dP ((((vV s t (cs[i]!)).1).qL).length) dN 2 1 ((((vV s t (cs[i]!)).1).qL).map (Value.int .i64)),rr jB vC jw 31 3 bC] [xy true [] [] ([]:List qH),xy true BN sR (((vV s t (cs[i]!)).1).qQ),sF false O9 Bs At (cs[i]!),atF b6 (o7+(i:Int).toNat * 1) [Sv Bs ((cs[i]!).length) At],xy true QW bC (yC s t cs i),atF bs os (yS s qG qE qO qN),sF false xk qG qE s.qA,sF false xW qO qN s.qB,atF bt ot (yT t xg xf xI xG qZ qY),sF false zD xg xf t.qK,sF false vF xI xG t.qQ,sF false zh qZ qY t.qL,sF false Uk (aa b6 o7) Kd cs]:=H
   refine ret2 (Sv (aa fH 0) 0 0) (yI ((vV s t (cs[i]!)).2)) rfl rfl rfl ⟨_,rfl,?_,H.base⟩
   rw [next_bad i1 qf ‹_›]
   exact ⟨(aa fH 0),0,0,[],[],rfl,(N.emp.pick [0]),H.pick [0] [0]⟩
  replace lN:=xx lN
  refine qV (t_n (zcr (sq 1 ?_)))
  obtain ⟨G24,acx,Gu⟩:=H.jY (α:=qH) 4 rfl 3 rfl qj
  obtain ⟨G27,ayG,h29⟩:=H.rowIsB 1 rfl
  obtain ⟨G30,ayP,Nh⟩:=H.jY (α:=yLI) 2 rfl 0 rfl qj
  obtain ⟨G33,axp,Dj⟩:=H.yH 3 rfl
  refine sw (oq (VG (by rw [← acx]) (l03Find_ok _ (yC s t cs i) ((vV s t (cs[i]!)).1) (acx▸Gu) (qF (H.cells 0 rfl) 0 3) h29 Nh Dj)) H fun N6 H=>sp (Bv (decide ((firstIdx (fun zz=>decide ((yC s t cs i)[zz]! =((vV s t (cs[i]!)).1))) (yC s t cs i).length:Int) < 0))) (zjn (cD rfl (fun tm=>?_) (fun tm=>?_))))
  ·refine xJ (sq 1 (sw (xU [Sv eY ((((vV s t (cs[i]!)).1).qK).length) fd,Sv gu ((((vV s t (cs[i]!)).1).qQ).length) gm,Sv dP ((((vV s t (cs[i]!)).1).qL).length) dN] isAgg31 sizeOf31 rfl (qF (H.cells 0 rfl) 0 3) (sw (zf H underlying38 ti31 [Sv eY ((((vV s t (cs[i]!)).1).qK).length) fd,Sv gu ((((vV s t (cs[i]!)).1).qQ).length) gm,Sv dP ((((vV s t (cs[i]!)).1).qL).length) dN] fun Kc Mx H=>?_)))))
   obtain ⟨G45,N,ag9,H⟩:=H.freezeB 2 rfl N (H.jA [0,3])
   have H0:=H
   obtain ⟨G47,abo,avj,H⟩:=H.Ql (α:=yLI) 3 rfl 1 rfl qj
   replace N:Fresh w.heap.size [G47,G45,QW]:=Fresh.ice (N.pick [1,0,2]) H0 3 abo.1 abo.2 (H0.jA [0,4])
   clear H0
   obtain ⟨G50,N,aue,H⟩:=H.zN 4 rfl N (H.jA [0,1,5])
   refine sw (zo H 5 rfl 0 rfl underlying38 ti31 rfl qj rfl rfl rfl qw qp qf fun HP Hn Dy H=>?_)
   replace H:=H.VC 6 rfl 2 rfl 1 rfl 0 rfl
   replace N:Fresh w.heap.size [(QW++(G45++G47++G50))]:=(N.pick [2,1,0,3]).join.join.swap.join
   refine sq 1 (xO (b_n (t_n (xJ (sp (yI i) (sw (zn i 1 rfl rfl qf (sq 1 (xO (qX (m' :=(cs.length - ((i+1):Int)).toNat) qf ⟨_,_,_,_,_,_,_,i+1,uE5,?_,?_,?_,rfl,N,H.pick [5] (0::zR 8 8)⟩))))))))))
   ·exact nextTo_new (find_mem.1 ql)
   ·omega
   ·exact i1.succ ‹_›
  refine qV (b_n (t_n (xJ (sp (yI i) (sw (zn i 1 rfl rfl qf (sq 1 (xO (qX (m' :=(cs.length - ((i+1):Int)).toNat) qf ⟨_,_,_,_,_,_,_,i+1,uE5,?_,?_,?_,rfl,(N.pick [1]),H.pick [4] (zR 3 9)⟩)))))))))
  ·exact nextTo_in (Classical.byContradiction fun h=>absurd (find_mem.2 h) ql)
  ·omega
  ·exact i1.succ ‹_›
 refine zx4 (zcr (sq 2 (sp (yI 0) (zjr (ret2 (Sv jB vC jw) (yI 0) rfl rfl rfl ⟨_,rfl,?_,H.base⟩)))))
 rw [next_ok (fun j hj=>i1 j qf),show cs.length=i by omega]
 exact ⟨jB,vC,jw,bC,QW,rfl,N,H.pick [0] [0]⟩
theorem sameState_ok (w:World) (a:qH) (b:qH) (lY:zP w tW gz gy a.qK) (k8:zP w xo ld gM a.qQ) (iC:zP w rG eC ex a.qL) (gW:zP w uy gR gS b.qK) (lu:zP w wY lz gQ b.qQ) (eN:zP w rD eo e9 b.qL):Calls Tryz.prog 117 #[.agg #[Sv gz a.qK.length gy,Sv ld a.qQ.length gM,Sv eC a.qL.length ex],.agg #[Sv gR b.qK.length gS,Sv lz b.qQ.length gQ,Sv eo b.qL.length e9]] w (Ret (fun v w' =>v=Bv (decide (a=b))) w):=by
 refine en func117 ntmps117 ?_
 have H:=((((((St.start w).arg eN).arg lu).arg gW).arg iC).arg k8).arg lY
 have IS:=qM k8
 have FK:=qM gW
 have HT:=qM lu
 have BL:=qM eN
 clear lY k8 iC gW lu eN
 have N:=Fresh.nil w.heap.size
 refine zcr (sw (zZ H (yT a gz gy ld gM eC ex) fun b1 w2 H=>sw (zZ H (yT b gR gS lz gQ eo e9) fun b3 w4 H=>sp (Bv false) (zjc (oF rfl (oL rfl (H.cell 1 rfl rfl) (oF rfl (oL rfl (H.cell 0 rfl rfl) (sw (oq (equalB_ok _ a.qK b.qK (H.get 0 rfl).1 (H.get 3 rfl).1) H fun w6 H=>sp (Bv (decide (a.qK=b.qK))) ?_))))))))))
 cases h8:(decide (a.qK=b.qK))
 ·replace h8:=of_decide_eq_false h8
  refine xR (zR 11 5) (sp (Bv false) (sp (Bv false) (xR (zR 18 5) (sp (Bv false) (sp (Bv false) (zjr (rH1 (Bv false) H ?_)))))))
  rw [decide_eq_false (fun e=>by subst e;exact absurd rfl ql)]
 replace h8:=of_decide_eq_true h8
 refine qJ 10 rfl rfl (oF rfl (qJ 10 rfl rfl (oL rfl (H.cell 1 rfl rfl) (qJ 10 rfl rfl (oF rfl (qJ 10 rfl rfl (oL rfl (H.cell 0 rfl rfl) (qJ 10 rfl rfl (sw (zQ #[Sv ld a.qQ.length gM,Sv lz b.qQ.length gQ,.func (.func 81) #[] #[]] rfl rfl call162 (en func162 ntmps162 ?_)))))))))))
 refine zcr (sp (Bv false) (zjcc (sq 1 (oN rfl (sq 1 (oN rfl (sq 1 (zjn (zT _ rfl (fun h9=>?_) (fun h9=>?_))))))))))
 ·replace h9:=bne_iff_ne.1 h9
  refine zcr (sp (Bv false) (zjr (t_r (ret1 (Bv false) rfl rfl ⟨_,rfl,(sp (Bv false) (sp (Bv false) (xR (zR 18 5) (sp (Bv false) (sp (Bv false) (zjr (rH1 (Bv false) H ?_)))))))⟩))))
  rw [decide_eq_false (fun e=>by subst e;omega)]
 replace h9:=xx h9
 refine qV (t_n (zcc (sq 1 (oN rfl (sp (yI 0) (zjn (qR (zl ((fun Z0 Z1 Z2 Z3 Z4 Z5 Z6 Z7=>fun m' ρ nq=>∃ (xE:Env) (i:Nat),ρ=upd (upd (upd (upd (upd xE 1 (Sv lz b.qQ.length gQ)) 2 (.func (.func 81) #[] #[])) 15 (Sv ld a.qQ.length gM)) 16 (yI a.qQ.length)) 17 (yI i)/\((i:Int)<=a.qQ.length)/\(a.qQ.take i=b.qQ.take i)/\m' =(a.qQ.length - (i:Int)).toNat/\Fresh w.heap.size []/\St w nq [Z0,Z1] [Z2,Z3,Z4,Z5,Z6,Z7]) _ _ _ _ _ _ _ _) ((a.qQ.length - (0:Int)).toNat) ⟨_,0,uE5,qf,(by rfl),rfl,N,H⟩ ?_))))))))
 clear H N
 rintro m' ρ nr ⟨xE,i,rfl,i0,i2,rfl,N,H⟩
 refine zcr (sq 1 (zjn (xQ (cD rfl (fun db=>?_) (fun db=>?_)))))
 ·refine qV (t_n (xQ (qR (zcr (sp (yI i) ?_)))))
  obtain ⟨Dt,o14,rfl⟩:=H.addr 1 rfl qf
  obtain ⟨asP,asl,axr,H⟩:=H.zW 1 rfl i i qf qf qf
  refine oI rfl rfl (oL rfl (H.xP 1 rfl 0 rfl) (sp (yI i) (sq 1 (zjc (sq 1 (sp (yI i) ?_))))))
  obtain ⟨Q0,o18,rfl⟩:=H.addr 6 rfl qf
  obtain ⟨asa,axe,awP,H⟩:=H.zW 6 rfl i i qf qf qf
  refine oI rfl rfl (oL rfl (H.xP 1 rfl 0 rfl) (sq 1 (zjc (sp (.func (.func 81) #[] #[]) (sq 2 (sw (oq (equalI_ok _ (a.qQ[i]!) (b.qQ[i]!) (H.get 2 rfl).1 (H.get 0 rfl).1) H fun Hu H=>sq 1 (zjn (zT _ rfl (fun pg=>?_) (fun pg=>?_))))))))))
  ·replace pg:=xB pg
   replace pg:=of_decide_eq_false pg
   refine zcr (sp (Bv false) (zjr (zr5 (ret1 (Bv false) rfl rfl ⟨_,rfl,(sp (Bv false) (sp (Bv false) (xR (zR 18 5) (sp (Bv false) (sp (Bv false) (zjr (rH1 (Bv false) H ?_)))))))⟩))))
   rw [decide_eq_false (fun e=>by subst e;exact absurd rfl ql)]
  replace pg:=xn pg
  replace pg:=of_decide_eq_true pg
  refine qV (b_n (t_n (xJ (sw (zn i 1 rfl rfl qf (sq 1 (xO (qX (m' :=(a.qQ.length - ((i+1):Int)).toNat) qf ⟨_,i+1,uE5,?_,?_,rfl,N,H.pick [0,1] (zR 4 6)⟩))))))))
  ·omega
  ·exact eqTo_succ qf qf i2 ql
 refine zx4 (zcr (sp (Bv true) (zjr (ret1 (Bv true) rfl rfl ⟨_,rfl,(sp (Bv true) (sp (Bv true) (qJ 17 rfl rfl (oF rfl (qJ 17 rfl rfl (oL rfl (H.cell 1 rfl rfl) (qJ 17 rfl rfl (oF rfl (qJ 17 rfl rfl (oL rfl (H.cell 0 rfl rfl) (qJ 17 rfl rfl (sw (oq (equalI_ok _ a.qL b.qL (H.get 2 rfl).1 (H.get 5 rfl).1) H fun HK H=>sq 2 (zjr (rH1 (Bv (decide (a.qL=b.qL))) H ?_)))))))))))))))⟩))))
 rw [show decide (a=b)=decide (a.qL=b.qL) from decide_eq_decide.2 ⟨fun e=>by rw [e],fun e=>state_eq ql (eq_of_take (k:=i) qf qf i2) e⟩]
theorem behind_ok (w:World) (s:qC) (t:qH) (cs:yLL) (qP:zP w xk qG qE s.qA) (xm:zP w xW qO qN s.qB) (zi:zP w zD xg xf t.qK) (zI:zP w vF xI xG t.qQ) (xM:zP w zh qZ qY t.qL) (th:zP w Uk LK Kd cs) (p0:ve s) (p1:xZ s t) (p2:cs.length<=1000) (p3:∀ q,q < cs.length->Vu s (cs[q]!)) (p4:∀ q,q < cs.length->IsCh s t (cs[q]!)):Calls Tryz.prog 109 #[.agg #[yI s.xK,Sv qG s.qA.length qE,Sv qO s.qB.length qN],.agg #[Sv xg t.qK.length xf,Sv xI t.qQ.length xG,Sv qZ t.qL.length qY],Sv LK cs.length Kd] w (Ret (fun v w' =>∃ (kN:yOA) (kY:Nat) (kQ:Nat) (kZ:List Value) (kR:yLN),v=.tuple #[Sv kN kY kQ,yI ((Q8 s t cs).2)]/\Fresh w.heap.size [kR]/\St w w' [rr kN kY kQ 31 3 kZ] [xy true kR kZ ((Q8 s t cs).1)]) w):=by
 refine en func109 ntmps109 ?_
 have H:=((((((St.start w).arg th).arg xM).arg zI).arg zi).arg xm).arg qP
 clear qP xm zi zI xM th
 have N:=Fresh.nil w.heap.size
 refine zcr (sw (zZ H (yS s qG qE qO qN) fun b1 w2 H=>sw (zZ H (yT t xg xf xI xG qZ qY) fun b3 w4 H=>sq 1 (sp (yI 0) (zjc (sw (vW H underlying38 ti31 fun b5 w6 H=>sq 1 (zjcc (sq 1 (oN rfl (sp (yI 0) (zjn (qR ?_)))))))))))))
 replace H:=H.boxRow 0 rfl 3 0 rfl qj
 replace H:=H.jo (α:=qH)
 replace H:St _ _ [rr (aa b5 0) 0 0 31 3 [],.box b3 (yT t xg xf xI xG qZ qY) 31,.box b1 (yS s qG qE qO qN) 27] [xy true [] [] ([]:List qH),sF false xk qG qE s.qA,sF false xW qO qN s.qB,sF false zD xg xf t.qK,sF false vF xI xG t.qQ,sF false zh qZ qY t.qL,sF false Uk LK Kd cs]:=H
 refine zl ((fun Z0 Z1 Z2 Z3 Z4 Z5 Z6 Z7=>fun m' ρ w7=>∃ (xE:Env) (jB:yOA) (vC:Nat) (jw:Nat) (out:List qH) (bC:List Value) (QW:yLN) (k:Nat),ρ=upd (upd (upd (upd (upd (upd xE 3 (pp b1 0)) 4 (pp b3 0)) 8 (Sv jB vC jw)) 14 (Sv LK cs.length Kd)) 15 (yI cs.length)) 16 (yI k)/\out=yC s t cs k/\((k:Int)<=cs.length)/\(NoBad s t cs k)/\m' =(cs.length - (k:Int)).toNat/\Fresh w.heap.size [QW]/\St w w7 [rr jB vC jw 31 3 bC,Z0,Z1] [xy true QW bC out,Z2,Z3,Z4,Z5,Z6,Z7]) _ _ _ _ _ _ _ _) ((cs.length - (0:Int)).toNat) ⟨_,(aa b5 0),0,0,([]:List qH),[],[],0,uE6,(by rfl),qf,qx,rfl,N.emp,H⟩ ?_
 clear H N
 rintro m' ρ w8 ⟨xE,jB,vC,jw,out,bC,QW,k,rfl,rfl,i0,i1,rfl,N,H⟩
 have bR:=H.zg (α:=qH) 0 rfl 0 rfl qj
 have nl:=nextTo_len (s:=s) (t:=t) (cs:=cs) k
 refine zcr (sq 1 (zjn (xQ (cD rfl (fun h9=>?_) (fun h9=>?_)))))
 ·refine qV (t_n (xQ (qR (zcr ?_))))
  obtain ⟨np,Da,rfl⟩:=H.addr 6 rfl qf
  obtain ⟨qe,rB,GJ,H⟩:=H.zW 6 rfl k k qf qf qf
  refine oI rfl rfl (oL rfl (H.xP 1 rfl 0 rfl) (sq 1 (zjc (sw (xU (yS s qG qE qO qN) isAgg27 sizeOf27 rfl (qF (H.cells 2 rfl) 0 3) (sw (xU (yT t xg xf xI xG qZ qY) isAgg31 sizeOf31 rfl (qF (H.cells 1 rfl) 0 3) (sq 1 ?_))))))))
  have k3:=p3 k qf
  have k5:=p4 k qf
  have afK:=H.base.size
  have alA:=H.ltN (L:=[QW]) [2]
  refine sw (oc (step_ok _ s t (cs[k]!) (H.get 3 rfl).1 (H.get 4 rfl).1 (H.get 5 rfl).1 (H.get 6 rfl).1 (H.get 7 rfl).1 (H.get 0 rfl).1 qg qg qg qg) ?_)
  rintro _ yi ⟨gx,Ob,gE,kt,RZ,kx,Q2,CM,fp,KH,fA,rfl,M,K⟩ _
  replace N:=N.merge afK alA M
  replace H:=H.merge K M
  obtain rfl:=H.VM 0 rfl
  obtain rfl:=H.zg (α:=yLI) 1 rfl 0 rfl qj
  obtain rfl:=H.jC 2 rfl
  refine sq 3 (sw (xq H ti31 [yN,yN,yN] fun fH wT H=>(sw (xY H 0 [Sv gx ((((vV s t (cs[k]!)).1).qK).length) gE,Sv kt ((((vV s t (cs[k]!)).1).qQ).length) kx,Sv fp ((((vV s t (cs[k]!)).1).qL).length) fA] sizeOf31 fun Bo H=>sq 1 (zjcc (sq 1 (sp (Bv (((vV s t (cs[k]!)).2:Int) != 0)) (zjn (zT (((vV s t (cs[k]!)).2:Int) != 0) rfl (fun Cc=>?_) (fun Cc=>?_))))))))))
  ·replace Cc:=bne_iff_ne.1 Cc
   refine zcr (sq 3 (zjr (t_r (zr5 ?_))))
   replace H:=H.nilRow 31 3
   replace H:=H.jo (α:=qH)
   refine ret2 yN (yI ((vV s t (cs[k]!)).2)) rfl rfl rfl ⟨_,rfl,?_,H.base⟩
   rw [next_bad i1 qf ‹_›]
   exact ⟨none,0,0,[],[],rfl,(N.emp.pick [0]),H.pick [0] [0]⟩
  replace Cc:=xx Cc
  refine qV (t_n (zcr (sq 1 (sp (.func (.func 160) #[] #[pp fH 0]) (sw (zQ #[Sv jB vC jw,.func (.func 160) #[] #[pp fH 0]] rfl rfl call159 (en func159 ntmps159 ?_)))))))
  refine zcr (sp (Bv false) (zjc (sq 1 (sp (.func (.func 160) #[] #[pp fH 0]) (sw (zQ #[Sv jB vC jw,.func (.func 160) #[] #[pp fH 0]] rfl rfl call115 (en func115 ntmps115 ?_)))))))
  refine zcr (sp (yI 0) (zjcc (sq 1 (oN rfl (sp (yI 0) (zjn (qR (zl ((fun Z0 Z1 Z2 Z3 Z4 Z5 Z6 Z7 Z8 Z9 bx bG dy fj ix oS BX=>fun m' ρ HK=>∃ (xE:Env) (i:Nat),ρ=upd (upd (upd (upd xE 0 (Sv jB vC jw)) 1 (.func (.func 160) #[] #[pp fH 0])) 7 (yI vC)) 8 (yI i)/\((i:Int)<=vC)/\(NotIn (yC s t cs k) (vV s t (cs[k]!)).1 i)/\m' =(vC - (i:Int)).toNat/\Fresh w.heap.size [CM,QW]/\St w HK [Z0,Z1,Z2,Z3,Z4,Z5,Z6] [Z7,Z8,Z9,bx,bG,dy,fj,ix,oS,BX]) _ _ _ _ _ _ _ _ _ _ _ _ _ _ _ _ _) ((vC - (0:Int)).toNat) ⟨_,0,uE4,qf,qx,rfl,N,H⟩ ?_))))))))
  clear H N
  rintro m' ρ Ge ⟨xE,i,rfl,i0,i2,rfl,N,H⟩
  refine zcr (sq 1 (zjn (xQ (cD rfl (fun te=>?_) (fun te=>?_)))))
  ·refine qV (t_n (xQ (qR (zcr (sp (yI i) (sp (yI i) (zjc (sp (.func (.func 160) #[] #[pp fH 0]) (sq 1 (sp (yI i) ?_))))))))))
   obtain ⟨HM,rfl⟩:=H.jK 4 rfl qf
   obtain ⟨kD,kB,Rt,nf,mW,Zh,gY,gP,M0,aih,H⟩:=H.rowel_StateD 4 rfl 3 rfl (iv:=i) i qf qf
   refine oI rfl rfl (sw (xU [Sv kD ((((yC s t cs k)[i]!).qK).length) kB,Sv nf ((((yC s t cs k)[i]!).qQ).length) mW,Sv gY ((((yC s t cs k)[i]!).qL).length) gP] isAgg31 sizeOf31 rfl (qF (fun j v hj=>H.Vk 4 rfl (aih j v hj)) 0 3) (sw (zQ #[.agg #[Sv kD ((((yC s t cs k)[i]!).qK).length) kB,Sv nf ((((yC s t cs k)[i]!).qQ).length) mW,Sv gY ((((yC s t cs k)[i]!).qL).length) gP],pp fH 0] rfl rfl call160 (en func160 ntmps160 ?_)))))
   refine zcr (sw (zZ H [Sv kD ((((yC s t cs k)[i]!).qK).length) kB,Sv nf ((((yC s t cs k)[i]!).qQ).length) mW,Sv gY ((((yC s t cs k)[i]!).qL).length) gP] fun b32 CC H=>sp (Bv false) (zjc (sw (xU [Sv kD ((((yC s t cs k)[i]!).qK).length) kB,Sv nf ((((yC s t cs k)[i]!).qQ).length) mW,Sv gY ((((yC s t cs k)[i]!).qL).length) gP] isAgg31 sizeOf31 rfl (qF (H.cells 0 rfl) 0 3) (sw (xU [Sv gx ((((vV s t (cs[k]!)).1).qK).length) gE,Sv kt ((((vV s t (cs[k]!)).1).qQ).length) kx,Sv fp ((((vV s t (cs[k]!)).1).qL).length) fA] isAgg31 sizeOf31 rfl (qF (H.cells 1 rfl) 0 3) ?_)))))))
   obtain ⟨G34,ayB,h36⟩:=H.rowIsB 2 rfl
   obtain ⟨G37,asn,tm⟩:=H.jY (α:=yLI) 3 rfl 3 rfl qj
   obtain ⟨PX,ajg,h42⟩:=H.yH 4 rfl
   refine sw (oq (sameState_ok _ ((yC s t cs k)[i]!) ((vV s t (cs[k]!)).1) (H.get 0 rfl).1 (H.get 1 rfl).1 (H.get 2 rfl).1 h36 tm h42) H fun Dy H=>sq 1 (zjr (ret1 (Bv (decide (((yC s t cs k)[i]!)=((vV s t (cs[k]!)).1)))) rfl rfl ⟨_,rfl,?_⟩)))
   replace H:=H.erases [0]
   dsimp only [vz,List.eraseIdx] at H
   refine zjn (cD rfl (fun HO=>?_) (fun HO=>?_))
   ·refine zcr (sp (yI i) (sp (yI i) (zjr (zr5 (ret1 (yI i) rfl rfl ⟨_,rfl,(sw (o_pure (Bv true) (by show some (Value.bool (decide ((i:Int)>=0)))=some (Value.bool true);rw [decide_eq_true qf]) (sp (Bv true) (zjr (ret1 (Bv true) rfl rfl ⟨_,rfl,(sp (Bv false) (zjn (cFr rfl (qV (b_n (t_n (xJ (sw (zn k 1 rfl rfl qf (sq 1 (xO ?_)))))))))))⟩)))))⟩)))))
    refine qX (m' :=(cs.length - ((k+1):Int)).toNat) qf ⟨_,_,_,_,_,_,_,k+1,uE6,?_,?_,?_,rfl,(N.pick [1]),H.pick [4,5,6] (zR 6 7)⟩
    ·exact nextTo_in (mem_at (k:=i) qf ql)
    ·omega
    ·exact i1.succ ‹_›
   refine qV (b_n (t_n (xJ (sw (zn i 1 rfl rfl qf (sq 1 (xO (qX (m' :=(vC - ((i+1):Int)).toNat) qf ⟨_,i+1,uE4,?_,?_,rfl,N,H.pick (zR 0 7) (zR 3 10)⟩))))))))
   ·omega
   ·exact i2.succ ‹_›
  refine zx4 (zcr (sq 1 (zjr (ret1 (yI (-1)) rfl rfl ⟨_,rfl,(sp (Bv false) (sp (Bv false) (zjr (ret1 (Bv false) rfl rfl ⟨_,rfl,(sp (Bv true) (zjn (cTr rfl (xJ (sq 1 (sw (xU [Sv gx ((((vV s t (cs[k]!)).1).qK).length) gE,Sv kt ((((vV s t (cs[k]!)).1).qQ).length) kx,Sv fp ((((vV s t (cs[k]!)).1).qL).length) fA] isAgg31 sizeOf31 rfl (qF (H.cells 0 rfl) 0 3) ?_)))))))⟩))))⟩))))
  refine sw (zf H underlying38 ti31 [Sv gx ((((vV s t (cs[k]!)).1).qK).length) gE,Sv kt ((((vV s t (cs[k]!)).1).qQ).length) kx,Sv fp ((((vV s t (cs[k]!)).1).qL).length) fA] fun RC Pc H=>?_)
  obtain ⟨G52,N,amo,H⟩:=H.freezeB 2 rfl N (H.jA [0,3])
  have H0:=H
  obtain ⟨SD,Td,ajt,H⟩:=H.Ql (α:=yLI) 3 rfl 1 rfl qj
  replace N:Fresh w.heap.size [SD,G52,QW]:=Fresh.ice (N.pick [1,0,2]) H0 3 Td.1 Td.2 (H0.jA [0,4])
  clear H0
  obtain ⟨G57,N,afB,H⟩:=H.zN 4 rfl N (H.jA [0,1,5])
  refine sw (zo H 5 rfl 0 rfl underlying38 ti31 rfl qj rfl rfl rfl qw qp qf fun Ed GY w51 H=>?_)
  replace H:=H.VC 6 rfl 2 rfl 1 rfl 0 rfl
  replace N:Fresh w.heap.size [(QW++(G52++SD++G57))]:=(N.pick [2,1,0,3]).join.join.swap.join
  refine sq 1 (xO (b_n (t_n (xJ (sw (zn k 1 rfl rfl qf (sq 1 (xO (qX (m' :=(cs.length - ((k+1):Int)).toNat) qf ⟨_,_,_,_,_,_,_,k+1,uE6,?_,?_,?_,rfl,N,H.pick [5,6,7] (0::zR 8 6)⟩)))))))))
  ·exact nextTo_new (NotIn.out (fun j hj=>i2 j qf))
  ·omega
  ·exact i1.succ ‹_›
 refine zx4 (zcr (sq 2 (sp (yI 0) (zjr (ret2 (Sv jB vC jw) (yI 0) rfl rfl rfl ⟨_,rfl,?_,H.base⟩)))))
 rw [next_ok (fun j hj=>i1 j qf),show cs.length=k by omega]
 exact ⟨jB,vC,jw,bC,QW,rfl,N,H.pick [0] [0]⟩
end
section
def dotP:yLI->yLL->Nat->Int
 | n::y,p::ps,q=>n * p[q]! +dotP y ps q
 | _,_,_=>0
theorem packs_mem {K:Nat} {ae:yLL} (hP:PartsOk K ae):∀ (f k:Nat) (ai y:yLI),k+f=ae.length->RestOk K ai->y∈packs ae f k ai→
 (∀ v∈y,0<=v/\v<=1000)/\∀ q,q < K->0<=ai[q]! - dotP y (ae.drop k) q
 | 0,k,ai,y,hk,hR,h=>by
  rw [packs] at h
  split at h
  ·obtain rfl:=List.mem_singleton.1 h
   refine ⟨fun v hv=>by simp at hv,fun q hq=>?_⟩
   have:=(hR.2 q hq).1
   simp only [dotP];omega
  ·simp at h
 | f+1,k,ai,y,hk,hR,h=>by
  rw [packs,List.mem_flatMap] at h
  obtain ⟨n,hn,h⟩:=h
  obtain ⟨y',hy,rfl⟩:=List.mem_map.1 h
  have hb:=times_bd hP hR (k:=k) qf
  rw [List.mem_range] at hn
  obtain ⟨h1,h2⟩:=packs_mem hP f (k+1) _ y' qf (hR.take hP qf (n:=(n:Int)) qf qf) hy
  refine ⟨fun v hv=>?_,fun q hq=>?_⟩
  ·rcases List.mem_cons.1 hv with rfl | hv
   ·omega
   ·exact h1 v hv
  ·have h3:=h2 q hq
   rw [Vz (by have:=hR.1;omega),Int.neg_mul] at h3
   rw [drop_cons' (show k < ae.length by omega),dotP]
   omega
where
 drop_cons' {l:yLL} {i:Nat} (h:i < l.length):l.drop i=l[i]! :: l.drop (i+1):=by
  rw [getElem!_pos l i h];exact (List.drop_eq_getElem_cons h)
def Ve (s:qC) (x:yLI) (q:Nat):yLI->Int
 | []=>0
 | r::l=>x[r.toNat]! * ((s.qB[r.toNat]!).zk)[q]! +Ve s x q l
theorem sumOver_cat (s:qC) (x:yLI) (q:Nat):∀ (l m:yLI),Ve s x q (l++m)=Ve s x q l+Ve s x q m
 | [],m=>by simp [Ve]
 | r::l,m=>by rw [List.cons_append,Ve,Ve,sumOver_cat s x q l m];omega
theorem sumOver_dot {s:qC} {x:yLI} {q:Nat}:∀ {l y:yLI},y.length=l.length->(∀ j,j < l.length->x[(l[j]!).toNat]! =y[j]!)->Ve s x q l=dotP y (jd s l) q
 | [],[],_,_=>rfl
 | [],_::_,h,_=>by simp at h
 | _::_,[],h,_=>by simp at h
 | r::l,v::y,h,h1=>by
  have h0:=h1 0 qm
  simp only [List.getElem!_cons_zero] at h0
  show _=dotP (v::y) ((s.qB[r.toNat]!).zk::jd s l) q
  rw [Ve,dotP,h0,sumOver_dot (by simpa using h) fun j hj=>by simpa using h1 (j+1) qy]
theorem needS_cell {s:qC} {t:qH} {x:yLI} {c q:Nat} (hs:ve s):∀ k,k<=s.qB.length->(∀ i,i < k->(s.qB[i]!).qI=(c:Int)->¬ Appl s t i->x[i]! =0)->Vl s x k c q= -(Ve s x q (cellT s t k c))
 | 0,_,_=>by simp [Vl,cellT,applL,Ve]
 | k+1,hk,h=>by
  have ih:=needS_cell (t:=t) (c:=c) (q:=q) hs k qf fun i hi=>h i qf
  rw [Vl,ih,needF,at']
  by_cases e:(s.qB[k]!).qI=(c:Int)
  ·rw [if_pos qf]
   by_cases ha:Appl s t k
   ·rw [← cellT_yes ha e,sumOver_cat]
    simp only [Ve,Int.toNat_natCast]
    rw [Int.neg_mul];omega
   ·rw [← Xu ha,h k qf e ha]
    simp
  ·rw [if_neg (fun h' =>e (by have:=(hs.rule (i:=k) qf).1.1;omega)),← Q4 e];omega
theorem setTo_ne {o r x:yLI} {p:Nat}:∀ {k:Nat},(∀ j,j < k->(r[j]!).toNat≠p)->(∀ j,j < k->(r[j]!).toNat < o.length)->(setTo o r x k)[p]! =o[p]!
 | 0,_,_=>rfl
 | k+1,h,h1=>by
  rw [setTo,getset (by rw [setTo_len];exact h1 k qf),if_neg (fun e=>h k qf e.symm)]
  exact setTo_ne (fun j hj=>h j qf) fun j hj=>h1 j qf
theorem setTo_eq {o r x:yLI} {j:Nat}:∀ {k:Nat},(∀ a b,a < k->b < k->(r[a]!).toNat=(r[b]!).toNat->a=b)->(∀ j,j < k->(r[j]!).toNat < o.length)->j < k->(setTo o r x k)[(r[j]!).toNat]! =x[j]!
 | 0,_,_,h=>by omega
 | k+1,hi,h1,hj=>by
  rw [setTo,getset (by rw [setTo_len];exact h1 k qf)]
  by_cases e:j=k
  ·subst e;rw [if_pos rfl]
  ·rw [if_neg (fun e' =>e (hi j k qf qf e'))]
   exact setTo_eq (fun a b ha hb=>hi a b qf qf) (fun j hj=>h1 j qf) qf
theorem inj_lt {α:Type} [LT α] {l:List α} (irr:∀ x:α,¬ x < x) (h:l.Pairwise (· < ·)) {a b:Nat} (ha:a < l.length) (hb:b < l.length) (e:l[a]=l[b]):a=b:=by
 rw [List.pairwise_iff_getElem] at h
 rcases Nat.lt_trichotomy a b with h1 | h1 | h1
 ·have:=h a b ha hb h1;rw [e] at this;exact absurd this (irr _)
 ·exact h1
 ·have:=h b a hb ha h1;rw [e] at this;exact absurd this (irr _)
theorem applL_lt (s:qC) (t:qH) (k:Nat):(applL s t k).Pairwise (· < ·):=by
 unfold applL
 rw [List.pairwise_map]
 exact (List.pairwise_lt_range.filter _).imp fun h=>by simpa using h
theorem cellR_inj {a b:Nat} (ha:a < (je s t c).length) (hb:b < (je s t c).length) (h:((je s t c)[a]!).toNat=((je s t c)[b]!).toNat):a=b:=by
 have h1:=(cellR_at ha).1
 have h2:=(cellR_at hb).1
 have hn:(je s t c).Pairwise (· < ·):=by unfold je cellT;exact (applL_lt s t _).filter _
 have e:(je s t c)[a]! =(je s t c)[b]! :=by omega
 rw [getElem!_pos _ a ha,getElem!_pos _ b hb] at e
 exact inj_lt (fun x=>by omega) hn ha hb e
theorem live_cell (h:i < (xN s t k).length) (h' :i' < (xN s t k).length):∃ c c',(xN s t k)[i]! =je s t c/\(xN s t k)[i']! =je s t c' /\(c=c' ->i=i'):=by
 have hl:i < (Vd s t k).length:=by simpa [xN] using h
 have KM :i' < (Vd s t k).length:=by simpa [xN] using h'
 have hn:(Vd s t k).Pairwise (· < ·):=by unfold Vd;exact List.pairwise_lt_range.filter _
 refine ⟨(Vd s t k)[i],(Vd s t k)[i'],?_,?_,fun e=>inj_lt (fun x=>by omega) hn hl KM e⟩
 ·rw [getElem!_pos _ i h];simp [xN]
 ·rw [getElem!_pos _ i' h'];simp [xN]
theorem rules_inj (h:i < (xN s t k).length) (h' :i' < (xN s t k).length) (hj:j < ((xN s t k)[i]!).length) (rd :j' < ((xN s t k)[i']!).length)
 (e:(((xN s t k)[i]!)[j]!).toNat=(((xN s t k)[i']!)[j']!).toNat):i=i' /\j=j' :=by
 obtain ⟨c,c',e1,e2,e3⟩:=live_cell h h'
 rw [e1] at hj e
 rw [e2] at rd e
 have h1:=cellR_at hj
 have h2:=cellR_at rd
 have hc:c=c' :=by
  have a:=h1.2.2.2
  rw [e] at a
  omega
 subst hc
 exact ⟨e3 rfl,cellR_inj hj rd e⟩
def Says (s:qC) (t:qH) (k m:Nat) (x:yLI):Prop:=
 x.length=s.qB.length/\(∀ i,i < m->∃ y,y∈(zu s t k)[i]! /\∀ j,j < ((xN s t k)[i]!).length->x[(((xN s t k)[i]!)[j]!).toNat]! =y[j]!)∧
 ∀ r,r < s.qB.length->(∀ i,i < m->∀ j,j < ((xN s t k)[i]!).length->(((xN s t k)[i]!)[j]!).toNat≠r)->x[r]! =0
theorem prodG_says {s:qC} {t:qH} {k:Nat}:∀ m,m<=(xN s t k).length->∀ x∈y7 s.qB.length (xN s t k) (zu s t k) m,Says s t k m x
 | 0,_,x,h=>by
  obtain rfl:=List.mem_singleton.1 h
  refine ⟨by simp,fun i hi=>by omega,fun r hr _=>?_⟩
  rw [getElem!_pos _ r (by simpa using hr)];simp
 | m+1,hm,x,h=>by
  rw [y7,nextK,List.mem_flatMap] at h
  obtain ⟨o,ho,h⟩:=h
  obtain ⟨y,hy,rfl⟩:=List.mem_map.1 h
  obtain ⟨h1,h2,h3⟩:=prodG_says m qf o (List.mem_of_mem_take ho)
  have hb:∀ j,j < ((xN s t k)[m]!).length->(((xN s t k)[m]!)[j]!).toNat < o.length:=fun j hj=>by rw [h1];exact (choice_at qf hj).2
  have hn:∀ a b,a < ((xN s t k)[m]!).length->b < ((xN s t k)[m]!).length->(((xN s t k)[m]!)[a]!).toNat=(((xN s t k)[m]!)[b]!).toNat->a=b:=fun a b ha RX e=>(rules_inj (show m < _ by omega) (show m < _ by omega) ha RX e).2
  refine ⟨by rw [setAll_len];exact h1,fun i hi=>?_,fun r hr kS=>?_⟩
  ·by_cases e:i=m
   ·subst e
    exact ⟨y,hy,fun j hj=>setTo_eq hn hb hj⟩
   ·obtain ⟨y',hy',h4⟩:=h2 i qf
    refine ⟨y',hy',fun j hj=>?_⟩
    rw [← h4 j hj]
    exact setTo_ne (fun a ha e' =>e (rules_inj (show m < _ by omega) (show i < _ by omega) ha hj e').1.symm) hb
  ·rw [← h3 r hr fun i hi j hj=>kS i qf j hj]
   exact setTo_ne (fun a ha=>kS m qf a ha) hb
theorem cellT_mem (hi:i < s.qB.length) (ha:Appl s t i) (hc:(s.qB[i]!).qI=(c:Int)):(i:Int)∈je s t c:=by
 unfold je cellT
 exact List.mem_filter.2 ⟨mem_applL.2 ⟨by omega,by simpa using hi,by simpa using ha⟩,by rw [Int.toNat_natCast];exact decide_eq_true hc⟩
theorem cell_live (hk:c < k) (h:¬ (je s t c).length=0):∃ i,i < (xN s t k).length/\(xN s t k)[i]! =je s t c/\(zu s t k)[i]! =(cellP s t c).1:=by
 have hm:c∈Vd s t k:=List.mem_filter.2 ⟨List.mem_range.2 hk,decide_eq_true h⟩
 obtain ⟨i,hi,e⟩:=List.mem_iff_getElem.1 hm
 refine ⟨i,by simpa [xN] using hi,?_,?_⟩
 ·rw [getElem!_pos _ i (by simpa [xN] using hi)];simp [xN,e]
 ·rw [getElem!_pos _ i (by simpa [zu] using hi)];simp [zu,e]
theorem says_choice (hs:ve s) (ht:xZ s t) {x:yLI} (h:Says s t s.qA.length (xN s t s.qA.length).length x):Vu s x/\IsCh s t x:=by
 obtain ⟨h1,h2,h3⟩:=h
 have hB:=ht.2.1
 -- a packing of a cell
 have cell:∀ c,c < s.qA.length->¬ (je s t c).length=0->∃ y,y.length=(je s t c).length/\(∀ v∈y,0<=v/\v<=1000)/\(∀ j,j < (je s t c).length->x[((je s t c)[j]!).toNat]! =y[j]!)/\∀ q,q < zt s->0<=(t.qQ[c]!)[q]! - dotP y (jd s (je s t c)) q:=fun c hc hr=>by
  obtain ⟨i,hi,e1,e2⟩:=cell_live (s:=s) (t:=t) hc hr
  obtain ⟨y,hy,h4⟩:=h2 i hi
  rw [e1] at h4
  rw [e2] at hy
  unfold cellP at hy
  rcases all_cases (b:=t.qQ[c]!) (ae:=jd s (je s t c)) with h5 | ⟨_,h5,_⟩
  ·rw [h5] at hy;simp at hy
  ·rw [h5] at hy
   have h6:=packs_mem (cell_parts (t:=t) hs c) _ 0 _ y (Nat.zero_add _) (cell_rest ht qf) hy
   exact ⟨y,(packs_len hy).trans (Xp _ _),h6.1,h4,h6.2⟩
 have at' :∀ i,i < s.qB.length->(x[i]! =0\/Appl s t i)/\0<=x[i]! /\x[i]! <=1000:=fun i hi=>by
  by_cases hex:∃ a b,a < (xN s t s.qA.length).length/\b < ((xN s t s.qA.length)[a]!).length/\(((xN s t s.qA.length)[a]!)[b]!).toNat=i
  ·obtain ⟨a,b,ha,hb,e⟩:=hex
   obtain ⟨c,hc,hr,e1,_⟩:=live_at ha
   rw [e1] at hb e
   obtain ⟨y,hl,hv,hx,_⟩:=cell c hc hr
   have h5:=cellR_at hb
   have h6:=hx b hb
   rw [e] at h5 h6
   have h7:=hv (y[b]!) (by rw [getElem!_pos y b qf];exact List.getElem_mem _)
   rw [h6]
   exact ⟨.inr h5.2.2.1,h7⟩
  ·have h5:=h3 i hi fun a ha b hb e=>hex ⟨a,b,ha,hb,e⟩
   rw [h5]
   exact ⟨.inl rfl,by omega,by omega⟩
 have hc:Vu s x:=⟨h1,fun i hi=>(at' i qf).2⟩
 refine ⟨hc,fun i hi hb=>?_,fun p hp q hq=>?_⟩
 ·rcases (at' i qf).1 with h5 | h5
  ·have:=hb.1;omega
  ·exact hb.2 h5
 ·rw [h1] at hq ⊢
  have he:=restR_ent hs ht hc s.qB.length (Nat.le_refl _)
  have hl:((Qb s t x s.qB.length)[p]!).length=zt s:=(he.sh.2 p (by unfold xX;omega)).1
  have heq:=he.eq p q (by unfold xX;omega) qf
  rw [heq]
  have hn:=needS_cell (t:=t) (x:=x) (c:=p) (q:=q) hs s.qB.length (Nat.le_refl _) fun i hi _ ha=>((at' i hi).1).resolve_right ha
  rw [hn]
  have lr:=(cell_rest (s:=s) ht hp).2 q qf
  by_cases hr:(je s t p).length=0
  ·show 0<=(t.qQ[p]!)[q]! + -(Ve s x q (je s t p))
   rw [List.eq_nil_of_length_eq_zero hr]
   simp only [Ve];omega
  ·obtain ⟨y,hy,_,hx,hd⟩:=cell p qf hr
   have h6:=hd q qf
   rw [← sumOver_dot hy hx] at h6
   show 0<=(t.qQ[p]!)[q]! + -(Ve s x q (je s t p))
   omega
theorem cho_ok (hs:ve s) (ht:xZ s t) (hk:k < (jf s t).1.length):Vu s ((jf s t).1[k]!)/\IsCh s t ((jf s t).1[k]!):=by
 have hm:(jf s t).1[k]! ∈(jf s t).1:=mem_at_L hk
 generalize (jf s t).1[k]! =x at hm
 unfold jf at hm
 split at hm
 ·simp at hm
 ·split at hm
  ·simp at hm
  ·have hx:x∈inOrder (y7 s.qB.length (xN s t s.qA.length) (zu s t s.qA.length) (zu s t s.qA.length).length):=hm
   unfold inOrder at hx
   have IX:=packsL_le s t s.qA.length
   split at hx
   ·next h=>exact says_choice hs ht (by rw [← IX];exact prodG_says _ qf x ((Classical.choose_spec h).1.symm.subset hx))
   ·exact says_choice hs ht (by rw [← IX];exact prodG_says _ qf x hx)
theorem halt_cells (h:Halted s t) (c:Nat):(je s t c).length=0:=by
 have h1:=appls_halt.2 h
 have h2:(je s t c).length<=(appls s t).length:=List.length_filter_le _ _
 omega
theorem halt_live {s:qC} {t:qH} (h:Halted s t):∀ k,zu s t k=[]
 | 0=>rfl
 | k+1=>by rw [← packsL_no (halt_cells h k)];exact halt_live h k
theorem halt_cho (h:Halted s t):(jf s t).2=0:=by
 unfold jf
 rw [if_neg (fun h' =>h' fun c _=>.inl (halt_cells h c)),halt_live h,if_neg (by show ¬ 1 > 300;omega)]
open Classical in
noncomputable def xu (s:qC) (t:qH):List qH×Int:=if Halted s t then ([],0) else if (jf s t).2≠0 then ([],(jf s t).2) else Q8 s t (jf s t).1
theorem succ_h (h:Halted s t):xu s t=([],0):=by rw [xu,if_pos h]
theorem succ_c (h:(jf s t).2≠0):xu s t=([],(jf s t).2):=by rw [xu,if_neg (fun h' =>h (halt_cho h')),if_pos h]
theorem succ_0 (h:¬ Halted s t) (h1:(jf s t).2=0):xu s t=Q8 s t (jf s t).1:=by rw [xu,if_neg h,if_neg (fun x=>x h1)]
open Classical in
noncomputable def Qr (s:qC) (t:qH):List qH×Int:=if ¬ (ve s/\xZ s t) then ([],1) else xu s t
theorem nx_1 (h:¬ (ve s/\xZ s t)):Qr s t=([],1):=by rw [Qr,if_pos h]
theorem nx_0 (h:ve s/\xZ s t):Qr s t=xu s t:=by rw [Qr,if_neg (by simpa using h)]
end
section
variable {qE qN xf xG qY : Nat}
theorem l03Succ_ok (w:World) (s:qC) (t:qH) (hs:vY w bs os (yS s qG qE qO qN)) (qP:zP w xk qG qE s.qA) (xm:zP w xW qO qN s.qB) (ht:vY w bt ot (yT t xg xf xI xG qZ qY)) (zi:zP w zD xg xf t.qK) (zI:zP w vF xI xG t.qQ) (xM:zP w zh qZ qY t.qL) (p0:ve s) (p1:xZ s t):Calls Tryz.prog 61 #[pp bs os,pp bt ot] w (Ret (fun v w' =>∃ (kN:yOA) (kY:Nat) (kQ:Nat) (kZ:List Value) (kR:yLN),v=.tuple #[Sv kN kY kQ,yI ((xu s t).2)]/\Fresh w.heap.size [kR]/\St w w' [rr kN kY kQ 31 3 kZ] [xy true kR kZ ((xu s t).1)]) w):=by
 refine en func61 ntmps61 ?_
 have H:=(((((((St.start w).arg xM).arg zI).arg zi).Xr ht).arg xm).arg qP).Xr hs
 clear hs qP xm ht zi zI xM
 have N:=Fresh.nil w.heap.size
 refine zcr (sq 1 (sp (yI 0) (zjcc (sq 2 (sw (oq (l03Halted_ok _ s t (qF (H.get 0 rfl) 0 3) (H.get 1 rfl).1 (H.get 2 rfl).1 (qF (H.get 3 rfl) 0 3) (H.get 4 rfl).1 (H.get 5 rfl).1 (H.get 6 rfl).1 qg qg) H fun w2 H=>zjn (cP rfl (fun h4=>?_) (fun h4=>?_))))))))
 ·refine zcr (sw (vW H underlying38 ti31 fun b5 w6 H=>sq 1 (sp (yI 0) (zjr (t_r ?_)))))
  replace H:=H.boxRow 0 rfl 3 0 rfl qj
  replace H:=H.jo (α:=qH)
  replace H:St _ _ [rr (aa b5 0) 0 0 31 3 []] [xy true [] [] ([]:List qH),atF bs os (yS s qG qE qO qN),sF false xk qG qE s.qA,sF false xW qO qN s.qB,atF bt ot (yT t xg xf xI xG qZ qY),sF false zD xg xf t.qK,sF false vF xI xG t.qQ,sF false zh qZ qY t.qL]:=H
  refine ret2 (Sv (aa b5 0) 0 0) (yI 0) rfl rfl rfl ⟨_,rfl,?_,H.base⟩
  rw [succ_h (by assumption)]
  exact ⟨(aa b5 0),0,0,[],[],rfl,N.emp,H.pick [0] [0]⟩
 refine qV (t_n (zcr (sq 2 ?_)))
 have agF:=H.base.size
 refine sw (oc (l03Choices_ok _ s t (qF (H.get 0 rfl) 0 3) (H.get 1 rfl).1 (H.get 2 rfl).1 (qF (H.get 3 rfl) 0 3) (H.get 4 rfl).1 (H.get 5 rfl).1 (H.get 6 rfl).1 qg qg) ?_)
 rintro _ w8 ⟨aik,ar4,amz,S2,WA,rfl,M,K⟩ _
 replace N:=N.merge agF qm M
 replace H:=H.merge K M
 obtain rfl:=H.zg (α:=yLI) 0 rfl 0 rfl qj
 refine sq 5 (zjcc (sq 1 (sp (Bv (((jf s t).2:Int) != 0)) (zjn (zT (((jf s t).2:Int) != 0) rfl (fun ir=>?_) (fun ir=>?_))))))
 ·replace ir:=bne_iff_ne.1 ir
  refine zcr (sw (vW H underlying38 ti31 fun sO yi H=>sq 3 (zjr (t_r ?_))))
  replace H:=H.boxRow 0 rfl 3 0 rfl qj
  replace H:=H.jo (α:=qH)
  replace H:St _ _ [rr (aa sO 0) 0 0 31 3 [],rr aik (((jf s t).1).length) amz 24 1 S2] [xy true [] [] ([]:List qH),xy true WA S2 ((jf s t).1),atF bs os (yS s qG qE qO qN),sF false xk qG qE s.qA,sF false xW qO qN s.qB,atF bt ot (yT t xg xf xI xG qZ qY),sF false zD xg xf t.qK,sF false vF xI xG t.qQ,sF false zh qZ qY t.qL]:=H
  refine ret2 (Sv (aa sO 0) 0 0) (yI ((jf s t).2)) rfl rfl rfl ⟨_,rfl,?_,H.base⟩
  rw [succ_c ‹_›]
  exact ⟨(aa sO 0),0,0,[],[],rfl,(N.emp.pick [0]),H.pick [0] [0]⟩
 replace ir:=xx ir
 refine qV (t_n (zcr (sq 3 ?_)))
 obtain ⟨G16,axC,dd⟩:=H.jY (α:=yLI) 0 rfl 0 rfl qj
 have ln:=cho_len s t
 have cc:=fun q (hq:q < (jf s t).1.length)=>(cho_ok p0 p1 hq).1
 have alb:=H.base.size
 have afx:=H.ltN (L:=[WA]) [0]
 refine sw (oc (l03Next_ok _ s t ((jf s t).1) (qF (H.get 1 rfl) 0 3) (H.get 2 rfl).1 (H.get 3 rfl).1 (qF (H.get 4 rfl) 0 3) (H.get 5 rfl).1 (H.get 6 rfl).1 (H.get 7 rfl).1 dd qg qg qg qg) ?_)
 rintro _ rO ⟨Kp,apH,K6,XS,Yv,rfl,M,K⟩ _
 replace N:=N.merge alb afx M
 replace H:=H.merge K M
 obtain rfl:=H.zg (α:=qH) 0 rfl 0 rfl qj
 refine sq 4 (zjr (ret2 (Sv Kp (((Q8 s t ((jf s t).1)).1).length) K6) (yI ((Q8 s t ((jf s t).1)).2)) rfl rfl rfl ⟨_,rfl,?_,H.base⟩))
 rw [succ_0 (by assumption) ql]
 exact ⟨Kp,((Q8 s t ((jf s t).1)).1).length,K6,XS,Yv,rfl,(N.pick [0]),H.pick [0] [0]⟩
theorem nextStates_ok (w:World) (s:qC) (t:qH) (qP:zP w xk qG qE s.qA) (xm:zP w xW qO qN s.qB) (zi:zP w zD xg xf t.qK) (zI:zP w vF xI xG t.qQ) (xM:zP w zh qZ qY t.qL) (p0:ve s) (p1:xZ s t):Calls Tryz.prog 62 #[.agg #[yI s.xK,Sv qG s.qA.length qE,Sv qO s.qB.length qN],.agg #[Sv xg t.qK.length xf,Sv xI t.qQ.length xG,Sv qZ t.qL.length qY]] w (Ret (fun v w' =>∃ (kN:yOA) (kY:Nat) (kQ:Nat) (kZ:List Value) (kR:yLN),v=.tuple #[Sv kN kY kQ,yI ((xu s t).2)]/\Fresh w.heap.size [kR]/\St w w' [rr kN kY kQ 31 3 kZ] [xy true kR kZ ((xu s t).1)]) w):=by
 refine en func62 ntmps62 ?_
 have H:=(((((St.start w).arg xM).arg zI).arg zi).arg xm).arg qP
 clear qP xm zi zI xM
 have N:=Fresh.nil w.heap.size
 refine zcr (sw (zZ H (yS s qG qE qO qN) fun b1 w2 H=>sw (zZ H (yT t xg xf xI xG qZ qY) fun b3 w4 H=>sq 1 (sp (yI 0) (zjc (sw (xU (yS s qG qE qO qN) isAgg27 sizeOf27 rfl (qF (H.cells 1 rfl) 0 3) (sw (xU (yT t xg xf xI xG qZ qY) isAgg31 sizeOf31 rfl (qF (H.cells 0 rfl) 0 3) ?_)))))))))
 have sz8:=H.base.size
 refine sw (oc (choices_ok _ s t (H.get 0 rfl).1 (H.get 1 rfl).1 (H.get 2 rfl).1 (H.get 3 rfl).1 (H.get 4 rfl).1 qg qg) ?_)
 rintro _ w6 ⟨aur,av3,asE,awc,agC,rfl,M,K⟩ _
 replace N:=N.merge sz8 qm M
 replace H:=H.merge K M
 obtain rfl:=H.zg (α:=yLI) 0 rfl 0 rfl qj
 refine sq 5 (zjcc (sq 1 (sp (Bv (((jf s t).2:Int) != 0)) (zjn (zT (((jf s t).2:Int) != 0) rfl (fun aU=>?_) (fun aU=>?_))))))
 ·replace aU:=bne_iff_ne.1 aU
  refine zcr (sq 3 (zjr (t_r ?_)))
  replace H:=H.nilRow 31 3
  replace H:=H.jo (α:=qH)
  refine ret2 yN (yI ((jf s t).2)) rfl rfl rfl ⟨_,rfl,?_,H.base⟩
  rw [succ_c ‹_›]
  exact ⟨none,0,0,[],[],rfl,(N.emp.pick [0]),H.pick [0] [0]⟩
 replace aU:=xx aU
 refine qV (t_n (zcc (sw (xU (yS s qG qE qO qN) isAgg27 sizeOf27 rfl (qF (H.cells 2 rfl) 0 3) (sw (xU (yT t xg xf xI xG qZ qY) isAgg31 sizeOf31 rfl (qF (H.cells 1 rfl) 0 3) (sw (oc (applicable_ok _ s t (H.get 1 rfl).1 (H.get 2 rfl).1 (H.get 3 rfl).1 (H.get 4 rfl).1 (H.get 5 rfl).1 qg qg) ?_))))))))
 rintro _ xV ⟨kH,abX,kM,rfl,M,K⟩ _
 replace H:=H.merge K M
 obtain rfl:=H.jC 0 rfl
 refine oN rfl (sp (Bv (((appls s t).length:Int) == 0)) (zjn (cE rfl (fun dd=>?_) (fun dd=>?_))))
 ·refine zcr (sq 1 (sp (yI 0) (zjr (t_r ?_))))
  replace H:=H.nilRow 31 3
  replace H:=H.jo (α:=qH)
  refine ret2 yN (yI 0) rfl rfl rfl ⟨_,rfl,?_,H.base⟩
  rw [succ_h (by exact appls_halt.1 qf)]
  exact ⟨none,0,0,[],[],rfl,(N.emp.pick [0]),H.pick [0] [0]⟩
 refine qV (t_n (zcr (sw (xU (yS s qG qE qO qN) isAgg27 sizeOf27 rfl (qF (H.cells 3 rfl) 0 3) (sw (xU (yT t xg xf xI xG qZ qY) isAgg31 sizeOf31 rfl (qF (H.cells 2 rfl) 0 3) (sq 1 ?_)))))))
 obtain ⟨G19,atL,lN⟩:=H.jY (α:=yLI) 1 rfl 0 rfl qj
 have ln:=cho_len s t
 have cc:=fun q (hq:q < (jf s t).1.length)=>(cho_ok p0 p1 hq).1
 have ci:=fun q (hq:q < (jf s t).1.length)=>(cho_ok p0 p1 hq).2
 have ajq:=H.base.size
 have agW:=H.ltN (L:=[agC]) [0]
 refine sw (oc (behind_ok _ s t ((jf s t).1) (H.get 1 rfl).1 (H.get 2 rfl).1 (H.get 3 rfl).1 (H.get 4 rfl).1 (H.get 5 rfl).1 lN qg qg qg qg qg) ?_)
 rintro _ wT ⟨Kn,apn,MC,Wf,Yd,rfl,M,K⟩ _
 replace N:=N.merge ajq agW M
 replace H:=H.merge K M
 obtain rfl:=H.zg (α:=qH) 0 rfl 0 rfl qj
 refine sq 4 (zjr (ret2 (Sv Kn (((Q8 s t ((jf s t).1)).1).length) MC) (yI ((Q8 s t ((jf s t).1)).2)) rfl rfl rfl ⟨_,rfl,?_,H.base⟩))
 rw [succ_0 (by (exact fun h=>by have:=appls_halt.2 h;omega)) ql]
 exact ⟨Kn,((Q8 s t ((jf s t).1)).1).length,MC,Wf,Yd,rfl,(N.pick [0]),H.pick [0] [0]⟩
theorem specNx_ok (w:World) (s:qC) (t:qH) (qP:zP w xk qG qE s.qA) (xm:zP w xW qO qN s.qB) (zi:zP w zD xg xf t.qK) (zI:zP w vF xI xG t.qQ) (xM:zP w zh qZ qY t.qL):Calls Tryz.prog 14 #[.agg #[yI s.xK,Sv qG s.qA.length qE,Sv qO s.qB.length qN],.agg #[Sv xg t.qK.length xf,Sv xI t.qQ.length xG,Sv qZ t.qL.length qY]] w (Ret (fun v w' =>∃ (kN:yOA) (kY:Nat) (kQ:Nat) (kZ:List Value) (kR:yLN),v=.tuple #[Sv kN kY kQ,yI ((Qr s t).2)]/\Fresh w.heap.size [kR]/\St w w' [rr kN kY kQ 31 3 kZ] [xy true kR kZ ((Qr s t).1)]) w):=by
 refine en func14 ntmps14 ?_
 have H:=(((((St.start w).arg xM).arg zI).arg zi).arg xm).arg qP
 clear qP xm zi zI xM
 have N:=Fresh.nil w.heap.size
 refine zcr (sw (zZ H (yS s qG qE qO qN) fun b1 w2 H=>sw (zZ H (yT t xg xf xI xG qZ qY) fun b3 w4 H=>sq 1 (sp (yI 0) (zjcc (sw (oq (l03Both_ok _ s t (qF (H.cells 1 rfl) 0 3) (H.get 0 rfl).1 (H.get 1 rfl).1 (qF (H.cells 0 rfl) 0 3) (H.get 2 rfl).1 (H.get 3 rfl).1 (H.get 4 rfl).1) H fun w6 H=>sq 1 (zjn (cQ rfl (fun h8=>?_) (fun h8=>?_))))))))))
 ·refine zcr (sw (vW H underlying38 ti31 fun b9 nq H=>sq 1 (sp (yI 1) (zjr (t_r ?_)))))
  replace H:=H.boxRow 0 rfl 3 0 rfl qj
  replace H:=H.jo (α:=qH)
  replace H:St _ _ [rr (aa b9 0) 0 0 31 3 [],.box b3 (yT t xg xf xI xG qZ qY) 31,.box b1 (yS s qG qE qO qN) 27] [xy true [] [] ([]:List qH),sF false xk qG qE s.qA,sF false xW qO qN s.qB,sF false zD xg xf t.qK,sF false vF xI xG t.qQ,sF false zh qZ qY t.qL]:=H
  refine ret2 (Sv (aa b9 0) 0 0) (yI 1) rfl rfl rfl ⟨_,rfl,?_,H.base⟩
  rw [nx_1 ‹_›]
  exact ⟨(aa b9 0),0,0,[],[],rfl,N.emp,H.pick [0] [0]⟩
 have k0:=(‹ve s/\xZ s t›:ve s/\xZ s t)
 have k1:=k0.1
 have k2:=k0.2
 refine qV (t_n (zcr ?_))
 have Nd:=H.base.size
 refine sw (oc (l03Succ_ok _ s t (qF (H.cells 1 rfl) 0 3) (H.get 0 rfl).1 (H.get 1 rfl).1 (qF (H.cells 0 rfl) 0 3) (H.get 2 rfl).1 (H.get 3 rfl).1 (H.get 4 rfl).1 qg qg) ?_)
 rintro _ uE ⟨MU,apq,Ma,VV,ZX,rfl,M,K⟩ _
 replace N:=N.merge Nd qm M
 replace H:=H.merge K M
 obtain rfl:=H.zg (α:=qH) 0 rfl 0 rfl qj
 refine sq 4 (zjr (ret2 (Sv MU (((xu s t).1).length) Ma) (yI ((xu s t).2)) rfl rfl rfl ⟨_,rfl,?_,H.base⟩))
 rw [nx_0 k0]
 exact ⟨MU,((xu s t).1).length,Ma,VV,ZX,rfl,N,H.pick [0] [0]⟩
theorem implNx_ok (w:World) (s:qC) (t:qH) (qP:zP w xk qG qE s.qA) (xm:zP w xW qO qN s.qB) (zi:zP w zD xg xf t.qK) (zI:zP w vF xI xG t.qQ) (xM:zP w zh qZ qY t.qL):Calls Tryz.prog 15 #[.agg #[yI s.xK,Sv qG s.qA.length qE,Sv qO s.qB.length qN],.agg #[Sv xg t.qK.length xf,Sv xI t.qQ.length xG,Sv qZ t.qL.length qY]] w (Ret (fun v w' =>∃ (kN:yOA) (kY:Nat) (kQ:Nat) (kZ:List Value) (kR:yLN),v=.tuple #[Sv kN kY kQ,yI ((Qr s t).2)]/\Fresh w.heap.size [kR]/\St w w' [rr kN kY kQ 31 3 kZ] [xy true kR kZ ((Qr s t).1)]) w):=by
 refine en func15 ntmps15 ?_
 have H:=(((((St.start w).arg xM).arg zI).arg zi).arg xm).arg qP
 clear qP xm zi zI xM
 have N:=Fresh.nil w.heap.size
 refine zcr (sw (zZ H (yS s qG qE qO qN) fun b1 w2 H=>sw (zZ H (yT t xg xf xI xG qZ qY) fun b3 w4 H=>sq 1 (sp (yI 0) (zjcc (sw (xU (yS s qG qE qO qN) isAgg27 sizeOf27 rfl (qF (H.cells 1 rfl) 0 3) (sw (xU (yT t xg xf xI xG qZ qY) isAgg31 sizeOf31 rfl (qF (H.cells 0 rfl) 0 3) (sw (oq (validState_ok _ s t (H.get 0 rfl).1 (H.get 1 rfl).1 (H.get 2 rfl).1 (H.get 3 rfl).1 (H.get 4 rfl).1) H fun w6 H=>sq 1 (zjn (cQ rfl (fun h8=>?_) (fun h8=>?_))))))))))))))
 ·refine zcr (sq 1 (sp (yI 1) (zjr (t_r ?_))))
  replace H:=H.nilRow 31 3
  replace H:=H.jo (α:=qH)
  refine ret2 yN (yI 1) rfl rfl rfl ⟨_,rfl,?_,H.base⟩
  rw [nx_1 ‹_›]
  exact ⟨none,0,0,[],[],rfl,N.emp,H.pick [0] [0]⟩
 have k0:=(‹ve s/\xZ s t›:ve s/\xZ s t)
 have k1:=k0.1
 have k2:=k0.2
 refine qV (t_n (zcr (sw (xU (yS s qG qE qO qN) isAgg27 sizeOf27 rfl (qF (H.cells 1 rfl) 0 3) (sw (xU (yT t xg xf xI xG qZ qY) isAgg31 sizeOf31 rfl (qF (H.cells 0 rfl) 0 3) ?_))))))
 have alS:=H.base.size
 refine sw (oc (nextStates_ok _ s t (H.get 0 rfl).1 (H.get 1 rfl).1 (H.get 2 rfl).1 (H.get 3 rfl).1 (H.get 4 rfl).1 qg qg) ?_)
 rintro _ nq ⟨Sr,at2,Wk,aka,ai8,rfl,M,K⟩ _
 replace N:=N.merge alS qm M
 replace H:=H.merge K M
 obtain rfl:=H.zg (α:=qH) 0 rfl 0 rfl qj
 refine sq 4 (zjr (ret2 (Sv Sr (((xu s t).1).length) Wk) (yI ((xu s t).2)) rfl rfl rfl ⟨_,rfl,?_,H.base⟩))
 rw [nx_0 k0]
 exact ⟨Sr,((xu s t).1).length,Wk,aka,ai8,rfl,N,H.pick [0] [0]⟩
end
section
theorem nextTo_ok {s:qC} {t:qH} {cs:yLL}:∀ {k:Nat},NoBad s t cs k->∀ u∈yC s t cs k,xZ s u
 | 0,_,u,hu=>by simp [yC] at hu
 | k+1,h,u,hu=>by
  have ih:=nextTo_ok (s:=s) (t:=t) (cs:=cs) (k:=k) fun j hj=>h j qf
  rw [yC] at hu
  split at hu
  ·exact ih u hu
  ·rcases List.mem_append.1 hu with h1 | h1
   ·exact ih u h1
   ·obtain rfl:=List.mem_singleton.1 h1
    exact stepBy_ok (Classical.byContradiction fun hc=>h k qf hc)
theorem succ_ok:∀ u∈(xu s t).1,xZ s u:=fun u hu=>by
 rw [xu] at hu
 split at hu
 ·simp at hu
 ·split at hu
  ·simp at hu
  ·rw [Q8] at hu
   split at hu
   ·next h=>exact nextTo_ok h u hu
   ·simp at hu
theorem least_of {g:Nat->Bool}:∀ k,g k=true->∃ m,m<=k/\g m=true/\∀ j,j < m->g j=false:=fun k=>Nat.strongRecOn k fun k ih h=>by
 by_cases hx:∃ j,j < k/\g j=true
 ·obtain ⟨j,hj,h1⟩:=hx
  obtain ⟨m,a,b,c⟩:=ih j hj h1
  exact ⟨m,by omega,b,c⟩
 ·exact ⟨k,Nat.le_refl _,h,fun j hj=>by
   cases e:g j with
   | false=>rfl
   | true=>exact absurd ⟨j,hj,e⟩ hx⟩
theorem firstIdx_lt {g:Nat->Bool} (h:0<=firstIdx g n):(firstIdx g n).toNat < n:=by
 by_cases hx:∃ k,k < n/\g k=true
 ·obtain ⟨k,hk,h1⟩:=hx
  obtain ⟨m,a,b,c⟩:=least_of k h1
  rw [firstIdx_some (show m < n by omega) c b];omega
 ·rw [firstIdx_none (fun j hj=>by
   cases e:g j with
   | false=>rfl
   | true=>exact absurd ⟨j,hj,e⟩ hx)] at h
  omega
def ja (S nx:List qH):Nat->List qH×yLI
 | 0=>(S,[])
 | k+1=>if firstIdx (fun j=>decide ((ja S nx k).1[j]! =nx[k]!)) (ja S nx k).1.length < 0 then ((ja S nx k).1++[nx[k]!],(ja S nx k).2++[((ja S nx k).1.length:Int)])
  else ((ja S nx k).1,(ja S nx k).2++[firstIdx (fun j=>decide ((ja S nx k).1[j]! =nx[k]!)) (ja S nx k).1.length])
theorem Vq (h:firstIdx (fun j=>decide ((ja S nx k).1[j]! =nx[k]!)) (ja S nx k).1.length < 0):
 (ja S nx k).1++[nx[k]!]=(ja S nx (k+1)).1/\(ja S nx k).2++[((ja S nx k).1.length:Int)]=(ja S nx (k+1)).2:=by
 rw [ja,if_pos h];exact ⟨rfl,rfl⟩
theorem Vp (h:¬ firstIdx (fun j=>decide ((ja S nx k).1[j]! =nx[k]!)) (ja S nx k).1.length < 0):
 (ja S nx k).1=(ja S nx (k+1)).1/\(ja S nx k).2++[firstIdx (fun j=>decide ((ja S nx k).1[j]! =nx[k]!)) (ja S nx k).1.length]=(ja S nx (k+1)).2:=by
 rw [ja,if_neg h];exact ⟨rfl,rfl⟩
theorem XU {S nx:List qH}:∀ k,S.length<=(ja S nx k).1.length/\(ja S nx k).1.length<=S.length+k/\(ja S nx k).2.length=k
 | 0=>⟨Nat.le_refl _,Nat.le_refl _,rfl⟩
 | k+1=>by
  have h:=XU (S:=S) (nx:=nx) k
  rw [ja]
  split <;> simp only [List.length_append,List.length_cons,List.length_nil] <;> omega
theorem addSt_mem {S nx:List qH} {p:qH->Prop} (h1:∀ u∈S,p u) (h2:∀ u∈nx,p u):∀ k,k<=nx.length->∀ u∈(ja S nx k).1,p u
 | 0,_,u,hu=>h1 u hu
 | k+1,hk,u,hu=>by
  have ih:=addSt_mem h1 h2 k qf
  rw [ja] at hu
  split at hu
  ·rcases List.mem_append.1 hu with h | h
   ·exact ih u h
   ·obtain rfl:=List.mem_singleton.1 h
    exact h2 _ (by rw [getElem!_pos nx k qf];exact List.getElem_mem _)
  ·exact ih u hu
noncomputable def grGo (s:qC):Nat->Nat->List qH->yLL->(List qH×yLL)×Int
 | 0,_,S,R=>((S,R),0)
 | f+1,i,S,R=>if S.length<=i then ((S,R),0) else if (xu s (S[i]!)).2≠0 then (([],[]),(xu s (S[i]!)).2)
  else if (ja S (xu s (S[i]!)).1 (xu s (S[i]!)).1.length).1.length > 300 then (([],[]),3)
  else grGo s f (i+1) (ja S (xu s (S[i]!)).1 (xu s (S[i]!)).1.length).1 (R++[(ja S (xu s (S[i]!)).1 (xu s (S[i]!)).1.length).2])
noncomputable def grRes (s:qC) (t:qH):(List qH×yLL)×Int:=grGo s 302 0 [t] []
theorem gr_end (h:S.length<=i):grGo s f i S R=((S,R),0):=by
 cases f with
 | zero=>rfl
 | succ f=>rw [grGo,if_pos h]
theorem gr_code (hf:0 < f) (h:i < S.length) (h1:(xu s (S[i]!)).2≠0):grGo s f i S R=(([],[]),(xu s (S[i]!)).2):=by
 obtain ⟨f,rfl⟩:∃ g,f=g+1:=⟨f - 1,by omega⟩
 rw [grGo,if_neg qf,if_pos h1]
theorem gr_many (hf:0 < f) (h:i < S.length) (h1:(xu s (S[i]!)).2=0) (hk:k=(xu s (S[i]!)).1.length) (h2:(ja S (xu s (S[i]!)).1 k).1.length > 300):grGo s f i S R=(([],[]),3):=by
 obtain ⟨f,rfl⟩:∃ g,f=g+1:=⟨f - 1,by omega⟩
 subst hk
 rw [grGo,if_neg qf,if_neg (fun x=>x h1),if_pos h2]
theorem gr_go (hf:0 < f) (h:i < S.length) (h1:(xu s (S[i]!)).2=0) (hk:k=(xu s (S[i]!)).1.length) (h2:¬ (ja S (xu s (S[i]!)).1 k).1.length > 300):
 grGo s f i S R=grGo s (f - 1) (i+1) (ja S (xu s (S[i]!)).1 k).1 (R++[(ja S (xu s (S[i]!)).1 k).2]):=by
 obtain ⟨f,rfl⟩:∃ g,f=g+1:=⟨f - 1,by omega⟩
 subst hk
 rw [grGo,if_neg qf,if_neg (fun x=>x h1),if_neg h2]
 rfl
structure GrOk (S:List qH) (R:yLL):Prop where
 rows:∀ i,i < R.length->∀ k,k < (R[i]!).length->0<=(R[i]!)[k]! /\((R[i]!)[k]!).toNat < S.length
 lens:∀ i,i < R.length->(R[i]!).length<=300
 from' :∀ j,0 < j->j < S.length->∃ i,i < R.length/\i < j/\∃ k,k < (R[i]!).length/\(R[i]!)[k]! =(j:Int)
theorem addSt_rows {S nx:List qH}:∀ k,(∀ q,q < k->0<=(ja S nx k).2[q]! /\((ja S nx k).2[q]!).toNat < (ja S nx k).1.length)/\∀ j,S.length<=j->j < (ja S nx k).1.length->∃ q,q < k/\(ja S nx k).2[q]! =(j:Int)
 | 0=>⟨fun q hq=>by omega,fun j h1 h2=>by have:j < S.length:=h2;omega⟩
 | k+1=>by
  obtain ⟨h1,h2⟩:=addSt_rows (S:=S) (nx:=nx) k
  obtain ⟨l1,l2,l3⟩:=XU (S:=S) (nx:=nx) k
  have hg:∀ (x:Int) q,q < k->((ja S nx k).2++[x])[q]! =(ja S nx k).2[q]! :=fun x q hq=>by
   rw [getElem!_pos _ q qy,getElem!_pos _ q qf,List.getElem_append_left]
  have hk:∀ (x:Int),((ja S nx k).2++[x])[k]! =x:=fun x=>by
   rw [getElem!_pos _ k qy,List.getElem_append_right qf];simp [l3]
  rw [ja]
  split
  ·refine ⟨fun q hq=>?_,fun j hj CF=>?_⟩
   ·show 0<=((ja S nx k).2++[_])[q]! /\(((ja S nx k).2++[_])[q]!).toNat < ((ja S nx k).1++[_]).length
    rw [List.length_append,List.length_singleton]
    by_cases e:q=k
    ·subst e;rw [hk];omega
    ·rw [hg _ q qf];have:=h1 q qf;omega
   ·have hj3:j < (ja S nx k).1.length+1:=by simpa using CF
    by_cases e:j=(ja S nx k).1.length
    ·exact ⟨k,by omega,by subst e;exact hk _⟩
    ·obtain ⟨q,hq,e2⟩:=h2 j hj qf
     exact ⟨q,by omega,by rw [← e2];exact hg _ q hq⟩
  ·next hn=>
   have hb:0<=firstIdx (fun j=>decide ((ja S nx k).1[j]! =nx[k]!)) (ja S nx k).1.length:=by omega
   have hb2:(firstIdx (fun j=>decide ((ja S nx k).1[j]! =nx[k]!)) (ja S nx k).1.length).toNat < (ja S nx k).1.length:=firstIdx_lt hb
   refine ⟨fun q hq=>?_,fun j hj CF=>?_⟩
   ·show 0<=((ja S nx k).2++[_])[q]! /\(((ja S nx k).2++[_])[q]!).toNat < (ja S nx k).1.length
    by_cases e:q=k
    ·subst e;rw [hk];exact ⟨hb,hb2⟩
    ·rw [hg _ q qf];exact h1 q qf
   ·obtain ⟨q,hq,e2⟩:=h2 j hj CF
    exact ⟨q,by omega,by rw [← e2];exact hg _ q hq⟩
theorem GrOk.start (t:qH):GrOk [t] []:=⟨fun i hi=>by simp at hi,fun i hi=>by simp at hi,fun j h1 h2=>by simp at h2;omega⟩
theorem GrOk.next (h:GrOk S R) (hR:R.length < S.length) (hk:k<=300):GrOk (ja S nx k).1 (R++[(ja S nx k).2]):=by
 obtain ⟨h1,h2⟩:=addSt_rows (S:=S) (nx:=nx) k
 obtain ⟨l1,l2,l3⟩:=XU (S:=S) (nx:=nx) k
 have hg:∀ i,i < R.length->(R++[(ja S nx k).2])[i]! =R[i]! :=fun i hi=>by
  rw [getElem!_pos _ i qy,getElem!_pos _ i hi,List.getElem_append_left]
 have he:(R++[(ja S nx k).2])[R.length]! =(ja S nx k).2:=by
  rw [getElem!_pos _ R.length qm];simp
 refine ⟨fun i hi q hq=>?_,fun i hi=>?_,fun j hj CF=>?_⟩
 ·rw [List.length_append,List.length_singleton] at hi
  by_cases e:i=R.length
  ·subst e;rw [he] at hq ⊢;exact h1 q qf
  ·rw [hg i qf] at hq ⊢;have:=h.rows i qf q hq;omega
 ·rw [List.length_append,List.length_singleton] at hi
  by_cases e:i=R.length
  ·subst e;rw [he];omega
  ·rw [hg i qf];exact h.lens i qf
 ·rw [List.length_append,List.length_singleton]
  by_cases e:j < S.length
  ·obtain ⟨i,hi,He,q,hq,e2⟩:=h.from' j hj e
   exact ⟨i,by omega,He,q,by rw [hg i hi];exact hq,by rw [hg i hi];exact e2⟩
  ·obtain ⟨q,hq,e2⟩:=h2 j qf CF
   exact ⟨R.length,by omega,by omega,q,by rw [he];omega,by rw [he];exact e2⟩
def HaltIn (R:yLL):Nat->Nat->Prop
 | 0,_=>False
 | f+1,i=>∀ k,k < (R[i]!).length->HaltIn R f ((R[i]!)[k]!).toNat
def mxF (g:Nat->Int) (r:yLI):Nat->Int
 | 0=>0
 | k+1=>max (mxF g r k) (g ((r[k]!).toNat)+1)
def dpN (R:yLL):Nat->Nat->Int
 | 0,_=>0
 | f+1,i=>mxF (dpN R f) (R[i]!) (R[i]!).length
def Fi (R:yLL) (i:Nat) (d:Int):Prop:=∃ f,HaltIn R f i/\dpN R f i=d
def Halts (R:yLL) (i:Nat):Prop:=∃ f,HaltIn R f i
theorem mxF_congr {g g' :Nat->Int} {r:yLI}:∀ k:Nat,(∀ q,q < k->g ((r[q]!).toNat)=g' ((r[q]!).toNat))->mxF g r k=mxF g' r k
 | 0,_=>rfl
 | k+1,h=>by rw [mxF,mxF,mxF_congr k fun q hq=>h q qf,h k qf]
theorem haltIn_mono {R:yLL}:∀ f i,HaltIn R f i->∀ f',f<=f' ->HaltIn R f' i/\dpN R f' i=dpN R f i
 | 0,_,h,_,_=>h.elim
 | f+1,i,h,f',hf=>by
  obtain ⟨f',rfl⟩:∃ x,f' =x+1:=⟨f' - 1,by omega⟩
  exact ⟨fun k hk=>(haltIn_mono f _ (h k hk) f' qf).1,mxF_congr _ fun q hq=>(haltIn_mono f _ (h q hq) f' qf).2⟩
theorem Fi.same {d':Int} (h:Fi R i d) (h' :Fi R i d'):d=d' :=by
 obtain ⟨f,h1,rfl⟩:=h
 obtain ⟨f',h2,rfl⟩:=h'
 by_cases hx:f<=f'
 ·exact (haltIn_mono f i h1 f' hx).2.symm
 ·exact (haltIn_mono f' i h2 f qf).2
theorem Fi.halts (h:Fi R i d):Halts R i:=⟨h.choose,h.choose_spec.1⟩
theorem fi_all {R:yLL} {g:Nat->Int} {r:yLI}:∀ k:Nat,(∀ q,q < k->Fi R ((r[q]!).toNat) (g ((r[q]!).toNat)))->∃ f,∀ q,q < k->HaltIn R f ((r[q]!).toNat)/\dpN R f ((r[q]!).toNat)=g ((r[q]!).toNat)
 | 0,_=>⟨0,fun q hq=>by omega⟩
 | k+1,h=>by
  obtain ⟨f,hf⟩:=fi_all k fun q hq=>h q qf
  obtain ⟨f',h1,h2⟩:=h k qf
  refine ⟨max f f',fun q hq=>?_⟩
  by_cases e:q=k
  ·subst e
   obtain ⟨a,b⟩:=haltIn_mono f' _ h1 (max f f') (Nat.le_max_right ..)
   exact ⟨a,b.trans h2⟩
  ·obtain ⟨c,d⟩:=hf q qf
   obtain ⟨a,b⟩:=haltIn_mono f _ c (max f f') (Nat.le_max_left ..)
   exact ⟨a,b.trans d⟩
theorem fi_step {g:Nat->Int} (h:∀ q,q < (R[i]!).length->Fi R (((R[i]!)[q]!).toNat) (g (((R[i]!)[q]!).toNat))):Fi R i (mxF g (R[i]!) (R[i]!).length):=by
 obtain ⟨f,hf⟩:=fi_all _ h
 exact ⟨f+1,fun k hk=>(hf k hk).1,mxF_congr _ fun q hq=>(hf q hq).2⟩
theorem not_halt {p:Nat->Prop} (h:∀ j,p j->∃ k,k < (R[j]!).length/\p (((R[j]!)[k]!).toNat)) (hi:p i):¬ Halts R i:=by
 rintro ⟨f,hf⟩
 induction f generalizing i with
 | zero=>exact hf
 | succ f ih=>
  obtain ⟨k,hk,hp⟩:=h i hi
  exact ih hp (hf k hk)
theorem Halts.go (h:Halts R i) (hk:k < (R[i]!).length):Halts R (((R[i]!)[k]!).toNat):=by
 obtain ⟨f,hf⟩:=h
 cases f with
 | zero=>exact hf.elim
 | succ f=>exact ⟨f,hf k hk⟩
theorem halts_all (h:GrOk S R) (h0:Halts R 0):∀ j,j < S.length->Halts R j:=fun j=>Nat.strongRecOn j fun j ih hj=>by
 by_cases e:j=0
 ·subst e;exact h0
 ·obtain ⟨i,h1,h2,k,hk,he⟩:=h.from' j qf hj
  have:=(ih i h2 qf).go hk
  rwa [he] at this
structure LayI (R:yLL) (D:yLI) (O:List Bool) (left:Int):Prop where
 dl:D.length=R.length
 ol:O.length=R.length
 fi:∀ j,j < R.length->O[j]! =true->Fi R j (D[j]!)
 nn:∀ j,j < R.length->0<=D[j]! /\D[j]! <=R.length - left
 lf:left=R.length - (O.count true:Int)
theorem repAt1 {α:Type} [Inhabited α] {a:α} (h:j < n):(List.replicate n a)[j]! =a:=by rw [getElem!_pos _ j (by simpa using h)];simp
theorem LayI.start (R:yLL):LayI R (List.replicate R.length 0) (List.replicate R.length false) R.length:=
 ⟨by simp,by simp,fun j hj h=>by rw [repAt1 hj] at h;exact absurd h qj,fun j hj=>by rw [repAt1 hj];omega,by simp [List.count_replicate]⟩
theorem mxF_le {g:Nat->Int} {r:yLI} {m:Int} (hm:0<=m):∀ k:Nat,(∀ q,q < k->g ((r[q]!).toNat)+1<=m)->0<=mxF g r k/\mxF g r k<=m
 | 0,_=>⟨Int.le_refl _,hm⟩
 | k+1,h=>by
  have h1:=mxF_le hm k fun q hq=>h q qf
  have h2:=h k qf
  rw [mxF];omega
theorem count_set:∀ {i:Nat},i < O.length->O[i]! =false->(O.set i true).count true=O.count true+1:=by
 induction O with
 | nil=>intro i h;simp at h
 | cons a O ih=>
  intro i h h1
  cases i with
  | zero=>simp at h1;subst h1;simp
  | succ i=>
   have:=ih (i:=i) (by simpa using h) (by simpa using h1)
   rw [List.set_cons_succ,List.count_cons,List.count_cons,this];omega
theorem setAt1 {α:Type} [Inhabited α] {l:List α} {a:α} (h:j < l.length):(l.set i a)[j]! =if i=j then a else l[j]! :=by
 rw [getElem!_pos _ j (by simpa using h),List.getElem_set,getElem!_pos l j h]
theorem LayI.set {R:yLL} {D:yLI} {O:List Bool} {left:Int} (h:LayI R D O left) {i:Nat} (hi:i < R.length) (h1:O[i]! =false) (hr:∀ k,k < (R[i]!).length->(((R[i]!)[k]!).toNat) < R.length)
 (ha:∀ k,k < (R[i]!).length->O[((R[i]!)[k]!).toNat]! =true) {m:Nat} (hm:m=(R[i]!).length):LayI R (D.set i (mxF (fun j=>D[j]!) (R[i]!) m)) (O.set i true) (left - 1):=by
 subst hm
 have hb:=mxF_le (g:=fun j=>D[j]!) (r:=R[i]!) (m:=(R.length:Int) - (left - 1)) (by have:=h.nn i hi;omega) (R[i]!).length fun q hq=>by have:=h.nn _ (hr q hq);show D[_]! +1<=_;omega
 refine ⟨by simp [h.dl],by simp [h.ol],fun j hj ho=>?_,fun j hj=>?_,?_⟩
 ·rw [setAt1 (by rw [h.dl];exact hj)]
  by_cases e:i=j
  ·subst e;rw [if_pos rfl];exact fi_step fun q hq=>h.fi _ (hr q hq) (ha q hq)
  ·rw [if_neg e];rw [setAt1 (by rw [h.ol];exact hj),if_neg e] at ho;exact h.fi j hj ho
 ·rw [setAt1 (by rw [h.dl];exact hj)]
  by_cases e:i=j
  ·rw [if_pos e];exact hb
  ·rw [if_neg e];have:=h.nn j hj;omega
 ·rw [count_set (by rw [h.ol];exact hi) h1];have:=h.lf;omega
theorem count_lt:O.count true < O.length->∃ j,j < O.length/\O[j]! =false:=by
 induction O with
 | nil=>intro h;simp at h
 | cons a O ih=>
  intro h
  cases a with
  | false=>exact ⟨0,by simp,rfl⟩
  | true=>
   rw [List.count_cons_self,List.length_cons] at h
   obtain ⟨j,h1,h2⟩:=ih qf
   exact ⟨j+1,by simpa using h1,by simpa using h2⟩
theorem count_all (h:O.length<=O.count true):∀ j,j < O.length->O[j]! =true:=fun j hj=>by
 cases e:O[j]! with
 | true=>rfl
 | false=>have:=count_set hj e;have h2:=List.count_le_length (a:=true) (l:=O.set j true);rw [List.length_set] at h2;omega
def rdTo (O:List Bool) (r:yLI):Nat->Bool
 | 0=>true
 | k+1=>rdTo O r k && O[(r[k]!).toNat]!
theorem rdTo_true {O:List Bool} {r:yLI}:∀ {k:Nat},rdTo O r k=true->∀ q,q < k->O[(r[q]!).toNat]! =true
 | 0,_,q,hq=>by omega
 | k+1,h,q,hq=>by
  rw [rdTo,Bool.and_eq_true] at h
  by_cases e:q=k
  ·subst e;exact h.2
  ·exact rdTo_true h.1 q qf
theorem rdTo_false {O:List Bool} {r:yLI}:∀ {k:Nat},rdTo O r k=false->∃ q,q < k/\O[(r[q]!).toNat]! =false
 | 0,h=>by cases h
 | k+1,h=>by
  rw [rdTo,Bool.and_eq_false_iff] at h
  rcases h with h | h
  ·obtain ⟨q,h1,h2⟩:=rdTo_false h;exact ⟨q,by omega,h2⟩
  ·exact ⟨k,by omega,h⟩
def NoneR (R:yLL) (O:List Bool) (i:Nat):Prop:=∀ j,j < i->O[j]! =false->∃ k,k < (R[j]!).length/\O[((R[j]!)[k]!).toNat]! =false
theorem NoneR.succ (h:NoneR R O i) (h1:O[i]! =true\/∃ k,k < (R[i]!).length/\O[((R[i]!)[k]!).toNat]! =false):NoneR R O (i+1):=fun j hj ho=>by
 by_cases e:j=i
 ·subst e
  rcases h1 with h1 | h1
  ·rw [h1] at ho;cases ho
  ·exact h1
 ·exact h j qf ho
theorem lay_end {S:List qH} (h:LayI R D O left) (h1:left<=0) (h0:0 < R.length):Fi R 0 (D[0]!):=
 h.fi 0 h0 (count_all (by have:=h.lf;rw [h.ol];omega) 0 (by rw [h.ol];exact h0))
theorem lay_not (h:LayI R D O left) (h1:0 < left) (g:GrOk S R) (hl:R.length=S.length) (hn:NoneR R O R.length):¬ Halts R 0:=fun h0=>by
 obtain ⟨j,hj,ho⟩:=count_lt (O:=O) (by have:=h.lf;rw [h.ol];omega)
 rw [h.ol] at hj
 refine not_halt (p:=fun j=>j < R.length/\O[j]! =false) (fun j ⟨a,b⟩=>?_) ⟨hj,ho⟩ (halts_all g h0 j qf)
 obtain ⟨k,hk,hf⟩:=hn j a b
 exact ⟨k,hk,by have:=(g.rows j a k hk).2;omega,hf⟩
open Classical in
noncomputable def lonD (R:yLL):Int:=if h:∃ d,Fi R 0 d then h.choose else 0
open Classical in
theorem lonD_of (h:Fi R 0 d):lonD R=d:=by
 have hx:∃ d,Fi R 0 d:=⟨d,h⟩
 rw [lonD,dif_pos hx];exact hx.choose_spec.same h
open Classical in
noncomputable def Qw (s:qC) (t:qH):Int×Int:=if ve s/\xZ s t then (if (grRes s t).2=0 then (if Halts (grRes s t).1.2 0 then (lonD (grRes s t).1.2,0) else (0,4)) else (0,(grRes s t).2)) else (0,1)
theorem succ_len (s:qC) (t:qH):(xu s t).1.length<=300:=by
 rw [xu]
 split
 ·simp
 ·split
  ·simp
  ·have:=cho_len s t
   rw [Q8]
   split
   ·have:=nextTo_len (s:=s) (t:=t) (cs:=(jf s t).1) (jf s t).1.length;show (yC ..).length<=_;omega
   ·simp
inductive Rch (R:yLL):Nat->Nat->Prop
 | refl (j:Nat):Rch R j j
 | step {j i:Nat} (k:Nat):k < (R[j]!).length->Rch R (((R[j]!)[k]!).toNat) i->Rch R j i
theorem Rch.one (h:Rch R j i) (hk:k < (R[i]!).length):Rch R j (((R[i]!)[k]!).toNat):=by
 induction h with
 | refl j=>exact .step k hk (.refl _)
 | step q hq _ ih=>exact .step q hq (ih hk)
theorem Rch.not (hk:k < (R[i]!).length) (h:Rch R (((R[i]!)[k]!).toNat) i):¬ Halts R i:=
 not_halt (p:=fun j=>Rch R j i) (fun j hj=>by
  cases hj with
  | refl=>exact ⟨k,hk,h⟩
  | step q hq h1=>exact ⟨q,hq,h1⟩) (.refl i)
theorem not_go (hk:k < (R[i]!).length) (h:¬ Halts R (((R[i]!)[k]!).toNat)):¬ Halts R i:=fun hi=>h (hi.go hk)
def RowsIn (R:yLL):Prop:=R.length<=300/\∀ j,j < R.length->(R[j]!).length<=300/\∀ k,k < (R[j]!).length->0<=(R[j]!)[k]! /\((R[j]!)[k]!).toNat < R.length
structure VisI (R:yLL) (M D:yLI):Prop where
 ml:M.length=R.length
 dl:D.length=R.length
 mr:∀ j,j < R.length->M[j]! =0\/M[j]! =1\/M[j]! =2
 fi:∀ j,j < R.length->M[j]! =2->Fi R j (D[j]!)
 nz:∀ j,j < R.length->M[j]! =0->D[j]! =0
 bd:∀ j,j < R.length->0<=D[j]! /\D[j]! <=M.count 2/\(M[j]! =2->D[j]! +1<=M.count 2)
structure VisEnd (R:yLL) (M D M' D' :yLI) (i:Nat):Prop where
 vi:VisI R M' D'
 me:M'[i]! =2
 kp:∀ j:Nat,M[j]! ≠0->M'[j]! =M[j]! /\D'[j]! =D[j]!
 op:∀ j:Nat,M'[j]! =1->M[j]! =1
 c0:M'.count 0<=M.count 0
 c2:M.count 2<=M'.count 2
structure VisL (R:yLL) (M D M' D' :yLI) (i k:Nat):Prop where
 vi:VisI R M' D'
 m0:M[i]! =0
 me:M'[i]! =1
 kp:∀ j:Nat,M[j]! ≠0->M'[j]! =M[j]! /\D'[j]! =D[j]!
 op:∀ j:Nat,M'[j]! =1->M[j]! =1\/j=i
 dn:∀ q:Nat,q < k->M'[((R[i]!)[q]!).toNat]! =2
 mx:D'[i]! =mxF (fun j=>D'[j]!) (R[i]!) k
 c0:M'.count 0 < M.count 0
 c2:M.count 2<=M'.count 2
theorem count_setI {a b c:Int}:∀ {i:Nat},i < l.length->l[i]! =b->b≠a->((l.set i a).count c:Int)=l.count c+(if a=c then 1 else 0) - (if b=c then 1 else 0):=by
 induction l with
 | nil=>intro i h;simp at h
 | cons x l ih=>
  intro i h h1 BT
  cases i with
  | zero=>simp at h1;subst h1;rw [List.set_cons_zero,List.count_cons,List.count_cons];simp only [beq_iff_eq];split <;> split <;> omega
  | succ i=>
   have:=ih (i:=i) (by simpa using h) (by simpa using h1) BT
   rw [List.set_cons_succ,List.count_cons,List.count_cons];omega
theorem setAt0 {a:Int}:(l.set i a)[j]! =if i=j/\j < l.length then a else l[j]! :=by
 by_cases h:j < l.length
 ·rw [setAt1 h];simp [h]
 ·rw [if_neg qf,getElem!_neg _ j (by simpa using h),getElem!_neg _ j (by simpa using h)]
theorem VisI.start (R:yLL):VisI R (List.replicate R.length 0) (List.replicate R.length 0):=
 ⟨by simp,by simp,fun j hj=>by rw [repAt1 hj];omega,fun j hj h=>by rw [repAt1 hj] at h;exact absurd h qj,fun j hj _=>repAt1 hj,fun j hj=>by rw [repAt1 hj];exact ⟨by omega,by omega,fun h=>absurd h qj⟩⟩
theorem VisL.start (h:VisI R M D) (hi:i < R.length) (h0:M[i]! =0):VisL R M D (M.set i 1) D i 0:=by
 have hm:=h.ml
 have c2:=count_setI (c:=2) (a:=1) (show i < M.length by omega) h0 qj
 have c0:=count_setI (c:=0) (a:=1) (show i < M.length by omega) h0 qj
 simp only [Int.reduceEq,if_false,if_true] at c0 c2
 refine ⟨⟨by simp [h.ml],h.dl,fun j hj=>?_,fun j hj hx=>?_,fun j hj hx=>?_,fun j hj=>?_⟩,h0,by rw [setAt0,if_pos ⟨rfl,by omega⟩],fun j hj=>?_,fun j hj=>?_,fun q hq=>by omega,h.nz i hi h0,by omega,by omega⟩
 ·rw [setAt0];split
  ·omega
  ·exact h.mr j hj
 ·rw [setAt0] at hx;split at hx
  ·omega
  ·exact h.fi j hj hx
 ·rw [setAt0] at hx;split at hx
  ·omega
  ·exact h.nz j hj hx
 ·have hb:=h.bd j hj
  rw [setAt0];split
  ·exact ⟨hb.1,by omega,fun hx=>absurd hx qj⟩
  ·exact ⟨hb.1,by omega,fun hx=>by have:=hb.2.2 hx;omega⟩
 ·rw [setAt0,if_neg (by rintro ⟨rfl,_⟩;exact hj h0)];exact ⟨rfl,rfl⟩
 ·rw [setAt0] at hj;split at hj
  ·exact .inr qf
  ·exact .inl hj
theorem VisL.open' (h:VisL R M D M' D' i k) (hk:k < (R[i]!).length) (hr:∀ j,M[j]! =1->Rch R j i):∀ j,M'[j]! =1->Rch R j (((R[i]!)[k]!).toNat):=fun j hj=>by
 rcases h.op j hj with h1 | rfl
 ·exact (hr j h1).one hk
 ·exact (Rch.refl j).one hk
theorem VisL.cyc (h:VisL R M D M' D' i k) (hk:k < (R[i]!).length) (hr:∀ j,M[j]! =1->Rch R j i) (h1:M'[((R[i]!)[k]!).toNat]! =1):¬ Halts R i:=by
 refine Rch.not hk ?_
 rcases h.op _ h1 with h2 | h2
 ·exact hr _ h2
 ·rw [h2];exact .refl i
theorem VisL.go (h:VisL R M D M' D' i k) (hk:k < (R[i]!).length) (hi:i < R.length) (hR:RowsIn R) (h1:M'[((R[i]!)[k]!).toNat]! =2):VisL R M D M' (D'.set i (max (D'[i]!) (D'[((R[i]!)[k]!).toNat]! +1))) i (k+1):=by
 have hv:=h.vi
 have hk1:=((hR.2 i hi).2 k hk).2
 have kS:i≠((R[i]!)[k]!).toNat:=fun e=>by have:=h.me;rw [e,h1] at this;exact absurd this qj
 have hb:=hv.bd i hi
 have hb1:=hv.bd _ hk1
 have hb2:=hb1.2.2 h1
 have hs:∀ j,j≠i->(D'.set i (max (D'[i]!) (D'[((R[i]!)[k]!).toNat]! +1)))[j]! =D'[j]! :=fun j hj=>by rw [setAt0,if_neg qf]
 have hme:(D'.set i (max (D'[i]!) (D'[((R[i]!)[k]!).toNat]! +1)))[i]! =max (D'[i]!) (D'[((R[i]!)[k]!).toNat]! +1):=by rw [setAt0,if_pos ⟨rfl,by rw [hv.dl];exact hi⟩]
 have hdn:∀ q,q < k+1->M'[((R[i]!)[q]!).toNat]! =2:=fun q hq=>by
  by_cases e:q=k
  ·subst e;exact h1
  ·exact h.dn q qf
 refine ⟨⟨hv.ml,by simp [hv.dl],hv.mr,fun j hj hx=>?_,fun j hj hx=>?_,fun j hj=>?_⟩,h.m0,h.me,fun j hj=>?_,h.op,hdn,?_,h.c0,h.c2⟩
 ·rw [hs j (fun e=>by subst e;rw [h.me] at hx;exact absurd hx qj)];exact hv.fi j hj hx
 ·rw [hs j (fun e=>by subst e;rw [h.me] at hx;exact absurd hx qj)];exact hv.nz j hj hx
 ·by_cases e:j=i
  ·subst e;rw [hme];exact ⟨by omega,by omega,fun hx=>by rw [h.me] at hx;exact absurd hx qj⟩
  ·rw [hs j e];exact hv.bd j hj
 ·have h2:=h.kp j hj
  by_cases e:j=i
  ·subst e;exact absurd h.m0 hj
  ·rw [hs j e];exact h2
 ·rw [hme,mxF,hs _ (Ne.symm kS)]
  rw [mxF_congr (g' :=fun j=>D'[j]!) k fun q hq=>hs _ (fun e=>by have:=h.dn q hq;rw [e,h.me] at this;exact absurd this qj)]
  rw [← h.mx]
theorem VisL.sub {M2 D2:yLI} (h:VisL R M D M' D' i k) (e:VisEnd R M' D' M2 D2 j'):VisL R M D M2 D2 i k:=by
 have hi:=e.kp i (by rw [h.me];decide)
 have hq:∀ q,q < k->M2[((R[i]!)[q]!).toNat]! =2/\D2[((R[i]!)[q]!).toNat]! =D'[((R[i]!)[q]!).toNat]! :=fun q hq=>by
  have h1:=h.dn q hq
  obtain ⟨a,b⟩:=e.kp _ (show M'[((R[i]!)[q]!).toNat]! ≠0 by rw [h1];decide)
  exact ⟨a.trans h1,b⟩
 refine ⟨e.vi,h.m0,hi.1.trans h.me,fun j hj=>?_,fun j hj=>h.op j (e.op j hj),fun q hk=>(hq q hk).1,?_,by have:=e.c0;have:=h.c0;omega,by have:=e.c2;have:=h.c2;omega⟩
 ·obtain ⟨a,b⟩:=h.kp j hj
  obtain ⟨c,d⟩:=e.kp j (by rw [a];exact hj)
  exact ⟨c.trans a,d.trans b⟩
 ·rw [hi.2,h.mx];exact mxF_congr k fun q hk=>(hq q hk).2.symm
theorem VisL.fin (h:VisL R M D M' D' i k) (hi:i < R.length) (hk:k=(R[i]!).length):VisEnd R M D (M'.set i 2) D' i/\Halts R i:=by
 subst hk
 have hv:=h.vi
 have hl:=hv.ml
 have hf:Fi R i (D'[i]!):=by
  rw [h.mx];exact fi_step fun q hq=>by
   have h1:=h.dn q hq
   have:((R[i]!)[q]!).toNat < R.length:=by
    rcases Nat.lt_or_ge ((R[i]!)[q]!).toNat R.length with a | a
    ·exact a
    ·rw [getElem!_neg _ _ qf] at h1;exact absurd h1 qj
   exact hv.fi _ this h1
 have c2:=count_setI (c:=2) (a:=2) (show i < M'.length by omega) h.me qj
 have c0:=count_setI (c:=0) (a:=2) (show i < M'.length by omega) h.me qj
 simp only [Int.reduceEq,if_false,if_true] at c0 c2
 refine ⟨⟨⟨by simp [hl],hv.dl,fun j hj=>?_,fun j hj hx=>?_,fun j hj hx=>?_,fun j hj=>?_⟩,by rw [setAt0,if_pos ⟨rfl,by omega⟩],fun j hj=>?_,fun j hj=>?_,by have:=h.c0;omega,by have:=h.c2;omega⟩,hf.halts⟩
 ·rw [setAt0];split
  ·omega
  ·exact hv.mr j hj
 ·by_cases e:j=i
  ·subst e;exact hf
  ·rw [setAt0,if_neg qf] at hx;exact hv.fi j hj hx
 ·by_cases e:j=i
  ·subst e;rw [setAt0,if_pos ⟨rfl,by omega⟩] at hx;exact absurd hx qj
  ·rw [setAt0,if_neg qf] at hx;exact hv.nz j hj hx
 ·have hb:=hv.bd j hj
  exact ⟨hb.1,by omega,fun hx=>by
   by_cases e:j=i
   ·omega
   ·rw [setAt0,if_neg qf] at hx;have:=hb.2.2 hx;omega⟩
 ·rw [setAt0,if_neg (by rintro ⟨rfl,_⟩;exact hj h.m0)];exact h.kp j hj
 ·rw [setAt0] at hj;split at hj
  ·omega
  ·rename_i hx;rcases h.op j hj with h1 | h1
   ·exact h1
   ·omega
theorem GrOk.rowsIn (h:GrOk S R) (hl:R.length=S.length) (h3:R.length<=300):RowsIn R:=
 ⟨h3,fun j hj=>⟨h.lens j hj,fun k hk=>by have:=h.rows j hj k hk;omega⟩⟩
theorem VisI.top (h:VisI R M D) (hR:RowsIn R) (hj:j < R.length):0<=D[j]! /\D[j]! <=300:=by
 have h1:=h.bd j hj
 have h2:=List.count_le_length (a:=2) (l:=M)
 have h3:=h.ml
 have h4:=hR.1
 omega
theorem rep0 (h:(List.replicate n (0:Int))[j]! =1):False:=by
 by_cases hj:j < n
 ·rw [repAt1 hj] at h;exact absurd h qj
 ·rw [getElem!_neg _ j (by simpa using hj)] at h;exact absurd h qj
theorem rep_cnt (h:n<=300):(List.replicate n (0:Int)).count 0<=300:=Nat.le_trans List.count_le_length (by simpa using h)
end
section
variable {cl : Nat}
theorem find_ok (w:World) (l:List qH) (u:qH) (hl:zP w Fl al cl l) (lS:zP w Ay kw kv u.qK) (rb:zP w Ew nM nO u.qQ) (jj:zP w uT fR f4 u.qL):Calls Tryz.prog 68 #[Sv al l.length cl,.agg #[Sv kw u.qK.length kv,Sv nM u.qQ.length nO,Sv fR u.qL.length f4]] w (Ret (fun v w' =>v=yI (firstIdx (fun zz=>decide (l[zz]! =u)) l.length)) w):=by
 refine en func68 ntmps68 ?_
 have H:=((((St.start w).arg jj).arg rb).arg lS).arg hl
 have Aa:=qM hl
 clear hl lS rb jj
 have N:=Fresh.nil w.heap.size
 refine zcr (sw (zZ H (yT u kw kv nM nO fR f4) fun b1 w2 H=>sp (yI 0) (zjc (sq 1 (sp (.func (.func 116) #[] #[pp b1 0]) (sw (zQ #[Sv al l.length cl,.func (.func 116) #[] #[pp b1 0]] rfl rfl call115 (en func115 ntmps115 ?_))))))))
 refine zcr (sp (yI 0) (zjcc (sq 1 (oN rfl (sp (yI 0) (zjn (qR (zl ((fun Z0 Z1 Z2 Z3 Z4=>fun m' ρ w3=>∃ (xE:Env) (i:Nat),ρ=upd (upd (upd (upd xE 0 (Sv al l.length cl)) 1 (.func (.func 116) #[] #[pp b1 0])) 7 (yI l.length)) 8 (yI i)/\((i:Int)<=l.length)/\(noneTo (fun zz=>decide (l[zz]! =u)) i)/\m' =(l.length - (i:Int)).toNat/\Fresh w.heap.size []/\St w w3 [Z0] [Z1,Z2,Z3,Z4]) _ _ _ _ _) ((l.length - (0:Int)).toNat) ⟨_,0,uE4,qf,qx,rfl,N,H⟩ ?_))))))))
 clear H N
 rintro m' ρ w4 ⟨xE,i,rfl,i0,i1,rfl,N,H⟩
 refine zcr (sq 1 (zjn (xQ (cD rfl (fun h5=>?_) (fun h5=>?_)))))
 ·refine qV (t_n (xQ (qR (zcr (sp (yI i) (sp (yI i) (zjc (sp (.func (.func 116) #[] #[pp b1 0]) (sq 1 (sp (yI i) ?_))))))))))
  obtain ⟨b6,o7,rfl⟩:=H.addr 0 rfl qf
  obtain ⟨mQ,mq,aaH,ph,oX,adT,kE,kj,Rg,H⟩:=H.elem_StateD 0 rfl i i qf qf qf
  refine oI rfl rfl (sw (xU [Sv mQ (((l[i]!).qK).length) mq,Sv ph (((l[i]!).qQ).length) oX,Sv kE (((l[i]!).qL).length) kj] isAgg31 sizeOf31 rfl (qF (H.get 3 rfl) 0 3) (sw (zQ #[.agg #[Sv mQ (((l[i]!).qK).length) mq,Sv ph (((l[i]!).qQ).length) oX,Sv kE (((l[i]!).qL).length) kj],pp b1 0] rfl rfl call116 (en func116 ntmps116 ?_)))))
  refine zcr (sw (zZ H [Sv mQ (((l[i]!).qK).length) mq,Sv ph (((l[i]!).qQ).length) oX,Sv kE (((l[i]!).qL).length) kj] fun np nr H=>sp (Bv false) (zjc (sw (xU [Sv mQ (((l[i]!).qK).length) mq,Sv ph (((l[i]!).qQ).length) oX,Sv kE (((l[i]!).qL).length) kj] isAgg31 sizeOf31 rfl (qF (H.cells 0 rfl) 0 3) (sw (xU (yT u kw kv nM nO fR f4) isAgg31 sizeOf31 rfl (qF (H.cells 1 rfl) 0 3) (sw (oq (sameState_ok _ (l[i]!) u (H.get 0 rfl).1 (H.get 1 rfl).1 (H.get 2 rfl).1 (H.get 5 rfl).1 (H.get 6 rfl).1 (H.get 7 rfl).1) H fun xV H=>sq 1 (zjr (ret1 (Bv (decide ((l[i]!)=u))) rfl rfl ⟨_,rfl,?_⟩)))))))))))
  replace H:=H.erases [0]
  dsimp only [vz,List.eraseIdx] at H
  refine zjn (cD rfl (fun kL=>?_) (fun kL=>?_))
  ·refine zcr (sp (yI i) (sp (yI i) (zjr (zr5 (ret1 (yI i) rfl rfl ⟨_,rfl,(sp (yI i) (zjr (rH1 (yI i) H ?_)))⟩)))))
   rw [firstIdx_some (k:=i) qf i1 (decide_eq_true ‹_›)]
  refine qV (b_n (t_n (xJ (sw (zn i 1 rfl rfl qf (sq 1 (xO (qX (m' :=(l.length - ((i+1):Int)).toNat) qf ⟨_,i+1,uE4,?_,?_,rfl,N,H.pick [0] (zR 4 4)⟩))))))))
  ·omega
  ·exact noneTo_succ i1 (decide_eq_false ‹_›)
 refine zx4 (zcr (sq 1 (zjr (ret1 (yI (-1)) rfl rfl ⟨_,rfl,(sq 1 (zjr (rH1 (yI (-1)) H ?_)))⟩))))
 rw [firstIdx_none (fun j hj=>i1 j qf)]
theorem sizeS_ok (w:World) (l:List qH) (hl:zP w Fl al cl l):Calls Tryz.prog 114 #[Sv al l.length cl] w (Ret (fun v w' =>v=yI l.length) w):=by
 refine en func114 ntmps114 ?_
 have H:=(St.start w).arg hl
 clear hl
 refine zcr (sp (yI 0) (zjc (sq 1 (oN rfl (sq 1 (zjr (rH1 (yI l.length) H ?_)))))))
 rfl
def visit_ok_S (f:Nat):Prop:=∀ {W0 w:World} {ps:List Prv} {Γ:List Fact} {Ns:List yLN} (z:Int) (bJ:yLI) (most:yLI) (R:yLL) (aS:yOA) (nS:Nat) (cS:Nat) (aR:yOA) (cR:Nat) (FR:yLN) (bm:Nat) (bg:Nat) (bv:Nat) (bd:Nat) (Ij:yOA) (IB:Nat) (wd:Nat) (GS:yOA) (Ju:Nat) (ye:Nat) (H:St W0 w ((.box bm [Sv Ij IB wd] 135)::(.box bg [Sv aS nS cS,Sv aR R.length cR] 46)::(.box bv [.func (.func 111) #[] #[pp bm 0,pp bg 0,pp bv 0,pp bd 0]] 71)::(.box bd [Sv GS Ju ye] 24)::(rr Ij IB wd 3 1 (bJ.map (Value.int .i64)))::(rr GS Ju ye 2 1 (most.map (Value.int .i64)))::ps) ((sF false FR aR cR R)::Γ)) (N:Fresh W0.heap.size (Ns)) (K0:Kept Ns Γ) (p0:VisI R bJ most) (p1:0<=z/\z.toNat < R.length) (p2:bJ[z.toNat]! =0) (p3:RowsIn R) (p4:∀ j:Nat,bJ[j]! =1->Rch R j z.toNat) (p5:bJ.count 0<=f),Calls Tryz.prog 111 #[yI z,pp bm 0,pp bg 0,pp bv 0,pp bd 0] w (fun e w' =>∃ v,e=.returned v/\∃ (lj:yLI) (pE:yLI),(lj.length=bJ.length)/\(pE.length=most.length)/\(Halts R z.toNat->VisEnd R bJ most lj pE z.toNat)/\v=Bv (dec (Halts R z.toNat))/\Fresh W0.heap.size (Ns)/\St W0 w' ((.box bm [Sv Ij IB wd] 135)::(.box bg [Sv aS nS cS,Sv aR R.length cR] 46)::(.box bv [.func (.func 111) #[] #[pp bm 0,pp bg 0,pp bv 0,pp bd 0]] 71)::(.box bd [Sv GS Ju ye] 24)::(rr Ij IB wd 3 1 (lj.map (Value.int .i64)))::(rr GS Ju ye 2 1 (pE.map (Value.int .i64)))::ps) ((sF false FR aR cR R)::Γ))
theorem visit_ok_step (f:Nat) (IH:∀ k,k < f->visit_ok_S k) {Ns:List yLN} (z:Int) (bJ:yLI) (most:yLI) (R:yLL) (aS:yOA) (nS:Nat) (cS:Nat) (aR:yOA) (cR:Nat) (FR:yLN) (bm:Nat) (bg:Nat) (bv:Nat) (bd:Nat) (Ij:yOA) (IB:Nat) (wd:Nat) (GS:yOA) (Ju:Nat) (ye:Nat) (H:St W0 w ((.box bm [Sv Ij IB wd] 135)::(.box bg [Sv aS nS cS,Sv aR R.length cR] 46)::(.box bv [.func (.func 111) #[] #[pp bm 0,pp bg 0,pp bv 0,pp bd 0]] 71)::(.box bd [Sv GS Ju ye] 24)::(rr Ij IB wd 3 1 (bJ.map (Value.int .i64)))::(rr GS Ju ye 2 1 (most.map (Value.int .i64)))::ps) ((sF false FR aR cR R)::Γ)) (N:Fresh W0.heap.size (Ns)) (K0:Kept Ns Γ) (p0:VisI R bJ most) (p1:0<=z/\z.toNat < R.length) (p2:bJ[z.toNat]! =0) (p3:RowsIn R) (p4:∀ j:Nat,bJ[j]! =1->Rch R j z.toNat) (p5:bJ.count 0<=f):Calls Tryz.prog 111 #[yI z,pp bm 0,pp bg 0,pp bv 0,pp bd 0] w (fun e w' =>∃ v,e=.returned v/\∃ (lj:yLI) (pE:yLI),(lj.length=bJ.length)/\(pE.length=most.length)/\(Halts R z.toNat->VisEnd R bJ most lj pE z.toNat)/\v=Bv (dec (Halts R z.toNat))/\Fresh W0.heap.size (Ns)/\St W0 w' ((.box bm [Sv Ij IB wd] 135)::(.box bg [Sv aS nS cS,Sv aR R.length cR] 46)::(.box bv [.func (.func 111) #[] #[pp bm 0,pp bg 0,pp bv 0,pp bd 0]] 71)::(.box bd [Sv GS Ju ye] 24)::(rr Ij IB wd 3 1 (lj.map (Value.int .i64)))::(rr GS Ju ye 2 1 (pE.map (Value.int .i64)))::ps) ((sF false FR aR cR R)::Γ)):=by
 refine en func111 ntmps111 ?_
 have nR:=qM (H.get 0 rfl).1
 obtain rfl:=H.jC 4 rfl
 obtain rfl:=H.jC 5 rfl
 obtain ⟨p6,p7⟩:=p1
 have ml:=p0.ml
 have dl:=p0.dl
 have p8:=p3.1
 have p9:=(p3.2 z.toNat p7).1
 have v0:=VisL.start p0 p7 p2
 refine zcr (sp (Bv false) (zjc (oL rfl (H.cell 0 rfl rfl) (sp (yI z) ?_))))
 obtain ⟨b1,rfl⟩:=H.jK 4 rfl qf
 refine oI rfl rfl (sw (y5 H 4 rfl 1 sizeOf3 rfl rfl (i:=z.toNat) qf qf fun w2 H=>?_))
 dsimp only [List.set] at H
 refine zjcc (oF rfl (oL rfl (H.cell 1 rfl rfl) (sp (yI z) ?_)))
 obtain ⟨b3,o4,rfl⟩:=H.addr 0 rfl qf
 obtain ⟨ae6,J2,Fe6,H⟩:=H.zW 0 rfl z z.toNat qf qf qf
 refine oI rfl rfl (oL rfl (H.xP 1 rfl 0 rfl) (oN rfl (sp (yI 0) (zjn (qR (zl ((fun Z0 Z1 Z2 Z3 Z4 Z5 Z6=>fun m' ρ w7=>∃ (xE:Env) (aq:Nat) (aX:yLI) (bE:yLI),ρ=upd (upd (upd (upd (upd (upd (upd xE 0 (yI z)) 1 (pp bm 0)) 3 (pp bv 0)) 4 (pp bd 0)) 16 (Sv ae6 ((R[z.toNat]!).length) J2)) 17 (yI ((R[z.toNat]!).length))) 18 (yI aq)/\((aq:Int)<=((R[z.toNat]!).length))/\(VisL R bJ most bE aX z.toNat aq)/\(bE.length=bJ.length)/\(aX.length=most.length)/\m' =(((R[z.toNat]!).length) - (aq:Int)).toNat/\Fresh W0.heap.size (Ns)/\St W0 w7 (Z0::Z1::Z2::Z3::(rr (aa b1 0) bJ.length wd 3 1 (bE.map (Value.int .i64)))::(rr GS most.length ye 2 1 (aX.map (Value.int .i64)))::ps) (Z4::Z5::Z6::Γ)) _ _ _ _ _ _ _) ((((R[z.toNat]!).length) - (0:Int)).toNat) ⟨_,0,most,(bJ.set z.toNat 1),uE7,qf,(by exact v0),qm,(by rfl),rfl,N,H⟩ ?_))))))
 clear H N
 rintro m' ρ w8 ⟨xE,aq,aX,bE,rfl,i0,v,ml1,dl1,rfl,N,H⟩
 refine zcr (sq 1 (zjn (xQ (cD rfl (fun h9=>?_) (fun h9=>?_)))))
 ·obtain ⟨q1,q2⟩:=(p3.2 z.toNat p7).2 aq qf
  have q3:=v.vi.top p3 q2
  refine qV (t_n (xQ (qR (zcr ?_))))
  obtain ⟨np,Da,rfl⟩:=H.addr 0 rfl qf
  refine oI rfl rfl (oL rfl (H.zA 0 rfl aq qf) (sq 1 (zjcc (oL rfl (H.cell 0 rfl rfl) (sq 1 (oI rfl rfl (oL rfl (H.QJ 4 rfl (iv:=(R[z.toNat]!)[aq]!) (i:=(((R[z.toNat]!)[aq]! :Int).toNat)) qf qf) (sp (Bv ((bE[((R[z.toNat]!)[aq]! :Int).toNat]! :Int) == 1)) (sp (Bv ((bE[((R[z.toNat]!)[aq]! :Int).toNat]! :Int) == 1)) ?_)))))))))
  cases ir:((bE[((R[z.toNat]!)[aq]! :Int).toNat]! :Int) == 1)
  ·replace ir:=ne_of_beq_false ir
   refine qJ 27 rfl rfl (oL rfl (H.cell 0 rfl rfl) (qJ 27 rfl rfl (sq 1 (qJ 27 rfl rfl (oI rfl rfl (qJ 27 rfl rfl (oL rfl (H.QJ 4 rfl (iv:=(R[z.toNat]!)[aq]!) (i:=(((R[z.toNat]!)[aq]! :Int).toNat)) qf qf) (qJ 27 rfl rfl (sp (Bv ((bE[((R[z.toNat]!)[aq]! :Int).toNat]! :Int) == 0)) (qJ 27 rfl rfl (sp (Bv ((bE[((R[z.toNat]!)[aq]! :Int).toNat]! :Int) == 0)) ?_)))))))))))
   cases dO:((bE[((R[z.toNat]!)[aq]! :Int).toNat]! :Int) == 0)
   ·replace dO:=ne_of_beq_false dO
    refine xR (zR 34 4) (qJ 27 rfl rfl (sp (Bv false) (sp (Bv false) (zjn (cFr rfl (qV (t_n ?_)))))))
    obtain ⟨wm,rfl⟩:=H.jK 5 rfl qf
    refine VP (fun ρ yb=>∃ (xE:Env),ρ=upd (upd (upd (upd (upd (upd (upd (upd (upd (upd (upd (upd (upd (upd xE 0 (yI z)) 1 (pp bm 0)) 3 (pp bv 0)) 4 (pp bd 0)) 16 (Sv (aa np Da) ((R[z.toNat]!).length) J2)) 17 (yI ((R[z.toNat]!).length))) 18 (yI aq)) 28 (Sv (aa b1 0) bJ.length wd)) 29 (yI ((R[z.toNat]!)[aq]!))) 30 (pp b1 (0+((R[z.toNat]!)[aq]! :Int).toNat * 1))) 31 (yI (bE[((R[z.toNat]!)[aq]! :Int).toNat]!))) 32 (Bv false)) 33 (Bv false)) 38 (Bv false)/\Fresh W0.heap.size (Ns)/\St W0 yb ((.box bm [Sv (aa b1 0) bJ.length wd] 135)::(.box bg [Sv aS nS cS,Sv (aa b3 o4) R.length cR] 46)::(.box bv [.func (.func 111) #[] #[pp bm 0,pp bg 0,pp bv 0,pp bd 0]] 71)::(.box bd [Sv (aa wm 0) most.length ye] 24)::(rr (aa b1 0) bJ.length wd 3 1 (bE.map (Value.int .i64)))::(rr (aa wm 0) most.length ye 2 1 ((aX.set z.toNat (max (aX[z.toNat]!) ((aX[((R[z.toNat]!)[aq]! :Int).toNat]!)+1))).map (Value.int .i64)))::ps) ((sF false Fe6 (aa np Da) J2 (R[z.toNat]!))::(atF b3 (o4+(z:Int).toNat * 1) [Sv (aa np Da) ((R[z.toNat]!).length) J2])::(sF false FR (aa b3 o4) cR R)::Γ)) ?_ ?_
    ·refine QT rfl H [0,1,2,3,4] [0,1,2] fun H=>?_
     have S:=H.jm (zR 0 5) [0,1,2]
     refine tL 0 rfl rfl (fun _ h=>h.cell 3 rfl rfl) S ?_
     refine rtp 1 (yI z) S ?_
     refine tL 2 rfl rfl (fun _ h=>h.cell 3 rfl rfl) S ?_
     refine rtp 3 (yI z) S ?_
     refine tI 4 rfl rfl rfl S ?_
     refine tL 6 rfl rfl (fun _ h=>h.cell 3 rfl rfl) S ?_
     refine rtl 7 S ?_
     refine tI 8 rfl rfl rfl S ?_
     refine vK [5,9] qh qm (jb rfl ?_ (jb rfl ?_ vM))
     ·refine x9 (yI (aX[z.toNat]!)) isAgg2 rfl (H.QJ 5 rfl (iv:=z) (i:=z.toNat) qf qf) (⟨H.pick (zR 0 5) [0,1,2],(ro 9 rfl (x9 (yI (aX[((R[z.toNat]!)[aq]! :Int).toNat]!)) isAgg2 rfl (H.QJ 5 rfl (iv:=(R[z.toNat]!)[aq]!) (i:=(((R[z.toNat]!)[aq]! :Int).toNat)) qf qf) (⟨H.pick (zR 0 5) [0,1,2],?_⟩)))⟩)
      have S:=H.jm (zR 0 5) [0,1,2]
      refine rt 10 _ (y_add (aX[((R[z.toNat]!)[aq]! :Int).toNat]!) 1 rfl rfl qf) S ?_
      refine rt 11 _ (y_max (aX[z.toNat]!) ((aX[((R[z.toNat]!)[aq]! :Int).toNat]!)+1) rfl rfl) S ?_
      refine tI 12 rfl rfl rfl S ?_
      refine ro 13 rfl (y5 H 5 rfl (max (aX[z.toNat]!) ((aX[((R[z.toNat]!)[aq]! :Int).toNat]!)+1)) sizeOf2 rfl rfl (i:=z.toNat) qf qf fun Dn H=>?_)
      dsimp only [List.set] at H
      refine ⟨H.pick (zR 0 5) [0,1,2],(xw qh ((meet ⟨_,uE14,N,H⟩)))⟩
     refine x9 (yI (aX[((R[z.toNat]!)[aq]! :Int).toNat]!)) isAgg2 rfl (H.QJ 5 rfl (iv:=(R[z.toNat]!)[aq]!) (i:=(((R[z.toNat]!)[aq]! :Int).toNat)) qf qf) (⟨H.pick (zR 0 5) [0,1,2],(rt 10 _ (y_add (aX[((R[z.toNat]!)[aq]! :Int).toNat]!) 1 rfl rfl qf) (H.pick (zR 0 5) [0,1,2]) ?_)⟩)
     refine ro 5 rfl (x9 (yI (aX[z.toNat]!)) isAgg2 rfl (H.QJ 5 rfl (iv:=z) (i:=z.toNat) qf qf) (⟨H.pick (zR 0 5) [0,1,2],?_⟩))
     have S:=H.jm (zR 0 5) [0,1,2]
     refine rt 11 _ (y_max (aX[z.toNat]!) ((aX[((R[z.toNat]!)[aq]! :Int).toNat]!)+1) rfl rfl) S ?_
     refine tI 12 rfl rfl rfl S ?_
     refine ro 13 rfl (y5 H 5 rfl (max (aX[z.toNat]!) ((aX[((R[z.toNat]!)[aq]! :Int).toNat]!)+1)) sizeOf2 rfl rfl (i:=z.toNat) qf qf fun s0 H=>?_)
     dsimp only [List.set] at H
     refine ⟨H.pick (zR 0 5) [0,1,2],(xw qh ((meet ⟨_,uE14,N,H⟩)))⟩
    clear H N
    rintro ρ rO ⟨xE,rfl,N,H⟩
    refine b_n (t_n (xJ (sw (zn aq 1 rfl rfl qf (sq 1 (xO (qX (m' :=(((R[z.toNat]!).length) - ((aq+1):Int)).toNat) qf ⟨_,aq+1,_,_,uE7,?_,?_,?_,?_,rfl,N,H⟩)))))))
    ·omega
    ·exact v.go qf p7 p3 (by have:=v.vi.mr _ q2;omega)
    ·omega
    ·simp;omega
   replace dO:=eq_of_beq dO
   refine qJ 33 rfl rfl (oL rfl (H.cell 2 rfl rfl) (qJ 33 rfl rfl (sq 1 (qJ 33 rfl rfl ?_))))
   have c0:=v.c0
   have H1:=H.yl 6 3 [0,1,2,3,4,5] [2,0,1] qo qo
   have N1:Fresh _ (Ns):=N
   have K1:Kept (Ns) ((sF false Fe6 (aa np Da) J2 (R[z.toNat]!))::(atF b3 (o4+(z:Int).toNat * 1) [Sv (aa np Da) ((R[z.toNat]!).length) J2])::Γ):=K0.behind 2 rfl
   refine sw (zL #[yI ((R[z.toNat]!)[aq]!),pp bm 0,pp bg 0,pp bv 0,pp bd 0] rfl rfl call111 (IH (f - 1) qf ((R[z.toNat]!)[aq]!) bE aX R aS nS cS (aa b3 o4) cR FR bm bg bv bd (aa b1 0) bJ.length wd GS most.length ye H1 N1 K1 (by exact v.vi) (by exact ⟨by omega,by omega⟩) ql ql (by exact v.open' qf p4) (by omega)) ?_)
   clear H H1 N1 K1
   rintro _ In ⟨acI,fQ,afp,amx,ar8,rfl,N,H⟩
   refine qJ 33 rfl rfl (sq 1 (qJ 27 rfl rfl (sq 2 (zjn (cQ rfl (fun te=>?_) (fun te=>?_))))))
   ·refine zcr (sp (Bv false) (zjr (t_r (zr5 (ret1 (Bv false) rfl rfl ⟨_,rfl,?_⟩)))))
    have nh:¬ Halts R z.toNat:=by exact not_go (k:=aq) qf ql
    rw [xh nh]
    exact ⟨acI,fQ,(by omega),(by omega),(by exact fun hh=>absurd hh nh),rfl,N,H.zU 6 3 (zR 0 6) [0] qo qo⟩
   have v1:=v.sub ((‹Halts R _->VisEnd R _ _ _ _ _›) ‹Halts R _›)
   have q4:=v1.vi.top p3 q2
   refine qV (t_n ?_)
   obtain ⟨HM,rfl⟩:=H.jK 5 rfl qf
   refine VP (fun ρ AP=>∃ (xE:Env),ρ=upd (upd (upd (upd (upd (upd (upd (upd (upd (upd (upd (upd (upd (upd (upd (upd (upd (upd xE 0 (yI z)) 1 (pp bm 0)) 3 (pp bv 0)) 4 (pp bd 0)) 16 (Sv (aa np Da) ((R[z.toNat]!).length) J2)) 17 (yI ((R[z.toNat]!).length))) 18 (yI aq)) 28 (Sv (aa b1 0) bJ.length wd)) 29 (yI ((R[z.toNat]!)[aq]!))) 30 (pp b1 (0+((R[z.toNat]!)[aq]! :Int).toNat * 1))) 31 (yI (bE[((R[z.toNat]!)[aq]! :Int).toNat]!))) 32 (Bv true)) 33 (Bv true)) 34 (.func (.func 111) #[] #[pp bm 0,pp bg 0,pp bv 0,pp bd 0])) 35 (yI ((R[z.toNat]!)[aq]!))) 36 (Bv (dec (Halts R ((R[z.toNat]!)[aq]!).toNat)))) 37 (Bv (!(dec (Halts R ((R[z.toNat]!)[aq]!).toNat))))) 38 (Bv (!(dec (Halts R ((R[z.toNat]!)[aq]!).toNat))))/\Fresh W0.heap.size (Ns)/\St W0 AP ((.box bm [Sv (aa b1 0) bJ.length wd] 135)::(.box bg [Sv aS nS cS,Sv (aa b3 o4) R.length cR] 46)::(.box bv [.func (.func 111) #[] #[pp bm 0,pp bg 0,pp bv 0,pp bd 0]] 71)::(.box bd [Sv (aa HM 0) most.length ye] 24)::(rr (aa b1 0) bJ.length wd 3 1 (acI.map (Value.int .i64)))::(rr (aa HM 0) most.length ye 2 1 ((fQ.set z.toNat (max (fQ[z.toNat]!) ((fQ[((R[z.toNat]!)[aq]! :Int).toNat]!)+1))).map (Value.int .i64)))::ps) ((sF false FR (aa b3 o4) cR R)::(sF false Fe6 (aa np Da) J2 (R[z.toNat]!))::(atF b3 (o4+(z:Int).toNat * 1) [Sv (aa np Da) ((R[z.toNat]!).length) J2])::Γ)) ?_ ?_
   ·refine QT rfl H [0,1,2,3,4] [0,1,2] fun H=>?_
    have S:=H.jm (zR 0 5) [0,1,2]
    refine tL 0 rfl rfl (fun _ h=>h.cell 3 rfl rfl) S ?_
    refine rtp 1 (yI z) S ?_
    refine tL 2 rfl rfl (fun _ h=>h.cell 3 rfl rfl) S ?_
    refine rtp 3 (yI z) S ?_
    refine tI 4 rfl rfl rfl S ?_
    refine tL 6 rfl rfl (fun _ h=>h.cell 3 rfl rfl) S ?_
    refine rtl 7 S ?_
    refine tI 8 rfl rfl rfl S ?_
    refine vK [5,9] qh qm (jb rfl ?_ (jb rfl ?_ vM))
    ·refine x9 (yI (fQ[z.toNat]!)) isAgg2 rfl (H.QJ 5 rfl (iv:=z) (i:=z.toNat) qf qf) (⟨H.pick (zR 0 5) [0,1,2],(ro 9 rfl (x9 (yI (fQ[((R[z.toNat]!)[aq]! :Int).toNat]!)) isAgg2 rfl (H.QJ 5 rfl (iv:=(R[z.toNat]!)[aq]!) (i:=(((R[z.toNat]!)[aq]! :Int).toNat)) qf qf) (⟨H.pick (zR 0 5) [0,1,2],?_⟩)))⟩)
     have S:=H.jm (zR 0 5) [0,1,2]
     refine rt 10 _ (y_add (fQ[((R[z.toNat]!)[aq]! :Int).toNat]!) 1 rfl rfl qf) S ?_
     refine rt 11 _ (y_max (fQ[z.toNat]!) ((fQ[((R[z.toNat]!)[aq]! :Int).toNat]!)+1) rfl rfl) S ?_
     refine tI 12 rfl rfl rfl S ?_
     refine ro 13 rfl (y5 H 5 rfl (max (fQ[z.toNat]!) ((fQ[((R[z.toNat]!)[aq]! :Int).toNat]!)+1)) sizeOf2 rfl rfl (i:=z.toNat) qf qf fun Dc H=>?_)
     dsimp only [List.set] at H
     refine ⟨H.pick (zR 0 5) [0,1,2],(xw qh ((meet ⟨_,uE18,N,H⟩)))⟩
    refine x9 (yI (fQ[((R[z.toNat]!)[aq]! :Int).toNat]!)) isAgg2 rfl (H.QJ 5 rfl (iv:=(R[z.toNat]!)[aq]!) (i:=(((R[z.toNat]!)[aq]! :Int).toNat)) qf qf) (⟨H.pick (zR 0 5) [0,1,2],(rt 10 _ (y_add (fQ[((R[z.toNat]!)[aq]! :Int).toNat]!) 1 rfl rfl qf) (H.pick (zR 0 5) [0,1,2]) ?_)⟩)
    refine ro 5 rfl (x9 (yI (fQ[z.toNat]!)) isAgg2 rfl (H.QJ 5 rfl (iv:=z) (i:=z.toNat) qf qf) (⟨H.pick (zR 0 5) [0,1,2],?_⟩))
    have S:=H.jm (zR 0 5) [0,1,2]
    refine rt 11 _ (y_max (fQ[z.toNat]!) ((fQ[((R[z.toNat]!)[aq]! :Int).toNat]!)+1) rfl rfl) S ?_
    refine tI 12 rfl rfl rfl S ?_
    refine ro 13 rfl (y5 H 5 rfl (max (fQ[z.toNat]!) ((fQ[((R[z.toNat]!)[aq]! :Int).toNat]!)+1)) sizeOf2 rfl rfl (i:=z.toNat) qf qf fun CC H=>?_)
    dsimp only [List.set] at H
    refine ⟨H.pick (zR 0 5) [0,1,2],(xw qh ((meet ⟨_,uE18,N,H⟩)))⟩
   clear H N
   rintro ρ Dg ⟨xE,rfl,N,H⟩
   refine b_n (t_n (xJ (sw (zn aq 1 rfl rfl qf (sq 1 (xO (qX (m' :=(((R[z.toNat]!).length) - ((aq+1):Int)).toNat) qf ⟨_,aq+1,_,_,uE7,?_,?_,?_,?_,rfl,N,H.zU 6 3 (zR 0 6) [1,2,0] qo qo⟩)))))))
   ·omega
   ·exact (v.sub (‹Halts R _->VisEnd R _ _ _ _ _› ‹Halts R _›)).go qf p7 p3 (‹Halts R _->VisEnd R _ _ _ _ _› ‹Halts R _›).me
   ·omega
   ·simp;omega
  replace ir:=eq_of_beq ir
  refine xR (zR 28 11) (sp (Bv true) (zjn (cTr rfl (zcr (sp (Bv false) (zjr (t_r (zr5 (ret1 (Bv false) rfl rfl ⟨_,rfl,?_⟩)))))))))
  have nh:¬ Halts R z.toNat:=by exact v.cyc qf p4 ql
  rw [xh nh]
  exact ⟨bE,aX,(by omega),(by omega),(by exact fun hh=>absurd hh nh),rfl,N,H.zU 6 3 (zR 0 6) [2] qo qo⟩
 refine zx4 (zcr (oL rfl (H.cell 0 rfl rfl) (sp (yI z) (oI rfl rfl (sw (y5 H 4 rfl 2 sizeOf3 rfl rfl (i:=z.toNat) qf qf fun Dr H=>?_))))))
 dsimp only [List.set] at H
 refine zjc (sp (Bv true) (zjr (ret1 (Bv true) rfl rfl ⟨_,rfl,?_⟩)))
 have v2:=v.fin p7 qf
 rw [jH v2.2]
 exact ⟨(bE.set z.toNat 2),aX,(by (simp;omega)),(by omega),(by exact fun _=>v2.1),rfl,N,H.zU 6 3 (zR 0 6) [2] qo qo⟩
theorem visit_ok (f:Nat):visit_ok_S f:=Nat.strongRecOn (motive:=visit_ok_S) f fun f IH=>by unfold visit_ok_S;intros;apply visit_ok_step f IH <;> assumption
end
section
theorem lr_1 (h:¬ (ve s/\xZ s t)):Qw s t=(0,1):=by rw [Qw,if_neg h]
theorem lr_c (h:ve s/\xZ s t) {x:(List qH×yLL)×Int} {c:Int} (h1:grRes s t=x) (hc:x.2=c) (h2:c≠0):Qw s t=(0,c):=by subst hc h1;rw [Qw,if_pos h,if_neg h2]
theorem lr_y (h:ve s/\xZ s t) (h1:grRes s t=((S,R),0)) (h2:Fi R 0 d):Qw s t=(d,0):=by
 rw [Qw,if_pos h,if_pos (by rw [h1]),h1];rw [if_pos h2.halts,lonD_of h2]
theorem lr_n (h:ve s/\xZ s t) (h1:grRes s t=((S,R),0)) (h2:¬ Halts R 0):Qw s t=(0,4):=by
 rw [Qw,if_pos h,if_pos (by rw [h1]),h1];rw [if_neg h2]
end
end Go.Proofs.YtdhklgjmiamiaaaGreat
