/- Walks and laws, printed by program and by hand: what each function comes to, for all arguments, part 4. -/
import Derived.Test.YtdhklgjmiamiaaaGreatA3
import Derived.Shelf.SlSortCmp.Whole1
import Derived.Ground.SlsfProg
namespace Go.Proofs.YtdhklgjmiamiaaaGreat
open Go.Proofs.Tryz
set_option linter.unusedVariables false
set_option linter.unusedSimpArgs false
set_option maxRecDepth 100000
set_option maxHeartbeats 4000000
open Go.RowKit
open Go.Proofs.Tryz
open Go.Proofs.YtdhklgjmiamiaaaGreat.Tot (tot)
open Go.Proofs.YtdhklgjmiamiaaaGreat.Mark (cnt mrk mkd mkd_mark cnt_mark)
variable{D a b:yLI}{Fa ni kR tA Fb oo lM tY bS Fcs Fl xJ xW xu zF zk:yLN}{O:List Bool}{R cs:yLL}{S l nx:List qG}{V3 V4 dM fU ab dC fD aP Pv al qF qM qO qV xm:yOA}{bs bt c aK f i i' j k m n os ot:Nat}{d left:Int}{e:TypeId}{s:qH}{t u:qG}
section
open Go.RowKit Go.Shelf Go.Lib Go.Sort
def cmpL:yLI->yLI->Int
 | [],[]=>0
 | [],_::_=> -1
 |_::_,[]=>1
 |x::a,y::b=>if x<y then -1 else if y<x then 1 else cmpL a b
theorem cmpL_refl:∀a,cmpL a a=0
 | []=>rfl
 |x::a=>by rw[cmpL,if_neg<|Int.lt_irrefl x,if_neg<|Int.lt_irrefl x,cmpL_refl a]
theorem cmpL_trans:∀ {a b c:yLI},cmpL a b<0->cmpL b c<0->cmpL a c<0
 | [],[],_,h,_=>by simp[cmpL] at h
 | [],_::_,[],_,h=>by simp[cmpL] at h
 | [],_::_,_::_,_,_=>by simp[cmpL]
 |_::_,[],_,h,_=>by simp[cmpL] at h
 |_::_,_::_,[],_,h=>by simp[cmpL] at h
 |x::a,y::b,z::c,h1,h2=>by
  rw[cmpL] at h1 h2 ⊢
  by_cases e1:x<y
  ·by_cases e2:y<z
   ·rw[if_pos qf];omega
   ·rw[if_neg e2] at h2
    by_cases e3:z<y
    ·rw[if_pos e3] at h2;omega
    ·rw[if_pos qf];omega
  ·rw[if_neg e1] at h1
   by_cases e2:y<x
   ·rw[if_pos e2] at h1;omega
   ·rw[if_neg e2] at h1
    by_cases e3:y<z
    ·rw[if_pos qf];omega
    ·rw[if_neg e3] at h2
     by_cases e4:z<y
     ·rw[if_pos e4] at h2;omega
     ·rw[if_neg e4] at h2
      rw[if_neg qf,if_neg qf]
      exact cmpL_trans h1 h2
theorem cmpL_ntrans:∀ {a b c:yLI},¬cmpL a b<0->¬cmpL b c<0->¬cmpL a c<0
 | [],[],[],_,_=>by simp[cmpL]
 |_::_,_,[],_,_=>by simp[cmpL]
 | [],_::_,_,h,_=>by simp[cmpL] at h
 |_,[],_::_,_,h=>by simp[cmpL] at h
 |x::a,y::b,z::c,h1,h2=>by
  rw[cmpL] at h1 h2 ⊢
  by_cases e1:x<y
  ·rw[if_pos e1] at h1;omega
  ·rw[if_neg e1] at h1
   by_cases e2:y<z
   ·rw[if_pos e2] at h2;omega
   ·rw[if_neg e2] at h2
    rw[if_neg qf]
    by_cases e3:z<x
    ·rw[if_pos e3];omega
    ·rw[if_neg e3]
     have ey:¬y<x:=by omega
     have ez:¬z<y:=by omega
     rw[if_neg ey] at h1
     rw[if_neg ez] at h2
     exact cmpL_ntrans h1 h2
theorem drop_cons{l:yLI}(h:i<l.length):l.drop i=l[i]! :: l.drop (i+1):=by
 rw[getElem!_pos l i h];exact(List.drop_eq_getElem_cons h)
theorem cmp_a(h:i<a.length)(h1:b.length<=i):cmpL (a.drop i) (b.drop i)=1:=by rw[drop_cons h,List.drop_eq_nil_of_le h1,cmpL]
theorem cmp_b(h:a.length<=i)(h1:i<b.length):cmpL (a.drop i) (b.drop i)= -1:=by rw[drop_cons h1,List.drop_eq_nil_of_le h,cmpL]
theorem cmp_c(h:a.length<=i)(h1:b.length<=i):cmpL (a.drop i) (b.drop i)=0:=by rw[List.drop_eq_nil_of_le h,List.drop_eq_nil_of_le h1,cmpL]
theorem cmp_d(h:i<a.length)(h1:i<b.length)(h2:a[i]!<b[i]!):cmpL (a.drop i) (b.drop i)= -1:=by rw[drop_cons h,drop_cons h1,cmpL,if_pos h2]
theorem cmp_e(h:i<a.length)(h1:i<b.length)(h2:a[i]!>b[i]!):cmpL (a.drop i) (b.drop i)=1:=by rw[drop_cons h,drop_cons h1,cmpL,if_neg qf,if_pos h2]
theorem cmp_f(h:i<a.length)(h1:i<b.length)(h2:¬a[i]!<b[i]!)(h3:¬a[i]!>b[i]!):cmpL (a.drop i) (b.drop i)=cmpL (a.drop<|i+1) (b.drop<|i+1):=by rw[drop_cons h,drop_cons h1,cmpL,if_neg h2,if_neg h3]
theorem cmpL_ahead:∀ {a b:yLI},a.length=b.length->(cmpL a b<0<->ahead a b)
 | [],[],_=>⟨fun h=>by simp[cmpL] at h,fun⟨i,h,_⟩=>by simp at h⟩
 |x::a,[],h=>by simp at h
 | [],y::b,h=>by simp at h
 |x::a,y::b,h=>by
  have ih:=cmpL_ahead (a:=a) (b:=b)<|by simpa using h
  rw[cmpL]
  constructor
  ·intro h1
   by_cases e:x<y
   ·exact⟨0,by simp,fun j hj=>by omega,by simpa using e⟩
   ·rw[if_neg e] at h1
    by_cases e2:y<x
    ·rw[if_pos e2] at h1;omega
    ·rw[if_neg e2] at h1
     obtain⟨i,h2,h3,h4⟩:=ih.1 h1
     refine⟨i+1,by simp;omega,fun j hj=>?_,by simpa using h4⟩
     cases j with
     |zero=>simp;omega
     |succ j=>simpa using h3 j qf
  ·rintro⟨i,h2,h3,h4⟩
   cases i with
   |zero=>rw[if_pos<|by simpa using h4];omega
   |succ i=>
    have h0:=h3 0 qf
    simp only[List.getElem!_cons_zero] at h0
    rw[if_neg qf,if_neg qf]
    exact ih.2 ⟨i,by simpa using h2,fun j hj=>by simpa using h3 (j+1) qf,by simpa using h4⟩
section
variable{W0 w : World}{ps : List Prv}{Γ : List Fact}
theorem sw_block{α:Type}[Inhabited α]{enc:α->Value}{blk:Nat}{d:Array α}{os:Array Obj}(hk:k<w.heap.size)(iQ:k≠blk):(sortWorld enc w blk 0 m d os).heap[k]? =w.heap[k]? :=by
 unfold sortWorld putRow mapBlock grow
 show ((Sort.ahead w m).heap.modify blk _++os)[k]? =_
 have hs:((Sort.ahead w m).heap.modify blk<|onCells<|putCells enc 0 d).size=w.heap.size:=by rw[Array.size_modify];rfl
 rw[Array.getElem?_append_left<|by rw[hs];exact hk,Array.getElem?_modify,if_neg<|Ne.symm iQ]
 rfl
theorem sw_row{α:Type}[Inhabited α]{enc:α->Value}{blk:Nat}{d:Array α}{os:Array Obj}{ee:Array Value}(h:w.heap[blk]? =some (.cells ee e (0,0))):(sortWorld enc w blk 0 m d os).heap[blk]? =some (.cells (putCells enc 0 d ee) e (0,0)):=by
 have hk:blk<w.heap.size:=(Array.getElem?_eq_some_iff.1 h).1
 unfold sortWorld putRow mapBlock grow
 show ((Sort.ahead w m).heap.modify blk _++os)[blk]? =_
 have hs:((Sort.ahead w m).heap.modify blk<|onCells<|putCells enc 0 d).size=w.heap.size:=by rw[Array.size_modify];rfl
 rw[Array.getElem?_append_left<|by rw[hs];exact hk,Array.getElem?_modify,if_pos rfl]
 show (w.heap[blk]?).map _=_
 rw[h]
 rfl
theorem sortRow{P:Program}{ρ:Ren}(L:SlLaysF.n6 P ρ){g:Nat}(eg:∀args w,(callFunc g args).run P w=.ok (.enter g args) w)
 (cmp:∀(W:World) (x y:yLI) (a:yOA) (c:Nat) (F:yLN) (a':yOA) (c':Nat) (F':yLN),qX.rep W F [Sv a x.length c] x->qX.rep W F' [Sv a' y.length c'] y→
  Calls P g #[Sv a x.length c,Sv a' y.length c'] W fun e w'=>e=.returned (.int .i64<|cmpL x y)/\w'=W)
 (H:St W0 w ps Γ) (k:Nat) {b c:Nat} {e:TypeId} {nn:Nat} {xs:List Value} (hp:ps[k]? =some (.row (Sv (some ⟨b,0,none⟩) nn c) e 1 nn xs)) (j:Nat) {fr:Bool} {F:yLN} {l:yLL} (hf:Γ[j]? =some (xG fr F xs l)) (h0:0<l.length) (hsz:l.length<4611686018427387904):
 Calls P (ρ.f 6) #[Sv (some ⟨b,0,none⟩) nn c,.func (.func g) #[] #[]] w fun e' w'=>∃v,e'=.returned v/\∃HC F' l',v=.tuple #[]/\F'.Perm F/\l.Perm l' /\(∀i j,i<j->j<l'.length->¬cmpL (l'[j]!) (l'[i]!)<0)∧
  St W0 w' (ps.set k<|.row (Sv (some ⟨b,0,none⟩) nn c) e 1 nn HC) (xG fr F' HC l'::Γ):=by
 have ho:=(H.has _ (List.mem_of_getElem? hp):w.ownsRow W0.heap.size e 1 _ nn xs)
 obtain⟨hr,dq⟩:=H.get j hf
 have uH:xs.length=l.length:=by have:=X7 hr;simpa [qX.size] using this
 have hnn:nn=l.length:=by have:=ho.1;omega
 subst hnn
 obtain⟨hl,h|⟨g',ed,ee,hv,hB,hg,hn,hm,pn,ht⟩⟩:=ho
 ·simp at h
 simp only[Value.slice.injEq,Option.some.injEq,Addr.mk.injEq,and_true] at hv
 obtain⟨rfl,_,rfl⟩:=hv
 have hF:=(H.facts _<|List.mem_of_getElem? hf).2
 have uX:∀x∈F,x≠b:=fun x hx e'=>(hF x hx).2 k<|by simp[yO,hp,Prv.blk,Value.ownBlock,e']
 let enc:Nat->Value:=fun i=>xs[i % l.length]!
 let cf:Nat->Nat->Int:=fun i j=>cmpL (l[i % l.length]!)<|l[j % l.length]!
 have BU:∀i,i % l.length<l.length:=fun i=>Nat.mod_lt _ h0
 have mB:∀i,∃a c' G,(∀x∈G,x∈F)/\enc i=Sv a (l[i % l.length]!).length c' /\qX.rep w G [Sv a (l[i % l.length]!).length c'] (l[i % l.length]!):=fun i=>by
  obtain⟨F1,Fk,F2,v1,cs,v2,UH,hxe,Me,hl2,hu,_,_⟩:=reps_get hr (i % l.length)<|BU i
  obtain⟨a,c',rfl,hx⟩:=id hu
  have LS :v1.length=i % l.length:=by rw[Me];exact Nat.mul_one _
  refine⟨a,c',Fk,fun x hx=>by rw[UH];simp[hx],?_,?_⟩
  ·show xs[i % l.length]! =_
   rw[getElem!_pos l _<|BU i,getElem!_pos xs _<|by rw[uH];exact BU i]
   have:xs[i % l.length]? =some (Sv a (l[i % l.length]'(BU i)).length c'):=by
    refine(congrArg (fun z:List Value=>z[i % l.length]?) hxe).trans ?_
    show (v1++[_]++v2)[i % l.length]? =_
    rw[List.append_assoc,List.getElem?_append_right qf]
    simp[LS]
   exact(List.getElem?_eq_some_iff.1 this).2
  ·rw[getElem!_pos l _<|BU i];exact hu
 have hO:OneCell enc:=fun i=>by obtain⟨a,c',G,_,he,_⟩:=mB i;show Value.oneCell' (enc i)=true;rw[he];rfl
 have hS:SWO (ltOf cf):=by
  refine⟨fun x=>?_,fun x y z h1 h2=>?_,fun x y z h1 h2=>?_⟩ <;> unfold ltOf at *
  ·show decide (cmpL _ _<0)=false
   rw[cmpL_refl];rfl
  ·exact decide_eq_true<|cmpL_trans (of_decide_eq_true h1)<|of_decide_eq_true h2
  ·exact decide_eq_false<|cmpL_ntrans (of_decide_eq_false h1)<|of_decide_eq_false h2
 let d:Array Nat:=Array.range l.length
 have hds:d.size=l.length:=Array.size_range
 have hdi:∀i,i<l.length->d[i]! =i:=fun i hi=>by rw[getElem!_pos d i<|by rw[hds];exact hi];exact Array.getElem_range _
 have hcx:∀i,i<l.length->ee[i]? =some (enc i):=fun i hi=>by
  have h1:xs[i]? =some (enc i):=by
   show xs[i]? =some (xs[i % l.length]!)
   rw[Nat.mod_eq_of_lt hi,getElem!_pos xs i qf]
   exact List.getElem?_eq_getElem qf
  rw[←ht,List.getElem?_take,if_pos qf] at h1
  simpa using h1
 have hH:Holds enc w b 0 d:=fun i hi=>by
  have ox :i<l.length:=by rw[hds] at hi;exact hi
  rw[hdi i ox,Nat.zero_add]
  constructor
  ·rw[World.cell?,hg];exact hcx i ox
  ·rw[World.frozen?,hg];simp
 have Rs:CmpLays1 P g #[] enc cf b 0 d.size w:=fun m os dk hs x y=>by
  obtain⟨a,c1,G,hG,he,hx⟩:=mB x
  obtain⟨a2,c2,G2,hG2,he2,hy⟩:=mB y
  have st:∀z∈F,(sortWorld enc w b 0 m dk os).heap[z]? =w.heap[z]? :=fun z hz=>sw_block (hF z hz).1<|uX z hz
  rw[he,he2]
  refine(cmp _ _ _ a c1 G a2 c2 G2 (qX.stay hx fun z hz=>st z<|hG z hz)<|qX.stay hy fun z hz=>st z<|hG2 z hz).mono fun e' w' h=>⟨h.1,0,#[],?_⟩
  rw[grow_empty];exact h.2
 have B4:b<w.heap.size:=(Array.getElem?_eq_some_iff.1 hg).1
 have hc:=Any.slices_SortFunc L enc hO cf hS g #[] b 0 c d w eg Rs hH B4<|by rw[hds];exact hsz
 rw[hds] at hc
 refine hc.mono fun e' w' ⟨he,d',n,os,hpm,hso,hw⟩=>⟨_,he,?_⟩
 have KN :d'.size=l.length:=hpm.1.trans hds
 have N0:d'.toList.Perm (List.range l.length):=by
  have:=hpm.2.2
  rw[Array.extract_eq_self_of_le qf,Array.extract_eq_self_of_le qf] at this
  simpa [d] using this
 have Bp:∀x∈d'.toList,x<l.length:=fun x hx=>List.mem_range.1<|N0.subset hx
 -- the pairs
 have hz:(xs.zip l).Perm (d'.toList.map fun i=>(xs[i]!,l[i]!)):=by
  have e1:xs.zip l=(List.range l.length).map fun i=>(xs[i]!,l[i]!):=by
   refine List.ext_getElem (by simp[uH]) fun i h1 h2=>?_
   have hi:i<l.length:=by simpa using h2
   rw[List.getElem_zip,List.getElem_map,List.getElem_range,getElem!_pos xs i qf,getElem!_pos l i hi]
  rw[e1]
  exact(N0.map _).symm
 have IC :reps w F ((xs.zip l).map Prod.fst) ((xs.zip l).map Prod.snd):=by rw[zip_fst uH,zip_snd uH];exact hr
 obtain⟨F',sc,On⟩:=reps_perm rfl hz IC
 rw[List.map_map,List.map_map] at On
 refine⟨d'.toList.map fun i=>xs[i]!,F',d'.toList.map fun i=>l[i]!,rfl,sc,?_,?_,?_⟩
 ·have:=hz.map Prod.snd
  rw[zip_snd uH,List.map_map] at this
  exact this
 ·intro i j Kr hj
  rw[List.length_map,Array.length_toList,KN] at hj
  have WC:∀q,q<l.length->(d'.toList.map fun i=>l[i]!)[q]! =l[d'[q]! % l.length]! :=fun q hq=>by
   rw[getElem!_pos _ q<|by simp[KN,hq],List.getElem_map,Array.getElem_toList]
   have:d'[q]! =d'[q]:=getElem!_pos d' q qf
   rw[this,Nat.mod_eq_of_lt<|Bp _ qm]
  rw[WC i qf,WC j hj]
  exact of_decide_eq_false<|hso i j (Nat.zero_le _) Kr hj
 ·subst hw
  have dp:∀q,q<l.length->(putCells enc 0 d' ee)[q]? =some (xs[d'[q]!]!):=fun q hq=>by
   unfold putCells
   rw[Array.getElem?_mapIdx]
   have hcq:=hcx q hq
   rw[hcq]
   simp only[Option.map_some,Nat.zero_le,true_and,Nat.zero_add,KN,if_pos hq,Nat.sub_zero]
   show some (xs[d'[q]! % l.length]!)=_
   have:d'[q]! =d'[q]:=getElem!_pos d' q qf
   rw[this,Nat.mod_eq_of_lt<|Bp _ qm]
  have t8:(sortWorld enc w b 0 n d' os).ownsRow W0.heap.size e 1 (Sv (some ⟨b,0,none⟩) l.length c) l.length (d'.toList.map fun i=>xs[i]!):=by
   refine⟨by simp[KN],Or.inr ⟨b,c,putCells enc 0 d' ee,rfl,hB,sw_row hg,hn,hm,by unfold putCells;rw[Array.size_mapIdx];exact pn,?_⟩⟩
   rw[Nat.mul_one]
   refine List.ext_getElem? fun q=>?_
   rw[List.getElem?_take]
   split
   ·next hq=>
    rw[Array.getElem?_toList,dp q hq,List.getElem?_map,Array.getElem?_toList]
    have:d'[q]! =d'[q]:=getElem!_pos d' q qf
    rw[this,Array.getElem?_eq_getElem qf]
    rfl
   ·next hq=>rw[List.getElem?_eq_none qy]
  have si:w.heap.size<=(sortWorld enc w b 0 n d' os).heap.size:=by
   unfold sortWorld putRow mapBlock grow
   show _<=((Sort.ahead w n).heap.modify b _++os).size
   rw[Array.size_append,Array.size_modify]
   exact Nat.le_add_right _ _
  have H1:=H.change k hp (w':=sortWorld enc w b 0 n d' os) (p':=.row (Sv (some ⟨b,0,none⟩) l.length c) e 1 l.length<|d'.toList.map fun i=>xs[i]!) rfl rfl rfl si (fun i hi iQ=>sw_block hi<|fun e2=>iQ<|by subst e2;rfl) t8<|Or.inl rfl
  refine H1.add _ ⟨?_,fun e2 x hx=>?_⟩ fun x hx=>?_
  ·exact reps_stay On fun z hz=>sw_block (hF z<|sc.subset hz).1<|uX z<|sc.subset hz
  ·have h2:=dq e2 x (sc.subset hx)
   obtain⟨o1,o2,ho⟩:=h2
   exact⟨o1,o2,(sw_block (hF x<|sc.subset hx).1<|uX x<|sc.subset hx).trans ho⟩
  ·refine⟨Nat.lt_of_lt_of_le (hF x<|sc.subset hx).1 si,fun i hi=>?_⟩
   have h3:=(hF x<|sc.subset hx).2
   by_cases e3:i=k
   ·subst e3
    have:(ps.set i<|Prv.row (Sv (some ⟨b,0,none⟩) l.length c) e 1 l.length<|d'.toList.map fun i=>xs[i]!)[i]? =some (Prv.row (Sv (some ⟨b,0,none⟩) l.length c) e 1 l.length<|d'.toList.map fun i=>xs[i]!):=set_at hp
    simp only[yO,this,Option.bind_some,Prv.blk,Value.ownBlock,Option.some.injEq] at hi
    exact uX x (sc.subset hx) hi.symm
   ·have:yO (ps.set k<|Prv.row (Sv (some ⟨b,0,none⟩) l.length c) e 1 l.length<|d'.toList.map fun i=>xs[i]!) i=yO ps i:=by unfold yO;rw[List.getElem?_set_ne<|Ne.symm e3]
    rw[this] at hi
    exact h3 i hi
end
end
section
variable{qE qN qU xk qL : Nat}
theorem compareL_ok(w:World)(a:yLI)(b:yLI)(aa:yOA)(ca:Nat)(Fa:yLN)(ab:yOA)(cb:Nat)(Fb:yLN)(ha:zP w Fa aa ca a)(hb:zP w Fb ab cb b):Calls Tryz.prog 79 #[Sv aa a.length ca,Sv ab b.length cb] w (Ret (fun v w'=>v=yI (cmpL a b)/\w'=w) w):=by
 refine en func79 ntmps79 ?_
 have H:=((St.start w).arg hb).arg ha
 have U4:=qR ha
 have nhb:=qR hb
 clear ha hb
 have N:=Fresh.nil w.heap.size
 refine zcr<|sp (yI 0)<|zjcc<|sq 1<|oN rfl<|sp (yI 0)<|zjn<|xf<|zD ((fun Z0 Z1=>fun m' ρ w1=>∃(xN:Env) (i:Nat),ρ=upd (upd (upd (upd (upd xN 0<|Sv aa a.length ca) 1<|Sv ab b.length cb) 9<|Sv aa a.length ca) 10<|yI a.length) 11 (yI i)/\((i:Int)<=a.length)/\(w1=w)/\(cmpL a b=cmpL (a.drop i) (b.drop i))/\(i<=b.length)/\m'=(a.length-(i:Int)).toNat/\Fresh w.heap.size []/\St w w1 [] [Z0,Z1]) _ _) ((a.length-(0:Int)).toNat) ⟨_,0,uE5,qf,(by rfl),(by rfl),qf,rfl,N,H⟩ ?_
 clear H N
 rintro m' ρ w2 ⟨xN,i,rfl,i0,wk,i1,i2,rfl,N,H⟩
 refine zcr<|sq 1<|zjn<|xU<|cD rfl (fun h3=>?_)<|fun h3=>?_
 ·refine qZ (t_n<|xU<|xf<|zcr<|sp (yI i) ?_)
  obtain⟨b4,o5,rfl⟩:=H.addr 0 rfl qf
  refine oI rfl rfl<|oL rfl (H.zS 0 rfl i qf)<|sp (yI i)<|sq 1<|zjcc<|sp (yI i)<|sq 1<|oN rfl<|sq 1<|zjn<|cD rfl (fun h7=>?_)<|fun h7=>?_
  ·refine zcr (sp (yI 1)<|zjr<|t_r<|zr5<|rH1 (yI 1) H<|⟨?_,wk⟩)
   rw[i1,show cmpL (a.drop i) (b.drop i)=1 by exact cmp_a qf qf]
  refine qZ<|t_n<|zcr<|sq 1<|sp (yI i) ?_
  obtain⟨b8,o9,rfl⟩:=H.addr 1 rfl qf
  refine oI rfl rfl<|oL rfl (H.zS 1 rfl i qf)<|sq 1<|zjc<|sq 2<|sw<|zW #[yI<|a[i]!,yI<|b[i]!] rfl rfl call134<|en func134 ntmps134 ?_
  refine zcr<|sp (yI 0)<|zjc<|sq 1<|sw<|zW #[yI<|a[i]!] rfl rfl call180<|en func180 ntmps180 ?_
  refine zcr<|sp (Bv false)<|zjc<|sq 4<|zjr<|ret1 (Bv ((a[i]! :Int) != (a[i]!))) rfl rfl ⟨_,rfl,(sq 1<|zjc<|sq 1<|sw<|zW #[yI<|b[i]!] rfl rfl call180<|en func180 ntmps180 ?_)⟩
  refine zcr<|sp (Bv false)<|zjc<|sq 4<|zjr<|ret1 (Bv ((b[i]! :Int) != (b[i]!))) rfl rfl ⟨_,rfl,(sq 1<|zjcc<|sq 1<|zjn<|zX _ rfl (fun h=>absurd rfl<|bne_iff_ne.1 h)<|fun aV=>?_)⟩
  replace aV:=xA aV
  refine qZ<|t_n<|zcc<|sq 1<|zjn<|zX _ rfl (fun h=>absurd rfl<|bne_iff_ne.1 h)<|fun cZ=>?_
  replace cZ:=xA cZ
  refine qZ<|t_n<|zcc<|sq 3<|zjn<|cD rfl (fun dS=>?_)<|fun dS=>?_
  ·refine zcr (sq 1<|zjr<|t_r<|ret1 (yI (-1)) rfl rfl ⟨_,rfl,(sq 1<|zjc<|sq 1<|sp (Bv true)<|zjn<|cTr rfl<|zcr<|sq 2<|zjr<|zr5<|rH1 (yI (-1)) H<|⟨?_,wk⟩)⟩)
   rw[i1,show cmpL (a.drop i) (b.drop i)= -1 by exact cmp_d qf qf ‹_›]
  refine qZ<|t_n<|zcc<|sq 3<|zjn<|cD rfl (fun eE=>?_)<|fun eE=>?_
  ·refine zcr (sp (yI 1)<|zjr<|t_r<|ret1 (yI 1) rfl rfl ⟨_,rfl,(sp (yI 1)<|zjc<|sp (yI 1)<|sp (Bv true)<|zjn<|cTr rfl<|zcr<|sp (yI 1)<|sp (yI 1)<|zjr<|zr5<|rH1 (yI 1) H<|⟨?_,wk⟩)⟩)
   rw[i1,show cmpL (a.drop i) (b.drop i)=1 by exact cmp_e qf qf ‹_›]
  refine qZ<|t_n<|zcr<|sp (yI 0)<|zjr<|ret1 (yI 0) rfl rfl ⟨_,rfl,(sp (yI 0)<|zjc<|sp (yI 0)<|sp (Bv false)<|zjn<|cFr rfl<|qZ<|b_n<|t_n<|xX<|sw<|zC i 1 rfl rfl qf<|sq 1<|xZ<|xh (m':=(a.length-((i+1):Int)).toNat) qf ⟨_,i+1,uE5,?_,?_,?_,?_,rfl,N,H⟩)⟩
  ·omega
  ·exact wk
  ·exact i1.trans<|cmp_f qf qf ‹_› ‹_›
  ·omega
 refine zx4<|zcc<|sq 1<|oN rfl<|sq 1<|oN rfl<|sq 1<|zjn<|cD rfl (fun mc=>?_)<|fun mc=>?_
 ·refine zcr (sq 1<|zjr<|t_r<|rH1 (yI (-1)) H<|⟨?_,wk⟩)
  rw[i1,show cmpL (a.drop i) (b.drop i)= -1 by exact cmp_b qf qf]
 refine qZ<|t_n<|zcr<|sp (yI 0)<|zjr<|rH1 (yI 0) H<|⟨?_,wk⟩
 rw[i1,cmp_c qf qf]
def sortL_ren:Go.Shelf.Ren:=⟨fun|6=>78|15=>133|14=>132|28=>178|29=>179|20=>170|21=>171|22=>172|23=>173|24=>174|25=>175|26=>176|27=>177|46=>199|47=>200|48=>201|49=>202|50=>203|57=>217|n=>n,fun|22=>29|24=>24|25=>110|3=>3|39=>155|0=>0|53=>198|55=>113|4=>4|46=>191|45=>190|50=>195|5=>5|9=>9|66=>214|70=>218|76=>229|77=>230|n=>n,fun|n=>n⟩
theorem sortL:Go.Proofs.SlLaysF.n6 Tryz.prog sortL_ren:={
 mixed:=by kernel_rfl
 f6:=⟨Tryz.f78.name,by decide,Tryz.func78.trans<|congrArg some<|by kernel_rfl⟩
 f14:=⟨Tryz.f132.name,by decide,Tryz.func132.trans<|congrArg some<|by kernel_rfl⟩
 f15:=Tryz.func133.trans (congrArg some<|by kernel_rfl)
 f20:=⟨Tryz.f170.name,by decide,Tryz.func170.trans<|congrArg some<|by kernel_rfl⟩
 f21:=⟨Tryz.f171.name,by decide,Tryz.func171.trans<|congrArg some<|by kernel_rfl⟩
 f22:=⟨Tryz.f172.name,by decide,Tryz.func172.trans<|congrArg some<|by kernel_rfl⟩
 f23:=⟨Tryz.f173.name,by decide,Tryz.func173.trans<|congrArg some<|by kernel_rfl⟩
 f24:=⟨Tryz.f174.name,by decide,Tryz.func174.trans<|congrArg some<|by kernel_rfl⟩
 f25:=⟨Tryz.f175.name,by decide,Tryz.func175.trans<|congrArg some<|by kernel_rfl⟩
 f26:=⟨Tryz.f176.name,by decide,Tryz.func176.trans<|congrArg some<|by kernel_rfl⟩
 f27:=⟨Tryz.f177.name,by decide,Tryz.func177.trans<|congrArg some<|by kernel_rfl⟩
 f28:=Tryz.func178.trans (congrArg some<|by kernel_rfl)
 f29:=Tryz.func179.trans (congrArg some<|by kernel_rfl)
 f46:=⟨Tryz.f199.name,by decide,Tryz.func199.trans<|congrArg some<|by kernel_rfl⟩
 f47:=Tryz.func200.trans (congrArg some<|by kernel_rfl)
 f48:=Tryz.func201.trans (congrArg some<|by kernel_rfl)
 f49:=⟨Tryz.f202.name,by decide,Tryz.func202.trans<|congrArg some<|by kernel_rfl⟩
 f50:=⟨Tryz.f203.name,by decide,Tryz.func203.trans<|congrArg some<|by kernel_rfl⟩
 f57:=⟨Tryz.f217.name,by decide,Tryz.func217.trans<|congrArg some<|by kernel_rfl⟩
 t0:=underlying0
 a0:=isAgg0
 z0:=sizeOf0
 v0:=zeroValue0
 t3:=underlying3
 a3:=isAgg3
 z3:=sizeOf3
 v3:=zeroValue3
 t4:=underlying4
 a4:=isAgg4
 z4:=sizeOf4
 v4:=zeroValue4
 t5:=underlying5
 a5:=isAgg5
 z5:=sizeOf5
 v5:=zeroValue5
 t9:=underlying9
 a9:=isAgg9
 z9:=sizeOf9
 v9:=zeroValue9
 t22:=underlying29
 a22:=isAgg29
 z22:=sizeOf29
 v22:=zeroValue29
 a24:=isAgg24
 z24:=sizeOf24
 t25:=underlying110
 a25:=isAgg110
 z25:=sizeOf110
 v25:=zeroValue110
 t39:=underlying155
 a39:=isAgg155
 z39:=sizeOf155
 v39:=zeroValue155
 t45:=underlying190
 a45:=isAgg190
 z45:=sizeOf190
 v45:=zeroValue190
 t46:=underlying191
 a46:=isAgg191
 z46:=sizeOf191
 v46:=zeroValue191
 t50:=underlying195
 a50:=isAgg195
 z50:=sizeOf195
 v50:=zeroValue195
 t53:=underlying198
 a53:=isAgg198
 z53:=sizeOf198
 v53:=zeroValue198
 t55:=underlying113
 a55:=isAgg113
 z55:=sizeOf113
 v55:=zeroValue113
 t66:=underlying214
 a66:=isAgg214
 z66:=sizeOf214
 v66:=zeroValue214
 t70:=underlying218
 a70:=isAgg218
 z70:=sizeOf218
 v70:=zeroValue218
 t76:=underlying229
 a76:=isAgg229
 z76:=sizeOf229
 v76:=zeroValue229
 t77:=underlying230
 a77:=isAgg230
 z77:=sizeOf230
 v77:=zeroValue230 }
theorem cmpSort(W:World)(x y:yLI)(a:yOA)(c:Nat)(F:yLN)(a':yOA)(c':Nat)(F':yLN)(hx:zP W F a c x)(hy:qX.rep W F' [Sv a' y.length c'] y):
 Calls Tryz.prog 79 #[Sv a x.length c,Sv a' y.length c'] W fun e w'=>e=.returned (yI<|cmpL x y)/\w'=W:=
 (compareL_ok W x y a c F a' c' F' hx hy).mono fun _ _ ⟨_,he,⟨hv,hw⟩,_⟩=>⟨he.trans<|by rw[hv],hw⟩
theorem choices_ok(w:World)(s:qH)(t:qG)(xe:zP w xu qF qE s.qA)(xE:zP w xW qO qN s.qB)(xR:zP w zk qV qU t.qK)(zu:zP w zF xm xk t.qQ)(xB:zP w xJ qM qL t.qJ)(p0:vz s)(p1:xK s t):Calls Tryz.prog 108 #[.agg #[yI s.zf,Sv qF s.qA.length qE,Sv qO s.qB.length qN],.agg #[Sv qV t.qK.length qU,Sv xm t.qQ.length xk,Sv qM t.qJ.length qL]] w (Ret (fun v w'=>∃(iI:yOA) (pJ:Nat) (iB:Nat) (re:List Value) (iP:yLN),v=.tuple #[Sv iI pJ iB,yI ((zK s t).2)]/\Fresh w.heap.size [iP]/\St w w' [rr iI pJ iB 24 1 re] [xG true iP re ((zK s t).1)]) w):=by
 refine en func108 ntmps108 ?_
 have H:=(((((St.start w).arg xB).arg zu).arg xR).arg xE).arg xe
 have zV:=qR xe
 have jb:=qR xE
 clear xe xE xR zu xB
 have N:=Fresh.nil w.heap.size
 have A:=H.ltN (L:=[xu,xW,zk,zF,xJ])<|zR 0 5
 have p2:=p0.2.1
 have p3:=p0.1.2.1
 have p4:=p1.1
 have p5:=p1.2.1
 refine zcr<|sw<|zN H (yS s qF qE qO qN) fun b1 w2 H=>sw<|zN H (yT t qV qU xm xk qM qL) fun b3 w4 H=>sq 1<|sp (yI 0)<|zjc<|sw<|xy (yS s qF qE qO qN) isAgg27 sizeOf27 rfl (qC (H.cells 1 rfl) 0 3)<|sw<|xy (yT t qV qU xm xk qM qL) isAgg31 sizeOf31 rfl (qC (H.cells 0 rfl) 0 3)<|sw<|zW #[.agg #[yI s.zf,Sv qF s.qA.length qE,Sv qO s.qB.length qN],.agg #[Sv qV t.qK.length qU,Sv xm t.qQ.length xk,Sv qM t.qJ.length qL]] rfl rfl call158<|en func158 ntmps158 ?_
 refine zcr<|sw<|zN H (yS s qF qE qO qN) fun b5 w6 H=>sw<|zN H (yT t qV qU xm xk qM qL) fun b7 w8 H=>sq 1<|sp (yI 0)<|zjc<|oF rfl<|oL rfl (H.cell 1 rfl rfl)<|oN rfl<|sw<|o_makeZ (⟨[]⟩:OwnI 2) H underlying29 ti24 qj (fun _=>⟨yN,rfl,Or.inl ⟨rfl,rfl,rfl⟩⟩) s.qA.length rfl rfl qf qf qf fun b9 ov amb H=>(sq 1<|zjcc<|sw<|xy (yS s qF qE qO qN) isAgg27 sizeOf27 rfl (qC (H.cells 2 rfl) 0 3)<|sw<|xy (yT t qV qU xm xk qM qL) isAgg31 sizeOf31 rfl (qC (H.cells 1 rfl) 0 3)<|sw<|oc (Xn _ s t (H.get 1 rfl).1 (H.get 2 rfl).1 (H.get 3 rfl).1 (H.get 4 rfl).1 (H.get 5 rfl).1 qg qg) ?_)
 rintro _ xp ⟨md,Yx,mh,rfl,M,K⟩ _
 replace H:=H.merge K M
 obtain rfl:=H.jy 0 rfl
 have al:(appls s t).length<=s.qB.length:=applL_le s t s.qB.length
 refine oN rfl<|sp (yI 0)<|zjn<|xf<|zD ((fun Z0 Z1 Z2 Z3 Z4 Z5 Z6 Z7 Z8 Z9=>fun m' ρ EY=>∃(xN:Env) (k:Nat) (own:List (OwnI 2)) (uY:List Value) (kS:yLN),ρ=upd (upd (upd (upd (upd (upd xN 2<|pp b5 0) 3<|pp b7 0) 6<|Sv (aa b9 0) s.qA.length s.qA.length) 24<|Sv md ((appls s t).length) mh) 25<|yI ((appls s t).length)) 26 (yI k)/\own=(ownL 2 s t s.qA.length k)/\((k:Int)<=((appls s t).length))/\m'=(((appls s t).length)-(k:Int)).toNat/\Fresh w.heap.size [kS]/\St w EY [Z0,rr (aa b9 0) s.qA.length s.qA.length 24 1 uY,Z1,Z2,Z3,Z4] [xG true kS uY own,Z5,Z6,Z7,Z8,Z9]) _ _ _ _ _ _ _ _ _ _) ((((appls s t).length)-(0:Int)).toNat) ⟨_,0,(List.replicate s.qA.length (⟨[]⟩:OwnI 2)),amb,[],uE6,(by exact ownL_zero 2 s t _),qf,rfl,N.emp,H⟩ ?_
 clear H N
 rintro m' ρ y6 ⟨xN,k,own,uY,kS,rfl,rfl,i0,rfl,N,H⟩
 have tB:=H.xQ (α:=OwnI 2) 1 rfl 0 rfl qj
 refine zcr<|sq 1<|zjn<|xU<|cD rfl (fun wx=>?_)<|fun wx=>?_
 ·obtain⟨a0,a1,a2⟩:=appls_inH (s:=s) (t:=t) (q:=k) qf
  have q:=p0.rule (i:=((appls s t)[k]!).toNat) qf
  have qc:=q.1
  have qk:(s.qB[((appls s t)[k]!).toNat]!).qY.toNat<s.qA.length:=q.cell
  have le:=ownL_le (e:=2) (s:=s) (t:=t) (n:=s.qA.length) (q:=k) (c:=(s.qB[((appls s t)[k]!).toNat]!).qY.toNat) qf
  have sm:=jk (p1.2.2.2.2 (s.qB[((appls s t)[k]!).toNat]!).qY.toNat qf).1
  refine qZ<|t_n<|xU<|xf<|zcr ?_
  obtain⟨pg,rfl⟩:=H.jR 0 rfl qf
  refine oI rfl rfl<|oL rfl (H.Xb 0 rfl (iv:=k) (i:=k) qf qf)<|sq 1<|zjc<|oF rfl<|oL rfl (H.cell 3 rfl rfl)<|sq 1 ?_
  obtain⟨fj,Wn,rfl⟩:=H.addr 2 rfl qf
  obtain⟨YN,aai,af1,Zp,agT,ab0,ab5,adY,agZ,Yp,Y3,ah3,aiB,aiu,aiA,adQ,aay,aaH,H⟩:=H.Qa 2 rfl ((appls s t)[k]!) (((appls s t)[k]!).toNat) qf qf qf
  refine oI rfl rfl<|oF rfl<|oL rfl (H.zo 6 rfl 0 rfl)<|sq 1<|zjcc<|oF rfl<|oL rfl (H.cell 2 rfl rfl)<|sq 1 ?_
  obtain⟨yn,Nq,rfl⟩:=H.addr 11 rfl qf
  obtain⟨avy,awf,azy,H⟩:=H.jo 11 rfl ((s.qB[((appls s t)[k]!).toNat]!).qY) (((s.qB[((appls s t)[k]!).toNat]!).qY).toNat) qf qf qf
  refine oI rfl rfl<|oL rfl (H.zo 1 rfl 0 rfl)<|sw<|oq (VE _ (t.qQ[((s.qB[((appls s t)[k]!).toNat]!).qY).toNat]!) (H.get 0 rfl).1<|by assumption) H fun BB H=>sp (Bv<|decide ((Xr (t.qQ[((s.qB[((appls s t)[k]!).toNat]!).qY).toNat]!):Int)>16))<|zjn<|cD rfl (fun LV=>?_)<|fun LV=>?_
  ·refine zcr (sq 1<|sp (yI 3)<|zjr<|t_r<|zr5<|ret2 yN (yI 3) rfl rfl rfl ⟨_,rfl,?_⟩)
   replace H:=H.erases [3,2,1,0]
   dsimp only[zU,List.eraseIdx] at H
   refine sq 2<|sp (yI 3)<|sq 1<|sp (yI 3)<|zjcc<|sp (yI 3)<|sp (Bv true)<|zjn<|cTr rfl<|zcr<|sp (yI 3)<|sq 1<|sp (yI 3)<|zjr<|t_r ?_
   replace H:=H.nilRow 24 1
   replace H:=H.vP (α:=yLI)
   refine ret2 yN (yI 3) rfl rfl rfl ⟨_,rfl,?_,H.base⟩
   rw[cho_3<|.inl<|own_bad p0 (q:=k) qf qf]
   exact⟨none,0,0,[],[],rfl,(N.emp.pick [0]),H.pick [0] [0]⟩
  refine qZ<|t_n<|xX<|sq 4<|oI rfl rfl ?_
  replace N:Fresh w.heap.size [kS]:=N
  obtain⟨a33,c34,F35,ZK,N,H⟩:=H.openI 1 rfl 9 rfl N (iv:=(s.qB[((appls s t)[k]!).toNat]!).qY) (((s.qB[((appls s t)[k]!).toNat]!).qY).toNat) qf qf [sF false xu qF qE s.qA,sF false xW (aa fj Wn) qN s.qB,sF false zk qV qU t.qK,sF false zF (aa yn Nq) xk t.qQ,sF false xJ qM qL t.qJ]<|keepA A N (zR 10 5) rfl rfl
  refine oL rfl ZK<|sq 1<|sw<|zl H underlying24 ti2 [yI ((appls s t)[k]!)] fun GQ Jz H=>sw<|zt H 1 rfl 0 rfl underlying24 ti2 rfl qj rfl rfl rfl qw qp qf fun a39 c40 SB H=>?_
  rw[snocI] at H
  refine oI rfl rfl<|sw<|o_closeI H 3 rfl 1 qj rfl 0 rfl (c:=(((s.qB[((appls s t)[k]!).toNat]!).qY).toNat)) (N:Fresh w.heap.size [F35]) (H.vX []) sizeOf24 rfl rfl qf qf fun KE F43 N H=>xZ<|b_n<|t_n<|xX<|sw<|zC k 1 rfl rfl qf<|sq 1<|xZ<|xh (m':=(((appls s t).length)-((k+1):Int)).toNat) qf ⟨_,k+1,_,_,_,uE6,?_,?_,rfl,N,H.pick (zR 2 6) (0::zR 2 5)⟩
  ·exact ownL_set qf rfl qf qf<|by rw[List.set_set]
  ·omega
 refine zx4<|zcr<|sw<|ja H underlying176 ti180 fun Kg LQ H=>sq 1<|zjcc<|sq 1<|oN rfl<|sp (yI 0)<|zjn<|xf ?_
 replace H:=H.ofOwn 0 rfl
 rw[ownL_end qf] at H
 have cl:=cellsR_len s t s.qA.length
 replace H:=H.boxRow 0 rfl 2 0 rfl qj
 replace H:=H.vP (α:=inCellD)
 replace H:St _ _ [rr (aa Kg 0) 0 0 180 2 [],rr md ((appls s t).length) mh 2 1 ((appls s t).map<|Value.int .i64),rr (aa b9 0) s.qA.length s.qA.length 24 1 uY,.box b7 (yT t qV qU xm xk qM qL) 31,.box b5 (yS s qF qE qO qN) 27,.box b3 (yT t qV qU xm xk qM qL) 31,.box b1 (yS s qF qE qO qN) 27] [xG true [] [] ([]:List inCellD),xG true kS uY<|cellsR s t s.qA.length,xG true kS uY<|ownL 2 s t s.qA.length k,sF false xu qF qE s.qA,sF false xW qO qN s.qB,sF false zk qV qU t.qK,sF false zF xm xk t.qQ,sF false xJ qM qL t.qJ]:=H
 refine zD ((fun Z0 Z1 Z2 Z3 Z4 Z5 Z6 Z7 Z8 Z9 bG bX eZ=>fun m' ρ Dz=>∃(xN:Env) (jZ:yOA) (vV:Nat) (jQ:Nat) (out:List inCellD) (Xf:List Value) (y8:yLN) (c:Nat),ρ=upd (upd (upd (upd (upd (upd xN 2<|pp b5 0) 3<|pp b7 0) 10<|Sv jZ vV jQ) 55<|Sv (aa b9 0) s.qA.length s.qA.length) 56<|yI s.qA.length) 57 (yI c)/\out=(Vq s t c)/\((c:Int)<=s.qA.length)/\(GoodP s t c)/\m'=(s.qA.length-(c:Int)).toNat/\Fresh w.heap.size [kS]/\St w Dz [rr jZ vV jQ 180 2 Xf,Z0,Z1,Z2,Z3,Z4,Z5] [xG true y8 Xf out,Z6,Z7,Z8,Z9,bG,bX,eZ]) _ _ _ _ _ _ _ _ _ _ _ _ _) ((s.qA.length-(0:Int)).toNat) ⟨_,(aa Kg 0),0,0,([]:List inCellD),[],[],0,uE6,(by rfl),qf,qx,rfl,N,H⟩ ?_
 clear H N
 rintro m' ρ Wc ⟨xN,jZ,vV,jQ,out,Xf,y8,c,rfl,rfl,i0,gp,rfl,N,H⟩
 have bQ:=H.xQ (α:=inCellD) 0 rfl 0 rfl qj
 have ce:=cells_len s t c
 have rl:=rules_le s t c
 refine zcr<|sq 1<|zjn<|xU<|cD rfl (fun wu=>?_)<|fun wu=>?_
 ·refine qZ (t_n<|xU<|xf<|zcr<|sp (yI c)<|oI rfl rfl ?_)
  obtain⟨HW,HV,G51,s52,h53,H⟩:=H.jS 2 rfl 1 rfl (iv:=c) c qf qf
  refine oL rfl (h53)<|sp (yI c)<|sq 1<|zjcc<|sq 1<|oN rfl<|sp (Bv ((((cellsR s t s.qA.length)[c]!).length:Int) == 0))<|zjn<|cE rfl (fun YZ=>?_)<|fun YZ=>?_
  ·rw[cellsR_get (s:=s) (t:=t) (n:=s.qA.length) (c:=c) qf] at H YZ ⊢
   refine VR<|t_x<|b_x<|t_n<|xX<|sw<|zC c 1 rfl rfl qf<|sq 1<|xZ<|xh (m':=(s.qA.length-((c+1):Int)).toNat) qf ⟨_,_,_,_,_,_,_,c+1,uE6,?_,?_,?_,rfl,N,H.pick (zR 0 7)<|zR 1 8⟩
   ·exact cells_no qf
   ·omega
   ·exact gp.succ<|by exact .inl qf
  rw[cellsR_get (s:=s) (t:=t) (n:=s.qA.length) (c:=c) qf] at H YZ ⊢
  refine qZ<|t_n<|zcr<|sw<|ja H underlying29 ti24 fun b55 G3 H=>sq 1<|zjcc<|sq 1<|oN rfl<|sp (yI 0)<|zjn<|xf ?_
  replace H:=H.boxRow 0 rfl 1 0 rfl qj
  replace H:=H.vP (α:=yLI)
  replace H:=H.unfree 0 rfl
  refine zD ((fun Z0 Z1 Z2 Z3 Z4 Z5 Z6 Z7 Z8 Z9 bG bX eZ i8 mb oX=>fun m' ρ Lf=>∃(xN:Env) (cY:yOA) (cV:Nat) (cX:Nat) (lL:yLL) (dE:List Value) (gz:yLN) (av:Nat),ρ=upd (upd (upd (upd (upd (upd (upd (upd (upd (upd (upd (upd xN 2<|pp b5 0) 3<|pp b7 0) 10<|Sv jZ vV jQ) 11<|yI c) 12<|Sv HW ((vW s t c).length) HV) 13<|Sv cY cV cX) 55<|Sv (aa b9 0) s.qA.length s.qA.length) 56<|yI s.qA.length) 57<|yI c) 66<|Sv HW ((vW s t c).length) HV) 67<|yI ((vW s t c).length)) 68 (yI av)/\lL=(vY s ((vW s t c).take av))/\((av:Int)<=((vW s t c).length))/\m'=(((vW s t c).length)-(av:Int)).toNat/\Fresh w.heap.size [kS]/\St w Lf [rr cY cV cX 24 1 dE,Z0,Z1,Z2,Z3,Z4,Z5,Z6] [xG false gz dE lL,Z7,Z8,Z9,bG,bX,eZ,i8,mb,oX]) _ _ _ _ _ _ _ _ _ _ _ _ _ _ _ _) ((((vW s t c).length)-(0:Int)).toNat) ⟨_,(aa b55 0),0,0,([]:yLL),[],[],0,uE12,(by rfl),qf,rfl,N,H.pick (zR 0 8) (0::zR 2 9)⟩ ?_
  clear H N
  rintro m' ρ Ny ⟨xN,cY,cV,cX,lL,dE,gz,av,rfl,rfl,i0,rfl,N,H⟩
  have nr:=H.xQ (α:=yLI) 0 rfl 0 rfl qj
  have nl:=Q7 s ((vW s t c).take av)
  have tl:=List.length_take_le av<|vW s t c
  have cl8:=cellR_len (t:=t) p0 c
  refine zcr<|sq 1<|zjn<|xU<|cD rfl (fun h59=>?_)<|fun h59=>?_
  ·obtain⟨e1,e2,e3,e4⟩:=cellR_at (s:=s) (t:=t) (c:=c) (j:=av) qf
   refine qZ<|t_n<|xU<|xf<|zcr ?_
   obtain⟨GO,Ls,rfl⟩:=H.addr 1 rfl qf
   refine oI rfl rfl<|oL rfl (H.zS 1 rfl av qf)<|sq 1<|zjn<|xX<|sq 1<|oF rfl<|oL rfl (H.cell 5 rfl rfl)<|sq 1 ?_
   obtain⟨Uu,o64,rfl⟩:=H.addr 6 rfl qf
   obtain⟨Je,Hq,Zb,acM,abZ,W4,afL,agO,agR,abI,aeo,aeV,aif,aiZ,aiJ,afd,abM,aeA,H⟩:=H.Qa 6 rfl ((vW s t c)[av]!) (((vW s t c)[av]!).toNat) qf qf qf
   refine oI rfl rfl<|oF rfl<|oL rfl (H.zo 6 rfl 2 rfl)<|sw<|zl H underlying29 ti24 [Sv Je (((s.qB[((vW s t c)[av]!).toNat]!).zJ).length) Hq] fun Kz Sr H=>sw<|zt H 1 rfl 0 rfl underlying29 ti24 rfl qj rfl rfl rfl qw qp qf fun a69 c70 LL H=>?_
   replace H:=H.yh 7 rfl 0 rfl
   refine sq 1<|xZ<|b_n<|t_n<|xX<|sw<|zC av 1 rfl rfl qf<|sq 1<|xZ<|xh (m':=(((vW s t c).length)-((av+1):Int)).toNat) qf ⟨_,_,_,_,_,_,_,av+1,uE12,?_,?_,rfl,N,H.pick (zR 1 8) (0::zR 9 9)⟩
   ·exact needs_take qf
   ·omega
  rw[List.take_of_length_le (l:=vW s t c) (i:=av) qf] at H
  refine zx4<|zcr<|oF rfl<|oL rfl (H.cell 4 rfl rfl)<|sp (yI c) ?_
  obtain⟨b72,o73,rfl⟩:=H.addr 8 rfl qf
  obtain⟨avE,ayT,avY,H⟩:=H.jo 8 rfl c c qf qf qf
  refine oI rfl rfl<|oL rfl (H.zo 1 rfl 0 rfl)<|sq 1 ?_
  obtain⟨G76,Hv,h78⟩:=H.QL (α:=yLI) 0 rfl 2 rfl qj
  have cp:=cell_pack p0 p1 (c:=c) qf
  have nl2:=Q7 s<|vW s t c
  have apH:=H.base.size
  have aoJ:=H.ltN (L:=[kS]) [5]
  refine sw<|oc (Qu (by rw[←Hv])<|maxPack_ok _ (t.qQ[c]!) (vY s<|vW s t c) (H.get 0 rfl).1 (Hv▸h78) qg qg) ?_
  rintro _ TX ⟨HL,atU,JD,arO,atE,rfl,M,K⟩ _
  replace N:=N.merge apH aoJ M
  replace H:=H.merge K M
  obtain rfl:=H.xQ (α:=yLI) 0 rfl 0 rfl qj
  refine sq 5<|zjcc<|sq 1<|sp (Bv (((y5 (t.qQ[c]!)<|vY s<|vW s t c).2:Int) != 0))<|zjn<|zX (((y5 (t.qQ[c]!)<|vY s<|vW s t c).2:Int) != 0) rfl (fun Oz=>?_)<|fun Oz=>?_
  ·replace Oz:=bne_iff_ne.1 Oz
   refine zcr<|sq 3<|zjr<|t_r<|zr5<|ret2 yN (yI ((y5 (t.qQ[c]!)<|vY s<|vW s t c).2)) rfl rfl rfl ⟨_,rfl,?_⟩
   replace H:=H.erases [6,5,4,3,2,1,0]
   dsimp only[zU,List.eraseIdx] at H
   refine sq 5<|zjcc<|sq 1<|sp (Bv (((y5 (t.qQ[c]!)<|vY s<|vW s t c).2:Int) != 0))<|zjn<|zX (((y5 (t.qQ[c]!)<|vY s<|vW s t c).2:Int) != 0) rfl (fun mY=>?_)<|fun h=>absurd (xA h) Oz
   replace mY:=bne_iff_ne.1 mY
   refine zcr<|sq 3<|zjr<|t_r ?_
   replace H:=H.nilRow 24 1
   replace H:=H.vP (α:=yLI)
   refine ret2 yN (yI ((y5 (t.qQ[c]!)<|vY s<|vW s t c).2)) rfl rfl rfl ⟨_,rfl,?_,H.base⟩
   rw[cho_code (bad_code (c:=c) qf qf ‹_›) ‹_›]
   exact⟨none,0,0,[],[],rfl,(N.emp.pick [0]),H.pick [0] [0]⟩
  replace Oz:=xA Oz
  refine qZ<|t_n<|xX<|sq 3<|sw<|vg [Sv HW ((vW s t c).length) HV,Sv HL (((y5 (t.qQ[c]!)<|vY s<|vW s t c).1).length) JD] [(0,Sv HW ((vW s t c).length) HV),(1,Sv HL (((y5 (t.qQ[c]!)<|vY s<|vW s t c).1).length) JD)]<|sw<|zl H underlying176 ti180 [Sv HW ((vW s t c).length) HV,Sv HL (((y5 (t.qQ[c]!)<|vY s<|vW s t c).1).length) JD] fun xr OM H=>?_
  have H0:=H
  obtain⟨G92,W9,auD,H⟩:=H.yC (α:=yLI) 1 rfl 0 rfl qj
  replace N:Fresh w.heap.size [G92,kS]:=Fresh.ice N H0 1 W9.1 W9.2<|H0.vX [6]
  clear H0
  refine sw<|zt H 3 rfl 0 rfl underlying176 ti180 rfl qj rfl rfl rfl qw qp qf fun a89 c90 MV H=>?_
  replace H:=H.snoc_inCellD 6 rfl 5 rfl 0 rfl
  refine sq 1<|xZ<|b_n<|t_n<|xX<|sw<|zC c 1 rfl rfl qf<|sq 1<|xZ<|xh (m':=(s.qA.length-((c+1):Int)).toNat) qf ⟨_,_,_,_,_,_,_,c+1,uE6,?_,?_,?_,rfl,(N.pick [1]),H.pick (zR 3 7) (0::zR 8 7)⟩
  ·exact cells_yes qf
  ·omega
  ·exact gp.succ<|by exact .inr<|show (y5 _ _).2=0 from ‹_›
 refine zx4<|zcr<|sq 2<|sp (yI 0)<|zjr<|ret2 (Sv jZ vV jQ) (yI 0) rfl rfl rfl ⟨_,rfl,?_⟩
 replace H:=H.erases [4,3,2,1]
 dsimp only[zU,List.eraseIdx] at H
 obtain rfl:c=s.qA.length:=by omega
 have kn:=packsL_ne p0 p1 (k:=s.qA.length) qf gp
 have kl:=packsL_le s t s.qA.length
 refine sq 2<|sp (yI 0)<|sq 1<|sp (yI 0)<|zjcc<|sp (yI 0)<|sp (Bv false)<|zjn<|cFr rfl<|qZ<|t_n<|zcr<|oF rfl<|oL rfl (H.cell 2 rfl rfl)<|oN rfl<|sw<|zq H underlying24 ti2 s.qB.length rfl rfl qf qf qf fun b95 WY H=>sw<|zl H underlying29 ti24 [Sv (aa b95 0) s.qB.length s.qB.length] fun Nk S5 H=>sq 1<|zjcc<|sq 1<|oN rfl<|sp (yI 0)<|zjn<|xf ?_
 obtain⟨G99,atj,aqY,H⟩:=H.yC (α:=inCellD) 2 rfl 0 rfl qj
 replace H:=H.boxRow 0 rfl 1 1 rfl qj
 replace H:=H.vP (α:=yLI)
 obtain⟨Ui,N,acH,H⟩:=H.zQ 1 rfl N<|H.vX [3]
 replace H:=H.VX true 0 rfl 1 rfl qm
 replace N:Fresh w.heap.size [(Ui++[]),kS]:=(N.emp.pick [1,0,2]).join
 refine zD ((fun Z0 Z1 Z2 Z3 Z4 Z5 Z6 Z7=>fun m' ρ zv=>∃(xN:Env) (cj:yOA) (QQ:Nat) (XR:Nat) (bL:yLL) (cW:List Value) (Xw:yLN) (av:Nat),ρ=upd (upd (upd (upd xN 8<|Sv cj QQ XR) 33<|Sv jZ vV jQ) 34<|yI vV) 35 (yI av)/\bL=(Qm s.qB.length (xP s t s.qA.length) (zI s t s.qA.length) av)/\((av:Int)<=vV)/\((Qm s.qB.length (xP s t s.qA.length) (zI s t s.qA.length) av).length<=300)/\m'=(vV-(av:Int)).toNat/\Fresh w.heap.size [Xw]/\St w zv [rr cj QQ XR 24 1 cW,Z0,Z1] [xG true Xw cW bL,Z2,Z3,Z4,Z5,Z6,Z7]) _ _ _ _ _ _ _ _) ((vV-(0:Int)).toNat) ⟨_,(aa Nk 0),1,1,[(List.replicate s.qB.length (0:Int))],[Sv (aa b95 0) s.qB.length s.qB.length],(Ui++[]),0,uE4,(by rfl),qf,(by rw[XF];show 1<=300;omega),rfl,(N.pick [0]),H.pick [0,3,4] (0::3::zR 7 5)⟩ ?_
 clear H N
 rintro m' ρ Gi ⟨xN,cj,QQ,XR,bL,cW,Xw,av,rfl,rfl,i0,g3,rfl,N,H⟩
 have bQ:=H.xQ (α:=yLI) 0 rfl 0 rfl qj
 refine zcr<|sq 1<|zjn<|xU<|cD rfl (fun BL=>?_)<|fun BL=>?_
 ·obtain⟨gb,gc⟩:=cell_few (s:=s) (t:=t) (n:=s.qA.length) (i:=av) p0 qf
  refine qZ<|t_n<|xU<|xf<|zcr ?_
  obtain⟨Hy,TU,rfl⟩:=H.addr 1 rfl qf
  obtain⟨mM,mL,Up,gX,eG,Kw,H⟩:=H.elem_inCellD 1 rfl av av qf qf qf
  refine oI rfl rfl<|sw<|xy [Sv mM ((((Vq s t s.qA.length)[av]!).frules).length) mL,Sv gX ((((Vq s t s.qA.length)[av]!).fpackings).length) eG] isAgg180 sizeOf180 rfl (qC (H.get 2 rfl) 0 2)<|sw<|xg H ti180 [yN,yN] fun ya II H=>sw<|xx H 0 [Sv mM ((((Vq s t s.qA.length)[av]!).frules).length) mL,Sv gX ((((Vq s t s.qA.length)[av]!).fpackings).length) eG] sizeOf180 fun Aw H=>zjc<|sw<|ja H underlying29 ti24 fun CA akq H=>(sq 1<|zjcc<|sq 1<|oN rfl<|sp (yI 0)<|zjn<|xf ?_)
  obtain⟨ce1,ce2⟩:=cells_at (s:=s) (t:=t) (k:=s.qA.length) (i:=av) qf
  rw[ce1,ce2] at H
  replace H:=H.boxRow 0 rfl 1 0 rfl qj
  replace H:=H.vP (α:=yLI)
  refine zD ((fun Z0 Z1 Z2 Z3 Z4 Z5 Z6 Z7 Z8 Z9 bG bX eZ i8=>fun m' ρ oe=>∃(xN:Env) (dB:yOA) (dN:Nat) (dR:Nat) (next:yLL) (dQ:List Value) (c6:yLN) (aT:Nat),ρ=upd (upd (upd (upd (upd (upd (upd (upd xN 10<|pp ya 0) 11<|Sv dB dN dR) 33<|Sv (aa Hy TU) vV jQ) 34<|yI vV) 35<|yI av) 40<|Sv cj QQ XR) 41<|yI QQ) 42 (yI aT)/\next=(nextK (Qm s.qB.length (xP s t s.qA.length) (zI s t s.qA.length) av) ((xP s t s.qA.length)[av]!) ((zI s t s.qA.length)[av]!) aT)/\((aT:Int)<=QQ)/\((nextK (Qm s.qB.length (xP s t s.qA.length) (zI s t s.qA.length) av) ((xP s t s.qA.length)[av]!) ((zI s t s.qA.length)[av]!) aT).length<=300)/\m'=(QQ-(aT:Int)).toNat/\Fresh w.heap.size [Xw,c6]/\St w oe [rr dB dN dR 24 1 dQ,Z0,Z1,Z2,Z3] [xG true c6 dQ next,Z4,Z5,Z6,Z7,Z8,Z9,bG,bX,eZ,i8]) _ _ _ _ _ _ _ _ _ _ _ _ _ _) ((QQ-(0:Int)).toNat) ⟨_,(aa CA 0),0,0,([]:yLL),[],[],0,uE8,(by rfl),qf,(by show 0<=300;omega),rfl,(N.emp.pick [1,0]),H⟩ ?_
  clear H N
  rintro m' ρ ajR ⟨xN,dB,dN,dR,next,dQ,c6,aT,rfl,rfl,i0,n3,rfl,N,H⟩
  have rN:=H.xQ (α:=yLI) 0 rfl 0 rfl qj
  refine zcr<|sq 1<|zjn<|xU<|cD rfl (fun anB=>?_)<|fun anB=>?_
  ·refine qZ (t_n<|xU<|xf<|zcr ?_)
   obtain⟨wS,rfl⟩:=H.jR 2 rfl qf
   refine oI rfl rfl ?_
   obtain⟨aft,ahh,Rw,aAf,Uc,H⟩:=H.jS 2 rfl 4 rfl (iv:=aT) aT qf qf
   refine oL rfl (Uc)<|sq 1<|zjcc<|oF rfl<|oL rfl (H.cell 1 rfl rfl)<|oN rfl<|sp (yI 0)<|zjn<|xf<|zD ((fun Z0 Z1 Z2 Z3 Z4 Z5 Z6 Z7 Z8 Z9 bG bX eZ i8 mb=>fun m' ρ J3=>∃(xN:Env) (VH:yOA) (XN:Nat) (VC:Nat) (fW:yLL) (cx:List Value) (QX:yLN) (kI:Nat),ρ=upd (upd (upd (upd (upd (upd (upd (upd (upd (upd (upd (upd xN 10<|pp ya 0) 11<|Sv VH XN VC) 13<|Sv aft (((Qm s.qB.length (xP s t s.qA.length) (zI s t s.qA.length) av)[aT]!).length) ahh) 33<|Sv (aa Hy TU) vV jQ) 34<|yI vV) 35<|yI av) 40<|Sv (aa wS 0) QQ XR) 41<|yI QQ) 42<|yI aT) 47<|Sv gX (((zI s t s.qA.length)[av]!).length) eG) 48<|yI (((zI s t s.qA.length)[av]!).length)) 49 (yI kI)/\fW=(nextX (Qm s.qB.length (xP s t s.qA.length) (zI s t s.qA.length) av) ((xP s t s.qA.length)[av]!) ((zI s t s.qA.length)[av]!) aT kI)/\((kI:Int)<=(((zI s t s.qA.length)[av]!).length))/\m'=((((zI s t s.qA.length)[av]!).length)-(kI:Int)).toNat/\Fresh w.heap.size [Xw,QX]/\St w J3 [rr VH XN VC 24 1 cx,Z0,Z1,Z2,Z3] [Z4,xG true QX cx fW,Z5,Z6,Z7,Z8,Z9,bG,bX,eZ,i8,mb]) _ _ _ _ _ _ _ _ _ _ _ _ _ _ _) (((((zI s t s.qA.length)[av]!).length)-(0:Int)).toNat) ⟨_,dB,dN,dR,(nextK (Qm s.qB.length (xP s t s.qA.length) (zI s t s.qA.length) av) ((xP s t s.qA.length)[av]!) ((zI s t s.qA.length)[av]!) aT),dQ,c6,0,uE12,(by exact nextX_zero _ _ _ _),qf,rfl,N,H⟩ ?_
   clear H N
   rintro m' ρ FM ⟨xN,VH,XN,VC,fW,cx,QX,kI,rfl,rfl,i0,rfl,N,H⟩
   have rN:=H.xQ (α:=yLI) 0 rfl 1 rfl qj
   refine zcr<|sq 1<|zjn<|xU<|cD rfl (fun aoj=>?_)<|fun aoj=>?_
   ·have nx:=nextX_len (r:=((xP s t s.qA.length)[av]!)) (show aT<(Qm s.qB.length (xP s t s.qA.length) (zI s t s.qA.length) av).length by omega) (show kI<=((zI s t s.qA.length)[av]!).length by omega)
    have nk:=nextK_len (r:=((xP s t s.qA.length)[av]!)) (P:=((zI s t s.qA.length)[av]!))<|show aT<=(Qm s.qB.length (xP s t s.qA.length) (zI s t s.qA.length) av).length by omega
    have g1:=prodG_at (n:=s.qB.length) (rs:=(xP s t s.qA.length)) (all:=(zI s t s.qA.length)) (i:=av) (k:=aT) qf
    have g2:=pack_at (s:=s) (t:=t) (n:=s.qA.length) (i:=av) (x:=kI) qf qf
    refine qZ<|t_n<|xU<|xf<|zcr ?_
    obtain⟨bj,alM,rfl⟩:=H.addr 3 rfl qf
    obtain⟨aee,agK,arm,H⟩:=H.jo 3 rfl kI kI qf qf qf
    refine oI rfl rfl<|oL rfl (H.zo 1 rfl 0 rfl)<|sq 1<|zjc<|sq 1<|sw<|oc (cloneI_ok _ ((Qm s.qB.length (xP s t s.qA.length) (zI s t s.qA.length) av)[aT]!) (H.get 2 rfl).1 qg) ?_
    rintro awm A8 alc akz
    replace H:=H.zO akz alc
    obtain⟨Hm,IA,rfl,asu,aq6⟩:=H.yc 0 rfl
    refine sq 1<|zjcc<|oF rfl<|oL rfl (H.cell 2 rfl rfl)<|oN rfl<|sp (yI 0)<|zjn<|xf<|zD ((fun Z0 Z1 Z2 Z3 Z4 Z5 Z6 Z7 Z8 Z9 bG bX eZ i8 mb oX EW JG MI=>fun m' ρ aa5=>∃(xN:Env) (nT:Nat) (HZ:yLI),ρ=upd (upd (upd (upd (upd (upd (upd (upd (upd (upd (upd (upd (upd (upd (upd (upd (upd xN 10<|pp ya 0) 11<|Sv VH XN VC) 13<|Sv aft (((Qm s.qB.length (xP s t s.qA.length) (zI s t s.qA.length) av)[aT]!).length) ahh) 15<|Sv aee ((((zI s t s.qA.length)[av]!)[kI]!).length) agK) 16<|Sv Hm (((Qm s.qB.length (xP s t s.qA.length) (zI s t s.qA.length) av)[aT]!).length) IA) 33<|Sv (aa Hy TU) vV jQ) 34<|yI vV) 35<|yI av) 40<|Sv (aa wS 0) QQ XR) 41<|yI QQ) 42<|yI aT) 47<|Sv (aa bj alM) (((zI s t s.qA.length)[av]!).length) eG) 48<|yI (((zI s t s.qA.length)[av]!).length)) 49<|yI kI) 56<|Sv mM (((xP s t s.qA.length)[av]!).length) mL) 57<|yI (((xP s t s.qA.length)[av]!).length)) 58 (yI nT)/\HZ=(setTo ((Qm s.qB.length (xP s t s.qA.length) (zI s t s.qA.length) av)[aT]!) ((xP s t s.qA.length)[av]!) (((zI s t s.qA.length)[av]!)[kI]!) nT)/\((nT:Int)<=(((xP s t s.qA.length)[av]!).length))/\m'=((((xP s t s.qA.length)[av]!).length)-(nT:Int)).toNat/\Fresh w.heap.size [Xw,QX]/\St w aa5 [rr Hm (((Qm s.qB.length (xP s t s.qA.length) (zI s t s.qA.length) av)[aT]!).length) IA 2 1<|HZ.map<|Value.int .i64,Z0,Z1,Z2,Z3,Z4] [Z5,Z6,Z7,Z8,Z9,bG,bX,eZ,i8,mb,oX,EW,JG,MI]) _ _ _ _ _ _ _ _ _ _ _ _ _ _ _ _ _ _ _) (((((xP s t s.qA.length)[av]!).length)-(0:Int)).toNat) ⟨_,0,((Qm s.qB.length (xP s t s.qA.length) (zI s t s.qA.length) av)[aT]!),uE17,(by rfl),qf,rfl,N,H⟩ ?_
    clear H N
    rintro m' ρ Ih ⟨xN,nT,HZ,rfl,rfl,i0,rfl,N,H⟩
    have tB:=H.jy 0 rfl
    refine zcr<|sq 1<|zjn<|xU<|cD rfl (fun R3=>?_)<|fun R3=>?_
    ·obtain⟨g3',g4⟩:=choice_at (s:=s) (t:=t) (n:=s.qA.length) (i:=av) (r:=nT) qf qf
     refine qZ<|t_n<|xU<|xf<|zcr<|sq 1 ?_
     obtain⟨AX,aAd,rfl⟩:=H.addr 4 rfl qf
     refine oI rfl rfl<|oL rfl (H.zS 4 rfl nT qf)<|sq 2<|zjn<|xX<|sq 4 ?_
     obtain⟨aae,azj,rfl⟩:=H.addr 0 rfl qf
     refine oI rfl rfl<|oL rfl (H.zS 0 rfl nT qf) ?_
     obtain⟨jN,rfl⟩:=H.jR 0 rfl qf
     refine oI rfl rfl<|sw<|Qe H 0 rfl ((((zI s t s.qA.length)[av]!)[kI]!)[nT]!) sizeOf2 rfl rfl (i:=((((xP s t s.qA.length)[av]!)[nT]!).toNat)) qf qf fun Mb H=>xZ<|b_n<|t_n<|xX<|sw<|zC nT 1 rfl rfl qf<|sq 1<|xZ<|xh (m':=((((xP s t s.qA.length)[av]!).length)-((nT+1):Int)).toNat) qf ⟨_,nT+1,_,uE17,?_,?_,rfl,N,H⟩
     ·rfl
     ·omega
    refine zx4<|xX<|sq 2<|sw<|zl H underlying29 ti24 [Sv Hm (((Qm s.qB.length (xP s t s.qA.length) (zI s t s.qA.length) av)[aT]!).length) IA] fun B3 SP H=>?_
    obtain⟨YR,N,Zn,H⟩:=H.zQ 1 rfl N<|H.vX [7,3]
    refine sw<|zt H 2 rfl 0 rfl underlying29 ti24 rfl qj rfl rfl rfl qw qp qf fun axP aAj B2 H=>?_
    replace H:=H.yh 4 rfl 0 rfl
    replace N:Fresh w.heap.size [(QX++YR),Xw]:=(N.pick [2,0,1]).join
    refine sq 1<|xZ<|b_n<|t_n<|xX<|sw<|zC kI 1 rfl rfl qf<|sq 1<|xZ<|xh (m':=((((zI s t s.qA.length)[av]!).length)-((kI+1):Int)).toNat) qf ⟨_,_,_,_,_,_,_,kI+1,uE12,?_,?_,rfl,(N.pick [1,0]),H.pick (zR 2 5) (4::0::zR 6 10)⟩
    ·exact nextX_succ qf<|by rw[show nT=((xP s t s.qA.length)[av]!).length by omega];rfl
    ·omega
   refine zx4<|zcr<|sq 1<|oN rfl<|sp (Bv<|decide ((XN:Int)>300))<|zjn<|cD rfl (fun Ta=>?_)<|fun Ta=>?_
   ·refine zcr (sq 1<|sp (yI 3)<|zjr<|zr5<|zr5 ?_)
    replace H:=H.nilRow 24 1
    replace H:=H.vP (α:=yLI)
    refine ret2 yN (yI 3) rfl rfl rfl ⟨_,rfl,?_,H.base⟩
    rw[cho_3<|.inr<|prod_stop (G:=(Qm s.qB.length (xP s t s.qA.length) (zI s t s.qA.length) av)) (r:=((xP s t s.qA.length)[av]!)) (k:=aT+1) (i:=av) kn qf (XF _) qf<|by rw[←nextX_end (x:=kI) qf qf];omega]
    exact⟨none,0,0,[],[],rfl,(N.emp.pick [0]),H.pick [0] [0]⟩
   refine qZ<|b_n<|t_n<|xX<|sw<|zC aT 1 rfl rfl qf<|sq 1<|xZ<|xh (m':=(QQ-((aT+1):Int)).toNat) qf ⟨_,_,_,_,_,_,_,aT+1,uE8,?_,?_,?_,rfl,N,H.pick (zR 0 5)<|zR 1 11⟩
   ·exact nextX_end qf qf
   ·omega
   ·rw[←nextX_end (x:=kI) qf qf];omega
  refine zx4<|xX<|sq 2<|xZ<|b_n<|t_n<|xX<|sw<|zC av 1 rfl rfl qf<|sq 1<|xZ<|xh (m':=(vV-((av+1):Int)).toNat) qf ⟨_,_,_,_,_,_,_,av+1,uE4,?_,?_,?_,rfl,(N.pick [1]),H.pick [0,3,4] (0::zR 5 6)⟩
  ·rw[show aT=(Qm s.qB.length (xP s t s.qA.length) (zI s t s.qA.length) av).length by omega];rfl
  ·omega
  ·show (nextK (Qm s.qB.length (xP s t s.qA.length) (zI s t s.qA.length) av) ((xP s t s.qA.length)[av]!) ((zI s t s.qA.length)[av]!) (Qm s.qB.length (xP s t s.qA.length) (zI s t s.qA.length) av).length).length<=300;rw[←show aT=(Qm s.qB.length (xP s t s.qA.length) (zI s t s.qA.length) av).length by omega];exact n3
 obtain rfl:av=(zI s t s.qA.length).length:=by omega
 have on:0<(Qm s.qB.length (xP s t s.qA.length) (zI s t s.qA.length) (zI s t s.qA.length).length).length:=by rw[XF];exact prod_mono kn (Nat.zero_le _)<|Nat.le_refl _
 have kc:¬XK (zI s t s.qA.length) (zI s t s.qA.length).length>300:=by rw[XF] at g3;omega
 refine zx4<|zcr<|sq 1 ?_
 obtain⟨BS,rfl⟩:=H.jR 0 rfl qf
 refine sw<|ve #[Sv (aa BS 0) QQ XR,.func (.func 79) #[] #[]] rfl rfl call78 (sortRow sortL call79 cmpSort H 0 rfl 0 rfl qf qf) ?_
 rintro _ Ai ⟨agW,adN,axL,rfl,aac,J2,ag8,H⟩
 replace N:Fresh w.heap.size [adN]:=Fresh.perm N aac
 refine zjc<|sq 2<|sp (yI 0)<|zjr<|ret2 (Sv (aa BS 0) QQ XR) (yI 0) rfl rfl rfl ⟨_,rfl,?_,H.base⟩
 rw[cho_0 gp kc J2<|in_order (Nat.le_refl _) fun a b h1 h2 h3=>ag8 a b h1 h2 ((cmpL_ahead ((perm_rows J2 b qf).trans (perm_rows J2 a qf).symm)).2 h3)]
 exact⟨(aa BS 0),QQ,XR,agW,adN,rfl,N,H.pick [0] [0]⟩
theorem firstChoice_ok(w:World)(s:qH)(t:qG)(xe:zP w xu qF qE s.qA)(xE:zP w xW qO qN s.qB)(xR:zP w zk qV qU t.qK)(zu:zP w zF xm xk t.qQ)(xB:zP w xJ qM qL t.qJ)(p0:vz s)(p1:xK s t):Calls Tryz.prog 86 #[.agg #[yI s.zf,Sv qF s.qA.length qE,Sv qO s.qB.length qN],.agg #[Sv qV t.qK.length qU,Sv xm t.qQ.length xk,Sv qM t.qJ.length qL]] w (Ret (fun v w'=>∃(ra:yOA) (rn:Nat) (rc:Nat),v=Sv ra rn rc/\Fresh w.heap.size []/\St w w' [rr ra rn rc 2 1 ((yA s t).map<|Value.int .i64)] []) w):=by
 refine en func86 ntmps86 ?_
 have H:=(((((St.start w).arg xB).arg zu).arg xR).arg xE).arg xe
 have jb:=qR xE
 have yR:=qR zu
 clear xe xE xR zu xB
 have N:=Fresh.nil w.heap.size
 have p3:=p0.2.1
 have p7:=p1.2.1
 have p9:=p0.1.2.1
 have p11:jK s=s.qA.length:=rfl
 refine zcr<|sw<|zN H (yS s qF qE qO qN) fun b1 w2 H=>sw<|zN H (yT t qV qU xm xk qM qL) fun b3 w4 H=>sq 1<|zjn<|xU<|VD (fun ρ ov=>∃(xN:Env) (b5:Nat) (yW:yOA) (y0:Nat) (rx8:List Value) (rF9:yLN),ρ=upd (upd (upd (upd xN 2<|pp b1 0) 3<|pp b3 0) 5<|Sv (aa b5 0) s.qB.length s.qB.length) 6 (Sv yW t.qQ.length y0)/\Fresh w.heap.size []/\St w ov [rr yW t.qQ.length y0 24 1 rx8,rr (aa b5 0) s.qB.length s.qB.length 2 1 ((List.replicate s.qB.length (0:Int)).map<|Value.int .i64),.box b3 (yT t qV qU xm xk qM qL) 31,.box b1 (yS s qF qE qO qN) 27] [xG false rF9 rx8 t.qQ,sF false xu qF qE s.qA,sF false xW qO qN s.qB,sF false zk qV qU t.qK,sF false zF xm xk t.qQ,sF false xJ qM qL t.qJ]) ?_ ?_
 ·refine ji rfl H fun H=>tF 0 rfl rfl H ?_
  refine tL 1 rfl rfl (fun _ h=>h.cell 1 rfl rfl) H ?_
  refine tN 2 rfl rfl H ?_
  refine tF 4 rfl rfl H ?_
  refine tL 5 rfl rfl (fun _ h=>h.cell 0 rfl rfl) H ?_
  refine zY [3,6] qh qm<|vG rfl ?_<|vG rfl ?_ zZ
  ·refine zq H underlying24 ti2 s.qB.length rfl rfl qf qf qf fun uG xp H=>⟨H.pick [1,2]<|zR 0 5,(ro 6 rfl ?_)⟩
   refine oc (cloneSS_ok _ t.qQ (H.get 3 rfl).1 qg) ?_
   rintro _ uK ⟨gZ,agS,pB,SZ,Su,rfl,TB,K⟩ _
   replace H:=H.mergeIn K 3 rfl TB
   obtain rfl:=H.xQ (α:=yLI) 0 rfl 0 rfl qj
   refine⟨H.pick [2,3]<|zR 1 5,?_⟩
   have S:=H.jF [2,3]<|zR 1 5
   refine rtl 7 S ?_
   refine rtl 8 S ?_
   refine xC qh ((meet ⟨_,uG,gZ,pB,SZ,Su,uE4,N,H⟩))
  refine oc (cloneSS_ok _ t.qQ (H.get 3 rfl).1 qg) ?_
  rintro _ G4 ⟨Gf,alL,mF,RR,acU,rfl,apX,K⟩ _
  replace H:=H.mergeIn K 3 rfl apX
  obtain rfl:=H.xQ (α:=yLI) 0 rfl 0 rfl qj
  refine⟨H.pick [1,2]<|zR 1 5,(ro 3 rfl<|zq H underlying24 ti2 s.qB.length rfl rfl qf qf qf fun yn BA H=>⟨H.pick [2,3]<|zR 1 5,?_⟩)⟩
  have S:=H.jF [2,3]<|zR 1 5
  refine rtl 7 S ?_
  refine rtl 8 S ?_
  refine xC qh ((meet ⟨_,yn,Gf,mF,RR,acU,uE4,N,H.pick [1,0,2,3]<|zR 0 6⟩))
 clear H N
 rintro ρ PE ⟨xN,b5,yW,y0,rx8,rF9,rfl,N,H⟩
 refine t_n<|zcc<|sw<|xy (yS s qF qE qO qN) isAgg27 sizeOf27 rfl (qC (H.cells 3 rfl) 0 3)<|sw<|xy (yT t qV qU xm xk qM qL) isAgg31 sizeOf31 rfl (qC (H.cells 2 rfl) 0 3)<|sw<|oc (Xn _ s t (H.get 1 rfl).1 (H.get 2 rfl).1 (H.get 3 rfl).1 (H.get 4 rfl).1 (H.get 5 rfl).1 qg qg) ?_
 rintro _ BB ⟨gy,aaP,ao5,rfl,M,K⟩ _
 replace H:=H.merge K M
 obtain rfl:=H.jy 0 rfl
 have al:(appls s t).length<=s.qB.length:=applL_le s t s.qB.length
 refine oN rfl<|sp (yI 0)<|zjn<|xf<|zD ((fun Z0 Z1 Z2 Z3 Z4 Z5 Z6 Z7=>fun m' ρ Ao=>∃(xN:Env) (k:Nat) (ai:yLL) (bO:List Value) (co:yLN) (out:yLI) (m:Nat),ρ=upd (upd (upd (upd (upd (upd xN 2<|pp b1 0) 5<|Sv (aa b5 0) s.qB.length s.qB.length) 6<|Sv yW t.qQ.length y0) 19<|Sv gy ((appls s t).length) ao5) 20<|yI ((appls s t).length)) 21 (yI k)/\ai=yM s t m/\out=firstTo s t m s.qB.length/\((k:Int)<=((appls s t).length))/\((Yb s t m).length=k)/\(m<=s.qB.length)/\m'=(((appls s t).length)-(k:Int)).toNat/\Fresh w.heap.size []/\St w Ao [Z0,rr yW t.qQ.length y0 24 1 bO,rr (aa b5 0) s.qB.length s.qB.length 2 1<|out.map<|Value.int .i64,Z1,Z2] [xG false co bO ai,Z3,Z4,Z5,Z6,Z7]) _ _ _ _ _ _ _ _) ((((appls s t).length)-(0:Int)).toNat) ⟨_,0,t.qQ,rx8,rF9,(List.replicate s.qB.length (0:Int)),0,uE6,(by rfl),(by exact firstTo_zero s t _),qf,(by rfl),qf,rfl,N,H⟩ ?_
 clear H N
 rintro m' ρ Gy ⟨xN,k,ai,bO,co,out,m,rfl,rfl,rfl,i0,hm,hn,rfl,N,H⟩
 have nM:=H.xQ (α:=yLI) 1 rfl 0 rfl qj
 have bQ:=H.jy 2 rfl
 refine zcr<|sq 1<|zjn<|xU<|cD rfl (fun By=>?_)<|fun By=>?_
 ·obtain⟨a0,a1,a2,a3,a4,a5⟩:=appls_at' hm hn qf
  have q:=p0.rule (i:=((appls s t)[k]!).toNat) qf
  have qc:=q.1
  have qk:=q.cell
  have Pk:=q.2.2.2.2.1
  have ex:((firstTo s t m s.qB.length).set ((appls s t)[k]!).toNat<|jd (s.qB[((appls s t)[k]!).toNat]!).zJ ((yM s t m)[(s.qB[((appls s t)[k]!).toNat]!).qY.toNat]!))[((appls s t)[k]!).toNat]! =(jd (s.qB[((appls s t)[k]!).toNat]!).zJ ((yM s t m)[(s.qB[((appls s t)[k]!).toNat]!).qY.toNat]!)):=by rw[getset<|by rw[Qx];omega,if_pos rfl]
  have xb:=firstC_bd p0 p1 (k:=((appls s t)[k]!).toNat) a2
  rw[←firstC_step a1 a3 a4] at xb
  refine qZ<|t_n<|xU<|xf<|zcr ?_
  obtain⟨ow,rfl⟩:=H.jR 0 rfl qf
  refine oI rfl rfl<|oL rfl (H.Xb 0 rfl (iv:=k) (i:=k) qf qf)<|sq 1<|zjc<|oF rfl<|oL rfl (H.cell 4 rfl rfl)<|sq 1 ?_
  obtain⟨b39,o40,rfl⟩:=H.addr 2 rfl qf
  obtain⟨At,zc,ag0,zm,zb,agC,Ad,An,ags,AQ,Av,aeK,Dk,C1,aiR,AR,A9,abO,H⟩:=H.Qa 2 rfl ((appls s t)[k]!) (((appls s t)[k]!).toNat) qf qf qf
  refine oI rfl rfl<|sw<|xy [yI ((s.qB[((appls s t)[k]!).toNat]!).qY),yI ((s.qB[((appls s t)[k]!).toNat]!).yK),Sv At (((s.qB[((appls s t)[k]!).toNat]!).zJ).length) zc,Sv zm (((s.qB[((appls s t)[k]!).toNat]!).jB).length) zb,Sv Ad (((s.qB[((appls s t)[k]!).toNat]!).jD).length) An,Sv AQ (((s.qB[((appls s t)[k]!).toNat]!).jJ).length) Av,Sv Dk (((s.qB[((appls s t)[k]!).toNat]!).Qq).length) C1,Sv AR (((s.qB[((appls s t)[k]!).toNat]!).xF).length) A9,Bv ((s.qB[((appls s t)[k]!).toNat]!).jY)] isAgg70 sizeOf70 rfl (qC (H.get 6 rfl) 0 9)<|sw<|xg H ti70 [yI 0,yI 0,yN,yN,yN,yN,yN,yN,Bv false] fun GX JC H=>(sw<|xx H 0 [yI ((s.qB[((appls s t)[k]!).toNat]!).qY),yI ((s.qB[((appls s t)[k]!).toNat]!).yK),Sv At (((s.qB[((appls s t)[k]!).toNat]!).zJ).length) zc,Sv zm (((s.qB[((appls s t)[k]!).toNat]!).jB).length) zb,Sv Ad (((s.qB[((appls s t)[k]!).toNat]!).jD).length) An,Sv AQ (((s.qB[((appls s t)[k]!).toNat]!).jJ).length) Av,Sv Dk (((s.qB[((appls s t)[k]!).toNat]!).Qq).length) C1,Sv AR (((s.qB[((appls s t)[k]!).toNat]!).xF).length) A9,Bv ((s.qB[((appls s t)[k]!).toNat]!).jY)] sizeOf70 fun LQ H=>(zjn<|xU<|Qd rfl H [0,1,2,4,5] fun H=>?_))
  have S:=H.jF [0,1,2,4,5]<|zR 0 13
  refine rtl 0 S ?_
  refine rtl 1 S ?_
  refine tF 2 rfl rfl S ?_
  refine tL 3 rfl rfl (fun _ h=>h.cell 0 rfl rfl) S ?_
  refine rtl 4 S ?_
  refine tF 5 rfl rfl S ?_
  refine tL 6 rfl rfl (fun _ h=>h.cell 0 rfl rfl) S ?_
  obtain⟨GS,rfl⟩:=H.jR 2 rfl qf
  refine tI 7 rfl rfl rfl (H.pick [0,1,2,4,5]<|zR 0 13)<|ro 8 rfl ?_
  obtain⟨a48,c49,Pm,s51,Cq,H⟩:=H.jS 2 rfl 7 rfl (iv:=(s.qB[((appls s t)[k]!).toNat]!).qY) (((s.qB[((appls s t)[k]!).toNat]!).qY).toNat) qf qf
  refine zB (Sv a48 (((yM s t m)[((s.qB[((appls s t)[k]!).toNat]!).qY).toNat]!).length) c49) isAgg24 rfl (Cq)<|⟨H.pick [0,1,2,4,5]<|zR 1 13,(ro 9 rfl ?_)⟩
  obtain⟨u1,u2,u5⟩:=firstR_row (c:=(s.qB[((appls s t)[k]!).toNat]!).qY.toNat) p0 p1 (show m<=_ by omega) qk
  have u3:=Pk.len
  have u6:∀q,q<((s.qB[((appls s t)[k]!).toNat]!).zJ).length->0<=((yM s t m)[(s.qB[((appls s t)[k]!).toNat]!).qY.toNat]!)[q]! /\((yM s t m)[(s.qB[((appls s t)[k]!).toNat]!).qY.toNat]!)[q]! <=1000:=fun q hq=>u5 q qf
  refine oq (timesIn_ok _ ((s.qB[((appls s t)[k]!).toNat]!).zJ) ((yM s t m)[((s.qB[((appls s t)[k]!).toNat]!).qY).toNat]!) (H.get 1 rfl).1 (H.get 0 rfl).1 qg qg) H fun WP H=>⟨H.pick [0,1,2,4,5]<|zR 1 13,(tI 10 rfl rfl rfl (H.pick [0,1,2,4,5]<|zR 1 13) ?_)⟩
  refine ro 11 rfl<|Qe H 3 rfl (jd ((s.qB[((appls s t)[k]!).toNat]!).zJ) ((yM s t m)[((s.qB[((appls s t)[k]!).toNat]!).qY).toNat]!)) sizeOf2 rfl rfl (i:=(((appls s t)[k]!).toNat)) qf qf fun G3 H=>⟨H.pick [0,1,2,4,5]<|zR 1 13,(xC qh<|t_n ?_)⟩
  refine Qd rfl H [0,1,3,4,5] fun H=>?_
  have S:=H.jF [0,1,3,4,5]<|zR 0 14
  refine rtl 0 S ?_
  refine tF 1 rfl rfl S ?_
  refine tL 2 rfl rfl (fun _ h=>h.cell 0 rfl rfl) S ?_
  refine rtl 3 S ?_
  refine tF 4 rfl rfl S ?_
  refine tL 5 rfl rfl (fun _ h=>h.cell 0 rfl rfl) S ?_
  refine tI 6 rfl rfl rfl S ?_
  refine tF 8 rfl rfl S ?_
  refine tL 9 rfl rfl (fun _ h=>h.cell 0 rfl rfl) S ?_
  refine rtl 10 S ?_
  refine rtl 11 S ?_
  refine tI 12 rfl rfl rfl S ?_
  refine tL 13 rfl rfl (fun _ h=>h.Xb 2 rfl (iv:=(appls s t)[k]!) (i:=(((appls s t)[k]!).toNat)) qf qf) S ?_
  refine rt 14 _ (y_neg (((firstTo s t m s.qB.length).set (((appls s t)[k]!).toNat)<|jd ((s.qB[((appls s t)[k]!).toNat]!).zJ) ((yM s t m)[((s.qB[((appls s t)[k]!).toNat]!).qY).toNat]!))[((appls s t)[k]!).toNat]!) rfl qf) S ?_
  refine ro 7 rfl ?_
  obtain⟨a58,c59,G60,s61,h62,H⟩:=H.jS 2 rfl 8 rfl (iv:=(s.qB[((appls s t)[k]!).toNat]!).qY) (((s.qB[((appls s t)[k]!).toNat]!).qY).toNat) qf qf
  refine zB (Sv a58 (((yM s t m)[((s.qB[((appls s t)[k]!).toNat]!).qY).toNat]!).length) c59) isAgg24 rfl (h62)<|⟨H.pick [0,1,3,4,5]<|zR 1 14,(ro 15 rfl ?_)⟩
  obtain⟨u1,u2,u5⟩:=firstR_row (c:=(s.qB[((appls s t)[k]!).toNat]!).qY.toNat) p0 p1 (show m<=_ by omega) qk
  have u4:=Pk.Qb (t:= -(((firstTo s t m s.qB.length).set ((appls s t)[k]!).toNat<|jd (s.qB[((appls s t)[k]!).toNat]!).zJ ((yM s t m)[(s.qB[((appls s t)[k]!).toNat]!).qY.toNat]!))[((appls s t)[k]!).toNat]!)) qf
  refine oc (plus_ok _ ((yM s t m)[((s.qB[((appls s t)[k]!).toNat]!).qY).toNat]!) ((s.qB[((appls s t)[k]!).toNat]!).zJ) (-(((firstTo s t m s.qB.length).set (((appls s t)[k]!).toNat)<|jd ((s.qB[((appls s t)[k]!).toNat]!).zJ) ((yM s t m)[((s.qB[((appls s t)[k]!).toNat]!).qY).toNat]!))[((appls s t)[k]!).toNat]!)) (H.get 0 rfl).1 (H.get 2 rfl).1 qg qg qg) ?_
  rintro v68 Hl r68 x67
  replace H:=H.zO x67 r68
  obtain⟨a69,c70,rfl,amD,ajS⟩:=H.yc 0 rfl
  refine⟨H.pick [1,2,4,5,6]<|zR 1 14,(tI 16 rfl rfl rfl (H.pick [1,2,4,5,6]<|zR 1 14) ?_)⟩
  refine ro 17 rfl ?_
  obtain⟨G74,N,Sf,H⟩:=H.zQ 0 rfl N<|H.vX []
  refine yu false H 3 rfl 10 rfl (Sv a69 ((jX ((yM s t m)[((s.qB[((appls s t)[k]!).toNat]!).qY).toNat]!) ((s.qB[((appls s t)[k]!).toNat]!).zJ) (-(((firstTo s t m s.qB.length).set (((appls s t)[k]!).toNat)<|jd ((s.qB[((appls s t)[k]!).toNat]!).zJ) ((yM s t m)[((s.qB[((appls s t)[k]!).toNat]!).qY).toNat]!))[((appls s t)[k]!).toNat]!))).length) c70) 0 rfl rfl sizeOf24 rfl rfl (i:=(((s.qB[((appls s t)[k]!).toNat]!).qY).toNat)) qf qf qm fun N5 awQ F77 awR H=>⟨H.pick [1,2,4,5,6]<|zR 3 14,(xC qh<|b_n<|t_n<|xX ?_)⟩
  refine sw<|zC k 1 rfl rfl qf<|sq 1<|xZ<|xh (m':=(((appls s t).length)-((k+1):Int)).toNat) qf ⟨_,k+1,_,_,_,_,((appls s t)[k]!).toNat+1,uE6,?_,?_,?_,?_,?_,rfl,(N.pick []),H.pick (zR 2 5) (0::zR 12 5)⟩
  ·exact firstR_step a1 a2 a3 a4 ex
  ·exact firstTo_set a1 a2 a4<|firstC_step a1 a3 a4
  ·omega
  ·exact a5
  ·exact a2
 refine zx4<|zcr<|sq 2<|zjr<|rH1 (Sv (aa b5 0) s.qB.length s.qB.length) H ?_
 rw[firstTo_end hn<|appls_end hm hn qf] at H
 exact⟨(aa b5 0),s.qB.length,s.qB.length,rfl,N,H.pick [2] []⟩
theorem around_ok(w:World)(s:qH)(xe:zP w xu qF qE s.qA)(xE:zP w xW qO qN s.qB):Calls Tryz.prog 129 #[.agg #[yI s.zf,Sv qF s.qA.length qE,Sv qO s.qB.length qN]] w (Ret (fun v w'=>v=yI s.qA.length) w):=by
 refine en func129 ntmps129 ?_
 have H:=((St.start w).arg xE).arg xe
 clear xe xE
 refine zcr<|sw<|zN H (yS s qF qE qO qN) fun b1 w2 H=>sp (yI 0)<|zjc<|oF rfl<|oL rfl (H.cell 0 rfl rfl)<|oN rfl<|sq 1<|zjr<|rH1 (yI s.qA.length) H ?_
 rfl
theorem step_ok(w:World)(s:qH)(t:qG)(counts:yLI)(xe:zP w xu qF qE s.qA)(xE:zP w xW qO qN s.qB)(xR:zP w zk qV qU t.qK)(zu:zP w zF xm xk t.qQ)(xB:zP w xJ qM qL t.qJ)(cg:zP w bS aP aK counts)(p0:vz s)(p1:xK s t)(p2:CntOk s counts)(p3:IsCh s t counts):Calls Tryz.prog 74 #[.agg #[yI s.zf,Sv qF s.qA.length qE,Sv qO s.qB.length qN],.agg #[Sv qV t.qK.length qU,Sv xm t.qQ.length xk,Sv qM t.qJ.length qL],Sv aP counts.length aK] w (Ret (fun v w'=>∃(cJ:yOA) (cw:Nat) (cU:Nat) (dI:yOA) (dP:Nat) (dD:Nat) (dK:List Value) (dL:yLN) (Vj:yOA) (Vb:Nat) (Vf:Nat),v=.tuple #[.agg #[Sv cJ cw cU,Sv dI dP dD,Sv Vj Vb Vf],yI ((zA s t counts).2)]/\Fresh w.heap.size [dL]/\St w w' [rr cJ cw cU 4 1 ((((zA s t counts).1).qK).map<|Value.bool),rr dI dP dD 24 1 dK,rr Vj Vb Vf 2 1 ((((zA s t counts).1).qJ).map<|Value.int .i64)] [xG true dL dK (((zA s t counts).1).qQ)]) w):=by
 refine en func74 ntmps74 ?_
 have H:=((((((St.start w).arg cg).arg xB).arg zu).arg xR).arg xE).arg xe
 have jb:=qR xE
 have yR:=qR zu
 clear xe xE xR zu xB cg
 have N:=Fresh.nil w.heap.size
 have p5:=p0.2.1
 have p6:=p2.1
 have p7:=p1.2.1
 have p8:=kinds_le p0
 have p9:=p0.1.2.1
 have p11:jK s=s.qA.length:=rfl
 have Bw:=p1.1
 have p15:=p0.1
 have p16:=p0.1.1
 refine zcr<|sw<|zN H (yS s qF qE qO qN) fun b1 w2 H=>sw<|zN H (yT t qV qU xm xk qM qL) fun b3 w4 H=>sw<|xg H ti31 [yN,yN,yN] fun b5 w6 H=>sp (yI 0)<|zjn<|xU<|VD (fun ρ rL=>∃(xN:Env) (a7:yOA) (c8:Nat) (rx9:List Value) (T4:yLN),ρ=upd (upd (upd (upd (upd xN 2<|Sv aP counts.length aK) 3<|pp b1 0) 4<|pp b3 0) 6<|pp b5 0) 8 (Sv a7 (t.qQ.length+1) c8)/\Fresh w.heap.size []/\St w rL [rr a7 (t.qQ.length+1) c8 24 1<|rx9++[Sv qM t.qJ.length qL],.box b5 [yN,yN,yN] 31,.box b3 (yT t qV qU xm xk qM qL) 31,.box b1 (yS s qF qE qO qN) 27] [xG false (T4++xJ) (rx9++[Sv qM t.qJ.length qL])<|t.qQ++[t.qJ],sF false xu qF qE s.qA,sF false xW qO qN s.qB,sF false zk qV qU t.qK,sF false zF xm xk t.qQ,sF false xJ qM qL t.qJ,sF false bS aP aK counts]) ?_ ?_
 ·refine ji rfl H fun H=>tF 0 rfl rfl H ?_
  refine tL 1 rfl rfl (fun _ h=>h.cell 1 rfl rfl) H ?_
  refine tF 3 rfl rfl H ?_
  refine tL 4 rfl rfl (fun _ h=>h.cell 1 rfl rfl) H ?_
  refine zY [2,5] qh qm<|vG rfl ?_<|vG rfl ?_ zZ
  ·refine oc (cloneSS_ok _ t.qQ (H.get 3 rfl).1 qg) ?_
   rintro _ O5 ⟨e5,auT,axN,akL,ajB,rfl,ajM,K⟩ _
   replace H:=H.mergeIn K 3 rfl ajM
   obtain rfl:=H.xQ (α:=yLI) 0 rfl 0 rfl qj
   refine⟨H.pick [1,2,3]<|zR 1 6,(ro 5 rfl<|zl H underlying29 ti24 [Sv qM t.qJ.length qL] fun gO tr H=>⟨H.pick [2,3,4]<|zR 1 6,(ro 6 rfl<|zt H 1 rfl 0 rfl underlying29 ti24 rfl qj rfl rfl rfl qw qp qf fun a21 c22 Cz H=>?_)⟩)⟩
   replace H:=H.yh 0 rfl 5 rfl
   refine⟨H.pick [2,3,4]<|zR 2 6,(rtl 7 (H.pick [2,3,4]<|zR 2 6) ?_)⟩
   refine xC qh ((meet ⟨_,a21,c22,akL,ajB,uE5,N,H.pick (zR 1 4) (0::zR 2 6)⟩))
  refine zl H underlying29 ti24 [Sv qM t.qJ.length qL] fun C0 Ce H=>⟨H.pick [1,2,3]<|zR 0 6,(ro 2 rfl ?_)⟩
  refine oc (cloneSS_ok _ t.qQ (H.get 3 rfl).1 qg) ?_
  rintro _ BA ⟨aAl,aus,gW,RA,alG,rfl,akv,K⟩ _
  replace H:=H.mergeIn K 3 rfl akv
  obtain rfl:=H.xQ (α:=yLI) 0 rfl 0 rfl qj
  refine⟨H.pick [2,3,4]<|zR 1 6,(ro 6 rfl<|zt H 0 rfl 1 rfl underlying29 ti24 rfl qj rfl rfl rfl qw qp qf fun GU G0 Gj H=>?_)⟩
  replace H:=H.yh 0 rfl 5 rfl
  refine⟨H.pick [2,3,4]<|zR 2 6,(rtl 7 (H.pick [2,3,4]<|zR 2 6) ?_)⟩
  refine xC qh ((meet ⟨_,GU,G0,RA,alG,uE5,N,H.pick [0,2,3,4] (0::zR 2 6)⟩))
 clear H N
 rintro ρ Ao ⟨xN,a7,c8,rx9,T4,rfl,N,H⟩
 refine t_n<|zcr<|oF rfl<|oL rfl (H.cell 3 rfl rfl)<|oN rfl<|sw<|o_makeB H underlying28 ti4 s.qA.length rfl rfl qf qf qf fun tD Jk H=>sq 1<|zjcc<|sq 1<|oN rfl<|sp (yI 0)<|zjn<|xf<|zD ((fun Z0 Z1 Z2 Z3 Z4 Z5 Z6 Z7 Z8=>fun m' ρ Jz=>∃(xN:Env) (i:Nat) (melts:List Bool) (bags:yLL) (i7:List Value) (oY:yLN),ρ=upd (upd (upd (upd (upd (upd (upd (upd xN 3<|pp b1 0) 4<|pp b3 0) 6<|pp b5 0) 8<|Sv a7 (t.qQ.length+1) c8) 9<|Sv (aa tD 0) s.qA.length s.qA.length) 26<|Sv aP counts.length aK) 27<|yI counts.length) 28 (yI i)/\melts=QP s counts s.qA.length i/\((i:Int)<=counts.length)/\(Ent (s.qA.length+1) (yE s) (fun p q=>base0 s t p q+allS s t counts i p q) (20000000+6000000*i) bags)/\(bags.length=s.qA.length+1)/\m'=(counts.length-(i:Int)).toNat/\Fresh w.heap.size []/\St w Jz [rr (aa tD 0) s.qA.length s.qA.length 4 1<|melts.map<|Value.bool,rr a7 (t.qQ.length+1) c8 24 1 i7,Z0,Z1,Z2] [xG false oY i7 bags,Z3,Z4,Z5,Z6,Z7,Z8]) _ _ _ _ _ _ _ _ _) ((counts.length-(0:Int)).toNat) ⟨_,0,(List.replicate s.qA.length<|false),(t.qQ++[t.qJ]),rx9++[Sv qM t.qJ.length qL],(T4++xJ),uE8,(by exact meltsL_zero s counts _),qf,(by exact(start_ent p1).to (fun _ _=>rfl) qf),qy,rfl,N,H⟩ ?_
 clear H N
 rintro m' ρ BG ⟨xN,i,melts,bags,i7,oY,rfl,rfl,i0,dU,ap4,rfl,N,H⟩
 have ac0:=H.Xg 0 rfl
 refine zcr<|sq 1<|zjn<|xU<|cD rfl (fun Bo=>?_)<|fun Bo=>?_
 ·have q:=p0.rule (i:=i) qf
  have qc:=q.1
  have qk:=q.cell
  have Pk:=q.2.2.2.2.1
  have P8:=q.2.2.2.2.2.2.2.1
  have Jp:=q.2.2.2.2.2.2.2.2.1
  have ln1:=Pk.len
  have ln2:=P8.len
  have ln3:=Jp.len
  have p10:=p2.bd (i:=i) qf
  have qn:=q.2.2.2.1
  refine qZ<|t_n<|xU<|xf<|zcr<|sp (yI i) ?_
  obtain⟨b41,o42,rfl⟩:=H.addr 6 rfl qf
  refine oI rfl rfl<|oL rfl (H.zS 6 rfl i qf)<|sp (yI i)<|sq 1<|zjc<|oF rfl<|oL rfl (H.cell 4 rfl rfl)<|sp (yI i) ?_
  obtain⟨Kg,WZ,rfl⟩:=H.addr 2 rfl qf
  obtain⟨lj,lB,Zi,lN,kO,abv,lJ,lE,aeM,im,hJ,Xs,jn,j9,aid,fY,fp,ah4,H⟩:=H.Qa 2 rfl i i qf qf qf
  refine oI rfl rfl<|sw<|xy [yI ((s.qB[i]!).qY),yI ((s.qB[i]!).yK),Sv lj (((s.qB[i]!).zJ).length) lB,Sv lN (((s.qB[i]!).jB).length) kO,Sv lJ (((s.qB[i]!).jD).length) lE,Sv im (((s.qB[i]!).jJ).length) hJ,Sv jn (((s.qB[i]!).Qq).length) j9,Sv fY (((s.qB[i]!).xF).length) fp,Bv ((s.qB[i]!).jY)] isAgg70 sizeOf70 rfl (qC (H.get 6 rfl) 0 9)<|sw<|xg H ti70 [yI 0,yI 0,yN,yN,yN,yN,yN,yN,Bv false] fun b48 OV H=>sw<|xx H 0 [yI ((s.qB[i]!).qY),yI ((s.qB[i]!).yK),Sv lj (((s.qB[i]!).zJ).length) lB,Sv lN (((s.qB[i]!).jB).length) kO,Sv lJ (((s.qB[i]!).jD).length) lE,Sv im (((s.qB[i]!).jJ).length) hJ,Sv jn (((s.qB[i]!).Qq).length) j9,Sv fY (((s.qB[i]!).xF).length) fp,Bv ((s.qB[i]!).jY)] sizeOf70 fun Pt H=>(zjn<|xU<|Qd rfl H [0,1,3,4,5] fun H=>?_)
  have S:=H.jF [0,1,3,4,5]<|zR 0 14
  refine rtl 0 S ?_
  refine tF 1 rfl rfl S ?_
  refine tL 2 rfl rfl (fun _ h=>h.cell 0 rfl rfl) S ?_
  refine rtl 3 S ?_
  refine tF 4 rfl rfl S ?_
  refine tL 5 rfl rfl (fun _ h=>h.cell 0 rfl rfl) S ?_
  obtain⟨Tc,rfl⟩:=H.jR 2 rfl qf
  have S:=H.jF [0,1,3,4,5]<|zR 0 14
  refine tI 6 rfl rfl rfl S ?_
  refine tF 8 rfl rfl S ?_
  refine tL 9 rfl rfl (fun _ h=>h.cell 0 rfl rfl) S ?_
  refine rtl 10 S ?_
  refine rt 11 _ (y_neg (counts[i]!) rfl qf) S ?_
  refine ro 7 rfl ?_
  obtain⟨a53,c54,G55,s56,KH,H⟩:=H.jS 2 rfl 7 rfl (iv:=(s.qB[i]!).qY) (((s.qB[i]!).qY).toNat) qf qf
  refine zB (Sv a53 ((bags[((s.qB[i]!).qY).toNat]!).length) c54) isAgg24 rfl (KH)<|⟨H.pick [0,1,3,4,5]<|zR 1 14,(ro 12 rfl ?_)⟩
  obtain⟨u1,u2⟩:=dU.sh.row (c:=((s.qB[i]!).qY).toNat) qf p8 qf
  have u4:=(by exact Pk.Qb qf:SmallT ((s.qB[i]!).zJ) (-(counts[i]!)))
  refine oc (plus_ok _ (bags[((s.qB[i]!).qY).toNat]!) ((s.qB[i]!).zJ) (-(counts[i]!)) (H.get 0 rfl).1 (H.get 1 rfl).1 qg qg qg) ?_
  rintro v63 Sq r63 x62
  replace H:=H.zO x62 r63
  obtain⟨a64,c65,rfl,aAo,axT⟩:=H.yc 0 rfl
  refine⟨H.pick [1,2,4,5,6]<|zR 1 14,(tI 13 rfl rfl rfl (H.pick [1,2,4,5,6]<|zR 1 14) ?_)⟩
  refine ro 14 rfl ?_
  obtain⟨G69,N,av1,H⟩:=H.zQ 0 rfl N<|H.vX []
  refine yu false H 3 rfl 9 rfl (Sv a64 ((jX (bags[((s.qB[i]!).qY).toNat]!) ((s.qB[i]!).zJ) (-(counts[i]!))).length) c65) 0 rfl rfl sizeOf24 rfl rfl (i:=(((s.qB[i]!).qY).toNat)) qf qf qm fun Sr ajX F72 auZ H=>⟨H.pick [1,2,4,5,6]<|zR 3 14,(xC qh<|t_n<|zcr<|sw<|xy [yI s.zf,Sv qF s.qA.length qE,Sv (aa Kg WZ) s.qB.length qN] isAgg27 sizeOf27 rfl (qC (H.cells 6 rfl) 0 3) ?_)⟩
  refine sw<|xy (yT t qV qU xm xk qM qL) isAgg31 sizeOf31 rfl (qC (H.cells 5 rfl) 0 3)<|sq 1<|sw<|xy [yI ((s.qB[i]!).qY),yI ((s.qB[i]!).yK),Sv lj (((s.qB[i]!).zJ).length) lB,Sv lN (((s.qB[i]!).jB).length) kO,Sv lJ (((s.qB[i]!).jD).length) lE,Sv im (((s.qB[i]!).jJ).length) hJ,Sv jn (((s.qB[i]!).Qq).length) j9,Sv fY (((s.qB[i]!).xF).length) fp,Bv ((s.qB[i]!).jY)] isAgg70 sizeOf70 rfl (qC (H.cells 1 rfl) 0 9)<|sq 1 ?_
  obtain⟨Il,Ir⟩:∃z,z=(bags.set (((s.qB[i]!).qY).toNat) (jX (bags[((s.qB[i]!).qY).toNat]!) ((s.qB[i]!).zJ) (-(counts[i]!)))):=⟨_,rfl⟩
  rw[←Ir] at H
  have BZ:=Ent.add (D:=1000000) dU Ir qf (by exact Pk.mul qf) qf
  have anw:=BZ.sh.1
  refine sw<|zW #[.agg #[yI s.zf,Sv qF s.qA.length qE,Sv (aa Kg WZ) s.qB.length qN],.agg #[Sv qV t.qK.length qU,Sv xm t.qQ.length xk,Sv qM t.qJ.length qL],Sv (aa Tc 0) (t.qQ.length+1) c8,.agg #[yI ((s.qB[i]!).qY),yI ((s.qB[i]!).yK),Sv lj (((s.qB[i]!).zJ).length) lB,Sv lN (((s.qB[i]!).jB).length) kO,Sv lJ (((s.qB[i]!).jD).length) lE,Sv im (((s.qB[i]!).jJ).length) hJ,Sv jn (((s.qB[i]!).Qq).length) j9,Sv fY (((s.qB[i]!).xF).length) fp,Bv ((s.qB[i]!).jY)],yI<|counts[i]!] rfl rfl call128<|en func128 ntmps128 ?_
  refine zcr<|sw<|zN H [yI s.zf,Sv qF s.qA.length qE,Sv (aa Kg WZ) s.qB.length qN] fun b75 w76 H=>sw<|zN H (yT t qV qU xm xk qM qL) fun Bt RH H=>sw<|zN H [Sv (aa Tc 0) (t.qQ.length+1) c8] fun sY TX H=>(sw<|zN H [yI ((s.qB[i]!).qY),yI ((s.qB[i]!).yK),Sv lj (((s.qB[i]!).zJ).length) lB,Sv lN (((s.qB[i]!).jB).length) kO,Sv lJ (((s.qB[i]!).jD).length) lE,Sv im (((s.qB[i]!).jJ).length) hJ,Sv jn (((s.qB[i]!).Qq).length) j9,Sv fY (((s.qB[i]!).xF).length) fp,Bv ((s.qB[i]!).jY)] fun b81 w82 H=>sw<|zN H [yI<|counts[i]!] fun Bq KD H=>zjc<|sp (.func (.func 169) #[] #[pp sY 0,pp Bq 0])<|sp (.func (.func 169) #[] #[pp sY 0,pp Bq 0])<|zjc<|sp (.func (.func 169) #[] #[pp sY 0,pp Bq 0])<|oF rfl<|oL rfl (H.cell 1 rfl rfl)<|oF rfl<|oL rfl (H.cell 1 rfl rfl)<|sw<|zW #[yI ((s.qB[i]!).qY),Sv im (((s.qB[i]!).jJ).length) hJ,pp sY 0,pp Bq 0] rfl rfl call169<|en func169 ntmps169 ?_)
  refine Qd rfl H [0,1,2,3,4,5,6,7,9,10,11] fun H=>?_
  have S:=H.jF [0,1,2,3,4,5,6,7,9,10,11]<|zR 0 17
  refine tL 0 rfl rfl (fun _ h=>h.cell 2 rfl rfl) S ?_
  refine rtl 1 S ?_
  refine tL 2 rfl rfl (fun _ h=>h.cell 2 rfl rfl) S ?_
  refine rtl 3 S ?_
  refine tI 4 rfl rfl rfl S ?_
  refine rtl 6 S ?_
  refine tL 7 rfl rfl (fun _ h=>h.cell 0 rfl rfl) S ?_
  refine ro 5 rfl ?_
  obtain⟨a86,c87,Vi,s89,CS,H⟩:=H.jS 8 rfl 0 rfl (iv:=(s.qB[i]!).qY) (((s.qB[i]!).qY).toNat) qf qf
  refine zB (Sv a86 ((Il[((s.qB[i]!).qY).toNat]!).length) c87) isAgg24 rfl (CS)<|⟨H.pick [0,1,2,3,4,5,6,7,9,10,11]<|zR 1 17,(ro 8 rfl ?_)⟩
  obtain⟨u1,u2⟩:=BZ.sh.row (c:=((s.qB[i]!).qY).toNat) qf p8 qf
  have u4:=(by exact P8.Qb qf:SmallT ((s.qB[i]!).jJ) (counts[i]!))
  refine oc (plus_ok _ (Il[((s.qB[i]!).qY).toNat]!) ((s.qB[i]!).jJ) (counts[i]!) (H.get 0 rfl).1 (H.get 7 rfl).1 qg qg qg) ?_
  rintro v96 L8 r96 x95
  replace H:=H.zO x95 r96
  obtain⟨a97,c98,rfl,auv,atl⟩:=H.yc 0 rfl
  refine⟨H.pick [1,2,3,4,5,6,7,8,10,11,12]<|zR 1 17,(tI 9 rfl rfl rfl (H.pick [1,2,3,4,5,6,7,8,10,11,12]<|zR 1 17) ?_)⟩
  refine ro 10 rfl ?_
  obtain⟨Ui,N,acH,H⟩:=H.zQ 0 rfl N<|H.vX [2]
  refine yu false H 9 rfl 2 rfl (Sv a97 ((jX (Il[((s.qB[i]!).qY).toNat]!) ((s.qB[i]!).jJ)<|counts[i]!).length) c98) 0 rfl rfl sizeOf24 rfl rfl (i:=(((s.qB[i]!).qY).toNat)) qf qf qm fun LO arz aa0 arJ H=>⟨H.pick [1,2,3,4,5,6,7,8,10,11,12]<|zR 3 17,(xC qh ((ret0 rfl ⟨_,rfl,?_⟩)))⟩
  replace H:=H.erases [6,0]
  dsimp only[zU,List.eraseIdx] at H
  obtain⟨mq,Er⟩:∃z,z=(Il.set (((s.qB[i]!).qY).toNat) (jX (Il[((s.qB[i]!).qY).toNat]!) ((s.qB[i]!).jJ) (counts[i]!))):=⟨_,rfl⟩
  rw[←Er] at H
  have nt:=Ent.add (D:=1000000) BZ Er qf (by exact P8.mul qf) qf
  have aiT:=nt.sh.1
  refine zjcc<|sw<|xy [yI s.zf,Sv qF s.qA.length qE,Sv (aa Kg WZ) s.qB.length qN] isAgg27 sizeOf27 rfl (qC (H.cells 4 rfl) 0 3)<|sw<|xy (yT t qV qU xm xk qM qL) isAgg31 sizeOf31 rfl (qC (H.cells 3 rfl) 0 3)<|oF rfl<|oL rfl (H.cell 1 rfl rfl) ?_
  have qc':=qc
  refine sw<|oq (parentNow_ok _ s t ((s.qB[i]!).qY) (H.get 14 rfl).1 (H.get 15 rfl).1 (H.get 16 rfl).1 (H.get 17 rfl).1 (H.get 18 rfl).1 qg qg qg) H fun Mf H=>?_
  have pl:=parentNow_lt p15 p1.2.2.1 qc
  refine sq 1<|zjc<|sq 1<|sp (Bv<|decide ((x9 s t ((s.qB[i]!).qY):Int)>=0))<|zjn<|cD rfl (fun uM=>?_)<|fun uM=>?_
  ·have po:=outPl_in (r:=s.qB[i]!) p15 ‹_›
   refine xX<|sp (.func (.func 169) #[] #[pp sY 0,pp Bq 0])<|sq 1<|oF rfl<|oL rfl (H.cell 1 rfl rfl)<|sw<|zW #[yI<|x9 s t ((s.qB[i]!).qY),Sv jn (((s.qB[i]!).Qq).length) j9,pp sY 0,pp Bq 0] rfl rfl call169<|en func169 ntmps169 ?_
   refine Qd rfl H [0,1,2,3,4,5,6,8,9,10] fun H=>?_
   have S:=H.jF [0,1,2,3,4,5,6,8,9,10]<|zR 0 20
   refine tL 0 rfl rfl (fun _ h=>h.cell 2 rfl rfl) S ?_
   refine rtl 1 S ?_
   refine tL 2 rfl rfl (fun _ h=>h.cell 2 rfl rfl) S ?_
   refine rtl 3 S ?_
   refine tI 4 rfl rfl rfl S ?_
   refine rtl 6 S ?_
   refine tL 7 rfl rfl (fun _ h=>h.cell 0 rfl rfl) S ?_
   refine ro 5 rfl ?_
   obtain⟨I5,JL,wO,awV,FF,H⟩:=H.jS 7 rfl 0 rfl (iv:=x9 s t ((s.qB[i]!).qY)) ((x9 s t ((s.qB[i]!).qY)).toNat) qf qf
   refine zB (Sv I5 ((mq[(x9 s t ((s.qB[i]!).qY)).toNat]!).length) JL) isAgg24 rfl (FF)<|⟨H.pick [0,1,2,3,4,5,6,8,9,10]<|zR 1 20,(ro 8 rfl ?_)⟩
   obtain⟨u1,u2⟩:=nt.sh.row (c:=(x9 s t ((s.qB[i]!).qY)).toNat) qf p8 qf
   have u4:=(by exact Jp.Qb qf:SmallT ((s.qB[i]!).Qq) (counts[i]!))
   refine oc (plus_ok _ (mq[(x9 s t ((s.qB[i]!).qY)).toNat]!) ((s.qB[i]!).Qq) (counts[i]!) (H.get 0 rfl).1 (H.get 11 rfl).1 qg qg qg) ?_
   rintro auV Fg al7 apD
   replace H:=H.zO apD al7
   obtain⟨apM,aod,rfl,ask,aqU⟩:=H.yc 0 rfl
   refine⟨H.pick [1,2,3,4,5,6,7,9,10,11]<|zR 1 20,(tI 9 rfl rfl rfl (H.pick [1,2,3,4,5,6,7,9,10,11]<|zR 1 20) ?_)⟩
   refine ro 10 rfl ?_
   obtain⟨Ul,N,ahk,H⟩:=H.zQ 0 rfl N<|H.vX [2,5]
   refine yu false H 8 rfl 2 rfl (Sv apM ((jX (mq[(x9 s t ((s.qB[i]!).qY)).toNat]!) ((s.qB[i]!).Qq)<|counts[i]!).length) aod) 0 rfl rfl sizeOf24 rfl rfl (i:=((x9 s t ((s.qB[i]!).qY)).toNat)) qf qf qm fun Za ahz ah8 aqR H=>⟨H.pick [1,2,3,4,5,6,7,9,10,11]<|zR 3 20,(xC qh ((ret0 rfl ⟨_,rfl,?_⟩)))⟩
   replace H:=H.erases [0]
   dsimp only[zU,List.eraseIdx] at H
   obtain⟨ah7,Da⟩:∃z,z=(mq.set ((x9 s t ((s.qB[i]!).qY)).toNat) (jX (mq[(x9 s t ((s.qB[i]!).qY)).toNat]!) ((s.qB[i]!).Qq) (counts[i]!))):=⟨_,rfl⟩
   rw[←Da] at H
   have C3:=Ent.add (D:=1000000) nt Da qf (by exact Jp.mul qf) qf
   have aiH:=C3.sh.1
   have fK:=C3
   refine zjc<|oF rfl<|oL rfl (H.cell 1 rfl rfl)<|oN rfl<|sp (yI 0)<|zjn<|xf<|zD ((fun Z0 Z1 Z2 Z3 Z4 Z5 Z6 Z7 Z8 Z9 bG bX eZ i8 mb oX EW JG MI S4 SI Z21 Z22 Z23 Z24=>fun m' ρ A8=>∃(xN:Env) (k:Nat) (bP:yLL) (fu:List Value) (kT:yLN),ρ=upd (upd (upd (upd xN 10<|.func (.func 169) #[] #[pp sY 0,pp Bq 0]) 40<|Sv fY (((s.qB[i]!).xF).length) fp) 41<|yI (((s.qB[i]!).xF).length)) 42 (yI k)/\((k:Int)<=(((s.qB[i]!).xF).length))/\(Ent (s.qA.length+1) (yE s) (fun p q=>base0 s t p q+allS s t counts i p q+at' p (s.qB[i]!).qY.toNat (-(counts[i]!)*((s.qB[i]!).zJ)[q]!)+at' p (s.qB[i]!).qY.toNat ((counts[i]!)*((s.qB[i]!).jJ)[q]!)+at' p (outPl s t<|s.qB[i]!) ((counts[i]!)*((s.qB[i]!).Qq)[q]!)+intoF (s.qB[i]!) (counts[i]!) k p q) (23000000+6000000*i+1000000*k) bP)/\(bP.length=s.qA.length+1)/\m'=((((s.qB[i]!).xF).length)-(k:Int)).toNat/\Fresh w.heap.size [G69]/\St w A8 [Z0,Z1,Z2,Z3,Z4,Z5,Z6,rr (aa Tc 0) (t.qQ.length+1) c8 24 1 fu,Z7,Z8,Z9] [xG false kT fu bP,bG,bX,eZ,i8,mb,oX,EW,JG,MI,S4,SI,Z21,Z22,Z23,Z24]) _ _ _ _ _ _ _ _ _ _ _ _ _ _ _ _ _ _ _ _ _ _ _ _ _) (((((s.qB[i]!).xF).length)-(0:Int)).toNat) ⟨_,0,ah7,ahz,ah8,uE4,qf,(by exact fK.to (fun p q=>by rw[po];simp only[intoF];omega) qf),qf,rfl,(N.pick [2]),H.pick (zR 0 11) [0,7,8,9,10,11,12,13,14,15,17,18,19,20,21,22]⟩ ?_
   clear H N
   rintro m' ρ agV ⟨xN,k,bP,fu,kT,rfl,i0,cF,J8,rfl,N,H⟩
   refine zcr<|sq 1<|zjn<|xU<|cD rfl (fun am4=>?_)<|fun am4=>?_
   ·have qi:=q.2.2.2.2.2.2.2.2.2.2 k qf
    have qi1:=qi.1
    have Ct:=qi.2.2.1
    have ln4:=Ct.len
    refine qZ<|t_n<|xU<|xf<|zcr ?_
    obtain⟨mJ,ayh,rfl⟩:=H.addr 8 rfl qf
    obtain⟨th,s7,YE,H⟩:=H.Qr 8 rfl k k qf qf qf
    refine oI rfl rfl<|sw<|xy [yI ((((s.qB[i]!).xF)[k]!).qY),Sv th (((((s.qB[i]!).xF)[k]!).Xq).length) s7] isAgg128 sizeOf128 rfl (qC (H.get 1 rfl) 0 2)<|sw<|xg H ti128 [yI 0,yN] fun gV Ih H=>sw<|xx H 0 [yI ((((s.qB[i]!).xF)[k]!).qY),Sv th (((((s.qB[i]!).xF)[k]!).Xq).length) s7] sizeOf128 fun Ln H=>zjn<|xX<|sp (.func (.func 169) #[] #[pp sY 0,pp Bq 0])<|oF rfl<|oL rfl (H.cell 0 rfl rfl)<|oF rfl<|oL rfl (H.cell 0 rfl rfl)<|sw<|zW #[yI ((((s.qB[i]!).xF)[k]!).qY),Sv th (((((s.qB[i]!).xF)[k]!).Xq).length) s7,pp sY 0,pp Bq 0] rfl rfl call169<|en func169 ntmps169 ?_
    refine Qd rfl H [0,1,2,3,4,5,6,7,9,10,11] fun H=>?_
    have S:=H.jF [0,1,2,3,4,5,6,7,9,10,11]<|zR 0 18
    refine tL 0 rfl rfl (fun _ h=>h.cell 3 rfl rfl) S ?_
    refine rtl 1 S ?_
    refine tL 2 rfl rfl (fun _ h=>h.cell 3 rfl rfl) S ?_
    refine rtl 3 S ?_
    refine tI 4 rfl rfl rfl S ?_
    refine rtl 6 S ?_
    refine tL 7 rfl rfl (fun _ h=>h.cell 1 rfl rfl) S ?_
    refine ro 5 rfl ?_
    obtain⟨aoN,ana,azO,aui,apO,H⟩:=H.jS 8 rfl 2 rfl (iv:=(((s.qB[i]!).xF)[k]!).qY) (((((s.qB[i]!).xF)[k]!).qY).toNat) qf qf
    refine zB (Sv aoN ((bP[((((s.qB[i]!).xF)[k]!).qY).toNat]!).length) ana) isAgg24 rfl (apO)<|⟨H.pick [0,1,2,3,4,5,6,7,9,10,11]<|zR 1 18,(ro 8 rfl ?_)⟩
    obtain⟨u1,u2⟩:=cF.sh.row (c:=((((s.qB[i]!).xF)[k]!).qY).toNat) qf p8 qf
    have u4:=(by exact Ct.Qb qf:SmallT ((((s.qB[i]!).xF)[k]!).Xq) (counts[i]!))
    refine oc (plus_ok _ (bP[((((s.qB[i]!).xF)[k]!).qY).toNat]!) ((((s.qB[i]!).xF)[k]!).Xq) (counts[i]!) (H.get 0 rfl).1 (H.get 1 rfl).1 qg qg qg) ?_
    rintro awO SP aph ajz
    replace H:=H.zO ajz aph
    obtain⟨aov,alu,rfl,ass,as2⟩:=H.yc 0 rfl
    refine⟨H.pick [1,2,3,4,5,6,7,8,10,11,12]<|zR 1 18,(tI 9 rfl rfl rfl (H.pick [1,2,3,4,5,6,7,8,10,11,12]<|zR 1 18) ?_)⟩
    refine ro 10 rfl ?_
    obtain⟨aAC,N,aqC,H⟩:=H.zQ 0 rfl N<|H.vX [4]
    refine yu false H 9 rfl 4 rfl (Sv aov ((jX (bP[((((s.qB[i]!).xF)[k]!).qY).toNat]!) ((((s.qB[i]!).xF)[k]!).Xq)<|counts[i]!).length) alu) 0 rfl rfl sizeOf24 rfl rfl (i:=(((((s.qB[i]!).xF)[k]!).qY).toNat)) qf qf qm fun GE arH awC atA H=>⟨H.pick [1,2,3,4,5,6,7,8,10,11,12]<|zR 3 18,(xC qh ((ret0 rfl ⟨_,rfl,?_⟩)))⟩
    replace H:=H.erases [0]
    dsimp only[zU,List.eraseIdx] at H
    obtain⟨atu,Dq⟩:∃z,z=(bP.set (((((s.qB[i]!).xF)[k]!).qY).toNat) (jX (bP[((((s.qB[i]!).xF)[k]!).qY).toNat]!) ((((s.qB[i]!).xF)[k]!).Xq) (counts[i]!))):=⟨_,rfl⟩
    rw[←Dq] at H
    have DL:=Ent.add (D:=1000000) cF Dq qf (by exact Ct.mul qf) qf
    have ai6:=DL.sh.1
    have fK:=DL
    refine xZ<|b_n<|t_n<|xX<|sw<|zC k 1 rfl rfl qf<|sq 1<|xZ<|xh (m':=((((s.qB[i]!).xF).length)-((k+1):Int)).toNat) qf ⟨_,k+1,_,_,_,uE4,?_,?_,?_,rfl,(N.pick [1]),H.pick (zR 1 11) (0::zR 6 15)⟩
    ·omega
    ·exact fK.to (fun p q=>by simp only[intoF];omega) qf
    ·omega
   refine VR<|t_x<|t_x<|b_x<|ret0 rfl ⟨_,rfl,?_⟩
   replace H:=H.erases [4,3,2,1,0]
   dsimp only[zU,List.eraseIdx] at H
   refine zjn<|Qd rfl H [0,2,3,4,5] fun H=>?_
   have S:=H.jF [0,2,3,4,5]<|zR 0 16
   refine rtl 0 S ?_
   refine tF 1 rfl rfl S ?_
   refine tL 2 rfl rfl (fun _ h=>h.cell 0 rfl rfl) S ?_
   refine rtl 3 S ?_
   refine tF 4 rfl rfl S ?_
   refine tL 5 rfl rfl (fun _ h=>h.cell 0 rfl rfl) S ?_
   refine tI 6 rfl rfl rfl S ?_
   refine ro 7 rfl<|zB (Bv ((QP s counts s.qA.length i)[((s.qB[i]!).qY).toNat]!)) isAgg4 rfl (H.rowBool 1 rfl (iv:=(s.qB[i]!).qY) (i:=(((s.qB[i]!).qY).toNat)) qf qf)<|⟨H.pick [0,2,3,4,5]<|zR 0 16,(rtp 8 (Bv ((QP s counts s.qA.length i)[((s.qB[i]!).qY).toNat]!)) (H.pick [0,2,3,4,5]<|zR 0 16) ?_)⟩
   cases nE:((QP s counts s.qA.length i)[((s.qB[i]!).qY).toNat]!)
   ·have S:=H.jF [0,2,3,4,5] (zR 0 16)
    refine rgl 9 66 S ?_
    refine rgp 10 (Bv<|decide ((counts[i]! :Int)>0)) 66 S ?_
    refine rgp 11 (Bv<|decide ((counts[i]! :Int)>0)) 66 S ?_
    cases wU:(decide ((counts[i]! :Int)>0))
    ·replace wU:=of_decide_eq_false wU
     refine vJ [12,13] 2 (H.pick [0,2,3,4,5]<|zR 0 16) ?_
     have S:=H.jF [0,2,3,4,5]<|zR 0 16
     refine rgp 14 (Bv false) 66 S ?_
     refine rtp 15 (Bv false) S ?_
     refine tI 16 rfl rfl rfl S ?_
     refine ro 17 rfl<|QJ H 1 rfl false sizeOf4 rfl rfl (i:=(((s.qB[i]!).qY).toNat)) qf qf fun LM H=>⟨H.pick [0,2,3,4,5]<|zR 0 16,(xC qh<|b_n<|t_n<|xX<|sw<|zC i 1 rfl rfl qf<|sq 1<|xZ<|xh (m':=(counts.length-((i+1):Int)).toNat) qf ⟨_,i+1,_,_,_,_,uE8,?_,?_,?_,?_,rfl,(N.pick []),H.pick (zR 1 5) (0::zR 10 6)⟩)⟩
     ·exact meltsL_2 qf qf ‹_› qf
     ·omega
     ·exact cF.to (fun p q=>by rw[show k=((s.qB[i]!).xF).length by omega];simp only[allS,needF,putF];omega) qf
     ·omega
    replace wU:=of_decide_eq_true wU
    have S:=H.jF [0,2,3,4,5]<|zR 0 16
    refine gF 12 rfl rfl S ?_
    refine gL 13 rfl rfl (fun _ h=>h.cell 0 rfl rfl) S ?_
    refine rgl 14 66 S ?_
    refine rtl 15 S ?_
    refine tI 16 rfl rfl rfl S ?_
    refine ro 17 rfl<|QJ H 1 rfl ((s.qB[i]!).jY) sizeOf4 rfl rfl (i:=(((s.qB[i]!).qY).toNat)) qf qf fun ajy H=>⟨H.pick [0,2,3,4,5]<|zR 0 16,(xC qh<|b_n<|t_n<|xX<|sw<|zC i 1 rfl rfl qf<|sq 1<|xZ<|xh (m':=(counts.length-((i+1):Int)).toNat) qf ⟨_,i+1,_,_,_,_,uE8,?_,?_,?_,?_,rfl,(N.pick []),H.pick (zR 1 5) (0::zR 10 6)⟩)⟩
    ·exact meltsL_3 qf qf ‹_› qf
    ·omega
    ·exact cF.to (fun p q=>by rw[show k=((s.qB[i]!).xF).length by omega];simp only[allS,needF,putF];omega) qf
    ·omega
   refine vJ (zR 9 6) 6 (H.pick [0,2,3,4,5]<|zR 0 16) ?_
   have S:=H.jF [0,2,3,4,5]<|zR 0 16
   refine rtp 15 (Bv true) S ?_
   refine tI 16 rfl rfl rfl S ?_
   refine ro 17 rfl<|QJ H 1 rfl true sizeOf4 rfl rfl (i:=(((s.qB[i]!).qY).toNat)) qf qf fun Ma H=>⟨H.pick [0,2,3,4,5]<|zR 0 16,(xC qh<|b_n<|t_n<|xX<|sw<|zC i 1 rfl rfl qf<|sq 1<|xZ<|xh (m':=(counts.length-((i+1):Int)).toNat) qf ⟨_,i+1,_,_,_,_,uE8,?_,?_,?_,?_,rfl,(N.pick []),H.pick (zR 1 5) (0::zR 10 6)⟩)⟩
   ·exact meltsL_1 qf qf ‹_›
   ·omega
   ·exact cF.to (fun p q=>by rw[show k=((s.qB[i]!).xF).length by omega];simp only[allS,needF,putF];omega) qf
   ·omega
  have po:=outPl_out (r:=s.qB[i]!) p15 p1.2.2.1 qc qf
  refine Qd rfl H [0,1,2,3,4,5,6,8,9,10] fun H=>?_
  have S:=H.jF [0,1,2,3,4,5,6,8,9,10]<|zR 0 20
  refine rtp 0 (.func (.func 169) #[] #[pp sY 0,pp Bq 0]) S ?_
  refine rt 1 _ (yF (cs:=[yI s.zf,Sv qF s.qA.length qE,Sv (aa Kg WZ) s.qB.length qN]) isAgg27 sizeOf27 rfl<|fun _ h=>qC (h.cells 4 rfl) 0 3) S ?_
  refine tF 3 rfl rfl S ?_
  refine tL 4 rfl rfl (fun _ h=>h.cell 1 rfl rfl) S ?_
  refine ro 2 rfl<|oq (around_ok _ s (H.get 14 rfl).1 (H.get 15 rfl).1) H fun Tq H=>⟨H.pick [0,1,2,3,4,5,6,8,9,10]<|zR 0 20,(ro 5 rfl<|zW #[yI s.qA.length,Sv jn (((s.qB[i]!).Qq).length) j9,pp sY 0,pp Bq 0] rfl rfl call169<|en func169 ntmps169 ?_)⟩
  refine Qd rfl H [0,1,2,3,4,5,6,8,9,10] fun H=>?_
  have S:=H.jF [0,1,2,3,4,5,6,8,9,10]<|zR 0 20
  refine tL 0 rfl rfl (fun _ h=>h.cell 2 rfl rfl) S ?_
  refine rtl 1 S ?_
  refine tL 2 rfl rfl (fun _ h=>h.cell 2 rfl rfl) S ?_
  refine rtl 3 S ?_
  refine tI 4 rfl rfl rfl S ?_
  refine rtl 6 S ?_
  refine tL 7 rfl rfl (fun _ h=>h.cell 0 rfl rfl) S ?_
  refine ro 5 rfl ?_
  obtain⟨an4,ao6,ayG,aAa,Cf,H⟩:=H.jS 7 rfl 0 rfl (iv:=s.qA.length) s.qA.length qf qf
  refine zB (Sv an4 ((mq[s.qA.length]!).length) ao6) isAgg24 rfl (Cf)<|⟨H.pick [0,1,2,3,4,5,6,8,9,10]<|zR 1 20,(ro 8 rfl ?_)⟩
  obtain⟨u1,u2⟩:=nt.sh.row (c:=s.qA.length) qf p8 qf
  have u4:=(by exact Jp.Qb qf:SmallT ((s.qB[i]!).Qq) (counts[i]!))
  refine oc (plus_ok _ (mq[s.qA.length]!) ((s.qB[i]!).Qq) (counts[i]!) (H.get 0 rfl).1 (H.get 11 rfl).1 qg qg qg) ?_
  rintro axo ajJ akP anr
  replace H:=H.zO anr akP
  obtain⟨aoz,alV,rfl,ats,arw⟩:=H.yc 0 rfl
  refine⟨H.pick [1,2,3,4,5,6,7,9,10,11]<|zR 1 20,(tI 9 rfl rfl rfl (H.pick [1,2,3,4,5,6,7,9,10,11]<|zR 1 20) ?_)⟩
  refine ro 10 rfl ?_
  obtain⟨anp,N,aqg,H⟩:=H.zQ 0 rfl N<|H.vX [2,5]
  refine yu false H 8 rfl 2 rfl (Sv aoz ((jX (mq[s.qA.length]!) ((s.qB[i]!).Qq)<|counts[i]!).length) alV) 0 rfl rfl sizeOf24 rfl rfl (i:=s.qA.length) qf qf qm fun av5 afR akV asy H=>⟨H.pick [1,2,3,4,5,6,7,9,10,11]<|zR 3 20,(xC qh ((ret0 rfl ⟨_,rfl,?_⟩)))⟩
  replace H:=H.erases [0]
  dsimp only[zU,List.eraseIdx] at H
  obtain⟨afE,Dv⟩:∃z,z=(mq.set s.qA.length (jX (mq[s.qA.length]!) ((s.qB[i]!).Qq) (counts[i]!))):=⟨_,rfl⟩
  rw[←Dv] at H
  have DZ:=Ent.add (D:=1000000) nt Dv qf (by exact Jp.mul qf) qf
  have aiq:=DZ.sh.1
  have fK:=DZ
  refine⟨H.pick [0,1,2,3,4,5,6,8,9,10]<|zR 3 20,(xC qh<|t_n<|zcr<|oF rfl<|oL rfl (H.cell 1 rfl rfl)<|oN rfl<|sp (yI 0)<|zjn<|xf ?_)⟩
  refine zD ((fun Z0 Z1 Z2 Z3 Z4 Z5 Z6 Z7 Z8 Z9 bG bX eZ i8 mb oX EW JG MI S4 SI Z21 Z22 Z23 Z24=>fun m' ρ Lb=>∃(xN:Env) (k:Nat) (bP:yLL) (fu:List Value) (kT:yLN),ρ=upd (upd (upd (upd xN 10<|.func (.func 169) #[] #[pp sY 0,pp Bq 0]) 40<|Sv fY (((s.qB[i]!).xF).length) fp) 41<|yI (((s.qB[i]!).xF).length)) 42 (yI k)/\((k:Int)<=(((s.qB[i]!).xF).length))/\(Ent (s.qA.length+1) (yE s) (fun p q=>base0 s t p q+allS s t counts i p q+at' p (s.qB[i]!).qY.toNat (-(counts[i]!)*((s.qB[i]!).zJ)[q]!)+at' p (s.qB[i]!).qY.toNat ((counts[i]!)*((s.qB[i]!).jJ)[q]!)+at' p (outPl s t<|s.qB[i]!) ((counts[i]!)*((s.qB[i]!).Qq)[q]!)+intoF (s.qB[i]!) (counts[i]!) k p q) (23000000+6000000*i+1000000*k) bP)/\(bP.length=s.qA.length+1)/\m'=((((s.qB[i]!).xF).length)-(k:Int)).toNat/\Fresh w.heap.size [G69]/\St w Lb [Z0,Z1,Z2,Z3,Z4,Z5,Z6,rr (aa Tc 0) (t.qQ.length+1) c8 24 1 fu,Z7,Z8,Z9] [xG false kT fu bP,bG,bX,eZ,i8,mb,oX,EW,JG,MI,S4,SI,Z21,Z22,Z23,Z24]) _ _ _ _ _ _ _ _ _ _ _ _ _ _ _ _ _ _ _ _ _ _ _ _ _) (((((s.qB[i]!).xF).length)-(0:Int)).toNat) ⟨_,0,afE,afR,akV,uE4,qf,(by exact fK.to (fun p q=>by rw[po];simp only[intoF];omega) qf),qf,rfl,(N.pick [2]),H.pick (zR 0 11) [0,7,8,9,10,11,12,13,14,15,17,18,19,20,21,22]⟩ ?_
  clear H N
  rintro m' ρ ahb ⟨xN,k,bP,fu,kT,rfl,i0,cF,J8,rfl,N,H⟩
  refine zcr<|sq 1<|zjn<|xU<|cD rfl (fun ajC=>?_)<|fun ajC=>?_
  ·have qi:=q.2.2.2.2.2.2.2.2.2.2 k qf
   have qi1:=qi.1
   have Ct:=qi.2.2.1
   have ln4:=Ct.len
   refine qZ<|t_n<|xU<|xf<|zcr ?_
   obtain⟨E1,azQ,rfl⟩:=H.addr 8 rfl qf
   obtain⟨tO,uj,Zl,H⟩:=H.Qr 8 rfl k k qf qf qf
   refine oI rfl rfl<|sw<|xy [yI ((((s.qB[i]!).xF)[k]!).qY),Sv tO (((((s.qB[i]!).xF)[k]!).Xq).length) uj] isAgg128 sizeOf128 rfl (qC (H.get 1 rfl) 0 2)<|sw<|xg H ti128 [yI 0,yN] fun afj RS H=>sw<|xx H 0 [yI ((((s.qB[i]!).xF)[k]!).qY),Sv tO (((((s.qB[i]!).xF)[k]!).Xq).length) uj] sizeOf128 fun aps H=>zjn<|xX<|sp (.func (.func 169) #[] #[pp sY 0,pp Bq 0])<|oF rfl<|oL rfl (H.cell 0 rfl rfl)<|oF rfl<|oL rfl (H.cell 0 rfl rfl)<|sw<|zW #[yI ((((s.qB[i]!).xF)[k]!).qY),Sv tO (((((s.qB[i]!).xF)[k]!).Xq).length) uj,pp sY 0,pp Bq 0] rfl rfl call169<|en func169 ntmps169 ?_
   refine Qd rfl H [0,1,2,3,4,5,6,7,9,10,11] fun H=>?_
   have S:=H.jF [0,1,2,3,4,5,6,7,9,10,11]<|zR 0 18
   refine tL 0 rfl rfl (fun _ h=>h.cell 3 rfl rfl) S ?_
   refine rtl 1 S ?_
   refine tL 2 rfl rfl (fun _ h=>h.cell 3 rfl rfl) S ?_
   refine rtl 3 S ?_
   refine tI 4 rfl rfl rfl S ?_
   refine rtl 6 S ?_
   refine tL 7 rfl rfl (fun _ h=>h.cell 1 rfl rfl) S ?_
   refine ro 5 rfl ?_
   obtain⟨alZ,amv,alm,au2,ao7,H⟩:=H.jS 8 rfl 2 rfl (iv:=(((s.qB[i]!).xF)[k]!).qY) (((((s.qB[i]!).xF)[k]!).qY).toNat) qf qf
   refine zB (Sv alZ ((bP[((((s.qB[i]!).xF)[k]!).qY).toNat]!).length) amv) isAgg24 rfl (ao7)<|⟨H.pick [0,1,2,3,4,5,6,7,9,10,11]<|zR 1 18,(ro 8 rfl ?_)⟩
   obtain⟨u1,u2⟩:=cF.sh.row (c:=((((s.qB[i]!).xF)[k]!).qY).toNat) qf p8 qf
   have u4:=(by exact Ct.Qb qf:SmallT ((((s.qB[i]!).xF)[k]!).Xq) (counts[i]!))
   refine oc (plus_ok _ (bP[((((s.qB[i]!).xF)[k]!).qY).toNat]!) ((((s.qB[i]!).xF)[k]!).Xq) (counts[i]!) (H.get 0 rfl).1 (H.get 1 rfl).1 qg qg qg) ?_
   rintro avn Nj aoB alw
   replace H:=H.zO alw aoB
   obtain⟨ak9,aoc,rfl,aqP,atm⟩:=H.yc 0 rfl
   refine⟨H.pick [1,2,3,4,5,6,7,8,10,11,12]<|zR 1 18,(tI 9 rfl rfl rfl (H.pick [1,2,3,4,5,6,7,8,10,11,12]<|zR 1 18) ?_)⟩
   refine ro 10 rfl ?_
   obtain⟨azz,N,asR,H⟩:=H.zQ 0 rfl N<|H.vX [4]
   refine yu false H 9 rfl 4 rfl (Sv ak9 ((jX (bP[((((s.qB[i]!).xF)[k]!).qY).toNat]!) ((((s.qB[i]!).xF)[k]!).Xq)<|counts[i]!).length) aoc) 0 rfl rfl sizeOf24 rfl rfl (i:=(((((s.qB[i]!).xF)[k]!).qY).toNat)) qf qf qm fun axd ar9 ahr asT H=>⟨H.pick [1,2,3,4,5,6,7,8,10,11,12]<|zR 3 18,(xC qh ((ret0 rfl ⟨_,rfl,?_⟩)))⟩
   replace H:=H.erases [0]
   dsimp only[zU,List.eraseIdx] at H
   obtain⟨asE,DK⟩:∃z,z=(bP.set (((((s.qB[i]!).xF)[k]!).qY).toNat) (jX (bP[((((s.qB[i]!).xF)[k]!).qY).toNat]!) ((((s.qB[i]!).xF)[k]!).Xq) (counts[i]!))):=⟨_,rfl⟩
   rw[←DK] at H
   have Dh:=Ent.add (D:=1000000) cF DK qf (by exact Ct.mul qf) qf
   have aiP:=Dh.sh.1
   have fK:=Dh
   refine xZ<|b_n<|t_n<|xX<|sw<|zC k 1 rfl rfl qf<|sq 1<|xZ<|xh (m':=((((s.qB[i]!).xF).length)-((k+1):Int)).toNat) qf ⟨_,k+1,_,_,_,uE4,?_,?_,?_,rfl,(N.pick [1]),H.pick (zR 1 11) (0::zR 6 15)⟩
   ·omega
   ·exact fK.to (fun p q=>by simp only[intoF];omega) qf
   ·omega
  refine VR<|t_x<|t_x<|b_x<|ret0 rfl ⟨_,rfl,?_⟩
  replace H:=H.erases [4,3,2,1,0]
  dsimp only[zU,List.eraseIdx] at H
  refine zjn<|Qd rfl H [0,2,3,4,5] fun H=>?_
  have S:=H.jF [0,2,3,4,5]<|zR 0 16
  refine rtl 0 S ?_
  refine tF 1 rfl rfl S ?_
  refine tL 2 rfl rfl (fun _ h=>h.cell 0 rfl rfl) S ?_
  refine rtl 3 S ?_
  refine tF 4 rfl rfl S ?_
  refine tL 5 rfl rfl (fun _ h=>h.cell 0 rfl rfl) S ?_
  refine tI 6 rfl rfl rfl S ?_
  refine ro 7 rfl<|zB (Bv ((QP s counts s.qA.length i)[((s.qB[i]!).qY).toNat]!)) isAgg4 rfl (H.rowBool 1 rfl (iv:=(s.qB[i]!).qY) (i:=(((s.qB[i]!).qY).toNat)) qf qf)<|⟨H.pick [0,2,3,4,5]<|zR 0 16,(rtp 8 (Bv ((QP s counts s.qA.length i)[((s.qB[i]!).qY).toNat]!)) (H.pick [0,2,3,4,5]<|zR 0 16) ?_)⟩
  cases h235:((QP s counts s.qA.length i)[((s.qB[i]!).qY).toNat]!)
  ·have S:=H.jF [0,2,3,4,5] (zR 0 16)
   refine rgl 9 66 S ?_
   refine rgp 10 (Bv<|decide ((counts[i]! :Int)>0)) 66 S ?_
   refine rgp 11 (Bv<|decide ((counts[i]! :Int)>0)) 66 S ?_
   cases L5:(decide ((counts[i]! :Int)>0))
   ·replace L5:=of_decide_eq_false L5
    refine vJ [12,13] 2 (H.pick [0,2,3,4,5]<|zR 0 16) ?_
    have S:=H.jF [0,2,3,4,5]<|zR 0 16
    refine rgp 14 (Bv false) 66 S ?_
    refine rtp 15 (Bv false) S ?_
    refine tI 16 rfl rfl rfl S ?_
    refine ro 17 rfl<|QJ H 1 rfl false sizeOf4 rfl rfl (i:=(((s.qB[i]!).qY).toNat)) qf qf fun aan H=>⟨H.pick [0,2,3,4,5]<|zR 0 16,(xC qh<|b_n<|t_n<|xX<|sw<|zC i 1 rfl rfl qf<|sq 1<|xZ<|xh (m':=(counts.length-((i+1):Int)).toNat) qf ⟨_,i+1,_,_,_,_,uE8,?_,?_,?_,?_,rfl,(N.pick []),H.pick (zR 1 5) (0::zR 10 6)⟩)⟩
    ·exact meltsL_2 qf qf ‹_› qf
    ·omega
    ·exact cF.to (fun p q=>by rw[show k=((s.qB[i]!).xF).length by omega];simp only[allS,needF,putF];omega) qf
    ·omega
   replace L5:=of_decide_eq_true L5
   have S:=H.jF [0,2,3,4,5]<|zR 0 16
   refine gF 12 rfl rfl S ?_
   refine gL 13 rfl rfl (fun _ h=>h.cell 0 rfl rfl) S ?_
   refine rgl 14 66 S ?_
   refine rtl 15 S ?_
   refine tI 16 rfl rfl rfl S ?_
   refine ro 17 rfl<|QJ H 1 rfl ((s.qB[i]!).jY) sizeOf4 rfl rfl (i:=(((s.qB[i]!).qY).toNat)) qf qf fun Ze H=>⟨H.pick [0,2,3,4,5]<|zR 0 16,(xC qh<|b_n<|t_n<|xX<|sw<|zC i 1 rfl rfl qf<|sq 1<|xZ<|xh (m':=(counts.length-((i+1):Int)).toNat) qf ⟨_,i+1,_,_,_,_,uE8,?_,?_,?_,?_,rfl,(N.pick []),H.pick (zR 1 5) (0::zR 10 6)⟩)⟩
   ·exact meltsL_3 qf qf ‹_› qf
   ·omega
   ·exact cF.to (fun p q=>by rw[show k=((s.qB[i]!).xF).length by omega];simp only[allS,needF,putF];omega) qf
   ·omega
  refine vJ (zR 9 6) 6 (H.pick [0,2,3,4,5]<|zR 0 16) ?_
  have S:=H.jF [0,2,3,4,5]<|zR 0 16
  refine rtp 15 (Bv true) S ?_
  refine tI 16 rfl rfl rfl S ?_
  refine ro 17 rfl<|QJ H 1 rfl true sizeOf4 rfl rfl (i:=(((s.qB[i]!).qY).toNat)) qf qf fun JM H=>⟨H.pick [0,2,3,4,5]<|zR 0 16,(xC qh<|b_n<|t_n<|xX<|sw<|zC i 1 rfl rfl qf<|sq 1<|xZ<|xh (m':=(counts.length-((i+1):Int)).toNat) qf ⟨_,i+1,_,_,_,_,uE8,?_,?_,?_,?_,rfl,(N.pick []),H.pick (zR 1 5) (0::zR 10 6)⟩)⟩
  ·exact meltsL_1 qf qf ‹_›
  ·omega
  ·exact cF.to (fun p q=>by rw[show k=((s.qB[i]!).xF).length by omega];simp only[allS,needF,putF];omega) qf
  ·omega
 refine zx4<|xU ?_
 obtain⟨mf,rfl⟩:=H.jR 1 rfl qf
 refine VD (fun ρ afX=>∃(xN:Env) (CX:Nat) (fM:yOA) (fF:Nat) (io:yOA) (fo:Nat) (gJ:yOA) (gP:Nat) (EC:List Value) (DV:yLN),ρ=upd (upd (upd (upd xN 3<|pp b1 0) 6<|pp b5 0) 9<|Sv (aa tD 0) s.qA.length s.qA.length) 13 (pp CX 0)/\Fresh w.heap.size [DV]/\St w afX [.box CX [Sv fM (((⟨t.qK,(bags.take s.qA.length),bags[s.qA.length]!⟩:qG).qK).length) fF,Sv io (((⟨t.qK,(bags.take s.qA.length),bags[s.qA.length]!⟩:qG).qQ).length) fo,Sv gJ (((⟨t.qK,(bags.take s.qA.length),bags[s.qA.length]!⟩:qG).qJ).length) gP] 31,rr fM (((⟨t.qK,(bags.take s.qA.length),bags[s.qA.length]!⟩:qG).qK).length) fF 4 1 (((⟨t.qK,(bags.take s.qA.length),bags[s.qA.length]!⟩:qG).qK).map<|Value.bool),rr io (((⟨t.qK,(bags.take s.qA.length),bags[s.qA.length]!⟩:qG).qQ).length) fo 24 1 EC,rr gJ (((⟨t.qK,(bags.take s.qA.length),bags[s.qA.length]!⟩:qG).qJ).length) gP 2 1 (((⟨t.qK,(bags.take s.qA.length),bags[s.qA.length]!⟩:qG).qJ).map<|Value.int .i64),rr (aa tD 0) s.qA.length s.qA.length 4 1 ((QP s counts s.qA.length i).map<|Value.bool),rr none 0 0 0 1 [],.box b5 [yN,yN,yN] 31,.box b3 (yT t qV qU xm xk qM qL) 31,.box b1 (yS s qF qE qO qN) 27] [xG true DV EC ((⟨t.qK,(bags.take s.qA.length),bags[s.qA.length]!⟩:qG).qQ),sF false xu qF qE s.qA,sF false xW qO qN s.qB,sF false zk qV qU t.qK,sF false zF xm xk t.qQ,sF false xJ qM qL t.qJ]) ?_ ?_
 ·refine Qd rfl H [0,2,3,4] fun H=>?_
  refine yL (fun ρ agH=>∃(xN:Env) (CH:yOA) (CB:Nat) (BX:yOA) (aab:yLN) (afH:yLN),ρ=upd (upd (upd (upd (upd (upd xN 3<|pp b1 0) 6<|pp b5 0) 9<|Sv (aa tD 0) s.qA.length s.qA.length) 77<|Sv qV t.qK.length qU) 81<|Sv BX ((bags.take s.qA.length).length) c8) 86 (Sv CH ((bags[s.qA.length]!).length) CB)/\Fresh w.heap.size []/\St w agH [rr (aa tD 0) s.qA.length s.qA.length 4 1 ((QP s counts s.qA.length i).map<|Value.bool),rr none 0 0 0 1 [],.box b5 [yN,yN,yN] 31,.box b3 (yT t qV qU xm xk qM qL) 31,.box b1 (yS s qF qE qO qN) 27] [sF false aab BX c8<|bags.take s.qA.length,sF false afH CH CB<|bags[s.qA.length]!,xG false oY i7 bags,sF false xu qF qE s.qA,sF false xW qO qN s.qB,sF false zk qV qU t.qK,sF false zF xm xk t.qQ,sF false xJ qM qL t.qJ,sF false bS aP aK counts]) 4 #[true,true,true,true,true,true,true,true,true,true,true,false,false,false,false] ?_ fun adM=>?_
  ·rintro ρ abT ⟨xN,CH,CB,BX,aab,afH,rfl,N,H⟩
   refine zY [11,13] qh qm<|vG rfl ?_<|vG rfl ?_ zZ
   ·refine vg [Sv qV t.qK.length qU,Sv BX ((bags.take s.qA.length).length) c8,Sv CH ((bags[s.qA.length]!).length) CB] [(0,Sv qV t.qK.length qU),(1,Sv BX ((bags.take s.qA.length).length) c8),(2,Sv CH ((bags[s.qA.length]!).length) CB)] (⟨H.pick [0,2,3,4]<|zR 2 7,(zY [12,13] qh qm<|vG rfl ?_<|vG rfl ?_ zZ)⟩)
    ·obtain⟨Ph,OH,PH,PJ⟩:=copy_pre (al:=t.qK) dU p8 p9.2 Bw
     have aeq:=H.base.size
     refine oc (Q9 _ (⟨t.qK,(bags.take s.qA.length),bags[s.qA.length]!⟩:qG) (H.get 5 rfl).1 (H.get 0 rfl).1 (H.get 1 rfl).1 qg qg qg qg) ?_
     rintro _ aaW ⟨sU,RL,sx,vf,U5,vc,Gu,FJ,qs,Nm,pQ,rfl,M,K⟩ _
     replace N:=N.merge aeq qm M
     replace H:=H.merge K M
     obtain rfl:=H.Xg 0 rfl
     obtain rfl:=H.xQ (α:=yLI) 1 rfl 0 rfl qj
     obtain rfl:=H.jy 2 rfl
     refine⟨H.pick [3,5,6,7]<|zR 3 7,(ro 13 rfl<|xg H ti31 [yN,yN,yN] fun H8 acm H=>⟨H.pick [4,6,7,8]<|zR 3 7,(ro 14 rfl<|xx H 0 [Sv sU (((⟨t.qK,(bags.take s.qA.length),bags[s.qA.length]!⟩:qG).qK).length) sx,Sv vf (((⟨t.qK,(bags.take s.qA.length),bags[s.qA.length]!⟩:qG).qQ).length) vc,Sv qs (((⟨t.qK,(bags.take s.qA.length),bags[s.qA.length]!⟩:qG).qJ).length) pQ] sizeOf31 fun axp H=>⟨H.pick [4,6,7,8]<|zR 3 7,?_⟩)⟩)⟩
     refine xC qh ((meet ⟨_,H8,sU,sx,vf,vc,qs,pQ,Gu,FJ,uE4,N,H.pick (zR 0 9) (0::zR 4 5)⟩))
    refine xg H ti31 [yN,yN,yN] fun ant SS H=>⟨H.pick [1,3,4,5]<|zR 2 7,(ro 12 rfl ?_)⟩
    obtain⟨Ph,OH,PH,PJ⟩:=copy_pre (al:=t.qK) dU p8 p9.2 Bw
    have agy:=H.base.size
    refine oc (Q9 _ (⟨t.qK,(bags.take s.qA.length),bags[s.qA.length]!⟩:qG) (H.get 5 rfl).1 (H.get 0 rfl).1 (H.get 1 rfl).1 qg qg qg qg) ?_
    rintro _ R9 ⟨ui,Sw,rW,vy,UL,wH,Fj,Gp,pR,OR,pV,rfl,M,K⟩ _
    replace N:=N.merge agy qm M
    replace H:=H.merge K M
    obtain rfl:=H.Xg 0 rfl
    obtain rfl:=H.xQ (α:=yLI) 1 rfl 0 rfl qj
    obtain rfl:=H.jy 2 rfl
    refine⟨H.pick [4,6,7,8]<|zR 3 7,(ro 14 rfl<|xx H 3 [Sv ui (((⟨t.qK,(bags.take s.qA.length),bags[s.qA.length]!⟩:qG).qK).length) rW,Sv vy (((⟨t.qK,(bags.take s.qA.length),bags[s.qA.length]!⟩:qG).qQ).length) wH,Sv pR (((⟨t.qK,(bags.take s.qA.length),bags[s.qA.length]!⟩:qG).qJ).length) pV] sizeOf31 fun axX H=>⟨H.pick [4,6,7,8]<|zR 3 7,(xC qh<|?_)⟩)⟩
    exact meet ⟨_,ant,ui,rW,vy,wH,pR,pV,Fj,Gp,uE4,N,H.pick [3,0,1,2,4,5,6,7,8] (0::zR 4 5)⟩
   refine xg H ti31 [yN,yN,yN] fun aou ahw H=>⟨H.pick [1,3,4,5]<|zR 2 7,(ro 11 rfl<|vg [Sv qV t.qK.length qU,Sv BX ((bags.take s.qA.length).length) c8,Sv CH ((bags[s.qA.length]!).length) CB] [(0,Sv qV t.qK.length qU),(1,Sv BX ((bags.take s.qA.length).length) c8),(2,Sv CH ((bags[s.qA.length]!).length) CB)]<|⟨H.pick [1,3,4,5]<|zR 2 7,(ro 12 rfl ?_)⟩)⟩
   obtain⟨Ph,OH,PH,PJ⟩:=copy_pre (al:=t.qK) dU p8 p9.2 Bw
   have aar:=H.base.size
   refine oc (Q9 _ (⟨t.qK,(bags.take s.qA.length),bags[s.qA.length]!⟩:qG) (H.get 5 rfl).1 (H.get 0 rfl).1 (H.get 1 rfl).1 qg qg qg qg) ?_
   rintro _ anF ⟨tj,Te,sI,wd,Wq,vD,EU,E4,rh,Q2,pH,rfl,M,K⟩ _
   replace N:=N.merge aar qm M
   replace H:=H.merge K M
   obtain rfl:=H.Xg 0 rfl
   obtain rfl:=H.xQ (α:=yLI) 1 rfl 0 rfl qj
   obtain rfl:=H.jy 2 rfl
   refine⟨H.pick [4,6,7,8]<|zR 3 7,(ro 14 rfl<|xx H 3 [Sv tj (((⟨t.qK,(bags.take s.qA.length),bags[s.qA.length]!⟩:qG).qK).length) sI,Sv wd (((⟨t.qK,(bags.take s.qA.length),bags[s.qA.length]!⟩:qG).qQ).length) vD,Sv rh (((⟨t.qK,(bags.take s.qA.length),bags[s.qA.length]!⟩:qG).qJ).length) pH] sizeOf31 fun avL H=>⟨H.pick [4,6,7,8]<|zR 3 7,(xC qh<|?_)⟩)⟩
   exact meet ⟨_,aou,tj,sI,wd,vD,rh,pH,EU,E4,uE4,N,H.pick [3,0,1,2,4,5,6,7,8] (0::zR 4 5)⟩
  refine yL (fun ρ w297=>∃(xN:Env) (E5:yOA) (Tf:yLN) (aaZ:yLN),ρ=upd (upd (upd (upd (upd (upd xN 3<|pp b1 0) 6<|pp b5 0) 9<|Sv (aa tD 0) s.qA.length s.qA.length) 77<|Sv qV t.qK.length qU) 81<|Sv E5 ((bags.take s.qA.length).length) c8) 85 (pp mf<|0+(s.qA.length:Int).toNat*1)/\Fresh w.heap.size []/\St w w297 [rr (aa tD 0) s.qA.length s.qA.length 4 1 ((QP s counts s.qA.length i).map<|Value.bool),rr none 0 0 0 1 [],.box b5 [yN,yN,yN] 31,.box b3 (yT t qV qU xm xk qM qL) 31,.box b1 (yS s qF qE qO qN) 27] [sF false Tf E5 c8<|bags.take s.qA.length,isF false aaZ (Sv (aa mf 0) (t.qQ.length+1) c8) bags,xG false oY i7 bags,sF false xu qF qE s.qA,sF false xW qO qN s.qB,sF false zk qV qU t.qK,sF false zF xm xk t.qQ,sF false xJ qM qL t.qJ,sF false bS aP aK counts]) 5 #[true,true,true,true,true,true,true,true,true,true,false,false,false,false,false] ?_ fun ael=>?_
  ·rintro ρ azN ⟨xN,E5,Tf,aaZ,rfl,N,H⟩
   refine zY [10,13] qh qm<|vG rfl ?_<|vG rfl ?_ zZ
   ·obtain⟨NQ,NS,adm,H⟩:=H.jo 1 rfl s.qA.length s.qA.length qf qf qf
    refine zB (Sv NQ ((bags[s.qA.length]!).length) NS) isAgg24 rfl (H.zo 1 rfl 0 rfl)<|⟨H.pick [0,2,3,4]<|zR 4 7,(jq adM ⟨_,NQ,NS,E5,Tf,adm,uE6,N,H.pick (zR 0 5) (2::0::zR 4 7)⟩)⟩
   refine xg H ti31 [yN,yN,yN] fun alD aAJ H=>⟨H.pick [1,3,4,5]<|zR 2 7,(ro 10 rfl ?_)⟩
   obtain⟨Hx,Ht,aqu,H⟩:=H.jo 1 rfl s.qA.length s.qA.length qf qf qf
   refine zB (Sv Hx ((bags[s.qA.length]!).length) Ht) isAgg24 rfl (H.zo 1 rfl 0 rfl)<|⟨H.pick [1,3,4,5]<|zR 4 7,(ro 11 rfl<|vg [Sv qV t.qK.length qU,Sv E5 ((bags.take s.qA.length).length) c8,Sv Hx ((bags[s.qA.length]!).length) Ht] [(0,Sv qV t.qK.length qU),(1,Sv E5 ((bags.take s.qA.length).length) c8),(2,Sv Hx ((bags[s.qA.length]!).length) Ht)]<|⟨H.pick [1,3,4,5]<|zR 4 7,(ro 12 rfl ?_)⟩)⟩
   obtain⟨Ph,OH,PH,PJ⟩:=copy_pre (al:=t.qK) dU p8 p9.2 Bw
   have acQ:=H.base.size
   refine oc (Q9 _ (⟨t.qK,(bags.take s.qA.length),bags[s.qA.length]!⟩:qG) (H.get 7 rfl).1 (H.get 2 rfl).1 (H.get 0 rfl).1 qg qg qg qg) ?_
   rintro _ awS ⟨uC,S7,s0,vp,Wa,wt,EV,Gq,pO,PW,rq,rfl,M,K⟩ _
   replace N:=N.merge acQ qm M
   replace H:=H.merge K M
   obtain rfl:=H.Xg 0 rfl
   obtain rfl:=H.xQ (α:=yLI) 1 rfl 0 rfl qj
   obtain rfl:=H.jy 2 rfl
   refine⟨H.pick [4,6,7,8]<|zR 5 7,(ro 14 rfl<|xx H 3 [Sv uC (((⟨t.qK,(bags.take s.qA.length),bags[s.qA.length]!⟩:qG).qK).length) s0,Sv vp (((⟨t.qK,(bags.take s.qA.length),bags[s.qA.length]!⟩:qG).qQ).length) wt,Sv pO (((⟨t.qK,(bags.take s.qA.length),bags[s.qA.length]!⟩:qG).qJ).length) rq] sizeOf31 fun aAg H=>⟨H.pick [4,6,7,8]<|zR 5 7,(xC qh<|?_)⟩)⟩
   exact meet ⟨_,alD,uC,s0,vp,wt,pO,rq,EV,Gq,uE4,N,H.pick [3,0,1,2,4,5,6,7,8] (0::zR 6 5)⟩
  refine yL (fun ρ Zx=>∃(xN:Env) (HF:Nat),ρ=upd (upd (upd (upd (upd (upd (upd (upd xN 3<|pp b1 0) 6<|pp b5 0) 9<|Sv (aa tD 0) s.qA.length s.qA.length) 13<|pp HF 0) 77<|Sv qV t.qK.length qU) 78<|Sv (aa mf 0) (t.qQ.length+1) c8) 80<|yI s.qA.length) 85 (pp mf<|0+(s.qA.length:Int).toNat*1)/\Fresh w.heap.size []/\St w Zx [.box HF [yN,yN,yN] 31,rr (aa tD 0) s.qA.length s.qA.length 4 1 ((QP s counts s.qA.length i).map<|Value.bool),rr (aa mf 0) (t.qQ.length+1) c8 24 1 i7,.box b5 [yN,yN,yN] 31,.box b3 (yT t qV qU xm xk qM qL) 31,.box b1 (yS s qF qE qO qN) 27] [xG false oY i7 bags,sF false xu qF qE s.qA,sF false xW qO qN s.qB,sF false zk qV qU t.qK,sF false zF xm xk t.qQ,sF false xJ qM qL t.qJ,sF false bS aP aK counts]) 5 #[true,true,true,true,true,false,true,true,true,true,false,false,false,true,false] ?_ fun ag5=>?_
  ·rintro ρ aol ⟨xN,HF,rfl,N,H⟩
   refine zY [5,10] qh qm<|vG rfl ?_<|vG rfl ?_ zZ
   ·obtain⟨axl,arc,aq2,H⟩:=H.yC (α:=yLI) 2 rfl 0 rfl qj
    refine o_head H 0 rfl s.qA.length underlying29 ti24 rfl rfl qf qf fun adJ ayD arK H=>?_
    have ar5:(bags.take s.qA.length).length=s.qA.length:=List.length_take_of_le qf
    refine⟨H.pick [1,3,4,5]<|zR 2 7,(ro 10 rfl ?_)⟩
    obtain⟨Ii,JY,atP,H⟩:=H.jo 1 rfl s.qA.length s.qA.length qf qf qf
    refine zB (Sv Ii ((bags[s.qA.length]!).length) JY) isAgg24 rfl (H.zo 1 rfl 0 rfl)<|⟨H.pick [1,3,4,5]<|zR 4 7,(ro 11 rfl<|vg [Sv qV t.qK.length qU,Sv adJ ((bags.take s.qA.length).length) c8,Sv Ii ((bags[s.qA.length]!).length) JY] [(0,Sv qV t.qK.length qU),(1,Sv adJ ((bags.take s.qA.length).length) c8),(2,Sv Ii ((bags[s.qA.length]!).length) JY)]<|⟨H.pick [1,3,4,5]<|zR 4 7,(ro 12 rfl ?_)⟩)⟩
    obtain⟨Ph,OH,PH,PJ⟩:=copy_pre (al:=t.qK) dU p8 p9.2 Bw
    have aei:=H.base.size
    refine oc (Q9 _ (⟨t.qK,(bags.take s.qA.length),bags[s.qA.length]!⟩:qG) (H.get 7 rfl).1 (H.get 2 rfl).1 (H.get 0 rfl).1 qg qg qg qg) ?_
    rintro _ awA ⟨sn,TO,uk,vn,W2,vh,FD,FX,ri,P0,qv,rfl,M,K⟩ _
    replace N:=N.merge aei qm M
    replace H:=H.merge K M
    obtain rfl:=H.Xg 0 rfl
    obtain rfl:=H.xQ (α:=yLI) 1 rfl 0 rfl qj
    obtain rfl:=H.jy 2 rfl
    refine⟨H.pick [4,6,7,8]<|zR 5 7,(ro 14 rfl<|xx H 3 [Sv sn (((⟨t.qK,(bags.take s.qA.length),bags[s.qA.length]!⟩:qG).qK).length) uk,Sv vn (((⟨t.qK,(bags.take s.qA.length),bags[s.qA.length]!⟩:qG).qQ).length) vh,Sv ri (((⟨t.qK,(bags.take s.qA.length),bags[s.qA.length]!⟩:qG).qJ).length) qv] sizeOf31 fun auQ H=>⟨H.pick [4,6,7,8]<|zR 5 7,(xC qh<|?_)⟩)⟩
    exact meet ⟨_,HF,sn,uk,vn,vh,ri,qv,FD,FX,uE4,N,H.pick [3,0,1,2,4,5,6,7,8] (0::zR 6 5)⟩
   obtain⟨SM,S0,axt,aAR,ajO,H⟩:=H.jS 2 rfl 0 rfl (iv:=s.qA.length) s.qA.length qf qf
   refine zB (Sv SM ((bags[s.qA.length]!).length) S0) isAgg24 rfl (ajO)<|⟨H.pick [1,3,4,5]<|zR 1 7,(ro 5 rfl ?_)⟩
   obtain⟨ayk,as5,arZ,H⟩:=H.yC (α:=yLI) 2 rfl 1 rfl qj
   refine o_head H 0 rfl s.qA.length underlying29 ti24 rfl rfl qf qf fun agF ayu ata H=>(⟨H.pick [1,3,4,5]<|zR 3 7,(ro 11 rfl<|vg [Sv qV t.qK.length qU,Sv agF ((bags.take s.qA.length).length) c8,Sv SM ((bags[s.qA.length]!).length) S0] [(0,Sv qV t.qK.length qU),(1,Sv agF ((bags.take s.qA.length).length) c8),(2,Sv SM ((bags[s.qA.length]!).length) S0)]<|⟨H.pick [1,3,4,5]<|zR 3 7,(ro 12 rfl ?_)⟩)⟩)
   obtain⟨Ph,OH,PH,PJ⟩:=copy_pre (al:=t.qK) dU p8 p9.2 Bw
   have af8:=H.base.size
   refine oc (Q9 _ (⟨t.qK,(bags.take s.qA.length),bags[s.qA.length]!⟩:qG) (H.get 6 rfl).1 (H.get 0 rfl).1 (H.get 2 rfl).1 qg qg qg qg) ?_
   rintro _ ayE ⟨sH,Se,sf,wm,UG,vv,Fw,E3,qD,P1,qS,rfl,M,K⟩ _
   replace N:=N.merge af8 qm M
   replace H:=H.merge K M
   obtain rfl:=H.Xg 0 rfl
   obtain rfl:=H.xQ (α:=yLI) 1 rfl 0 rfl qj
   obtain rfl:=H.jy 2 rfl
   refine⟨H.pick [4,6,7,8]<|zR 4 7,(ro 14 rfl<|xx H 3 [Sv sH (((⟨t.qK,(bags.take s.qA.length),bags[s.qA.length]!⟩:qG).qK).length) sf,Sv wm (((⟨t.qK,(bags.take s.qA.length),bags[s.qA.length]!⟩:qG).qQ).length) vv,Sv qD (((⟨t.qK,(bags.take s.qA.length),bags[s.qA.length]!⟩:qG).qJ).length) qS] sizeOf31 fun aoA H=>⟨H.pick [4,6,7,8]<|zR 4 7,(xC qh<|?_)⟩)⟩
   exact meet ⟨_,HF,sH,sf,wm,vv,qD,qS,Fw,E3,uE4,N,H.pick [3,0,1,2,4,5,6,7,8] (0::zR 5 5)⟩
  refine yL (fun ρ w361=>∃(xN:Env) (JQ:Nat),ρ=upd (upd (upd (upd (upd (upd (upd (upd (upd xN 3<|pp b1 0) 6<|pp b5 0) 9<|Sv (aa tD 0) s.qA.length s.qA.length) 13<|pp JQ 0) 77<|Sv qV t.qK.length qU) 78<|Sv (aa mf 0) (t.qQ.length+1) c8) 80<|yI s.qA.length) 82<|Sv (aa mf 0) (t.qQ.length+1) c8) 83 (.agg #[yI s.zf,Sv qF s.qA.length qE,Sv qO s.qB.length qN])/\Fresh w.heap.size []/\St w w361 [.box JQ [yN,yN,yN] 31,rr (aa tD 0) s.qA.length s.qA.length 4 1 ((QP s counts s.qA.length i).map<|Value.bool),rr (aa mf 0) (t.qQ.length+1) c8 24 1 i7,.box b5 [yN,yN,yN] 31,.box b3 (yT t qV qU xm xk qM qL) 31,.box b1 (yS s qF qE qO qN) 27] [xG false oY i7 bags,sF false xu qF qE s.qA,sF false xW qO qN s.qB,sF false zk qV qU t.qK,sF false zF xm xk t.qQ,sF false xJ qM qL t.qJ,sF false bS aP aK counts]) 7 #[true,true,true,true,true,false,true,true,false,false,false,false,false,true,false] ?_ fun afD=>?_
  ·rintro ρ auC ⟨xN,JQ,rfl,N,H⟩
   refine zY [5,8] qh qm<|vG rfl ?_<|vG rfl ?_ zZ
   ·obtain⟨axa,ase,ar8,H⟩:=H.yC (α:=yLI) 2 rfl 0 rfl qj
    refine o_head H 0 rfl s.qA.length underlying29 ti24 rfl rfl qf qf fun ac4 awX atC H=>?_
    have arp:(bags.take s.qA.length).length=s.qA.length:=List.length_take_of_le qf
    refine⟨H.pick [1,3,4,5]<|zR 2 7,(ro 8 rfl<|oq (around_ok _ s (H.get 3 rfl).1 (H.get 4 rfl).1) H fun av6 H=>⟨H.pick [1,3,4,5]<|zR 2 7,?_⟩)⟩
    obtain⟨Ia,JW,aty,H⟩:=H.jo 1 rfl s.qA.length s.qA.length qf qf qf
    refine tI 9 rfl rfl rfl (H.pick [1,3,4,5]<|zR 4 7)<|ro 10 rfl<|zB (Sv Ia ((bags[s.qA.length]!).length) JW) isAgg24 rfl (H.zo 1 rfl 0 rfl)<|⟨H.pick [1,3,4,5]<|zR 4 7,(ro 11 rfl<|vg [Sv qV t.qK.length qU,Sv ac4 ((bags.take s.qA.length).length) c8,Sv Ia ((bags[s.qA.length]!).length) JW] [(0,Sv qV t.qK.length qU),(1,Sv ac4 ((bags.take s.qA.length).length) c8),(2,Sv Ia ((bags[s.qA.length]!).length) JW)]<|⟨H.pick [1,3,4,5]<|zR 4 7,(ro 12 rfl ?_)⟩)⟩
    obtain⟨Ph,OH,PH,PJ⟩:=copy_pre (al:=t.qK) dU p8 p9.2 Bw
    have abk:=H.base.size
    refine oc (Q9 _ (⟨t.qK,(bags.take s.qA.length),bags[s.qA.length]!⟩:qG) (H.get 7 rfl).1 (H.get 2 rfl).1 (H.get 0 rfl).1 qg qg qg qg) ?_
    rintro _ ap6 ⟨tq,TM,sT,uW,U9,wC,Gx,Gb,qq,NU,qe,rfl,M,K⟩ _
    replace N:=N.merge abk qm M
    replace H:=H.merge K M
    obtain rfl:=H.Xg 0 rfl
    obtain rfl:=H.xQ (α:=yLI) 1 rfl 0 rfl qj
    obtain rfl:=H.jy 2 rfl
    refine⟨H.pick [4,6,7,8]<|zR 5 7,(ro 14 rfl<|xx H 3 [Sv tq (((⟨t.qK,(bags.take s.qA.length),bags[s.qA.length]!⟩:qG).qK).length) sT,Sv uW (((⟨t.qK,(bags.take s.qA.length),bags[s.qA.length]!⟩:qG).qQ).length) wC,Sv qq (((⟨t.qK,(bags.take s.qA.length),bags[s.qA.length]!⟩:qG).qJ).length) qe] sizeOf31 fun al5 H=>⟨H.pick [4,6,7,8]<|zR 5 7,(xC qh<|?_)⟩)⟩
    exact meet ⟨_,JQ,tq,sT,uW,wC,qq,qe,Gx,Gb,uE4,N,H.pick [3,0,1,2,4,5,6,7,8] (0::zR 6 5)⟩
   refine oq (around_ok _ s (H.get 1 rfl).1 (H.get 2 rfl).1) H fun ayq H=>⟨H.pick [1,3,4,5]<|zR 0 7,(tI 9 rfl rfl rfl (H.pick [1,3,4,5]<|zR 0 7) ?_)⟩
   exact jq ag5 ⟨_,JQ,uE8,N,H⟩
  have S:=H.jF [0,2,3,4]<|zR 0 7
  refine tF 0 rfl rfl S ?_
  refine tL 1 rfl rfl (fun _ h=>h.cell 2 rfl rfl) S ?_
  refine rtl 2 S ?_
  refine rt 3 _ (yF (cs:=(yS s qF qE qO qN)) isAgg27 sizeOf27 rfl<|fun _ h=>qC (h.cells 3 rfl) 0 3) S ?_
  refine rtl 6 S ?_
  refine rt 7 _ (yF (cs:=(yS s qF qE qO qN)) isAgg27 sizeOf27 rfl<|fun _ h=>qC (h.cells 3 rfl) 0 3) S ?_
  refine zY [4,13] qh qm<|vG rfl ?_<|vG rfl ?_ zZ
  ·refine oq (around_ok _ s (H.get 1 rfl).1 (H.get 2 rfl).1) H fun ayr H=>⟨H.pick [0,2,3,4]<|zR 0 7,(zY [5,8,13] qh qm<|vG rfl ?_<|vG rfl ?_<|vG rfl ?_ zZ)⟩
   ·obtain⟨amW,atK,aqb,H⟩:=H.yC (α:=yLI) 1 rfl 0 rfl qj
    refine o_head H 0 rfl s.qA.length underlying29 ti24 rfl rfl qf qf fun SJ am3 aqB H=>?_
    have asH:(bags.take s.qA.length).length=s.qA.length:=List.length_take_of_le qf
    refine⟨H.pick [0,2,3,4]<|zR 2 7,(zY [8,13] qh qm<|vG rfl ?_<|vG rfl ?_ zZ)⟩
    ·refine oq (around_ok _ s (H.get 3 rfl).1 (H.get 4 rfl).1) H fun ayI H=>⟨H.pick [0,2,3,4]<|zR 2 7,?_⟩
     obtain⟨at5,asD,aqo,H⟩:=H.jo 1 rfl s.qA.length s.qA.length qf qf qf
     refine tI 9 rfl rfl rfl (H.pick [0,2,3,4]<|zR 4 7) ?_
     exact jq ael ⟨_,SJ,am3,amW,uE6,N,H.pick (zR 0 5)<|zR 2 9⟩
    refine xg H ti31 [yN,yN,yN] fun ajr aAI H=>⟨H.pick [1,3,4,5]<|zR 2 7,(ro 8 rfl<|oq (around_ok _ s (H.get 3 rfl).1 (H.get 4 rfl).1) H fun awE H=>⟨H.pick [1,3,4,5]<|zR 2 7,?_⟩)⟩
    obtain⟨Hk,I3,arb,H⟩:=H.jo 1 rfl s.qA.length s.qA.length qf qf qf
    refine tI 9 rfl rfl rfl (H.pick [1,3,4,5]<|zR 4 7)<|ro 10 rfl<|zB (Sv Hk ((bags[s.qA.length]!).length) I3) isAgg24 rfl (H.zo 1 rfl 0 rfl)<|⟨H.pick [1,3,4,5]<|zR 4 7,(ro 11 rfl<|vg [Sv qV t.qK.length qU,Sv SJ ((bags.take s.qA.length).length) c8,Sv Hk ((bags[s.qA.length]!).length) I3] [(0,Sv qV t.qK.length qU),(1,Sv SJ ((bags.take s.qA.length).length) c8),(2,Sv Hk ((bags[s.qA.length]!).length) I3)]<|⟨H.pick [1,3,4,5]<|zR 4 7,(ro 12 rfl ?_)⟩)⟩
    obtain⟨Ph,OH,PH,PJ⟩:=copy_pre (al:=t.qK) dU p8 p9.2 Bw
    have ahY:=H.base.size
    refine oc (Q9 _ (⟨t.qK,(bags.take s.qA.length),bags[s.qA.length]!⟩:qG) (H.get 7 rfl).1 (H.get 2 rfl).1 (H.get 0 rfl).1 qg qg qg qg) ?_
    rintro _ avl ⟨rS,TK,t7,wa,Wb,wc,Fs,ES,pY,Q6,rk,rfl,M,K⟩ _
    replace N:=N.merge ahY qm M
    replace H:=H.merge K M
    obtain rfl:=H.Xg 0 rfl
    obtain rfl:=H.xQ (α:=yLI) 1 rfl 0 rfl qj
    obtain rfl:=H.jy 2 rfl
    refine⟨H.pick [4,6,7,8]<|zR 5 7,(ro 14 rfl<|xx H 3 [Sv rS (((⟨t.qK,(bags.take s.qA.length),bags[s.qA.length]!⟩:qG).qK).length) t7,Sv wa (((⟨t.qK,(bags.take s.qA.length),bags[s.qA.length]!⟩:qG).qQ).length) wc,Sv pY (((⟨t.qK,(bags.take s.qA.length),bags[s.qA.length]!⟩:qG).qJ).length) rk] sizeOf31 fun av0 H=>⟨H.pick [4,6,7,8]<|zR 5 7,(xC qh<|?_)⟩)⟩
    exact meet ⟨_,ajr,rS,t7,wa,wc,pY,rk,Fs,ES,uE4,N,H.pick [3,0,1,2,4,5,6,7,8] (0::zR 6 5)⟩
   ·refine oq (around_ok _ s (H.get 1 rfl).1 (H.get 2 rfl).1) H fun avA H=>⟨H.pick [0,2,3,4]<|zR 0 7,(tI 9 rfl rfl rfl (H.pick [0,2,3,4]<|zR 0 7) ?_)⟩
    refine zY [5,10,13] qh qm<|vG rfl ?_<|vG rfl ?_<|vG rfl ?_ zZ
    ·obtain⟨anX,arA,arf,H⟩:=H.yC (α:=yLI) 1 rfl 0 rfl qj
     refine o_head H 0 rfl s.qA.length underlying29 ti24 rfl rfl qf qf fun apz ajE atN H=>(⟨H.pick [0,2,3,4]<|zR 2 7,(jq ael ⟨_,apz,ajE,anX,uE6,N,H⟩)⟩)
    ·obtain⟨K8,MK,aoP,ay1,akY,H⟩:=H.jS 1 rfl 0 rfl (iv:=s.qA.length) s.qA.length qf qf
     refine zB (Sv K8 ((bags[s.qA.length]!).length) MK) isAgg24 rfl (akY)<|⟨H.pick [0,2,3,4]<|zR 1 7,(zY [5,13] qh qm<|vG rfl ?_<|vG rfl ?_ zZ)⟩
     ·obtain⟨awi,atS,aqy,H⟩:=H.yC (α:=yLI) 1 rfl 1 rfl qj
      refine o_head H 0 rfl s.qA.length underlying29 ti24 rfl rfl qf qf fun apa amR aq0 H=>(⟨H.pick [0,2,3,4]<|zR 3 7,(jq adM ⟨_,K8,MK,apa,amR,aoP,uE6,N,H.pick (zR 0 5) (0::zR 2 8)⟩)⟩)
     refine xg H ti31 [yN,yN,yN] fun anf aAp H=>⟨H.pick [1,3,4,5]<|zR 1 7,(ro 5 rfl ?_)⟩
     obtain⟨axO,asS,aqF,H⟩:=H.yC (α:=yLI) 2 rfl 1 rfl qj
     refine o_head H 0 rfl s.qA.length underlying29 ti24 rfl rfl qf qf fun afp awh atG H=>(⟨H.pick [1,3,4,5]<|zR 3 7,(ro 11 rfl<|vg [Sv qV t.qK.length qU,Sv afp ((bags.take s.qA.length).length) c8,Sv K8 ((bags[s.qA.length]!).length) MK] [(0,Sv qV t.qK.length qU),(1,Sv afp ((bags.take s.qA.length).length) c8),(2,Sv K8 ((bags[s.qA.length]!).length) MK)]<|⟨H.pick [1,3,4,5]<|zR 3 7,(ro 12 rfl ?_)⟩)⟩)
     obtain⟨Ph,OH,PH,PJ⟩:=copy_pre (al:=t.qK) dU p8 p9.2 Bw
     have X2:=H.base.size
     refine oc (Q9 _ (⟨t.qK,(bags.take s.qA.length),bags[s.qA.length]!⟩:qG) (H.get 6 rfl).1 (H.get 0 rfl).1 (H.get 2 rfl).1 qg qg qg qg) ?_
     rintro _ auS ⟨uh,Sx,rU,wq,WN,vb,E8,Fy,pL,NY,pZ,rfl,M,K⟩ _
     replace N:=N.merge X2 qm M
     replace H:=H.merge K M
     obtain rfl:=H.Xg 0 rfl
     obtain rfl:=H.xQ (α:=yLI) 1 rfl 0 rfl qj
     obtain rfl:=H.jy 2 rfl
     refine⟨H.pick [4,6,7,8]<|zR 4 7,(ro 14 rfl<|xx H 3 [Sv uh (((⟨t.qK,(bags.take s.qA.length),bags[s.qA.length]!⟩:qG).qK).length) rU,Sv wq (((⟨t.qK,(bags.take s.qA.length),bags[s.qA.length]!⟩:qG).qQ).length) vb,Sv pL (((⟨t.qK,(bags.take s.qA.length),bags[s.qA.length]!⟩:qG).qJ).length) pZ] sizeOf31 fun aj6 H=>⟨H.pick [4,6,7,8]<|zR 4 7,(xC qh<|?_)⟩)⟩
     exact meet ⟨_,anf,uh,rU,wq,vb,pL,pZ,E8,Fy,uE4,N,H.pick [3,0,1,2,4,5,6,7,8] (0::zR 5 5)⟩
    refine xg H ti31 [yN,yN,yN] fun alK awv H=>⟨H.pick [1,3,4,5]<|zR 0 7,(jq ag5 ⟨_,alK,uE8,N,H⟩)⟩
   refine xg H ti31 [yN,yN,yN] fun am0 avS H=>⟨H.pick [1,3,4,5]<|zR 0 7,(jq afD ⟨_,am0,uE9,N,H⟩)⟩
  refine xg H ti31 [yN,yN,yN] fun anQ axC H=>⟨H.pick [1,3,4,5]<|zR 0 7,(ro 4 rfl<|oq (around_ok _ s (H.get 1 rfl).1 (H.get 2 rfl).1) H fun axZ H=>⟨H.pick [1,3,4,5]<|zR 0 7,(jq afD ⟨_,anQ,uE9,N,H⟩)⟩)⟩
 clear H N
 rintro ρ awx ⟨xN,CX,fM,fF,io,fo,gJ,gP,EC,DV,rfl,N,H⟩
 refine t_n<|zcc<|sq 1<|oN rfl<|sw<|o_sub s.qA.length 1 rfl rfl qf<|sq 1<|zjn<|xf ?_
 obtain rfl:i=s.qB.length:=by omega
 have hl:=stepped_live p1 dU qf
 obtain⟨s1,s2⟩:=step_tab dU
 rw[show (⟨t.qK,(bags.take s.qA.length),bags[s.qA.length]!⟩:qG)=zn s t counts from by rw[show bags.take s.qA.length=_ from s1,show bags[s.qA.length]! =_ from s2];rfl] at H
 refine zD ((fun Z0 Z1 Z2 Z3 Z4 Z5 Z6 Z7 Z8 Z9 bG=>fun m' ρ ac9=>∃(xN:Env) (c:Int) (dX:List Bool) (ax:yLL) (jw:List Value) (zM:yLN) (j:Nat),ρ=upd (upd (upd (upd (upd xN 3<|pp b1 0) 6<|pp b5 0) 9<|Sv (aa tD 0) s.qA.length s.qA.length) 13<|pp CX 0) 14 (yI c)/\dX=(zi s counts (zn s t counts) j).qK/\ax=(zi s counts (zn s t counts) j).qQ/\(c=(s.qA.length:Int)-1-j)/\(j+1<=s.qA.length)/\m'=(c:Int).toNat/\Fresh w.heap.size [zM]/\St w ac9 [Z0,rr fM (((zn s t counts).qK).length) fF 4 1<|dX.map<|Value.bool,rr io (((zn s t counts).qQ).length) fo 24 1 jw,Z1,Z2,Z3,Z4,Z5] [xG true zM jw ax,Z6,Z7,Z8,Z9,bG]) _ _ _ _ _ _ _ _ _ _ _) (((s.qA.length-1):Int).toNat) ⟨_,s.qA.length-1,(zn s t counts).qK,(zn s t counts).qQ,EC,DV,0,uE5,(by rfl),(by rfl),qf,qf,rfl,N,H.pick [0,1,2,3,4,6,7,8]<|zR 0 6⟩ ?_
 clear H N
 rintro m' ρ alp ⟨xN,c,dX,ax,jw,zM,j,rfl,rfl,rfl,ic,jc,rfl,N,H⟩
 have wN:=H.Xg 1 rfl
 have V8:=H.xQ (α:=yLI) 2 rfl 0 rfl qj
 have L:=meltDown_live (counts:=counts) p0 hl j qf
 have L1:=L.alive
 have L2:=L.root
 have L3:=L.bags.1
 rw[←QG s counts (zn s t counts) j] at H
 refine zcc<|sp (yI c)<|sp (Bv<|decide ((c:Int)>0))<|zjn<|cD rfl (fun ajY=>?_)<|fun ajY=>?_
 ·refine qZ (t_n<|xU<|xf<|zcr<|sq 1<|sp (yI c)<|oI rfl rfl<|oL rfl (H.rowBool 4 rfl (iv:=c) (i:=c.toNat) qf qf)<|zjn<|zX _ rfl (fun amu=>?_)<|fun amu=>?_)
  ·refine xX (sw<|xy (yS s qF qE qO qN) isAgg27 sizeOf27 rfl (qC (H.cells 7 rfl) 0 3)<|sp (yI c)<|sw<|zW #[.agg #[yI s.zf,Sv qF s.qA.length qE,Sv qO s.qB.length qN],pp CX 0,yI c] rfl rfl call130<|en func130 ntmps130 ?_)
   refine zcr<|sw<|zN H (yS s qF qE qO qN) fun ahv aAH H=>zjn<|xU<|ji rfl H fun H=>rt 0 _ (yF (cs:=(yS s qF qE qO qN)) isAgg27 sizeOf27 rfl<|fun _ h=>qC (h.cells 0 rfl) 0 3) H ?_
   refine rtl 1 H ?_
   refine rtl 2 H ?_
   refine rt 3 _ (yF (cs:=[Sv fM (((zn s t counts).qK).length) fF,Sv io (((zn s t counts).qQ).length) fo,Sv gJ (((zi s counts (zn s t counts) j).qJ).length) gP]) isAgg31 sizeOf31 rfl<|fun _ h=>qC (h.cells 1 rfl) 0 3) H ?_
   refine rtp 4 (yI c) H ?_
   refine ro 5 rfl ?_
   obtain⟨at8,OQ,alg⟩:=H.rowIsB 2 rfl
   obtain⟨aya,Pz,aj9⟩:=H.QL (α:=yLI) 3 rfl 0 rfl qj
   obtain⟨axW,ash,ame⟩:=H.XB 4 rfl
   refine oq (Qu (by rw[←OQ,←Pz])<|parentNow_ok _ s (zi s counts (zn s t counts) j) c (H.get 1 rfl).1 (H.get 2 rfl).1 (OQ▸alg) (Pz▸aj9) ame qg qg qg) H fun aug H=>?_
   have pin:=Vk (s:=s) (t:=(zi s counts (zn s t counts) j)) (c:=c) p0.1 L2 qf qf
   refine⟨H,(rtl 6 H ?_)⟩
   refine xC qh<|t_n<|xU ?_
   obtain⟨YD,rfl⟩:=H.jR 3 rfl qf
   refine VD (fun ρ w492=>∃(xN:Env) (Hs:List Value) (TT:yLN),ρ=upd (upd (upd xN 1<|pp CX 0) 2<|yI c) 3 (pp ahv 0)/\Fresh w.heap.size [TT]/\St w w492 [.box ahv (yS s qF qE qO qN) 27,.box CX [Sv fM (((zn s t counts).qK).length) fF,Sv (aa YD 0) (((zn s t counts).qQ).length) fo,Sv gJ (((zi s counts (zn s t counts) j).qJ).length) gP] 31,rr fM (((zn s t counts).qK).length) fF 4 1 (((zi s counts (zn s t counts) j).qK).map<|Value.bool),rr (aa YD 0) (((zn s t counts).qQ).length) fo 24 1 Hs,rr gJ (((zi s counts (zn s t counts) j).qJ).length) gP 2 1 (((zi s counts (zn s t counts) j).qJ).map<|Value.int .i64),rr (aa tD 0) s.qA.length s.qA.length 4 1 ((QP s counts s.qA.length s.qB.length).map<|Value.bool),.box b5 [yN,yN,yN] 31,.box b3 (yT t qV qU xm xk qM qL) 31,.box b1 (yS s qF qE qO qN) 27] [xG true TT Hs (((zi s counts (zn s t counts) j).qQ).set ((x9 s (zi s counts (zn s t counts) j) c).toNat)<|jX (((zi s counts (zn s t counts) j).qQ)[(x9 s (zi s counts (zn s t counts) j) c).toNat]!) (((zi s counts (zn s t counts) j).qQ)[c.toNat]!) 1),sF false xu qF qE s.qA,sF false xW qO qN s.qB,sF false zk qV qU t.qK,sF false zF xm xk t.qQ,sF false xJ qM qL t.qJ]) ?_ ?_
   ·refine Qd rfl H [0,1,2,4,5,6,7,8] fun H=>?_
    have S:=H.jF [0,1,2,4,5,6,7,8]<|zR 0 6
    refine rtl 0 S ?_
    refine rtl 1 S ?_
    refine tF 2 rfl rfl S ?_
    refine tL 3 rfl rfl (fun _ h=>h.cell 1 rfl rfl) S ?_
    refine rtl 4 S ?_
    refine rtl 5 S ?_
    refine rtl 6 S ?_
    refine tF 7 rfl rfl S ?_
    refine tL 8 rfl rfl (fun _ h=>h.cell 1 rfl rfl) S ?_
    refine rtl 9 S ?_
    refine tI 10 rfl rfl rfl S ?_
    refine rtl 12 S ?_
    refine rtl 13 S ?_
    refine tF 14 rfl rfl S ?_
    refine tL 15 rfl rfl (fun _ h=>h.cell 1 rfl rfl) S ?_
    refine rtp 16 (yI c) S ?_
    refine tI 17 rfl rfl rfl S ?_
    refine zY [11,18] qh qm<|vG rfl ?_<|vG rfl ?_ zZ
    ·obtain⟨alH,apT,aAG,ayc,SA,H⟩:=H.jS 3 rfl 0 rfl (iv:=x9 s (zi s counts (zn s t counts) j) c) ((x9 s (zi s counts (zn s t counts) j) c).toNat) qf qf
     refine zB (Sv alH ((((zi s counts (zn s t counts) j).qQ)[(x9 s (zi s counts (zn s t counts) j) c).toNat]!).length) apT) isAgg24 rfl (SA)<|⟨H.pick [0,1,2,4,5,6,7,8]<|zR 1 6,(ro 18 rfl ?_)⟩
     obtain⟨aoZ,akf,aA1,axJ,amx,H⟩:=H.jS 3 rfl 1 rfl (iv:=c) c.toNat qf qf
     refine zB (Sv aoZ ((((zi s counts (zn s t counts) j).qQ)[c.toNat]!).length) akf) isAgg24 rfl (amx)<|⟨H.pick [0,1,2,4,5,6,7,8]<|zR 2 6,(ro 19 rfl ?_)⟩
     obtain⟨u1,u2,u4⟩:=L.rows p0 (bnd_le qf) (p:=(x9 s (zi s counts (zn s t counts) j) c).toNat) (c:=c.toNat) qf qf
     refine oc (plus_ok _ (((zi s counts (zn s t counts) j).qQ)[(x9 s (zi s counts (zn s t counts) j) c).toNat]!) (((zi s counts (zn s t counts) j).qQ)[c.toNat]!) 1 (H.get 1 rfl).1 (H.get 0 rfl).1 qg qg qg) ?_
     rintro au1 ayd amJ amL
     replace H:=H.zO amL amJ
     obtain⟨akc,aoU,rfl,aqE,asd⟩:=H.yc 0 rfl
     refine⟨H.pick [1,2,3,5,6,7,8,9]<|zR 2 6,(tI 20 rfl rfl rfl (H.pick [1,2,3,5,6,7,8,9]<|zR 2 6) ?_)⟩
     refine ro 21 rfl ?_
     obtain⟨auI,N,ati,H⟩:=H.zQ 0 rfl N<|H.vX [2]
     refine yu true H 4 rfl 3 rfl (Sv akc ((jX (((zi s counts (zn s t counts) j).qQ)[(x9 s (zi s counts (zn s t counts) j) c).toNat]!) (((zi s counts (zn s t counts) j).qQ)[c.toNat]!) 1).length) aoU) 0 rfl rfl sizeOf24 rfl rfl (i:=((x9 s (zi s counts (zn s t counts) j) c).toNat)) qf qf qm fun awW agU aaU agQ H=>?_
     replace N:Fresh w.heap.size [aaU]:=(N.pick [1,0]).repl agQ
     refine⟨H.pick [1,2,3,5,6,7,8,9]<|zR 4 6,(xC qh ((meet ⟨_,agU,aaU,uE3,N,H.pick (zR 1 9) (0::zR 5 5)⟩)))⟩
    obtain⟨akM,apt,aAt,auo,akF,H⟩:=H.jS 3 rfl 0 rfl (iv:=c) c.toNat qf qf
    refine zB (Sv akM ((((zi s counts (zn s t counts) j).qQ)[c.toNat]!).length) apt) isAgg24 rfl (akF)<|⟨H.pick [0,1,2,4,5,6,7,8]<|zR 1 6,(ro 11 rfl ?_)⟩
    obtain⟨akr,ap1,axs,ayC,apI,H⟩:=H.jS 3 rfl 1 rfl (iv:=x9 s (zi s counts (zn s t counts) j) c) ((x9 s (zi s counts (zn s t counts) j) c).toNat) qf qf
    refine zB (Sv akr ((((zi s counts (zn s t counts) j).qQ)[(x9 s (zi s counts (zn s t counts) j) c).toNat]!).length) ap1) isAgg24 rfl (apI)<|⟨H.pick [0,1,2,4,5,6,7,8]<|zR 2 6,(ro 19 rfl ?_)⟩
    obtain⟨u1,u2,u4⟩:=L.rows p0 (bnd_le qf) (p:=(x9 s (zi s counts (zn s t counts) j) c).toNat) (c:=c.toNat) qf qf
    refine oc (plus_ok _ (((zi s counts (zn s t counts) j).qQ)[(x9 s (zi s counts (zn s t counts) j) c).toNat]!) (((zi s counts (zn s t counts) j).qQ)[c.toNat]!) 1 (H.get 0 rfl).1 (H.get 1 rfl).1 qg qg qg) ?_
    rintro ayS axm ald amG
    replace H:=H.zO amG ald
    obtain⟨ak8,alF,rfl,arT,aqJ⟩:=H.yc 0 rfl
    refine⟨H.pick [1,2,3,5,6,7,8,9]<|zR 2 6,(tI 20 rfl rfl rfl (H.pick [1,2,3,5,6,7,8,9]<|zR 2 6) ?_)⟩
    refine ro 21 rfl ?_
    obtain⟨awz,N,as8,H⟩:=H.zQ 0 rfl N<|H.vX [2]
    refine yu true H 4 rfl 3 rfl (Sv ak8 ((jX (((zi s counts (zn s t counts) j).qQ)[(x9 s (zi s counts (zn s t counts) j) c).toNat]!) (((zi s counts (zn s t counts) j).qQ)[c.toNat]!) 1).length) alF) 0 rfl rfl sizeOf24 rfl rfl (i:=((x9 s (zi s counts (zn s t counts) j) c).toNat)) qf qf qm fun aAP acj ah5 adl H=>?_
    replace N:Fresh w.heap.size [ah5]:=(N.pick [1,0]).repl adl
    refine⟨H.pick [1,2,3,5,6,7,8,9]<|zR 4 6,(xC qh ((meet ⟨_,acj,ah5,uE3,N,H.pick (zR 1 9) (0::zR 5 5)⟩)))⟩
   clear H N
   rintro ρ avk ⟨xN,Hs,TT,rfl,N,H⟩
   refine t_n<|xU<|Qd rfl H [0,1,2,4,5,6,7,8] fun H=>?_
   have S:=H.jF [0,1,2,4,5,6,7,8]<|zR 0 6
   refine rtl 0 S ?_
   refine rtl 1 S ?_
   refine tF 2 rfl rfl S ?_
   refine tL 3 rfl rfl (fun _ h=>h.cell 1 rfl rfl) S ?_
   refine rtp 4 (yI c) S ?_
   refine tF 5 rfl rfl S ?_
   refine tL 6 rfl rfl (fun _ h=>h.cell 0 rfl rfl) S ?_
   refine ro 7 rfl<|zq H underlying24 ti2 s.zf.toNat rfl rfl qf qf qf fun amy aup H=>⟨H.pick [1,2,3,5,6,7,8,9]<|zR 0 6,(tI 8 rfl rfl rfl (H.pick [1,2,3,5,6,7,8,9]<|zR 0 6) ?_)⟩
   refine ro 9 rfl ?_
   obtain⟨aAr,N,arG,H⟩:=H.zQ 0 rfl N<|H.vX [0]
   refine yu true H 4 rfl 1 rfl (Sv (aa amy 0) s.zf.toNat s.zf.toNat) 0 rfl rfl sizeOf24 rfl rfl (i:=c.toNat) qf qf qm fun aza atx apf aer H=>?_
   replace N:Fresh w.heap.size [apf]:=(N.pick [1,0]).repl aer
   refine⟨H.pick [1,2,3,5,6,7,8,9]<|zR 2 6,(xC qh<|t_n<|xX<|sq 2<|oF rfl<|oL rfl (H.cell 2 rfl rfl)<|sp (yI c) ?_)⟩
   obtain⟨awa,rfl⟩:=H.jR 3 rfl qf
   refine oI rfl rfl<|sw<|QJ H 3 rfl false sizeOf4 rfl rfl (i:=c.toNat) qf qf fun au6 H=>xZ<|ret0 rfl ⟨_,rfl,?_⟩
   replace H:=H.erases [1,0]
   dsimp only[zU,List.eraseIdx] at H
   refine xZ<|b_n<|t_n<|xX<|sp (yI c)<|sw<|o_sub c 1 rfl rfl qf<|sq 1<|xZ ?_
   rw[QG] at H
   refine xh (m':=((c-1):Int).toNat) qf ⟨_,_,_,_,_,_,j+1,uE5,?_,?_,?_,?_,rfl,N,H.pick (zR 0 8) (0::zR 3 5)⟩
   ·(rw[meltDown_yesL (c:=c) ‹_› qf qf rfl ic];rfl)
   ·(rw[meltDown_yesL (c:=c) ‹_› qf qf rfl ic];rfl)
   ·omega
   ·omega
  refine qZ<|b_n<|t_n<|xX<|sp (yI c)<|sw<|o_sub c 1 rfl rfl qf<|sq 1<|xZ ?_
  rw[QG] at H
  refine xh (m':=((c-1):Int).toNat) qf ⟨_,_,_,_,_,_,j+1,uE5,?_,?_,?_,?_,rfl,N,H⟩
  ·rw[meltDown_noL (c:=c) ‹_› qf qf rfl ic]
  ·rw[meltDown_noL (c:=c) ‹_› qf qf rfl ic]
  ·omega
  ·omega
 refine zx4<|zcr<|sw<|xy (yS s qF qE qO qN) isAgg27 sizeOf27 rfl (qC (H.cells 7 rfl) 0 3)<|sw<|xy [Sv fM (((zn s t counts).qK).length) fF,Sv io (((zn s t counts).qQ).length) fo,Sv gJ (((zi s counts (zn s t counts) j).qJ).length) gP] isAgg31 sizeOf31 rfl (qC (H.cells 0 rfl) 0 3)<|sw<|zW #[.agg #[yI s.zf,Sv qF s.qA.length qE,Sv qO s.qB.length qN],.agg #[Sv fM (((zn s t counts).qK).length) fF,Sv io (((zn s t counts).qQ).length) fo,Sv gJ (((zi s counts (zn s t counts) j).qJ).length) gP]] rfl rfl call131<|en func131 ntmps131 ?_
 refine zcr<|sw<|zN H (yS s qF qE qO qN) fun ayL azW H=>sw<|zN H [Sv fM (((zn s t counts).qK).length) fF,Sv io (((zn s t counts).qQ).length) fo,Sv gJ (((zi s counts (zn s t counts) j).qJ).length) gP] fun ay3 ave H=>sw<|xg H ti31 [yN,yN,yN] fun azU ay6 H=>sp (yI 0)<|zjcc<|sw<|xy (yS s qF qE qO qN) isAgg27 sizeOf27 rfl (qC (H.cells 2 rfl) 0 3)<|sw<|xy [Sv fM (((zn s t counts).qK).length) fF,Sv io (((zn s t counts).qQ).length) fo,Sv gJ (((zi s counts (zn s t counts) j).qJ).length) gP] isAgg31 sizeOf31 rfl (qC (H.cells 1 rfl) 0 3) ?_
 obtain⟨auL,Np,akC⟩:=H.rowIsB 4 rfl
 obtain⟨aA2,Nu,alX⟩:=H.QL (α:=yLI) 5 rfl 0 rfl qj
 obtain⟨avK,atc,ajw⟩:=H.XB 6 rfl
 refine sw<|oq (Qu (by rw[←Np,←Nu])<|QA _ s (zi s counts (zn s t counts) j) (H.get 1 rfl).1 (H.get 2 rfl).1 (Np▸akC) (Nu▸alX) ajw) H fun axQ H=>sq 1<|zjn<|cQ rfl (fun alv=>?_)<|fun alv=>?_
 ·refine zcr (sw<|vg [yN,yN,yN] []<|sw<|xx H 0 [yN,yN,yN] sizeOf31 fun ayo H=>sp (yI 3)<|zjr<|t_r<|XC H 0 rfl (yI 3) rfl isAgg31 sizeOf31 rfl rfl ⟨_,rfl,?_⟩)
  replace H:=H.erases [2,1,0]
  dsimp only[zU,List.eraseIdx] at H
  refine sq 1<|sp (yI 3)<|sw<|xx H 5 [yN,yN,yN] sizeOf31 fun aAM H=>sp (yI 3)<|zjr ?_
  replace H:=H.nilRowB 4
  replace H:=H.nilRow 24 1
  replace H:=H.vP (α:=yLI)
  replace H:=H.nilRowI 2
  refine XC H 8 rfl (yI 3) rfl isAgg31 sizeOf31 rfl rfl ⟨_,rfl,?_,H.base⟩
  rw[stepBy_yes p3,stepRes,show jK s-1=j by omega,told_no<|fun h=>‹¬(vz s/\_)› ⟨p0,h⟩]
  exact⟨none,0,0,none,0,0,[],[],none,0,0,rfl,(N.emp.pick [0]),H.pick [2,1,0] [0]⟩
 refine qZ<|t_n<|zcr<|sw<|xy [Sv fM (((zn s t counts).qK).length) fF,Sv io (((zn s t counts).qQ).length) fo,Sv gJ (((zi s counts (zn s t counts) j).qJ).length) gP] isAgg31 sizeOf31 rfl (qC (H.cells 1 rfl) 0 3)<|sw<|xx H 0 [Sv fM (((zn s t counts).qK).length) fF,Sv io (((zn s t counts).qQ).length) fo,Sv gJ (((zi s counts (zn s t counts) j).qJ).length) gP] sizeOf31 fun avw H=>sp (yI 0)<|zjr<|XC H 0 rfl (yI 0) rfl isAgg31 sizeOf31 rfl rfl ⟨_,rfl,?_⟩
 replace H:=H.erases [2,1,0]
 dsimp only[zU,List.eraseIdx] at H
 refine sq 1<|sp (yI 0)<|sw<|xx H 5 [Sv fM (((zn s t counts).qK).length) fF,Sv io (((zn s t counts).qQ).length) fo,Sv gJ (((zi s counts (zn s t counts) j).qJ).length) gP] sizeOf31 fun ayi H=>sp (yI 0)<|zjr<|XC H 5 rfl (yI 0) rfl isAgg31 sizeOf31 rfl rfl ⟨_,rfl,?_,H.base⟩
 rw[stepBy_yes p3,stepRes,show jK s-1=j by omega,told_yes (‹vz s/\_›:vz s/\_).2]
 exact⟨fM,((zn s t counts).qK).length,fF,io,((zn s t counts).qQ).length,fo,jw,zM,gJ,((zi s counts (zn s t counts) j).qJ).length,gP,rfl,N,H.pick [1,2,3] [0]⟩
end
section
class CntTot(α:Type)[Mark α][Tot α]:Prop where
 le:∀x:α,cnt x<=10+10*tot x
instance:CntTot Int:=⟨fun _=>by show 1<=_;omega⟩
instance:CntTot Bool:=⟨fun _=>by show 1<=_;omega⟩
section
variable{α : Type}[Mark α][Tot α][Inhabited α][CntTot α]
theorem cntTo_tot(l:List α):∀k,cntTo l k<=10*k+10*totTo l k
 |0=>Nat.zero_le _
 |k+1=>by
  have h1:=cntTo_tot l k
  have h2:=CntTot.le<|l[k]!
  rw[cntTo_succ,totTo_succ]
  omega
theorem cntL_tot(l:List α):cnt l<=10*tot l:=by
 have:=cntTo_tot l l.length
 rw[cnt_list,tot_list]
 omega
instance:CntTot (List α):=⟨fun l=>by have:=cntL_tot l;omega⟩
end
instance:CntTot Vw:=⟨fun x=>by
 have h1:=cntL_tot x.Xq
 have h2:=tot_IntoD x
 have h3:=cnt_IntoD x
 omega⟩
instance:CntTot yH:=⟨fun x=>by
 have h1:=cntL_tot x.zJ
 have h2:=cntL_tot x.jB
 have h3:=cntL_tot x.jD
 have h4:=cntL_tot x.jJ
 have h5:=cntL_tot x.Qq
 have h6:=cntL_tot x.xF
 have h7:=tot_RuleD x
 have h8:=cnt_RuleD x
 omega⟩
theorem anyTo_mem{l:yLI}{x:Int}:anyTo (fun k=>x == l[k]!) l.length=dec (x∈l):=by
 refine dec_eq ?_
 rw[anyTo_iff]
 constructor
 ·rintro⟨k,h,h1⟩
  rw[beq_iff_eq,getElem!_pos l k h] at h1
  rw[h1];exact List.getElem_mem h
 ·intro h
  obtain⟨k,hk,e⟩:=List.mem_iff_getElem.1 h
  exact⟨k,hk,by rw[beq_iff_eq,getElem!_pos l k hk,e]⟩
theorem mem_appls(hi:i<s.qB.length):(i:Int)∈appls s t<->Appl s t i:=by
 unfold appls
 rw[mem_applL]
 constructor
 ·rintro⟨_,_,h⟩;simpa using h
 ·intro h;exact⟨Int.natCast_nonneg i,by simpa using hi,by simpa using h⟩
def minTo(l:yLI):Nat->Int
 |0=>l[0]!
 |k+1=>if k=0 then l[0]! else min (minTo l k) (l[k]!)
theorem minTo_one(l:yLI):minTo l 1=l[0]! :=rfl
theorem minTo_succ{l:yLI}(h:1<=k):minTo l (k+1)=min (minTo l k) (l[k]!):=by rw[minTo,if_neg qf]
def minL(l:yLI):Int:=minTo l l.length
theorem minTo_neg{l:yLI}:∀ {k:Nat},1<=k->(minTo l k<0<->∃j,j<k/\l[j]!<0)
 |1,_=>by
  rw[minTo_one]
  constructor
  ·intro h;exact⟨0,by omega,h⟩
  ·rintro⟨j,h,h1⟩;obtain rfl:j=0:=by omega
   exact h1
 |k+2,_=>by
  have ih:=minTo_neg (l:=l) (k:=k+1) qf
  rw[minTo_succ qf]
  constructor
  ·intro h
   by_cases h1:minTo l (k+1)<0
   ·obtain⟨j,h2,h3⟩:=ih.1 h1;exact⟨j,by omega,h3⟩
   ·exact⟨k+1,by omega,by omega⟩
  ·rintro⟨j,h,h1⟩
   by_cases e:j=k+1
   ·subst e;omega
   ·have:=ih.2 ⟨j,by omega,h1⟩;omega
theorem minL_neg{l:yLI}(h:1<=l.length):minL l<0<->¬ ∀k,k<l.length->0<=l[k]! :=by
 unfold minL
 rw[minTo_neg h]
 constructor
 ·rintro⟨j,h1,h2⟩ h3;have:=h3 j h1;omega
 ·intro h1
  apply Classical.byContradiction
  intro h2
  refine h1 fun k hk=>?_
  have:¬l[k]!<0:=fun h3=>h2 ⟨k,hk,h3⟩
  omega
open Classical in
noncomputable def VN(s:qH)(t:qG)(counts:yLI):Int:=if ¬(vz s/\xK s t) then 1 else if ¬CntOk s counts then 2 else 0
theorem ask_1{counts:yLI}(h:¬(vz s/\xK s t)):VN s t counts=1:=by rw[VN,if_pos h]
theorem ask_2{counts:yLI}(h:vz s/\xK s t)(h1:¬CntOk s counts):VN s t counts=2:=by rw[VN,if_neg<|by simpa using h,if_pos h1]
theorem ask_0{counts:yLI}(h:vz s/\xK s t)(h1:CntOk s counts):VN s t counts=0:=by rw[VN,if_neg<|by simpa using h,if_neg<|by simpa using h1]
theorem ask_ok{counts:yLI}(h:VN s t counts=0):vz s/\xK s t/\CntOk s counts:=by
 by_cases h1:vz s/\xK s t
 ·by_cases h2:CntOk s counts
  ·exact⟨h1.1,h1.2,h2⟩
  ·rw[ask_2 h1 h2] at h;omega
 ·rw[ask_1 h1] at h;omega
def single(s:qH)(i:Nat):yLI:=(List.replicate s.qB.length (0:Int)).set i 1
end
section
variable{cl : Nat}
theorem countsCode1_ok(w:World)(n:Int):Calls Tryz.prog 119 #[yI n] w (Ret (fun v w'=>v=Bv (!isCnt n)) w):=by
 refine en func119 ntmps119 ?_
 have H:=St.start w
 refine zcr<|sp (Bv false)<|zjc<|sp (yI n)<|sw<|oq (Xe w n 0 1000) H fun w1 H=>sq 2<|zjr<|rH1 (Bv (!(inR n 0 1000))) H ?_
 rfl
theorem countsCode_ok(w:World)(s:qH)(t:qG)(counts:yLI){qE:Nat}{qN:Nat}{qU:Nat}{xk:Nat}{qL:Nat}(xe:zP w xu qF qE s.qA)(xE:zP w xW qO qN s.qB)(xR:zP w zk qV qU t.qK)(zu:zP w zF xm xk t.qQ)(xB:zP w xJ qM qL t.qJ)(cg:zP w bS aP aK counts):Calls Tryz.prog 70 #[.agg #[yI s.zf,Sv qF s.qA.length qE,Sv qO s.qB.length qN],.agg #[Sv qV t.qK.length qU,Sv xm t.qQ.length xk,Sv qM t.qJ.length qL],Sv aP counts.length aK] w (Ret (fun v w'=>v=yI (VN s t counts)) w):=by
 refine en func70 ntmps70 ?_
 have H:=((((((St.start w).arg cg).arg xB).arg zu).arg xR).arg xE).arg xe
 clear xe xE xR zu xB cg
 refine zcr<|sw<|zN H (yS s qF qE qO qN) fun b1 w2 H=>sw<|zN H (yT t qV qU xm xk qM qL) fun b3 w4 H=>sp (yI 0)<|zjn<|xU<|xf<|zcr<|sw<|xy (yS s qF qE qO qN) isAgg27 sizeOf27 rfl (qC (H.cells 1 rfl) 0 3)<|sw<|xy (yT t qV qU xm xk qM qL) isAgg31 sizeOf31 rfl (qC (H.cells 0 rfl) 0 3)<|sw<|oq (QA _ s t (H.get 0 rfl).1 (H.get 1 rfl).1 (H.get 2 rfl).1 (H.get 3 rfl).1 (H.get 4 rfl).1) H fun w6 H=>sq 2<|zjn<|cQ rfl (fun h8=>?_)<|fun h8=>?_
 ·refine zcr (sp (yI 1)<|zjr<|b_r<|t_r<|rH1 (yI 1) H ?_)
  rw[ask_1 ‹_›]
 refine zcr<|sq 1<|oN rfl<|oF rfl<|oL rfl (H.cell 1 rfl rfl)<|oN rfl<|sp (Bv ((counts.length:Int) != s.qB.length))<|sp (Bv ((counts.length:Int) != s.qB.length)) ?_
 cases h9:((counts.length:Int) != s.qB.length)
 ·replace h9:=xA h9
  refine qP 19 rfl rfl<|sq 1<|qP 19 rfl rfl<|sw<|oq (containsFuncI_ok _ counts 119 #[] (fun k=> !isCnt (counts[k]!)) (H.get 5 rfl).1 call119<|fun k w' hk e=>countsCode1_ok w' _) H fun ov H=>sq 2<|zjn<|zX _ rfl (fun cZ=>?_)<|fun cZ=>?_
  ·refine zcr (sp (yI 2)<|zjr<|b_r<|t_r<|rH1 (yI 2) H ?_)
   rw[ask_2 ‹vz s/\xK s t› (fun h=>by(have z:=anyCnt_iff.2 h.2;rw[‹anyTo _ _=true›] at z;cases z))]
  refine qZ<|b_n<|t_n<|zcr<|sp (yI 0)<|zjr<|rH1 (yI 0) H ?_
  rw[ask_0 ‹vz s/\xK s t› ⟨by omega,anyCnt_iff.1<|by rw[‹anyTo _ _=false›];rfl⟩]
 replace h9:=bne_iff_ne.1 h9
 refine xY [20,21]<|sp (Bv true)<|sp (Bv true)<|zjn<|cTr rfl<|zcr<|sp (yI 2)<|zjr<|b_r<|t_r<|rH1 (yI 2) H ?_
 rw[ask_2 ‹vz s/\xK s t› (fun h=>by(have:=h.1;omega))]
theorem indexI_ok(w:World)(l:yLI)(x:Int)(hl:zP w Fl al cl l):Calls Tryz.prog 197 #[Sv al l.length cl,yI x] w (Ret (fun v w'=>v=yI (firstIdx (fun k=>x == l[k]!) l.length)) w):=by
 refine en func197 ntmps197 ?_
 have H:=(St.start w).arg hl
 have y4:=qR hl
 clear hl
 have N:=Fresh.nil w.heap.size
 refine zcr<|sp (yI 0)<|zjcc<|sq 1<|oN rfl<|sp (yI 0)<|zjn<|xf<|zD ((fun Z0=>fun m' ρ w1=>∃(xN:Env) (i:Nat),ρ=upd (upd (upd (upd xN 0<|Sv al l.length cl) 1<|yI x) 7<|yI l.length) 8 (yI i)/\((i:Int)<=l.length)/\(noneTo (fun k=>x == l[k]!) i)/\m'=(l.length-(i:Int)).toNat/\Fresh w.heap.size []/\St w w1 [] [Z0]) _) ((l.length-(0:Int)).toNat) ⟨_,0,uE4,qf,qx,rfl,N,H⟩ ?_
 clear H N
 rintro m' ρ w2 ⟨xN,i,rfl,i0,i1,rfl,N,H⟩
 refine zcr<|sq 1<|zjn<|xU<|cD rfl (fun h3=>?_)<|fun h3=>?_
 ·refine qZ (t_n<|xU<|xf<|zcr<|sp (yI i)<|sp (yI i)<|zjc<|sp (yI x)<|sq 1<|sp (yI i) ?_)
  obtain⟨b4,o5,rfl⟩:=H.addr 0 rfl qf
  refine oI rfl rfl<|oL rfl (H.zS 0 rfl i qf)<|sq 1<|zjn<|cE rfl (fun h7=>?_)<|fun h7=>?_
  ·refine zcr (sp (yI i)<|sp (yI i)<|zjr<|zr5<|rH1 (yI i) H ?_)
   rw[Xj (k:=i) qf i1<|by simpa using ‹x=l[i]!›]
  refine qZ<|b_n<|t_n<|xX<|sw<|zC i 1 rfl rfl qf<|sq 1<|xZ<|xh (m':=(l.length-((i+1):Int)).toNat) qf ⟨_,i+1,uE4,?_,?_,rfl,N,H⟩
  ·omega
  ·exact noneTo_succ ‹_› (by simpa using ‹x≠l[i]!›)
 refine zx4<|zcr<|sq 1<|zjr<|rH1 (yI (-1)) H ?_
 rw[firstIdx_none<|fun j hj=>i1 j qf]
theorem containsI_ok(w:World)(l:yLI)(x:Int)(hl:zP w Fl al cl l):Calls Tryz.prog 163 #[Sv al l.length cl,yI x] w (Ret (fun v w'=>v=Bv (dec ((x:Int)∈l))) w):=by
 refine en func163 ntmps163 ?_
 have H:=(St.start w).arg hl
 clear hl
 refine zcr<|sp (Bv false)<|zjc<|sq 1<|sp (yI x)<|sw<|oq (indexI_ok _ l x (H.get 0 rfl).1) H fun w2 H=>sp (Bv<|decide ((firstIdx (fun k=>x == l[k]!) l.length:Int)>=0))<|sp (Bv<|decide ((firstIdx (fun k=>x == l[k]!) l.length:Int)>=0))<|zjr<|rH1 (Bv<|decide ((firstIdx (fun k=>x == l[k]!) l.length:Int)>=0)) H ?_
 rw[anyTo_first,anyTo_mem]
theorem minI_ok(w:World)(l:yLI)(hl:zP w Fl al cl l)(p0:1<=l.length):Calls Tryz.prog 48 #[Sv al l.length cl] w (Ret (fun v w'=>v=yI (minL l)) w):=by
 refine en func48 ntmps48 ?_
 have H:=(St.start w).arg hl
 have y4:=qR hl
 clear hl
 have N:=Fresh.nil w.heap.size
 refine zcr<|sp (yI 0)<|zjcc<|sq 1<|oN rfl<|sp (Bv<|decide ((l.length:Int)<1))<|zjn<|cD rfl (fun h1=>?_)<|fun h1=>?_
 ·exfalso;omega
 refine qZ<|t_n<|zcr<|sq 1 ?_
 obtain⟨b2,o3,rfl⟩:=H.addr 0 rfl qf
 refine oI rfl rfl<|oL rfl (H.zS 0 rfl 0 qf)<|sq 1<|zjcc<|sp (yI 1)<|zjn<|xf<|zD ((fun Z0=>fun m' ρ w5=>∃(xN:Env) (m:Int) (i:Nat),ρ=upd (upd (upd xN 0<|Sv (aa b2 o3) l.length cl) 3<|yI m) 4 (yI i)/\m=minTo l i/\((i:Int)<=l.length)/\(1<=i)/\m'=(l.length-(i:Int)).toNat/\Fresh w.heap.size []/\St w w5 [] [Z0]) _) ((l.length-(1:Int)).toNat) ⟨_,l[0]!,1,uE3,(by exact(minTo_one l).symm),qf,qf,rfl,N,H⟩ ?_
 clear H N
 rintro m' ρ w6 ⟨xN,m,i,rfl,rfl,i0,i2,rfl,N,H⟩
 refine zcc<|sp (yI i)<|sq 1<|oN rfl<|sq 1<|zjn<|cD rfl (fun h7=>?_)<|fun h7=>?_
 ·refine qZ (t_n<|xU<|xf<|xX<|sq 2<|sp (yI i)<|oI rfl rfl<|oL rfl (H.zS 0 rfl i qf)<|sw<|o_min (minTo l i) (l[i]!) rfl rfl<|sq 1<|xZ<|b_n<|t_n<|xX<|sp (yI i)<|sw<|zC i 1 rfl rfl qf<|sq 1<|xZ<|xh (m':=(l.length-((i+1):Int)).toNat) qf ⟨_,_,i+1,uE3,?_,?_,?_,rfl,N,H⟩)
  ·exact(minTo_succ qf).symm
  ·omega
  ·omega
 refine zx4<|zcr<|sq 2<|zjr<|rH1 (yI<|minTo l i) H ?_
 obtain rfl:i=l.length:=by omega
 rfl
end
section
theorem St.Yd{W0 w:World}{ps:List Prv}{Γ:List Fact}(H:St W0 w ps Γ)(k:Nat){b:Nat}{nn:Nat}{xs:List Value}(hp:ps[k]? =some (.row (Sv (some ⟨b,0,none⟩) nn c) e 3 nn xs))(j:Nat){fr:Bool}{F:yLN}
 (hf:Γ[j]? =some (xG fr F xs l)) {iv:Int} (i:Nat) (h:iv.toNat=i) (h1:i<nn):
 ∃(aA:yOA) (cA:Nat) (FA:yLN) (aB:yOA) (cB:Nat) (FB:yLN) (aO:yOA) (cO:Nat) (FO:yLN),
  (∀(q:Nat) (v:Value),([Sv aA ((l[i]!).qK.length) cA,Sv aB ((l[i]!).qQ.length) cB,Sv aO ((l[i]!).qJ.length) cO]:List Value)[q]? =some v->xs[0+iv.toNat*3+q]? =some v)∧
  St W0 w ps (isF fr FA (Sv aA ((l[i]!).qK.length) cA) ((l[i]!).qK)::isF fr FB (Sv aB ((l[i]!).qQ.length) cB) ((l[i]!).qQ)::isF fr FO (Sv aO ((l[i]!).qJ.length) cO) ((l[i]!).qJ)::Γ):=by
 obtain⟨cs,G,hc,hr,aJ,dq,v1,v2,hv,uD⟩:=St.rowElem (α:=qG) H k hp j hf qj h h1
 obtain⟨vA,vB,vO,FA,FB,FO,rfl,eV,hA,hB,hO⟩:=id hr
 obtain⟨aA,cA,rfl⟩:=slice_form hA
 obtain⟨aB,cB,rfl⟩:=slice_form hB
 obtain⟨aO,cO,rfl⟩:=slice_form hO
 refine⟨aA,cA,FA,aB,cB,FB,aO,cO,FO,fun q v hq=>?_,?_⟩
 ·have uD:v1.length=i*3:=uD
  have Bp:q<3:=by
   rcases Nat.lt_or_ge q 3 with h|h
   ·exact h
   ·rw[List.getElem?_eq_none<|by simpa using h] at hq;cases hq
  rw[hv,List.append_assoc,Nat.zero_add,h,←uD,List.getElem?_append_right qf,Nat.add_sub_cancel_left,List.getElem?_append_left<|by simpa using Bp]
  exact hq
 ·have s3:=H.jO j hf (isF fr FO (Sv aO ((l[i]!).qJ.length) cO) ((l[i]!).qJ)) ⟨hO,fun e=>(dq e).sub<|by rw[eV];intro x hx;simp[hx]⟩ (fun x hx=>aJ x (by rw[eV];have hx:x∈FO:=hx;simp[hx]))
  have s2:=s3.jO (j+1) hf (isF fr FB (Sv aB ((l[i]!).qQ.length) cB) ((l[i]!).qQ)) ⟨hB,fun e=>(dq e).sub<|by rw[eV];intro x hx;simp[hx]⟩<|fun x hx=>aJ x (by rw[eV];have hx:x∈FB:=hx;simp[hx])
  exact s2.jO (j+2) hf (isF fr FA (Sv aA ((l[i]!).qK.length) cA) ((l[i]!).qK)) ⟨hA,fun e=>(dq e).sub<|by rw[eV];intro x hx;simp[hx]⟩<|fun x hx=>aJ x (by rw[eV];have hx:x∈FA:=hx;simp[hx])
theorem state_eq{a b:qG}(h1:a.qK=b.qK)(h2:a.qQ=b.qQ)(h3:a.qJ=b.qJ):a=b:=by
 cases a;cases b;simp only at h1 h2 h3;subst h1 h2 h3;rfl
open Classical in
noncomputable def yV(s:qH)(t:qG)(cs:yLL):Nat->List qG
 |0=>[]
 |k+1=>if (zA s t<|cs[k]!).1∈yV s t cs k then yV s t cs k else yV s t cs k++[(zA s t<|cs[k]!).1]
theorem nextTo_in(h:(zA s t<|cs[k]!).1∈yV s t cs k):yV s t cs k=yV s t cs (k+1):=by rw[yV,if_pos h]
theorem nextTo_new(h:¬(zA s t<|cs[k]!).1∈yV s t cs k):yV s t cs k++[(zA s t<|cs[k]!).1]=yV s t cs (k+1):=by rw[yV,if_neg h]
theorem nextTo_len{s:qH}{t:qG}{cs:yLL}:∀k,(yV s t cs k).length<=k
 |0=>by simp[yV]
 |k+1=>by
  have:=nextTo_len (s:=s) (t:=t) (cs:=cs) k
  rw[yV]
  split
  ·omega
  ·simp;omega
def CodeBad(s:qH)(t:qG)(cs:yLL)(k:Nat):Prop:=(zA s t<|cs[k]!).2≠0
def NoBad(s:qH)(t:qG)(cs:yLL)(k:Nat):Prop:=∀j,j<k->¬CodeBad s t cs j
theorem NoBad.succ(h:NoBad s t cs k)(h1:(zA s t<|cs[k]!).2=0):NoBad s t cs (k+1):=fun j hj=>by
 by_cases e:j=k
 ·subst e;exact fun x=>x h1
 ·exact h j qf
open Classical in
noncomputable def Q5(s:qH)(t:qG)(cs:yLL):List qG×Int:=
 if NoBad s t cs cs.length then (yV s t cs cs.length,0) else ([],(zA s t<|cs[X6 (CodeBad s t cs) cs.length]!).2)
theorem next_ok(h:NoBad s t cs cs.length):Q5 s t cs=(yV s t cs cs.length,0):=by rw[Q5,if_pos h]
theorem next_bad(h:NoBad s t cs k)(hk:k<cs.length)(h1:(zA s t<|cs[k]!).2≠0):Q5 s t cs=([],(zA s t<|cs[k]!).2):=by
 rw[Q5,if_neg<|fun x=>x k hk h1,stop_first h hk h1]
theorem find_mem:firstIdx (fun k=>decide<|l[k]! =u) l.length<0<->¬u∈l:=by
 have h:=anyTo_first (fun k=>decide<|l[k]! =u) l.length
 constructor
 ·intro h1 hm
  obtain⟨k,hk,e⟩:=List.mem_iff_getElem.1 hm
  have:anyTo (fun k=>decide<|l[k]! =u) l.length=true:=anyTo_iff.2 ⟨k,hk,by rw[getElem!_pos l k hk];simpa using e⟩
  rw[this] at h
  have:=of_decide_eq_true h
  omega
 ·intro hm
  apply Classical.byContradiction
  intro h1
  rw[decide_eq_true qf] at h
  obtain⟨k,hk,e⟩:=anyTo_iff.1 h.symm
  rw[getElem!_pos l k hk] at e
  exact hm ((of_decide_eq_true e)▸List.getElem_mem hk)
theorem mem_at(hk:k<l.length)(h:l[k]! =u):u∈l:=by
 rw[getElem!_pos l k hk] at h;rw[←h];exact List.getElem_mem hk
def NotIn(l:List qG)(u:qG)(k:Nat):Prop:=∀j,j<k->l[j]! ≠u
theorem NotIn.succ(h:NotIn l u k)(h1:l[k]! ≠u):NotIn l u (k+1):=fun j hj=>by
 by_cases e:j=k
 ·subst e;exact h1
 ·exact h j qf
theorem NotIn.out(h:NotIn l u l.length):¬u∈l:=fun hm=>by
 obtain⟨k,hk,e⟩:=List.mem_iff_getElem.1 hm
 exact h k hk<|by rw[getElem!_pos l k hk];exact e
end
section
variable{ca cb dH ew VZ dJ dW VY qE qN qU xk qL Ni : Nat}
theorem l00Same_ok(w:World)(a:yLI)(b:yLI){aa:yOA}(ha:zP w Fa aa ca a)(hb:zP w Fb ab cb b):Calls Tryz.prog 58 #[Sv aa a.length ca,Sv ab b.length cb] w (Ret (fun v w'=>v=Bv (decide<|a=b)) w):=by
 refine en func58 ntmps58 ?_
 have H:=((St.start w).arg hb).arg ha
 have U4:=qR ha
 have nhb:=qR hb
 clear ha hb
 have N:=Fresh.nil w.heap.size
 refine zcr<|sp (Bv false)<|zjcc<|sq 1<|oN rfl<|sq 1<|oN rfl<|sq 1<|zjn<|zX _ rfl (fun h1=>?_)<|fun h1=>?_
 ·replace h1:=bne_iff_ne.1 h1
  refine zcr<|sp (Bv false)<|zjr<|t_r<|rH1 (Bv false) H ?_
  rw[decide_eq_false (fun e=>by subst e;omega)]
 replace h1:=xA h1
 refine qZ<|t_n<|zcc<|sp (yI 0)<|zjn<|xf<|zD ((fun Z0 Z1=>fun m' ρ w2=>∃(xN:Env) (i:Nat),ρ=upd (upd (upd xN 0<|Sv aa a.length ca) 1<|Sv ab b.length cb) 5 (yI i)/\((i:Int)<=a.length)/\(a.take i=b.take i)/\m'=(a.length-(i:Int)).toNat/\Fresh w.heap.size []/\St w w2 [] [Z0,Z1]) _ _) ((a.length-(0:Int)).toNat) ⟨_,0,uE3,qf,(by rfl),rfl,N,H⟩ ?_
 clear H N
 rintro m' ρ w3 ⟨xN,i,rfl,i0,i1,rfl,N,H⟩
 refine zcc<|sp (yI i)<|sq 1<|oN rfl<|sq 1<|zjn<|cD rfl (fun h4=>?_)<|fun h4=>?_
 ·refine qZ (t_n<|xU<|xf<|xU<|ji rfl H fun H=>rtl 0 H ?_)
  refine rtp 1 (yI i) H ?_
  obtain⟨b6,o7,rfl⟩:=H.addr 0 rfl qf
  refine tI 2 rfl rfl rfl H ?_
  refine tL 3 rfl rfl (fun _ h=>h.zS 0 rfl i qf) H ?_
  refine rtl 4 H ?_
  refine rtp 5 (yI i) H ?_
  obtain⟨b9,o10,rfl⟩:=H.addr 1 rfl qf
  refine tI 6 rfl rfl rfl H ?_
  refine tL 7 rfl rfl (fun _ h=>h.zS 1 rfl i qf) H ?_
  refine rtl 8 H ?_
  refine xC qh<|t_n<|zX _ rfl (fun cZ=>?_)<|fun cZ=>?_
  ·replace cZ:=bne_iff_ne.1 cZ
   refine zcr<|sp (Bv false)<|zjr<|zr5<|rH1 (Bv false) H ?_
   rw[decide_eq_false (fun e=>by subst e;omega)]
  replace cZ:=xA cZ
  refine qZ<|b_n<|t_n<|xX<|sp (yI i)<|sw<|zC i 1 rfl rfl qf<|sq 1<|xZ<|xh (m':=(a.length-((i+1):Int)).toNat) qf ⟨_,i+1,uE3,?_,?_,rfl,N,H⟩
  ·omega
  ·exact eqTo_succ qf qf i1 qg
 refine zx4<|zcr<|sp (Bv true)<|zjr<|rH1 (Bv true) H ?_
 rw[decide_eq_true<|eq_of_take (k:=i) qf qf i1]
theorem equalI_ok(w:World)(a:yLI)(b:yLI){aa:yOA}(ha:zP w Fa aa ca a)(hb:zP w Fb ab cb b):Calls Tryz.prog 81 #[Sv aa a.length ca,Sv ab b.length cb] w (Ret (fun v w'=>v=Bv (decide<|a=b)) w):=by
 refine en func81 ntmps81 ?_
 have H:=((St.start w).arg hb).arg ha
 have U4:=qR ha
 have nhb:=qR hb
 clear ha hb
 have N:=Fresh.nil w.heap.size
 refine zcr<|sp (Bv false)<|zjcc<|sq 1<|oN rfl<|sq 1<|oN rfl<|sq 1<|zjn<|zX _ rfl (fun h1=>?_)<|fun h1=>?_
 ·replace h1:=bne_iff_ne.1 h1
  refine zcr<|sp (Bv false)<|zjr<|t_r<|rH1 (Bv false) H ?_
  rw[decide_eq_false (fun e=>by subst e;omega)]
 replace h1:=xA h1
 refine qZ<|t_n<|zcc<|sq 1<|oN rfl<|sp (yI 0)<|zjn<|xf<|zD ((fun Z0 Z1=>fun m' ρ w2=>∃(xN:Env) (i:Nat),ρ=upd (upd (upd (upd xN 0<|Sv aa a.length ca) 1<|Sv ab b.length cb) 12<|yI a.length) 13 (yI i)/\((i:Int)<=a.length)/\(a.take i=b.take i)/\m'=(a.length-(i:Int)).toNat/\Fresh w.heap.size []/\St w w2 [] [Z0,Z1]) _ _) ((a.length-(0:Int)).toNat) ⟨_,0,uE4,qf,(by rfl),rfl,N,H⟩ ?_
 clear H N
 rintro m' ρ w3 ⟨xN,i,rfl,i0,i1,rfl,N,H⟩
 refine zcr<|sq 1<|zjn<|xU<|cD rfl (fun h4=>?_)<|fun h4=>?_
 ·refine qZ (t_n<|xU<|xf<|zcr<|sp (yI i)<|sp (yI i)<|zjn<|xU<|ji rfl H fun H=>rtl 0 H ?_)
  refine rtp 1 (yI i) H ?_
  obtain⟨b6,o7,rfl⟩:=H.addr 0 rfl qf
  refine tI 2 rfl rfl rfl H ?_
  refine tL 3 rfl rfl (fun _ h=>h.zS 0 rfl i qf) H ?_
  refine rtl 4 H ?_
  refine rtp 5 (yI i) H ?_
  obtain⟨b9,o10,rfl⟩:=H.addr 1 rfl qf
  refine tI 6 rfl rfl rfl H ?_
  refine tL 7 rfl rfl (fun _ h=>h.zS 1 rfl i qf) H ?_
  refine rtl 8 H ?_
  refine xC qh<|t_n<|zX _ rfl (fun cZ=>?_)<|fun cZ=>?_
  ·replace cZ:=bne_iff_ne.1 cZ
   refine zcr<|sp (Bv false)<|zjr<|zr5<|rH1 (Bv false) H ?_
   rw[decide_eq_false (fun e=>by subst e;omega)]
  replace cZ:=xA cZ
  refine qZ<|b_n<|t_n<|xX<|sw<|zC i 1 rfl rfl qf<|sq 1<|xZ<|xh (m':=(a.length-((i+1):Int)).toNat) qf ⟨_,i+1,uE4,?_,?_,rfl,N,H⟩
  ·omega
  ·exact eqTo_succ qf qf i1 qg
 refine zx4<|zcr<|sp (Bv true)<|zjr<|rH1 (Bv true) H ?_
 rw[decide_eq_true<|eq_of_take (k:=i) qf qf i1]
theorem equalB_ok(w:World)(a:List Bool)(b:List Bool){aa:yOA}(ha:zP w Fa aa ca a)(hb:zP w Fb ab cb b):Calls Tryz.prog 161 #[Sv aa a.length ca,Sv ab b.length cb] w (Ret (fun v w'=>v=Bv (decide<|a=b)) w):=by
 refine en func161 ntmps161 ?_
 have H:=((St.start w).arg hb).arg ha
 have U4:=qR ha
 have nhb:=qR hb
 clear ha hb
 have N:=Fresh.nil w.heap.size
 refine zcr<|sp (Bv false)<|zjcc<|sq 1<|oN rfl<|sq 1<|oN rfl<|sq 1<|zjn<|zX _ rfl (fun h1=>?_)<|fun h1=>?_
 ·replace h1:=bne_iff_ne.1 h1
  refine zcr<|sp (Bv false)<|zjr<|t_r<|rH1 (Bv false) H ?_
  rw[decide_eq_false (fun e=>by subst e;omega)]
 replace h1:=xA h1
 refine qZ<|t_n<|zcc<|sq 1<|oN rfl<|sp (yI 0)<|zjn<|xf<|zD ((fun Z0 Z1=>fun m' ρ w2=>∃(xN:Env) (i:Nat),ρ=upd (upd (upd (upd xN 0<|Sv aa a.length ca) 1<|Sv ab b.length cb) 12<|yI a.length) 13 (yI i)/\((i:Int)<=a.length)/\(a.take i=b.take i)/\m'=(a.length-(i:Int)).toNat/\Fresh w.heap.size []/\St w w2 [] [Z0,Z1]) _ _) ((a.length-(0:Int)).toNat) ⟨_,0,uE4,qf,(by rfl),rfl,N,H⟩ ?_
 clear H N
 rintro m' ρ w3 ⟨xN,i,rfl,i0,i1,rfl,N,H⟩
 refine zcr<|sq 1<|zjn<|xU<|cD rfl (fun h4=>?_)<|fun h4=>?_
 ·refine qZ (t_n<|xU<|xf<|zcr<|sp (yI i)<|sp (yI i)<|zjn<|xU<|ji rfl H fun H=>rtl 0 H ?_)
  refine rtp 1 (yI i) H ?_
  obtain⟨b6,o7,rfl⟩:=H.addr 0 rfl qf
  refine tI 2 rfl rfl rfl H ?_
  refine tL 3 rfl rfl (fun _ h=>h.elemBoolN 0 rfl i qf) H ?_
  refine rtl 4 H ?_
  refine rtp 5 (yI i) H ?_
  obtain⟨b9,o10,rfl⟩:=H.addr 1 rfl qf
  refine tI 6 rfl rfl rfl H ?_
  refine tL 7 rfl rfl (fun _ h=>h.elemBoolN 1 rfl i qf) H ?_
  refine rt 8 _ (y_neB underlying4 (a[i]!) (b[i]!) rfl rfl) H ?_
  refine xC qh<|t_n<|zX _ rfl (fun cZ=>?_)<|fun cZ=>?_
  ·replace cZ:=bne_iff_ne.1 cZ
   refine zcr<|sp (Bv false)<|zjr<|zr5<|rH1 (Bv false) H ?_
   rw[decide_eq_false<|QM (k:=i) ‹_›]
  replace cZ:=xA cZ
  refine qZ<|b_n<|t_n<|xX<|sw<|zC i 1 rfl rfl qf<|sq 1<|xZ<|xh (m':=(a.length-((i+1):Int)).toNat) qf ⟨_,i+1,uE4,?_,?_,rfl,N,H⟩
  ·omega
  ·exact eqTo_succ qf qf i1 qg
 refine zx4<|zcr<|sp (Bv true)<|zjr<|rH1 (Bv true) H ?_
 rw[decide_eq_true<|eq_of_take (k:=i) qf qf i1]
theorem l02Same_ok(w:World)(a:qG)(b:qG){ba oa:Nat}{bb ob:Nat}(ha:jC w ba oa (yT a dM dH fU ew V4 VZ))(gQ:zP w ni dM dH a.qK)(gT:zP w tA fU ew a.qQ)(eJ:zP w kR V4 VZ a.qJ)(hb:jC w bb ob (yT b dC dJ fD dW V3 VY))(eF:zP w oo dC dJ b.qK)(gU:zP w tY fD dW b.qQ)(df:zP w lM V3 VY b.qJ):Calls Tryz.prog 67 #[pp ba oa,pp bb ob] w (Ret (fun v w'=>v=Bv (decide<|a=b)) w):=by
 refine en func67 ntmps67 ?_
 have H:=((((((((St.start w).arg df).arg gU).arg eF).VF hb).arg eJ).arg gT).arg gQ).VF ha
 have Mk:=qR gT
 have JI:=qR eF
 have Mt:=qR gU
 have Gd:=qR df
 clear ha gQ gT eJ hb eF gU df
 have N:=Fresh.nil w.heap.size
 refine zcr<|sp (Bv false)<|zjn<|xU<|xU<|ji rfl H fun H=>rtl 0 H ?_
 refine rtl 1 H ?_
 refine tF 2 rfl rfl H ?_
 refine tL 3 rfl rfl (fun _ h=>h.zo 0 rfl 0 rfl) H ?_
 refine tN 4 rfl rfl H ?_
 refine rtl 5 H ?_
 refine rtl 6 H ?_
 refine tF 7 rfl rfl H ?_
 refine tL 8 rfl rfl (fun _ h=>h.zo 4 rfl 0 rfl) H ?_
 refine tN 9 rfl rfl H ?_
 refine rtp 10 (Bv ((a.qK.length:Int) != b.qK.length)) H ?_
 refine rtp 11 (Bv ((a.qK.length:Int) != b.qK.length)) H ?_
 cases h2:((a.qK.length:Int) != b.qK.length)
 ·replace h2:=xA h2
  refine rgl 12 18 H ?_
  refine rgl 13 18 H ?_
  refine gF 14 rfl rfl H ?_
  refine gL 15 rfl rfl (fun _ h=>h.zo 0 rfl 1 rfl) H ?_
  refine gN 16 rfl rfl H ?_
  refine rgl 17 18 H ?_
  refine rgl 18 18 H ?_
  refine gF 19 rfl rfl H ?_
  refine gL 20 rfl rfl (fun _ h=>h.zo 4 rfl 1 rfl) H ?_
  refine gN 21 rfl rfl H ?_
  refine rgp 22 (Bv ((a.qQ.length:Int) != b.qQ.length)) 18 H ?_
  refine rtp 23 (Bv ((a.qQ.length:Int) != b.qQ.length)) H ?_
  refine rtp 24 (Bv ((a.qQ.length:Int) != b.qQ.length)) H ?_
  cases h3:((a.qQ.length:Int) != b.qQ.length)
  ·replace h3:=xA h3
   refine rgl 25 31 H ?_
   refine rgl 26 31 H ?_
   refine gF 27 rfl rfl H ?_
   refine gL 28 rfl rfl (fun _ h=>h.zo 0 rfl 2 rfl) H ?_
   refine rgl 29 31 H ?_
   refine rgl 30 31 H ?_
   refine gF 31 rfl rfl H ?_
   refine gL 32 rfl rfl (fun _ h=>h.zo 4 rfl 2 rfl) H ?_
   refine zY [33] qh qm<|X4 rfl (e:=31) rfl rfl (oq (l00Same_ok _ a.qJ b.qJ (H.get 3 rfl).1 (H.get 7 rfl).1) H fun w5 H=>⟨H,(rgl 34 31 H ?_)⟩) zZ
   refine rtl 35 H ?_
   refine xC qh<|t_n<|zX _ rfl (fun h7=>?_)<|fun h7=>?_
   ·replace h7:=x8 h7
    replace h7:=of_decide_eq_false h7
    refine zcr<|sp (Bv false)<|zjr<|t_r<|rH1 (Bv false) H ?_
    rw[decide_eq_false (fun e=>by subst e;exact absurd rfl ql)]
   replace h7:=xO h7
   replace h7:=of_decide_eq_true h7
   refine qZ<|t_n<|zcc<|sp (yI 0)<|zjn<|xf<|zD ((fun Z0 Z1 Z2 Z3 Z4 Z5 Z6 Z7=>fun m' ρ w8=>∃(xN:Env) (c:Nat),ρ=upd (upd (upd xN 0<|pp ba oa) 1<|pp bb ob) 5 (yI c)/\((c:Int)<=a.qK.length)/\(a.qK.take c=b.qK.take c)/\m'=(a.qK.length-(c:Int)).toNat/\Fresh w.heap.size []/\St w w8 [] [Z0,Z1,Z2,Z3,Z4,Z5,Z6,Z7]) _ _ _ _ _ _ _ _) ((a.qK.length-(0:Int)).toNat) ⟨_,0,uE3,qf,(by rfl),rfl,N,H⟩ ?_
   clear H N
   rintro m' ρ w9 ⟨xN,c,rfl,i0,i1,rfl,N,H⟩
   refine zcc<|sp (yI c)<|sq 2<|oF rfl<|oL rfl (H.zo 0 rfl 0 rfl)<|oN rfl<|sq 1<|zjn<|cD rfl (fun bx=>?_)<|fun bx=>?_
   ·refine qZ (t_n<|xU<|xf<|xU<|ji rfl H fun H=>rtl 0 H ?_)
    refine rtl 1 H ?_
    refine tF 2 rfl rfl H ?_
    refine tL 3 rfl rfl (fun _ h=>h.zo 0 rfl 0 rfl) H ?_
    refine rtp 4 (yI c) H ?_
    obtain⟨uG,o13,rfl⟩:=H.addr 1 rfl qf
    refine tI 5 rfl rfl rfl H ?_
    refine tL 6 rfl rfl (fun _ h=>h.elemBoolN 1 rfl c qf) H ?_
    refine rtl 7 H ?_
    refine rtl 8 H ?_
    refine tF 9 rfl rfl H ?_
    refine tL 10 rfl rfl (fun _ h=>h.zo 4 rfl 0 rfl) H ?_
    refine rtp 11 (yI c) H ?_
    obtain⟨Fo,o16,rfl⟩:=H.addr 5 rfl qf
    refine tI 12 rfl rfl rfl H ?_
    refine tL 13 rfl rfl (fun _ h=>h.elemBoolN 5 rfl c qf) H ?_
    refine rt 14 _ (y_neB underlying4 (a.qK[c]!) (b.qK[c]!) rfl rfl) H ?_
    refine xC qh<|t_n<|zX _ rfl (fun g8=>?_)<|fun g8=>?_
    ·replace g8:=bne_iff_ne.1 g8
     refine zcr<|sp (Bv false)<|zjr<|zr5<|rH1 (Bv false) H ?_
     rw[decide_eq_false (fun e=>by subst e;exact absurd rfl ql)]
    replace g8:=xA g8
    refine qZ<|b_n<|t_n<|xX<|sp (yI c)<|sw<|zC c 1 rfl rfl qf<|sq 1<|xZ<|xh (m':=(a.qK.length-((c+1):Int)).toNat) qf ⟨_,c+1,uE3,?_,?_,rfl,N,H⟩
    ·omega
    ·exact eqTo_succ qf qf i1 qg
   refine zx4<|zcc<|sp (yI 0)<|zjn<|xf<|zD ((fun Z0 Z1 Z2 Z3 Z4 Z5 Z6 Z7=>fun m' ρ y6=>∃(xN:Env) (aZ:Nat),ρ=upd (upd (upd xN 0<|pp ba oa) 1<|pp bb ob) 6 (yI aZ)/\((aZ:Int)<=a.qQ.length)/\(a.qQ.take aZ=b.qQ.take aZ)/\m'=(a.qQ.length-(aZ:Int)).toNat/\Fresh w.heap.size []/\St w y6 [] [Z0,Z1,Z2,Z3,Z4,Z5,Z6,Z7]) _ _ _ _ _ _ _ _) ((a.qQ.length-(0:Int)).toNat) ⟨_,0,uE3,qf,(by rfl),rfl,N,H⟩ ?_
   clear H N
   rintro m' ρ tr ⟨xN,aZ,rfl,i0,i2,rfl,N,H⟩
   refine zcc<|sq 3<|oF rfl<|oL rfl (H.zo 0 rfl 1 rfl)<|oN rfl<|sq 1<|zjn<|cD rfl (fun rD=>?_)<|fun rD=>?_
   ·refine qZ (t_n<|xU<|xf<|xU ?_)
    obtain⟨fj,Wn,rfl⟩:=H.addr 2 rfl qf
    obtain⟨Tn,o26,rfl⟩:=H.addr 6 rfl qf
    refine VD (fun ρ Gj=>∃(xN:Env) (F28:yLN) (UM:yOA) (Wm:Nat) (F31:yLN) (GU:yOA) (G0:Nat),ρ=upd (upd (upd (upd xN 0<|pp ba oa) 1<|pp bb ob) 6<|yI aZ) 91 (Bv (!(decide ((a.qQ[aZ]!)=(b.qQ[aZ]!)))))/\Fresh w.heap.size []/\St w Gj [] [sF false F28 UM Wm<|b.qQ[aZ]!,atF Tn (o26+(aZ:Int).toNat*1) [Sv UM ((b.qQ[aZ]!).length) Wm],sF false F31 GU G0<|a.qQ[aZ]!,atF fj (Wn+(aZ:Int).toNat*1) [Sv GU ((a.qQ[aZ]!).length) G0],atF ba oa [Sv dM a.qK.length dH,Sv (aa fj Wn) a.qQ.length ew,Sv V4 a.qJ.length VZ],sF false ni dM dH a.qK,sF false tA (aa fj Wn) ew a.qQ,sF false kR V4 VZ a.qJ,atF bb ob [Sv dC b.qK.length dJ,Sv (aa Tn o26) b.qQ.length dW,Sv V3 b.qJ.length VY],sF false oo dC dJ b.qK,sF false tY (aa Tn o26) dW b.qQ,sF false lM V3 VY b.qJ]) ?_ ?_
    ·refine ji rfl H fun H=>rtl 0 H ?_
     refine rtl 1 H ?_
     refine tF 2 rfl rfl H ?_
     refine tL 3 rfl rfl (fun _ h=>h.zo 0 rfl 1 rfl) H ?_
     refine rtl 4 H ?_
     obtain⟨M4,Lr,afG,H⟩:=H.jo 2 rfl aZ aZ qf qf qf
     have S:=H.jF []<|zR 2 8
     refine tI 5 rfl rfl rfl S ?_
     refine rtl 7 S ?_
     refine rtl 8 S ?_
     refine tF 9 rfl rfl S ?_
     refine tL 10 rfl rfl (fun _ h=>h.zo 4 rfl 1 rfl) S ?_
     refine rtl 11 S ?_
     obtain⟨MR,Lo,ahn,H⟩:=H.jo 8 rfl aZ aZ qf qf qf
     refine tI 12 rfl rfl rfl (H.pick []<|zR 4 8)<|zY [6,13] qh qm<|vG rfl ?_<|vG rfl ?_ zZ
     ·refine zB (Sv M4 ((a.qQ[aZ]!).length) Lr) isAgg24 rfl (H.zo 3 rfl 0 rfl) (⟨H.pick []<|zR 4 8,(ro 13 rfl<|zB (Sv MR ((b.qQ[aZ]!).length) Lo) isAgg24 rfl (H.zo 1 rfl 0 rfl)<|⟨H.pick []<|zR 4 8,(ro 14 rfl<|oq (l00Same_ok _ (a.qQ[aZ]!) (b.qQ[aZ]!) (H.get 2 rfl).1 (H.get 0 rfl).1) H fun BG H=>⟨H.pick []<|zR 4 8,(rtl 15 (H.pick []<|zR 4 8) ?_)⟩)⟩)⟩)
      refine xC qh ((meet ⟨_,ahn,MR,Lo,afG,M4,Lr,uE4,N,H⟩))
     refine zB (Sv MR ((b.qQ[aZ]!).length) Lo) isAgg24 rfl (H.zo 1 rfl 0 rfl)<|⟨H.pick []<|zR 4 8,(ro 6 rfl<|zB (Sv M4 ((a.qQ[aZ]!).length) Lr) isAgg24 rfl (H.zo 3 rfl 0 rfl)<|⟨H.pick []<|zR 4 8,(ro 14 rfl<|oq (l00Same_ok _ (a.qQ[aZ]!) (b.qQ[aZ]!) (H.get 2 rfl).1 (H.get 0 rfl).1) H fun KE H=>⟨H.pick []<|zR 4 8,(rtl 15 (H.pick []<|zR 4 8) ?_)⟩)⟩)⟩
     refine xC qh ((meet ⟨_,ahn,MR,Lo,afG,M4,Lr,uE4,N,H⟩))
    clear H N
    rintro ρ JC ⟨xN,F28,UM,Wm,F31,GU,G0,rfl,N,H⟩
    refine t_n<|zX _ rfl (fun pT=>?_)<|fun pT=>?_
    ·replace pT:=x8 pT
     replace pT:=of_decide_eq_false pT
     refine zcr<|sp (Bv false)<|zjr<|zr5<|rH1 (Bv false) H ?_
     rw[decide_eq_false (fun e=>by subst e;exact absurd rfl ql)]
    replace pT:=xO pT
    replace pT:=of_decide_eq_true pT
    refine qZ<|b_n<|t_n<|xX<|sq 1<|sw<|zC aZ 1 rfl rfl qf<|sq 1<|xZ<|xh (m':=(a.qQ.length-((aZ+1):Int)).toNat) qf ⟨_,aZ+1,uE3,?_,?_,rfl,N,H.pick []<|zR 4 8⟩
    ·omega
    ·exact eqTo_succ qf qf i2 ql
   refine zx4<|zcr<|sp (Bv true)<|zjr<|rH1 (Bv true) H ?_
   rw[decide_eq_true<|state_eq (eq_of_take (k:=c) qf qf i1) (eq_of_take (k:=aZ) qf qf i2) ql]
  replace h3:=bne_iff_ne.1 h3
  refine vJ (zR 25 10) 10 (H)<|rtp 35 (Bv true) H ?_
  refine xC qh<|t_n<|cTr rfl<|zcr<|sp (Bv false)<|zjr<|t_r<|rH1 (Bv false) H ?_
  rw[decide_eq_false (fun e=>by subst e;omega)]
 replace h2:=bne_iff_ne.1 h2
 refine vJ (zR 12 11) 11 (H)<|rtp 23 (Bv true) H ?_
 refine rtp 24 (Bv true) H ?_
 refine vJ (zR 25 10) 10 (H)<|rtp 35 (Bv true) H ?_
 refine xC qh<|t_n<|cTr rfl<|zcr<|sp (Bv false)<|zjr<|t_r<|rH1 (Bv false) H ?_
 rw[decide_eq_false (fun e=>by subst e;omega)]
theorem l03Find_ok(w:World)(l:List qG)(u:qG){cl:Nat}{bu ou:Nat}{j0:yOA}{ju:Nat}{xV:yLN}{mP:yOA}{mw:Nat}{Cv:yLN}{fJ:yOA}{fO:Nat}{s9:yLN}(hl:zP w Fl al cl l)(hu:jC w bu ou (yT u j0 ju mP mw fJ fO))(nw:zP w xV j0 ju u.qK)(tU:zP w Cv mP mw u.qQ)(lc:zP w s9 fJ fO u.qJ):Calls Tryz.prog 113 #[Sv al l.length cl,pp bu ou] w (Ret (fun v w'=>v=yI (firstIdx (fun zz=>decide<|l[zz]! =u) l.length)) w):=by
 refine en func113 ntmps113 ?_
 have H:=(((((St.start w).arg lc).arg tU).arg nw).VF hu).arg hl
 have y4:=qR hl
 clear hl hu nw tU lc
 have N:=Fresh.nil w.heap.size
 refine zcr<|sp (yI 0)<|zjcc<|sp (yI 0)<|zjn<|xf<|zD ((fun Z0 Z1 Z2 Z3 Z4=>fun m' ρ w1=>∃(xN:Env) (i:Nat),ρ=upd (upd (upd xN 0<|Sv al l.length cl) 1<|pp bu ou) 5 (yI i)/\((i:Int)<=l.length)/\(noneTo (fun zz=>decide<|l[zz]! =u) i)/\m'=(l.length-(i:Int)).toNat/\Fresh w.heap.size []/\St w w1 [] [Z0,Z1,Z2,Z3,Z4]) _ _ _ _ _) ((l.length-(0:Int)).toNat) ⟨_,0,uE3,qf,qx,rfl,N,H⟩ ?_
 clear H N
 rintro m' ρ w2 ⟨xN,i,rfl,i0,i1,rfl,N,H⟩
 refine zcc<|sp (yI i)<|sq 1<|oN rfl<|sq 1<|zjn<|cD rfl (fun h3=>?_)<|fun h3=>?_
 ·refine qZ (t_n<|xU<|xf<|zcr<|sq 1<|sp (yI i) ?_)
  obtain⟨b4,o5,rfl⟩:=H.addr 0 rfl qf
  obtain⟨agc,agr,af6,aiy,aiV,ai5,V0,UT,WI,H⟩:=H.XO 0 rfl i i qf qf qf
  refine oI rfl rfl<|sq 1<|sw<|oq (l02Same_ok _ (l[i]!) u (qC (H.get 3 rfl) 0 3) (H.get 0 rfl).1 (H.get 1 rfl).1 (H.get 2 rfl).1 (qC (H.get 5 rfl) 0 3) (H.get 6 rfl).1 (H.get 7 rfl).1 (H.get 8 rfl).1) H fun w9 H=>zjn<|cD rfl (fun aV=>?_)<|fun aV=>?_
  ·refine zcr (sp (yI i)<|sp (yI i)<|zjr<|zr5<|rH1 (yI i) H ?_)
   rw[Xj (k:=i) qf i1<|decide_eq_true ‹_›]
  refine qZ<|b_n<|t_n<|xX<|sp (yI i)<|sw<|zC i 1 rfl rfl qf<|sq 1<|xZ<|xh (m':=(l.length-((i+1):Int)).toNat) qf ⟨_,i+1,uE3,?_,?_,rfl,N,H.pick []<|zR 4 5⟩
  ·omega
  ·exact noneTo_succ i1<|decide_eq_false ‹_›
 refine zx4<|zcr<|sq 1<|zjr<|rH1 (yI (-1)) H ?_
 rw[firstIdx_none<|fun j hj=>i1 j qf]
theorem l03Next_ok(w:World)(s:qH)(t:qG)(cs:yLL)(hs:jC w bs os (yS s qF qE qO qN))(xe:zP w xu qF qE s.qA)(xE:zP w xW qO qN s.qB)(ht:jC w bt ot (yT t qV qU xm xk qM qL))(xR:zP w zk qV qU t.qK)(zu:zP w zF xm xk t.qQ)(xB:zP w xJ qM qL t.qJ)(pn:zP w Fcs Pv Ni cs)(p0:vz s)(p1:xK s t)(p2:cs.length<=1000)(p3:∀q,q<cs.length->CntOk s (cs[q]!)):Calls Tryz.prog 107 #[pp bs os,pp bt ot,Sv Pv cs.length Ni] w (Ret (fun v w'=>∃(iI:yOA) (pJ:Nat) (iB:Nat) (re:List Value) (iP:yLN),v=.tuple #[Sv iI pJ iB,yI ((Q5 s t cs).2)]/\Fresh w.heap.size [iP]/\St w w' [rr iI pJ iB 31 3 re] [xG true iP re ((Q5 s t cs).1)]) w):=by
 refine en func107 ntmps107 ?_
 have H:=((((((((St.start w).arg pn).arg xB).arg zu).arg xR).VF ht).arg xE).arg xe).VF hs
 clear hs xe xE ht xR zu xB pn
 have N:=Fresh.nil w.heap.size
 refine zcr<|sq 1<|sp (yI 0)<|zjc<|sw<|ja H underlying38 ti31 fun b1 w2 H=>sq 1<|zjcc<|sp (yI 0)<|zjn<|xf ?_
 replace H:=H.boxRow 0 rfl 3 0 rfl qj
 replace H:=H.vP (α:=qG)
 replace H:St _ _ [rr (aa b1 0) 0 0 31 3 []] [xG true [] [] ([]:List qG),atF bs os<|yS s qF qE qO qN,sF false xu qF qE s.qA,sF false xW qO qN s.qB,atF bt ot<|yT t qV qU xm xk qM qL,sF false zk qV qU t.qK,sF false zF xm xk t.qQ,sF false xJ qM qL t.qJ,sF false Fcs Pv Ni cs]:=H
 refine zD ((fun Z0 Z1 Z2 Z3 Z4 Z5 Z6 Z7=>fun m' ρ w3=>∃(xN:Env) (jZ:yOA) (vV:Nat) (jQ:Nat) (out:List qG) (Xf:List Value) (y8:yLN) (i:Nat),ρ=upd (upd (upd (upd (upd xN 0<|pp bs os) 1<|pp bt ot) 2<|Sv Pv cs.length Ni) 8<|Sv jZ vV jQ) 9 (yI i)/\out=yV s t cs i/\((i:Int)<=cs.length)/\(NoBad s t cs i)/\m'=(cs.length-(i:Int)).toNat/\Fresh w.heap.size [y8]/\St w w3 [rr jZ vV jQ 31 3 Xf] [xG true y8 Xf out,Z0,Z1,Z2,Z3,Z4,Z5,Z6,Z7]) _ _ _ _ _ _ _ _) ((cs.length-(0:Int)).toNat) ⟨_,(aa b1 0),0,0,([]:List qG),[],[],0,uE5,(by rfl),qf,qx,rfl,N.emp,H⟩ ?_
 clear H N
 rintro m' ρ w4 ⟨xN,jZ,vV,jQ,out,Xf,y8,i,rfl,rfl,i0,i1,rfl,N,H⟩
 have bQ:=H.xQ (α:=qG) 0 rfl 0 rfl qj
 have nl:=nextTo_len (s:=s) (t:=t) (cs:=cs) i
 refine zcc<|sp (yI i)<|sq 1<|oN rfl<|sq 1<|zjn<|cD rfl (fun h5=>?_)<|fun h5=>?_
 ·refine qZ (t_n<|xU<|xf<|zcr<|sq 3<|sp (yI i) ?_)
  obtain⟨b6,o7,rfl⟩:=H.addr 8 rfl qf
  obtain⟨ae9,ce9,Fe9,H⟩:=H.jo 8 rfl i i qf qf qf
  refine oI rfl rfl<|oL rfl (H.zo 1 rfl 0 rfl) ?_
  have k3:=p3 i qf
  have akb:=H.base.size
  have amN:=H.ltN (L:=[y8]) [2]
  refine sw<|oc (l03Step_ok _ s t (cs[i]!) (qC (H.get 3 rfl) 0 3) (H.get 4 rfl).1 (H.get 5 rfl).1 (qC (H.get 6 rfl) 0 3) (H.get 7 rfl).1 (H.get 8 rfl).1 (H.get 9 rfl).1 (H.get 0 rfl).1 qg qg qg) ?_
  rintro _ rL ⟨fT,Sz,fv,iR,UO,ik,vQ,F9,eH,NV,eL,rfl,M,K⟩ _
  replace N:=N.merge akb amN M
  replace H:=H.merge K M
  obtain rfl:=H.Xg 0 rfl
  obtain rfl:=H.xQ (α:=yLI) 1 rfl 0 rfl qj
  obtain rfl:=H.jy 2 rfl
  refine sq 3<|sw<|xg H ti31 [yN,yN,yN] fun Gn y6 H=>(sw<|xx H 0 [Sv fT ((((zA s t<|cs[i]!).1).qK).length) fv,Sv iR ((((zA s t<|cs[i]!).1).qQ).length) ik,Sv eH ((((zA s t<|cs[i]!).1).qJ).length) eL] sizeOf31 fun tr H=>sq 1<|zjcc<|sq 1<|sp (Bv (((zA s t<|cs[i]!).2:Int) != 0))<|zjn<|zX (((zA s t<|cs[i]!).2:Int) != 0) rfl (fun rD=>?_)<|fun rD=>?_)
  ·replace rD:=bne_iff_ne.1 rD
   refine zcr<|sw<|ja H underlying38 ti31 fun fj Cz H=>sq 3<|zjr<|t_r<|zr5 ?_
   replace H:=H.boxRow 0 rfl 3 0 rfl qj
   replace H:=H.vP (α:=qG)
   replace H:St _ _ [rr (aa fj 0) 0 0 31 3 [],.box Gn [Sv fT ((((zA s t<|cs[i]!).1).qK).length) fv,Sv iR ((((zA s t<|cs[i]!).1).qQ).length) ik,Sv eH ((((zA s t<|cs[i]!).1).qJ).length) eL] 31,rr fT ((((zA s t<|cs[i]!).1).qK).length) fv 4 1 ((((zA s t<|cs[i]!).1).qK).map<|Value.bool),rr iR ((((zA s t<|cs[i]!).1).qQ).length) ik 24 1 vQ,rr eH ((((zA s t<|cs[i]!).1).qJ).length) eL 2 1 ((((zA s t<|cs[i]!).1).qJ).map<|Value.int .i64),rr jZ vV jQ 31 3 Xf] [xG true [] [] ([]:List qG),xG true F9 vQ (((zA s t<|cs[i]!).1).qQ),sF false Fe9 ae9 ce9<|cs[i]!,atF b6 (o7+(i:Int).toNat*1) [Sv ae9 ((cs[i]!).length) ce9],xG true y8 Xf<|yV s t cs i,atF bs os<|yS s qF qE qO qN,sF false xu qF qE s.qA,sF false xW qO qN s.qB,atF bt ot<|yT t qV qU xm xk qM qL,sF false zk qV qU t.qK,sF false zF xm xk t.qQ,sF false xJ qM qL t.qJ,sF false Fcs (aa b6 o7) Ni cs]:=H
   refine ret2 (Sv (aa fj 0) 0 0) (yI ((zA s t<|cs[i]!).2)) rfl rfl rfl ⟨_,rfl,?_,H.base⟩
   rw[next_bad i1 qf ‹_›]
   exact⟨(aa fj 0),0,0,[],[],rfl,(N.emp.pick [0]),H.pick [0] [0]⟩
  replace rD:=xA rD
  refine qZ<|t_n<|zcr<|sq 1 ?_
  obtain⟨Ws,Tr,RB⟩:=H.QL (α:=qG) 4 rfl 3 rfl qj
  obtain⟨G27,alf,Pi⟩:=H.rowIsB 1 rfl
  obtain⟨G30,Rt,LV⟩:=H.QL (α:=yLI) 2 rfl 0 rfl qj
  obtain⟨NI,Hw,UA⟩:=H.XB 3 rfl
  refine sw<|oq (Qu (by rw[←Tr])<|l03Find_ok _ (yV s t cs i) ((zA s t<|cs[i]!).1) (Tr▸RB) (qC (H.cells 0 rfl) 0 3) Pi LV UA) H fun Jk H=>sp (Bv<|decide ((firstIdx (fun zz=>decide ((yV s t cs i)[zz]! =((zA s t<|cs[i]!).1))) (yV s t cs i).length:Int)<0))<|zjn<|cD rfl (fun G7=>?_)<|fun G7=>?_
  ·refine xX (sq 1<|sw<|xy [Sv fT ((((zA s t<|cs[i]!).1).qK).length) fv,Sv iR ((((zA s t<|cs[i]!).1).qQ).length) ik,Sv eH ((((zA s t<|cs[i]!).1).qJ).length) eL] isAgg31 sizeOf31 rfl (qC (H.cells 0 rfl) 0 3)<|sw<|zl H underlying38 ti31 [Sv fT ((((zA s t<|cs[i]!).1).qK).length) fv,Sv iR ((((zA s t<|cs[i]!).1).qQ).length) ik,Sv eH ((((zA s t<|cs[i]!).1).qJ).length) eL] fun RJ SB H=>?_)
   obtain⟨vl,N,apg,H⟩:=H.freezeB 2 rfl N<|H.vX [0,3]
   have H0:=H
   obtain⟨G47,aaB,TN,H⟩:=H.yC (α:=yLI) 3 rfl 1 rfl qj
   replace N:Fresh w.heap.size [G47,vl,y8]:=Fresh.ice (N.pick [1,0,2]) H0 3 aaB.1 aaB.2<|H0.vX [0,4]
   clear H0
   obtain⟨Pm,N,Jh,H⟩:=H.zQ 4 rfl N<|H.vX [0,1,5]
   refine sw<|zt H 5 rfl 0 rfl underlying38 ti31 rfl qj rfl rfl rfl qw qp qf fun KB KJ JC H=>?_
   replace H:=H.Qo 6 rfl 2 rfl 1 rfl 0 rfl
   replace N:Fresh w.heap.size [(y8++(vl++G47++Pm))]:=(N.pick [2,1,0,3]).join.join.swap.join
   refine sq 1<|xZ<|b_n<|t_n<|xX<|sp (yI i)<|sw<|zC i 1 rfl rfl qf<|sq 1<|xZ<|xh (m':=(cs.length-((i+1):Int)).toNat) qf ⟨_,_,_,_,_,_,_,i+1,uE5,?_,?_,?_,rfl,N,H.pick [5] (0::zR 8 8)⟩
   ·exact nextTo_new<|find_mem.1 ql
   ·omega
   ·exact i1.succ ‹_›
  refine qZ<|b_n<|t_n<|xX<|sp (yI i)<|sw<|zC i 1 rfl rfl qf<|sq 1<|xZ<|xh (m':=(cs.length-((i+1):Int)).toNat) qf ⟨_,_,_,_,_,_,_,i+1,uE5,?_,?_,?_,rfl,(N.pick [1]),H.pick [4]<|zR 3 9⟩
  ·exact nextTo_in<|Classical.byContradiction fun h=>absurd (find_mem.2 h) ql
  ·omega
  ·exact i1.succ ‹_›
 refine zx4<|zcr<|sq 2<|sp (yI 0)<|zjr<|ret2 (Sv jZ vV jQ) (yI 0) rfl rfl rfl ⟨_,rfl,?_,H.base⟩
 rw[next_ok<|fun j hj=>i1 j qf,show cs.length=i by omega]
 exact⟨jZ,vV,jQ,Xf,y8,rfl,N,H.pick [0] [0]⟩
theorem sameState_ok(w:World)(a:qG)(b:qG)(gQ:zP w ni dM dH a.qK)(gT:zP w tA fU ew a.qQ)(eJ:zP w kR V4 VZ a.qJ)(eF:zP w oo dC dJ b.qK)(gU:zP w tY fD dW b.qQ)(df:zP w lM V3 VY b.qJ):Calls Tryz.prog 117 #[.agg #[Sv dM a.qK.length dH,Sv fU a.qQ.length ew,Sv V4 a.qJ.length VZ],.agg #[Sv dC b.qK.length dJ,Sv fD b.qQ.length dW,Sv V3 b.qJ.length VY]] w (Ret (fun v w'=>v=Bv (decide<|a=b)) w):=by
 refine en func117 ntmps117 ?_
 have H:=((((((St.start w).arg df).arg gU).arg eF).arg eJ).arg gT).arg gQ
 have Mk:=qR gT
 have JI:=qR eF
 have Mt:=qR gU
 have Gd:=qR df
 clear gQ gT eJ eF gU df
 have N:=Fresh.nil w.heap.size
 refine zcr<|sw<|zN H (yT a dM dH fU ew V4 VZ) fun b1 w2 H=>sw<|zN H (yT b dC dJ fD dW V3 VY) fun b3 w4 H=>sp (Bv false)<|zjc<|oF rfl<|oL rfl (H.cell 1 rfl rfl)<|oF rfl<|oL rfl (H.cell 0 rfl rfl)<|sw<|oq (equalB_ok _ a.qK b.qK (H.get 0 rfl).1 (H.get 3 rfl).1) H fun w6 H=>sp (Bv<|decide<|a.qK=b.qK) ?_
 cases h8:(decide (a.qK=b.qK))
 ·replace h8:=of_decide_eq_false h8
  refine xY (zR 11 5)<|sp (Bv false)<|sp (Bv false)<|xY (zR 18 5)<|sp (Bv false)<|sp (Bv false)<|zjr<|rH1 (Bv false) H ?_
  rw[decide_eq_false (fun e=>by subst e;exact absurd rfl ql)]
 replace h8:=of_decide_eq_true h8
 refine qP 10 rfl rfl<|oF rfl<|qP 10 rfl rfl<|oL rfl (H.cell 1 rfl rfl)<|qP 10 rfl rfl<|oF rfl<|qP 10 rfl rfl<|oL rfl (H.cell 0 rfl rfl)<|qP 10 rfl rfl<|sw<|zW #[Sv fU a.qQ.length ew,Sv fD b.qQ.length dW,.func (.func 81) #[] #[]] rfl rfl call162<|en func162 ntmps162 ?_
 refine zcr<|sp (Bv false)<|zjcc<|sq 1<|oN rfl<|sq 1<|oN rfl<|sq 1<|zjn<|zX _ rfl (fun h9=>?_)<|fun h9=>?_
 ·replace h9:=bne_iff_ne.1 h9
  refine zcr<|sp (Bv false)<|zjr<|t_r<|ret1 (Bv false) rfl rfl ⟨_,rfl,(sp (Bv false)<|sp (Bv false)<|xY (zR 18 5)<|sp (Bv false)<|sp (Bv false)<|zjr<|rH1 (Bv false) H ?_)⟩
  rw[decide_eq_false (fun e=>by subst e;omega)]
 replace h9:=xA h9
 refine qZ<|t_n<|zcc<|sq 1<|oN rfl<|sp (yI 0)<|zjn<|xf<|zD ((fun Z0 Z1 Z2 Z3 Z4 Z5 Z6 Z7=>fun m' ρ ov=>∃(xN:Env) (i:Nat),ρ=upd (upd (upd (upd (upd xN 1<|Sv fD b.qQ.length dW) 2<|.func (.func 81) #[] #[]) 15<|Sv fU a.qQ.length ew) 16<|yI a.qQ.length) 17 (yI i)/\((i:Int)<=a.qQ.length)/\(a.qQ.take i=b.qQ.take i)/\m'=(a.qQ.length-(i:Int)).toNat/\Fresh w.heap.size []/\St w ov [Z0,Z1] [Z2,Z3,Z4,Z5,Z6,Z7]) _ _ _ _ _ _ _ _) ((a.qQ.length-(0:Int)).toNat) ⟨_,0,uE5,qf,(by rfl),rfl,N,H⟩ ?_
 clear H N
 rintro m' ρ rL ⟨xN,i,rfl,i0,i2,rfl,N,H⟩
 refine zcr<|sq 1<|zjn<|xU<|cD rfl (fun cZ=>?_)<|fun cZ=>?_
 ·refine qZ (t_n<|xU<|xf<|zcr<|sp (yI i) ?_)
  obtain⟨HT,o14,rfl⟩:=H.addr 1 rfl qf
  obtain⟨awp,avd,ay9,H⟩:=H.jo 1 rfl i i qf qf qf
  refine oI rfl rfl<|oL rfl (H.zo 1 rfl 0 rfl)<|sp (yI i)<|sq 1<|zjc<|sq 1<|sp (yI i) ?_
  obtain⟨G5,o18,rfl⟩:=H.addr 6 rfl qf
  obtain⟨aoo,ajn,alS,H⟩:=H.jo 6 rfl i i qf qf qf
  refine oI rfl rfl<|oL rfl (H.zo 1 rfl 0 rfl)<|sq 1<|zjc<|sp (.func (.func 81) #[] #[])<|sq 2<|sw<|oq (equalI_ok _ (a.qQ[i]!) (b.qQ[i]!) (H.get 2 rfl).1 (H.get 0 rfl).1) H fun GP H=>sq 1<|zjn<|zX _ rfl (fun mU=>?_)<|fun mU=>?_
  ·replace mU:=x8 mU
   replace mU:=of_decide_eq_false mU
   refine zcr<|sp (Bv false)<|zjr<|zr5<|ret1 (Bv false) rfl rfl ⟨_,rfl,(sp (Bv false)<|sp (Bv false)<|xY (zR 18 5)<|sp (Bv false)<|sp (Bv false)<|zjr<|rH1 (Bv false) H ?_)⟩
   rw[decide_eq_false (fun e=>by subst e;exact absurd rfl ql)]
  replace mU:=xO mU
  replace mU:=of_decide_eq_true mU
  refine qZ<|b_n<|t_n<|xX<|sw<|zC i 1 rfl rfl qf<|sq 1<|xZ<|xh (m':=(a.qQ.length-((i+1):Int)).toNat) qf ⟨_,i+1,uE5,?_,?_,rfl,N,H.pick [0,1]<|zR 4 6⟩
  ·omega
  ·exact eqTo_succ qf qf i2 ql
 refine zx4<|zcr<|sp (Bv true)<|zjr<|ret1 (Bv true) rfl rfl ⟨_,rfl,(sp (Bv true)<|sp (Bv true)<|qP 17 rfl rfl<|oF rfl<|qP 17 rfl rfl<|oL rfl (H.cell 1 rfl rfl)<|qP 17 rfl rfl<|oF rfl<|qP 17 rfl rfl<|oL rfl (H.cell 0 rfl rfl)<|qP 17 rfl rfl<|sw<|oq (equalI_ok _ a.qJ b.qJ (H.get 2 rfl).1 (H.get 5 rfl).1) H fun BP H=>sq 2<|zjr<|rH1 (Bv<|decide<|a.qJ=b.qJ) H ?_)⟩
 rw[show decide (a=b)=decide (a.qJ=b.qJ) from decide_eq_decide.2 ⟨fun e=>by rw[e],fun e=>state_eq ql (eq_of_take (k:=i) qf qf i2) e⟩]
theorem behind_ok(w:World)(s:qH)(t:qG)(cs:yLL)(xe:zP w xu qF qE s.qA)(xE:zP w xW qO qN s.qB)(xR:zP w zk qV qU t.qK)(zu:zP w zF xm xk t.qQ)(xB:zP w xJ qM qL t.qJ)(pn:zP w Fcs Pv Ni cs)(p0:vz s)(p1:xK s t)(p2:cs.length<=1000)(p3:∀q,q<cs.length->CntOk s (cs[q]!))(p4:∀q,q<cs.length->IsCh s t (cs[q]!)):Calls Tryz.prog 109 #[.agg #[yI s.zf,Sv qF s.qA.length qE,Sv qO s.qB.length qN],.agg #[Sv qV t.qK.length qU,Sv xm t.qQ.length xk,Sv qM t.qJ.length qL],Sv Pv cs.length Ni] w (Ret (fun v w'=>∃(iI:yOA) (pJ:Nat) (iB:Nat) (re:List Value) (iP:yLN),v=.tuple #[Sv iI pJ iB,yI ((Q5 s t cs).2)]/\Fresh w.heap.size [iP]/\St w w' [rr iI pJ iB 31 3 re] [xG true iP re ((Q5 s t cs).1)]) w):=by
 refine en func109 ntmps109 ?_
 have H:=((((((St.start w).arg pn).arg xB).arg zu).arg xR).arg xE).arg xe
 clear xe xE xR zu xB pn
 have N:=Fresh.nil w.heap.size
 refine zcr<|sw<|zN H (yS s qF qE qO qN) fun b1 w2 H=>sw<|zN H (yT t qV qU xm xk qM qL) fun b3 w4 H=>sq 1<|sp (yI 0)<|zjc<|sw<|ja H underlying38 ti31 fun b5 w6 H=>sq 1<|zjcc<|sq 1<|oN rfl<|sp (yI 0)<|zjn<|xf ?_
 replace H:=H.boxRow 0 rfl 3 0 rfl qj
 replace H:=H.vP (α:=qG)
 replace H:St _ _ [rr (aa b5 0) 0 0 31 3 [],.box b3 (yT t qV qU xm xk qM qL) 31,.box b1 (yS s qF qE qO qN) 27] [xG true [] [] ([]:List qG),sF false xu qF qE s.qA,sF false xW qO qN s.qB,sF false zk qV qU t.qK,sF false zF xm xk t.qQ,sF false xJ qM qL t.qJ,sF false Fcs Pv Ni cs]:=H
 refine zD ((fun Z0 Z1 Z2 Z3 Z4 Z5 Z6 Z7=>fun m' ρ w7=>∃(xN:Env) (jZ:yOA) (vV:Nat) (jQ:Nat) (out:List qG) (Xf:List Value) (y8:yLN) (k:Nat),ρ=upd (upd (upd (upd (upd (upd xN 3<|pp b1 0) 4<|pp b3 0) 8<|Sv jZ vV jQ) 14<|Sv Pv cs.length Ni) 15<|yI cs.length) 16 (yI k)/\out=yV s t cs k/\((k:Int)<=cs.length)/\(NoBad s t cs k)/\m'=(cs.length-(k:Int)).toNat/\Fresh w.heap.size [y8]/\St w w7 [rr jZ vV jQ 31 3 Xf,Z0,Z1] [xG true y8 Xf out,Z2,Z3,Z4,Z5,Z6,Z7]) _ _ _ _ _ _ _ _) ((cs.length-(0:Int)).toNat) ⟨_,(aa b5 0),0,0,([]:List qG),[],[],0,uE6,(by rfl),qf,qx,rfl,N.emp,H⟩ ?_
 clear H N
 rintro m' ρ w8 ⟨xN,jZ,vV,jQ,out,Xf,y8,k,rfl,rfl,i0,i1,rfl,N,H⟩
 have bQ:=H.xQ (α:=qG) 0 rfl 0 rfl qj
 have nl:=nextTo_len (s:=s) (t:=t) (cs:=cs) k
 refine zcr<|sq 1<|zjn<|xU<|cD rfl (fun h9=>?_)<|fun h9=>?_
 ·refine qZ (t_n<|xU<|xf<|zcr ?_)
  obtain⟨g9,F7,rfl⟩:=H.addr 6 rfl qf
  obtain⟨Nd,MS,ad1,H⟩:=H.jo 6 rfl k k qf qf qf
  refine oI rfl rfl<|oL rfl (H.zo 1 rfl 0 rfl)<|sq 1<|zjc<|sw<|xy (yS s qF qE qO qN) isAgg27 sizeOf27 rfl (qC (H.cells 2 rfl) 0 3)<|sw<|xy (yT t qV qU xm xk qM qL) isAgg31 sizeOf31 rfl (qC (H.cells 1 rfl) 0 3)<|sq 1 ?_
  have k3:=p3 k qf
  have k5:=p4 k qf
  have SR:=H.base.size
  have amf:=H.ltN (L:=[y8]) [2]
  refine sw<|oc (step_ok _ s t (cs[k]!) (H.get 3 rfl).1 (H.get 4 rfl).1 (H.get 5 rfl).1 (H.get 6 rfl).1 (H.get 7 rfl).1 (H.get 0 rfl).1 qg qg qg qg) ?_
  rintro _ uK ⟨j7,Uo,ke,lV,WB,lT,UP,Gc,gK,NG,gM,rfl,M,K⟩ _
  replace N:=N.merge SR amf M
  replace H:=H.merge K M
  obtain rfl:=H.Xg 0 rfl
  obtain rfl:=H.xQ (α:=yLI) 1 rfl 0 rfl qj
  obtain rfl:=H.jy 2 rfl
  refine sq 3<|sw<|xg H ti31 [yN,yN,yN] fun fj Cz H=>(sw<|xx H 0 [Sv j7 ((((zA s t<|cs[k]!).1).qK).length) ke,Sv lV ((((zA s t<|cs[k]!).1).qQ).length) lT,Sv gK ((((zA s t<|cs[k]!).1).qJ).length) gM] sizeOf31 fun Ks H=>sq 1<|zjcc<|sq 1<|sp (Bv (((zA s t<|cs[k]!).2:Int) != 0))<|zjn<|zX (((zA s t<|cs[k]!).2:Int) != 0) rfl (fun x6=>?_)<|fun x6=>?_)
  ·replace x6:=bne_iff_ne.1 x6
   refine zcr<|sq 3<|zjr<|t_r<|zr5 ?_
   replace H:=H.nilRow 31 3
   replace H:=H.vP (α:=qG)
   refine ret2 yN (yI ((zA s t<|cs[k]!).2)) rfl rfl rfl ⟨_,rfl,?_,H.base⟩
   rw[next_bad i1 qf ‹_›]
   exact⟨none,0,0,[],[],rfl,(N.emp.pick [0]),H.pick [0] [0]⟩
  replace x6:=xA x6
  refine qZ<|t_n<|zcr<|sq 1<|sp (.func (.func 160) #[] #[pp fj 0])<|sw<|zW #[Sv jZ vV jQ,.func (.func 160) #[] #[pp fj 0]] rfl rfl call159<|en func159 ntmps159 ?_
  refine zcr<|sp (Bv false)<|zjc<|sq 1<|sp (.func (.func 160) #[] #[pp fj 0])<|sw<|zW #[Sv jZ vV jQ,.func (.func 160) #[] #[pp fj 0]] rfl rfl call115<|en func115 ntmps115 ?_
  refine zcr<|sp (yI 0)<|zjcc<|sq 1<|oN rfl<|sp (yI 0)<|zjn<|xf<|zD ((fun Z0 Z1 Z2 Z3 Z4 Z5 Z6 Z7 Z8 Z9 bG bX eZ i8 mb oX EW=>fun m' ρ BP=>∃(xN:Env) (i:Nat),ρ=upd (upd (upd (upd xN 0<|Sv jZ vV jQ) 1<|.func (.func 160) #[] #[pp fj 0]) 7<|yI vV) 8 (yI i)/\((i:Int)<=vV)/\(NotIn (yV s t cs k) (zA s t<|cs[k]!).1 i)/\m'=(vV-(i:Int)).toNat/\Fresh w.heap.size [Gc,y8]/\St w BP [Z0,Z1,Z2,Z3,Z4,Z5,Z6] [Z7,Z8,Z9,bG,bX,eZ,i8,mb,oX,EW]) _ _ _ _ _ _ _ _ _ _ _ _ _ _ _ _ _) ((vV-(0:Int)).toNat) ⟨_,0,uE4,qf,qx,rfl,N,H⟩ ?_
  clear H N
  rintro m' ρ BA ⟨xN,i,rfl,i0,i2,rfl,N,H⟩
  refine zcr<|sq 1<|zjn<|xU<|cD rfl (fun GY=>?_)<|fun GY=>?_
  ·refine qZ (t_n<|xU<|xf<|zcr<|sp (yI i)<|sp (yI i)<|zjc<|sp (.func (.func 160) #[] #[pp fj 0])<|sq 1<|sp (yI i) ?_)
   obtain⟨Bn,rfl⟩:=H.jR 4 rfl qf
   obtain⟨ma,lU,Wh,nP,nH,aaf,jx,j5,SH,apW,H⟩:=H.Yd 4 rfl 3 rfl (iv:=i) i qf qf
   refine oI rfl rfl<|sw<|xy [Sv ma ((((yV s t cs k)[i]!).qK).length) lU,Sv nP ((((yV s t cs k)[i]!).qQ).length) nH,Sv jx ((((yV s t cs k)[i]!).qJ).length) j5] isAgg31 sizeOf31 rfl (qC (fun j v hj=>H.VI 4 rfl<|apW j v hj) 0 3)<|sw<|zW #[.agg #[Sv ma ((((yV s t cs k)[i]!).qK).length) lU,Sv nP ((((yV s t cs k)[i]!).qQ).length) nH,Sv jx ((((yV s t cs k)[i]!).qJ).length) j5],pp fj 0] rfl rfl call160<|en func160 ntmps160 ?_
   refine zcr<|sw<|zN H [Sv ma ((((yV s t cs k)[i]!).qK).length) lU,Sv nP ((((yV s t cs k)[i]!).qQ).length) nH,Sv jx ((((yV s t cs k)[i]!).qJ).length) j5] fun GC Ml H=>sp (Bv false)<|zjc<|sw<|xy [Sv ma ((((yV s t cs k)[i]!).qK).length) lU,Sv nP ((((yV s t cs k)[i]!).qQ).length) nH,Sv jx ((((yV s t cs k)[i]!).qJ).length) j5] isAgg31 sizeOf31 rfl (qC (H.cells 0 rfl) 0 3)<|sw<|xy [Sv j7 ((((zA s t<|cs[k]!).1).qK).length) ke,Sv lV ((((zA s t<|cs[k]!).1).qQ).length) lT,Sv gK ((((zA s t<|cs[k]!).1).qJ).length) gM] isAgg31 sizeOf31 rfl (qC (H.cells 1 rfl) 0 3) ?_
   obtain⟨G34,azH,ZK⟩:=H.rowIsB 2 rfl
   obtain⟨G37,ay4,G7⟩:=H.QL (α:=yLI) 3 rfl 3 rfl qj
   obtain⟨Bk,SG,h42⟩:=H.XB 4 rfl
   refine sw<|oq (sameState_ok _ ((yV s t cs k)[i]!) ((zA s t<|cs[k]!).1) (H.get 0 rfl).1 (H.get 1 rfl).1 (H.get 2 rfl).1 ZK G7 h42) H fun JC H=>sq 1<|zjr<|ret1 (Bv<|decide (((yV s t cs k)[i]!)=((zA s t<|cs[k]!).1))) rfl rfl ⟨_,rfl,?_⟩
   replace H:=H.erases [0]
   dsimp only[zU,List.eraseIdx] at H
   refine zjn<|cD rfl (fun KK=>?_)<|fun KK=>?_
   ·refine zcr (sp (yI i)<|sp (yI i)<|zjr<|zr5<|ret1 (yI i) rfl rfl ⟨_,rfl,(sw<|o_pure (Bv true) (by show some (Value.bool<|decide ((i:Int)>=0))=some (Value.bool true);rw[decide_eq_true qf])<|sp (Bv true)<|zjr<|ret1 (Bv true) rfl rfl ⟨_,rfl,(sp (Bv false)<|zjn<|cFr rfl<|qZ<|b_n<|t_n<|xX<|sw<|zC k 1 rfl rfl qf<|sq 1<|xZ ?_)⟩)⟩)
    refine xh (m':=(cs.length-((k+1):Int)).toNat) qf ⟨_,_,_,_,_,_,_,k+1,uE6,?_,?_,?_,rfl,(N.pick [1]),H.pick [4,5,6]<|zR 6 7⟩
    ·exact nextTo_in<|mem_at (k:=i) qf ql
    ·omega
    ·exact i1.succ ‹_›
   refine qZ<|b_n<|t_n<|xX<|sw<|zC i 1 rfl rfl qf<|sq 1<|xZ<|xh (m':=(vV-((i+1):Int)).toNat) qf ⟨_,i+1,uE4,?_,?_,rfl,N,H.pick (zR 0 7)<|zR 3 10⟩
   ·omega
   ·exact i2.succ ‹_›
  refine zx4<|zcr<|sq 1<|zjr<|ret1 (yI (-1)) rfl rfl ⟨_,rfl,(sp (Bv false)<|sp (Bv false)<|zjr<|ret1 (Bv false) rfl rfl ⟨_,rfl,(sp (Bv true)<|zjn<|cTr rfl<|xX<|sq 1<|sw<|xy [Sv j7 ((((zA s t<|cs[k]!).1).qK).length) ke,Sv lV ((((zA s t<|cs[k]!).1).qQ).length) lT,Sv gK ((((zA s t<|cs[k]!).1).qJ).length) gM] isAgg31 sizeOf31 rfl (qC (H.cells 0 rfl) 0 3) ?_)⟩)⟩
  refine sw<|zl H underlying38 ti31 [Sv j7 ((((zA s t<|cs[k]!).1).qK).length) ke,Sv lV ((((zA s t<|cs[k]!).1).qQ).length) lT,Sv gK ((((zA s t<|cs[k]!).1).qJ).length) gM] fun GS Lc H=>?_
  obtain⟨G52,N,apN,H⟩:=H.freezeB 2 rfl N<|H.vX [0,3]
  have H0:=H
  obtain⟨U8,ag7,aoF,H⟩:=H.yC (α:=yLI) 3 rfl 1 rfl qj
  replace N:Fresh w.heap.size [U8,G52,y8]:=Fresh.ice (N.pick [1,0,2]) H0 3 ag7.1 ag7.2<|H0.vX [0,4]
  clear H0
  obtain⟨G57,N,S6,H⟩:=H.zQ 4 rfl N<|H.vX [0,1,5]
  refine sw<|zt H 5 rfl 0 rfl underlying38 ti31 rfl qj rfl rfl rfl qw qp qf fun HW HV w51 H=>?_
  replace H:=H.Qo 6 rfl 2 rfl 1 rfl 0 rfl
  replace N:Fresh w.heap.size [(y8++(G52++U8++G57))]:=(N.pick [2,1,0,3]).join.join.swap.join
  refine sq 1<|xZ<|b_n<|t_n<|xX<|sw<|zC k 1 rfl rfl qf<|sq 1<|xZ<|xh (m':=(cs.length-((k+1):Int)).toNat) qf ⟨_,_,_,_,_,_,_,k+1,uE6,?_,?_,?_,rfl,N,H.pick [5,6,7] (0::zR 8 6)⟩
  ·exact nextTo_new<|NotIn.out<|fun j hj=>i2 j qf
  ·omega
  ·exact i1.succ ‹_›
 refine zx4<|zcr<|sq 2<|sp (yI 0)<|zjr<|ret2 (Sv jZ vV jQ) (yI 0) rfl rfl rfl ⟨_,rfl,?_,H.base⟩
 rw[next_ok<|fun j hj=>i1 j qf,show cs.length=k by omega]
 exact⟨jZ,vV,jQ,Xf,y8,rfl,N,H.pick [0] [0]⟩
end
section
def dotP:yLI->yLL->Nat->Int
 |n::y,p::ps,q=>n*p[q]! +dotP y ps q
 |_,_,_=>0
theorem packs_mem{K:Nat}{ad:yLL}(hP:Yc K ad):∀(f k:Nat) (ai y:yLI),k+f=ad.length->RestOk K ai->y∈packs ad f k ai→
 (∀v∈y,0<=v/\v<=1000)/\∀q,q<K->0<=ai[q]!-dotP y (ad.drop k) q
 |0,k,ai,y,hk,hR,h=>by
  rw[packs] at h
  split at h
  ·obtain rfl:=List.mem_singleton.1 h
   refine⟨fun v hv=>by simp at hv,fun q hq=>?_⟩
   have:=(hR.2 q hq).1
   simp only[dotP];omega
  ·simp at h
 |f+1,k,ai,y,hk,hR,h=>by
  rw[packs,List.mem_flatMap] at h
  obtain⟨n,hn,h⟩:=h
  obtain⟨y',hy,rfl⟩:=List.mem_map.1 h
  have hb:=times_bd hP hR (k:=k) qf
  rw[List.mem_range] at hn
  obtain⟨h1,h2⟩:=packs_mem hP f (k+1) _ y' qf (hR.take hP qf (n:=(n:Int)) qf qf) hy
  refine⟨fun v hv=>?_,fun q hq=>?_⟩
  ·rcases List.mem_cons.1 hv with rfl|hv
   ·omega
   ·exact h1 v hv
  ·have h3:=h2 q hq
   rw[XM (by have:=hR.1;omega),Int.neg_mul] at h3
   rw[drop_cons'<|show k<ad.length by omega,dotP]
   omega
where
 drop_cons' {l:yLL} {i:Nat} (h:i<l.length):l.drop i=l[i]! :: l.drop (i+1):=by
  rw[getElem!_pos l i h];exact(List.drop_eq_getElem_cons h)
def X9(s:qH)(x:yLI)(q:Nat):yLI->Int
 | []=>0
 |r::l=>x[r.toNat]!*((s.qB[r.toNat]!).zJ)[q]! +X9 s x q l
theorem sumOver_cat(s:qH)(x:yLI)(q:Nat):∀(l m:yLI),X9 s x q (l++m)=X9 s x q l+X9 s x q m
 | [],m=>by simp[X9]
 |r::l,m=>by rw[List.cons_append,X9,X9,sumOver_cat s x q l m];omega
theorem sumOver_dot{s:qH}{x:yLI}{q:Nat}:∀ {l y:yLI},y.length=l.length->(∀j,j<l.length->x[(l[j]!).toNat]! =y[j]!)->X9 s x q l=dotP y (vY s l) q
 | [],[],_,_=>rfl
 | [],_::_,h,_=>by simp at h
 |_::_,[],h,_=>by simp at h
 |r::l,v::y,h,h1=>by
  have h0:=h1 0 qm
  simp only[List.getElem!_cons_zero] at h0
  show _=dotP (v::y) ((s.qB[r.toNat]!).zJ::vY s l) q
  rw[X9,dotP,h0,sumOver_dot (by simpa using h) fun j hj=>by simpa using h1 (j+1) qy]
theorem needS_cell{s:qH}{t:qG}{x:yLI}{c q:Nat}(hs:vz s):∀k,k<=s.qB.length->(∀i,i<k->(s.qB[i]!).qY=(c:Int)->¬Appl s t i->x[i]! =0)->needS s x k c q= -(X9 s x q<|cellT s t k c)
 |0,_,_=>by simp[needS,cellT,Yb,X9]
 |k+1,hk,h=>by
  have ih:=needS_cell (t:=t) (c:=c) (q:=q) hs k qf fun i hi=>h i qf
  rw[needS,ih,needF,at']
  by_cases e:(s.qB[k]!).qY=(c:Int)
  ·rw[if_pos qf]
   by_cases ha:Appl s t k
   ·rw[←cellT_yes ha e,sumOver_cat]
    simp only[X9,Int.toNat_natCast]
    rw[Int.neg_mul];omega
   ·rw[←XQ ha,h k qf e ha]
    simp
  ·rw[if_neg<|fun h'=>e (by have:=(hs.rule (i:=k) qf).1.1;omega),←Xl e];omega
theorem setTo_ne{o r x:yLI}{p:Nat}:∀ {k:Nat},(∀j,j<k->(r[j]!).toNat≠p)->(∀j,j<k->(r[j]!).toNat<o.length)->(setTo o r x k)[p]! =o[p]!
 |0,_,_=>rfl
 |k+1,h,h1=>by
  rw[setTo,getset<|by rw[setTo_len];exact h1 k qf,if_neg<|fun e=>h k qf e.symm]
  exact setTo_ne (fun j hj=>h j qf) fun j hj=>h1 j qf
theorem setTo_eq{o r x:yLI}{j:Nat}:∀ {k:Nat},(∀a b,a<k->b<k->(r[a]!).toNat=(r[b]!).toNat->a=b)->(∀j,j<k->(r[j]!).toNat<o.length)->j<k->(setTo o r x k)[(r[j]!).toNat]! =x[j]!
 |0,_,_,h=>by omega
 |k+1,hi,h1,hj=>by
  rw[setTo,getset<|by rw[setTo_len];exact h1 k qf]
  by_cases e:j=k
  ·subst e;rw[if_pos rfl]
  ·rw[if_neg<|fun e'=>e<|hi j k qf qf e']
   exact setTo_eq (fun a b ha hb=>hi a b qf qf) (fun j hj=>h1 j qf) qf
theorem inj_lt{α:Type}[LT α]{l:List α}(irr:∀x:α,¬x<x)(h:l.Pairwise (· < ·)){a b:Nat}(ha:a<l.length)(hb:b<l.length)(e:l[a]=l[b]):a=b:=by
 rw[List.pairwise_iff_getElem] at h
 rcases Nat.lt_trichotomy a b with h1|h1|h1
 ·have:=h a b ha hb h1;rw[e] at this;exact absurd this<|irr _
 ·exact h1
 ·have:=h b a hb ha h1;rw[e] at this;exact absurd this<|irr _
theorem applL_lt(s:qH)(t:qG)(k:Nat):(Yb s t k).Pairwise (· < ·):=by
 unfold Yb
 rw[List.pairwise_map]
 exact(List.pairwise_lt_range.filter _).imp fun h=>by simpa using h
theorem cellR_inj{a b:Nat}(ha:a<(vW s t c).length)(hb:b<(vW s t c).length)(h:((vW s t c)[a]!).toNat=((vW s t c)[b]!).toNat):a=b:=by
 have h1:=(cellR_at ha).1
 have h2:=(cellR_at hb).1
 have hn:(vW s t c).Pairwise (· < ·):=by unfold vW cellT;exact(applL_lt s t _).filter _
 have e:(vW s t c)[a]! =(vW s t c)[b]! :=by omega
 rw[getElem!_pos _ a ha,getElem!_pos _ b hb] at e
 exact inj_lt (fun x=>by omega) hn ha hb e
theorem live_cell(h:i<(xP s t k).length)(h':i'<(xP s t k).length):∃c c',(xP s t k)[i]! =vW s t c/\(xP s t k)[i']! =vW s t c' /\(c=c' ->i=i'):=by
 have hl:i<(VK s t k).length:=by simpa [xP] using h
 have KL :i'<(VK s t k).length:=by simpa [xP] using h'
 have hn:(VK s t k).Pairwise (· < ·):=by unfold VK;exact List.pairwise_lt_range.filter _
 refine⟨(VK s t k)[i],(VK s t k)[i'],?_,?_,fun e=>inj_lt (fun x=>by omega) hn hl KL e⟩
 ·rw[getElem!_pos _ i h];simp[xP]
 ·rw[getElem!_pos _ i' h'];simp[xP]
theorem rules_inj{j':Nat}(h:i<(xP s t k).length)(h':i'<(xP s t k).length)(hj:j<((xP s t k)[i]!).length)(Gs :j'<((xP s t k)[i']!).length)
 (e:(((xP s t k)[i]!)[j]!).toNat=(((xP s t k)[i']!)[j']!).toNat):i=i' /\j=j':=by
 obtain⟨c,c',e1,e2,e3⟩:=live_cell h h'
 rw[e1] at hj e
 rw[e2] at Gs e
 have h1:=cellR_at hj
 have h2:=cellR_at Gs
 have hc:c=c':=by
  have a:=h1.2.2.2
  rw[e] at a
  omega
 subst hc
 exact⟨e3 rfl,cellR_inj hj Gs e⟩
def Says(s:qH)(t:qG)(k m:Nat)(x:yLI):Prop:=
 x.length=s.qB.length/\(∀i,i<m->∃y,y∈(zI s t k)[i]! /\∀j,j<((xP s t k)[i]!).length->x[(((xP s t k)[i]!)[j]!).toNat]! =y[j]!)∧
 ∀r,r<s.qB.length->(∀i,i<m->∀j,j<((xP s t k)[i]!).length->(((xP s t k)[i]!)[j]!).toNat≠r)->x[r]! =0
theorem prodG_says{s:qH}{t:qG}{k:Nat}:∀m,m<=(xP s t k).length->∀x∈Qm s.qB.length (xP s t k) (zI s t k) m,Says s t k m x
 |0,_,x,h=>by
  obtain rfl:=List.mem_singleton.1 h
  refine⟨by simp,fun i hi=>by omega,fun r hr _=>?_⟩
  rw[getElem!_pos _ r<|by simpa using hr];simp
 |m+1,hm,x,h=>by
  rw[Qm,nextK,List.mem_flatMap] at h
  obtain⟨o,ho,h⟩:=h
  obtain⟨y,hy,rfl⟩:=List.mem_map.1 h
  obtain⟨h1,h2,h3⟩:=prodG_says m qf o<|List.mem_of_mem_take ho
  have hb:∀j,j<((xP s t k)[m]!).length->(((xP s t k)[m]!)[j]!).toNat<o.length:=fun j hj=>by rw[h1];exact(choice_at qf hj).2
  have hn:∀a b,a<((xP s t k)[m]!).length->b<((xP s t k)[m]!).length->(((xP s t k)[m]!)[a]!).toNat=(((xP s t k)[m]!)[b]!).toNat->a=b:=fun a b ha P5 e=>(rules_inj (show m<_ by omega) (show m<_ by omega) ha P5 e).2
  refine⟨by rw[setAll_len];exact h1,fun i hi=>?_,fun r hr iQ=>?_⟩
  ·by_cases e:i=m
   ·subst e
    exact⟨y,hy,fun j hj=>setTo_eq hn hb hj⟩
   ·obtain⟨y',hy',h4⟩:=h2 i qf
    refine⟨y',hy',fun j hj=>?_⟩
    rw[←h4 j hj]
    exact setTo_ne (fun a ha e'=>e (rules_inj (show m<_ by omega) (show i<_ by omega) ha hj e').1.symm) hb
  ·rw[←h3 r hr fun i hi j hj=>iQ i qf j hj]
   exact setTo_ne (fun a ha=>iQ m qf a ha) hb
theorem cellT_mem(hi:i<s.qB.length)(ha:Appl s t i)(hc:(s.qB[i]!).qY=(c:Int)):(i:Int)∈vW s t c:=by
 unfold vW cellT
 exact List.mem_filter.2 ⟨mem_applL.2 ⟨by omega,by simpa using hi,by simpa using ha⟩,by rw[Int.toNat_natCast];exact decide_eq_true hc⟩
theorem cell_live(hk:c<k)(h:¬(vW s t c).length=0):∃i,i<(xP s t k).length/\(xP s t k)[i]! =vW s t c/\(zI s t k)[i]! =(cellP s t c).1:=by
 have hm:c∈VK s t k:=List.mem_filter.2 ⟨List.mem_range.2 hk,decide_eq_true h⟩
 obtain⟨i,hi,e⟩:=List.mem_iff_getElem.1 hm
 refine⟨i,by simpa [xP] using hi,?_,?_⟩
 ·rw[getElem!_pos _ i<|by simpa [xP] using hi];simp[xP,e]
 ·rw[getElem!_pos _ i<|by simpa [zI] using hi];simp[zI,e]
theorem says_choice(hs:vz s)(ht:xK s t){x:yLI}(h:Says s t s.qA.length (xP s t s.qA.length).length x):CntOk s x/\IsCh s t x:=by
 obtain⟨h1,h2,h3⟩:=h
 have hB:=ht.2.1
 -- a packing of a cell
 have cell:∀c,c<s.qA.length->¬(vW s t c).length=0->∃y,y.length=(vW s t c).length/\(∀v∈y,0<=v/\v<=1000)/\(∀j,j<(vW s t c).length->x[((vW s t c)[j]!).toNat]! =y[j]!)/\∀q,q<yE s->0<=(t.qQ[c]!)[q]!-dotP y (vY s<|vW s t c) q:=fun c hc hr=>by
  obtain⟨i,hi,e1,e2⟩:=cell_live (s:=s) (t:=t) hc hr
  obtain⟨y,hy,h4⟩:=h2 i hi
  rw[e1] at h4
  rw[e2] at hy
  unfold cellP at hy
  rcases all_cases (b:=t.qQ[c]!) (ad:=vY s<|vW s t c) with h5|⟨_,h5,_⟩
  ·rw[h5] at hy;simp at hy
  ·rw[h5] at hy
   have h6:=packs_mem (cell_parts (t:=t) hs c) _ 0 _ y (Nat.zero_add _) (cell_rest ht qf) hy
   exact⟨y,(packs_len hy).trans<|Q7 _ _,h6.1,h4,h6.2⟩
 have at':∀i,i<s.qB.length->(x[i]! =0\/Appl s t i)/\0<=x[i]! /\x[i]! <=1000:=fun i hi=>by
  by_cases hex:∃a b,a<(xP s t s.qA.length).length/\b<((xP s t s.qA.length)[a]!).length/\(((xP s t s.qA.length)[a]!)[b]!).toNat=i
  ·obtain⟨a,b,ha,hb,e⟩:=hex
   obtain⟨c,hc,hr,e1,_⟩:=live_at ha
   rw[e1] at hb e
   obtain⟨y,hl,hv,hx,_⟩:=cell c hc hr
   have h5:=cellR_at hb
   have h6:=hx b hb
   rw[e] at h5 h6
   have h7:=hv (y[b]!)<|by rw[getElem!_pos y b qf];exact List.getElem_mem _
   rw[h6]
   exact⟨.inr h5.2.2.1,h7⟩
  ·have h5:=h3 i hi fun a ha b hb e=>hex ⟨a,b,ha,hb,e⟩
   rw[h5]
   exact⟨.inl rfl,by omega,by omega⟩
 have hc:CntOk s x:=⟨h1,fun i hi=>(at' i qf).2⟩
 refine⟨hc,fun i hi hb=>?_,fun p hp q hq=>?_⟩
 ·rcases(at' i qf).1 with h5|h5
  ·have:=hb.1;omega
  ·exact hb.2 h5
 ·rw[h1] at hq ⊢
  have he:=restR_ent hs ht hc s.qB.length<|Nat.le_refl _
  have hl:((yB s t x s.qB.length)[p]!).length=yE s:=(he.sh.2 p<|by unfold jK;omega).1
  have heq:=he.eq p q (by unfold jK;omega) qf
  rw[heq]
  have hn:=needS_cell (t:=t) (x:=x) (c:=p) (q:=q) hs s.qB.length (Nat.le_refl _) fun i hi _ ha=>((at' i hi).1).resolve_right ha
  rw[hn]
  have azB:=(cell_rest (s:=s) ht hp).2 q qf
  by_cases hr:(vW s t p).length=0
  ·show 0<=(t.qQ[p]!)[q]! + -(X9 s x q<|vW s t p)
   rw[List.eq_nil_of_length_eq_zero hr]
   simp only[X9];omega
  ·obtain⟨y,hy,_,hx,hd⟩:=cell p qf hr
   have h6:=hd q qf
   rw[←sumOver_dot hy hx] at h6
   show 0<=(t.qQ[p]!)[q]! + -(X9 s x q<|vW s t p)
   omega
theorem cho_ok(hs:vz s)(ht:xK s t)(hk:k<(zK s t).1.length):CntOk s ((zK s t).1[k]!)/\IsCh s t ((zK s t).1[k]!):=by
 have hm:(zK s t).1[k]! ∈(zK s t).1:=mem_at_L hk
 generalize (zK s t).1[k]! =x at hm
 unfold zK at hm
 split at hm
 ·simp at hm
 ·split at hm
  ·simp at hm
  ·have hx:x∈inOrder (Qm s.qB.length (xP s t s.qA.length) (zI s t s.qA.length) (zI s t s.qA.length).length):=hm
   unfold inOrder at hx
   have Ky:=packsL_le s t s.qA.length
   split at hx
   ·next h=>exact says_choice hs ht<|by rw[←Ky];exact prodG_says _ qf x ((Classical.choose_spec h).1.symm.subset hx)
   ·exact says_choice hs ht<|by rw[←Ky];exact prodG_says _ qf x hx
theorem halt_cells(h:Halted s t)(c:Nat):(vW s t c).length=0:=by
 have h1:=Qy.2 h
 have h2:(vW s t c).length<=(appls s t).length:=List.length_filter_le _ _
 omega
theorem halt_live{s:qH}{t:qG}(h:Halted s t):∀k,zI s t k=[]
 |0=>rfl
 |k+1=>by rw[←packsL_no<|halt_cells h k];exact halt_live h k
theorem halt_cho(h:Halted s t):(zK s t).2=0:=by
 unfold zK
 rw[if_neg<|fun h'=>h' fun c _=>.inl<|halt_cells h c,halt_live h,if_neg<|by show ¬1>300;omega]
open Classical in
noncomputable def qW(s:qH)(t:qG):List qG×Int:=if Halted s t then ([],0) else if (zK s t).2≠0 then ([],(zK s t).2) else Q5 s t (zK s t).1
theorem succ_h(h:Halted s t):qW s t=([],0):=by rw[qW,if_pos h]
theorem succ_c(h:(zK s t).2≠0):qW s t=([],(zK s t).2):=by rw[qW,if_neg<|fun h'=>h<|halt_cho h',if_pos h]
theorem succ_0(h:¬Halted s t)(h1:(zK s t).2=0):qW s t=Q5 s t (zK s t).1:=by rw[qW,if_neg h,if_neg<|fun x=>x h1]
end
section
variable{qE qN qU xk qL : Nat}
theorem l03Succ_ok(w:World)(s:qH)(t:qG)(hs:jC w bs os (yS s qF qE qO qN))(xe:zP w xu qF qE s.qA)(xE:zP w xW qO qN s.qB)(ht:jC w bt ot (yT t qV qU xm xk qM qL))(xR:zP w zk qV qU t.qK)(zu:zP w zF xm xk t.qQ)(xB:zP w xJ qM qL t.qJ)(p0:vz s)(p1:xK s t):Calls Tryz.prog 61 #[pp bs os,pp bt ot] w (Ret (fun v w'=>∃(iI:yOA) (pJ:Nat) (iB:Nat) (re:List Value) (iP:yLN),v=.tuple #[Sv iI pJ iB,yI ((qW s t).2)]/\Fresh w.heap.size [iP]/\St w w' [rr iI pJ iB 31 3 re] [xG true iP re ((qW s t).1)]) w):=by
 refine en func61 ntmps61 ?_
 have H:=(((((((St.start w).arg xB).arg zu).arg xR).VF ht).arg xE).arg xe).VF hs
 clear hs xe xE ht xR zu xB
 have N:=Fresh.nil w.heap.size
 refine zcr<|sq 1<|sp (yI 0)<|zjcc<|sq 2<|sw<|oq (l03Halted_ok _ s t (qC (H.get 0 rfl) 0 3) (H.get 1 rfl).1 (H.get 2 rfl).1 (qC (H.get 3 rfl) 0 3) (H.get 4 rfl).1 (H.get 5 rfl).1 (H.get 6 rfl).1 qg qg) H fun w2 H=>zjn<|cP rfl (fun h4=>?_)<|fun h4=>?_
 ·refine zcr (sw<|ja H underlying38 ti31 fun b5 w6 H=>sq 1<|sp (yI 0)<|zjr<|t_r ?_)
  replace H:=H.boxRow 0 rfl 3 0 rfl qj
  replace H:=H.vP (α:=qG)
  replace H:St _ _ [rr (aa b5 0) 0 0 31 3 []] [xG true [] [] ([]:List qG),atF bs os<|yS s qF qE qO qN,sF false xu qF qE s.qA,sF false xW qO qN s.qB,atF bt ot<|yT t qV qU xm xk qM qL,sF false zk qV qU t.qK,sF false zF xm xk t.qQ,sF false xJ qM qL t.qJ]:=H
  refine ret2 (Sv (aa b5 0) 0 0) (yI 0) rfl rfl rfl ⟨_,rfl,?_,H.base⟩
  rw[succ_h<|by assumption]
  exact⟨(aa b5 0),0,0,[],[],rfl,N.emp,H.pick [0] [0]⟩
 refine qZ<|t_n<|zcr<|sq 2 ?_
 have apw:=H.base.size
 refine sw<|oc (l03Choices_ok _ s t (qC (H.get 0 rfl) 0 3) (H.get 1 rfl).1 (H.get 2 rfl).1 (qC (H.get 3 rfl) 0 3) (H.get 4 rfl).1 (H.get 5 rfl).1 (H.get 6 rfl).1 qg qg) ?_
 rintro _ w8 ⟨anZ,aAZ,aoi,afb,ZQ,rfl,M,K⟩ _
 replace N:=N.merge apw qm M
 replace H:=H.merge K M
 obtain rfl:=H.xQ (α:=yLI) 0 rfl 0 rfl qj
 refine sq 5<|zjcc<|sq 1<|sp (Bv (((zK s t).2:Int) != 0))<|zjn<|zX (((zK s t).2:Int) != 0) rfl (fun dS=>?_)<|fun dS=>?_
 ·replace dS:=bne_iff_ne.1 dS
  refine zcr<|sw<|ja H underlying38 ti31 fun e9 uK H=>sq 3<|zjr<|t_r ?_
  replace H:=H.boxRow 0 rfl 3 0 rfl qj
  replace H:=H.vP (α:=qG)
  replace H:St _ _ [rr (aa e9 0) 0 0 31 3 [],rr anZ (((zK s t).1).length) aoi 24 1 afb] [xG true [] [] ([]:List qG),xG true ZQ afb ((zK s t).1),atF bs os<|yS s qF qE qO qN,sF false xu qF qE s.qA,sF false xW qO qN s.qB,atF bt ot<|yT t qV qU xm xk qM qL,sF false zk qV qU t.qK,sF false zF xm xk t.qQ,sF false xJ qM qL t.qJ]:=H
  refine ret2 (Sv (aa e9 0) 0 0) (yI ((zK s t).2)) rfl rfl rfl ⟨_,rfl,?_,H.base⟩
  rw[succ_c ‹_›]
  exact⟨(aa e9 0),0,0,[],[],rfl,(N.emp.pick [0]),H.pick [0] [0]⟩
 replace dS:=xA dS
 refine qZ<|t_n<|zcr<|sq 3 ?_
 obtain⟨G16,aAN,g8⟩:=H.QL (α:=yLI) 0 rfl 0 rfl qj
 have ln:=cho_len s t
 have cc:=fun q (hq:q<(zK s t).1.length)=>(cho_ok p0 p1 hq).1
 have ak0:=H.base.size
 have ap7:=H.ltN (L:=[ZQ]) [0]
 refine sw<|oc (l03Next_ok _ s t ((zK s t).1) (qC (H.get 1 rfl) 0 3) (H.get 2 rfl).1 (H.get 3 rfl).1 (qC (H.get 4 rfl) 0 3) (H.get 5 rfl).1 (H.get 6 rfl).1 (H.get 7 rfl).1 g8 qg qg qg qg) ?_
 rintro _ tr ⟨O0,atW,O3,ahK,abh,rfl,M,K⟩ _
 replace N:=N.merge ak0 ap7 M
 replace H:=H.merge K M
 obtain rfl:=H.xQ (α:=qG) 0 rfl 0 rfl qj
 refine sq 4<|zjr<|ret2 (Sv O0 (((Q5 s t ((zK s t).1)).1).length) O3) (yI ((Q5 s t ((zK s t).1)).2)) rfl rfl rfl ⟨_,rfl,?_,H.base⟩
 rw[succ_0 (by assumption) ql]
 exact⟨O0,((Q5 s t ((zK s t).1)).1).length,O3,ahK,abh,rfl,(N.pick [0]),H.pick [0] [0]⟩
theorem nextStates_ok(w:World)(s:qH)(t:qG)(xe:zP w xu qF qE s.qA)(xE:zP w xW qO qN s.qB)(xR:zP w zk qV qU t.qK)(zu:zP w zF xm xk t.qQ)(xB:zP w xJ qM qL t.qJ)(p0:vz s)(p1:xK s t):Calls Tryz.prog 62 #[.agg #[yI s.zf,Sv qF s.qA.length qE,Sv qO s.qB.length qN],.agg #[Sv qV t.qK.length qU,Sv xm t.qQ.length xk,Sv qM t.qJ.length qL]] w (Ret (fun v w'=>∃(iI:yOA) (pJ:Nat) (iB:Nat) (re:List Value) (iP:yLN),v=.tuple #[Sv iI pJ iB,yI ((qW s t).2)]/\Fresh w.heap.size [iP]/\St w w' [rr iI pJ iB 31 3 re] [xG true iP re ((qW s t).1)]) w):=by
 refine en func62 ntmps62 ?_
 have H:=(((((St.start w).arg xB).arg zu).arg xR).arg xE).arg xe
 clear xe xE xR zu xB
 have N:=Fresh.nil w.heap.size
 refine zcr<|sw<|zN H (yS s qF qE qO qN) fun b1 w2 H=>sw<|zN H (yT t qV qU xm xk qM qL) fun b3 w4 H=>sq 1<|sp (yI 0)<|zjc<|sw<|xy (yS s qF qE qO qN) isAgg27 sizeOf27 rfl (qC (H.cells 1 rfl) 0 3)<|sw<|xy (yT t qV qU xm xk qM qL) isAgg31 sizeOf31 rfl (qC (H.cells 0 rfl) 0 3) ?_
 have RE:=H.base.size
 refine sw<|oc (choices_ok _ s t (H.get 0 rfl).1 (H.get 1 rfl).1 (H.get 2 rfl).1 (H.get 3 rfl).1 (H.get 4 rfl).1 qg qg) ?_
 rintro _ w6 ⟨auk,at9,axv,awd,ak5,rfl,M,K⟩ _
 replace N:=N.merge RE qm M
 replace H:=H.merge K M
 obtain rfl:=H.xQ (α:=yLI) 0 rfl 0 rfl qj
 refine sq 5<|zjcc<|sq 1<|sp (Bv (((zK s t).2:Int) != 0))<|zjn<|zX (((zK s t).2:Int) != 0) rfl (fun aV=>?_)<|fun aV=>?_
 ·replace aV:=bne_iff_ne.1 aV
  refine zcr<|sq 3<|zjr<|t_r ?_
  replace H:=H.nilRow 31 3
  replace H:=H.vP (α:=qG)
  refine ret2 yN (yI ((zK s t).2)) rfl rfl rfl ⟨_,rfl,?_,H.base⟩
  rw[succ_c ‹_›]
  exact⟨none,0,0,[],[],rfl,(N.emp.pick [0]),H.pick [0] [0]⟩
 replace aV:=xA aV
 refine qZ<|t_n<|zcc<|sw<|xy (yS s qF qE qO qN) isAgg27 sizeOf27 rfl (qC (H.cells 2 rfl) 0 3)<|sw<|xy (yT t qV qU xm xk qM qL) isAgg31 sizeOf31 rfl (qC (H.cells 1 rfl) 0 3)<|sw<|oc (Xn _ s t (H.get 1 rfl).1 (H.get 2 rfl).1 (H.get 3 rfl).1 (H.get 4 rfl).1 (H.get 5 rfl).1 qg qg) ?_
 rintro _ xp ⟨md,Yx,mh,rfl,M,K⟩ _
 replace H:=H.merge K M
 obtain rfl:=H.jy 0 rfl
 refine oN rfl<|sp (Bv (((appls s t).length:Int) == 0))<|zjn<|cE rfl (fun g8=>?_)<|fun g8=>?_
 ·refine zcr (sq 1<|sp (yI 0)<|zjr<|t_r ?_)
  replace H:=H.nilRow 31 3
  replace H:=H.vP (α:=qG)
  refine ret2 yN (yI 0) rfl rfl rfl ⟨_,rfl,?_,H.base⟩
  rw[succ_h<|by exact Qy.1 qf]
  exact⟨none,0,0,[],[],rfl,(N.emp.pick [0]),H.pick [0] [0]⟩
 refine qZ<|t_n<|zcr<|sw<|xy (yS s qF qE qO qN) isAgg27 sizeOf27 rfl (qC (H.cells 3 rfl) 0 3)<|sw<|xy (yT t qV qU xm xk qM qL) isAgg31 sizeOf31 rfl (qC (H.cells 2 rfl) 0 3)<|sq 1 ?_
 obtain⟨G19,aut,rD⟩:=H.QL (α:=yLI) 1 rfl 0 rfl qj
 have ln:=cho_len s t
 have cc:=fun q (hq:q<(zK s t).1.length)=>(cho_ok p0 p1 hq).1
 have ci:=fun q (hq:q<(zK s t).1.length)=>(cho_ok p0 p1 hq).2
 have akH:=H.base.size
 have apq:=H.ltN (L:=[ak5]) [0]
 refine sw<|oc (behind_ok _ s t ((zK s t).1) (H.get 1 rfl).1 (H.get 2 rfl).1 (H.get 3 rfl).1 (H.get 4 rfl).1 (H.get 5 rfl).1 rD qg qg qg qg qg) ?_
 rintro _ Cz ⟨Pb,arX,Pp,Y4,Zh,rfl,M,K⟩ _
 replace N:=N.merge akH apq M
 replace H:=H.merge K M
 obtain rfl:=H.xQ (α:=qG) 0 rfl 0 rfl qj
 refine sq 4<|zjr<|ret2 (Sv Pb (((Q5 s t ((zK s t).1)).1).length) Pp) (yI ((Q5 s t ((zK s t).1)).2)) rfl rfl rfl ⟨_,rfl,?_,H.base⟩
 rw[succ_0 (by(exact fun h=>by have:=Qy.2 h;omega)) ql]
 exact⟨Pb,((Q5 s t ((zK s t).1)).1).length,Pp,Y4,Zh,rfl,(N.pick [0]),H.pick [0] [0]⟩
end
section
theorem nextTo_ok{s:qH}{t:qG}{cs:yLL}:∀ {k:Nat},NoBad s t cs k->∀u∈yV s t cs k,xK s u
 |0,_,u,hu=>by simp[yV] at hu
 |k+1,h,u,hu=>by
  have ih:=nextTo_ok (s:=s) (t:=t) (cs:=cs) (k:=k) fun j hj=>h j qf
  rw[yV] at hu
  split at hu
  ·exact ih u hu
  ·rcases List.mem_append.1 hu with h1|h1
   ·exact ih u h1
   ·obtain rfl:=List.mem_singleton.1 h1
    exact stepBy_ok<|Classical.byContradiction fun hc=>h k qf hc
theorem succ_ok:∀u∈(qW s t).1,xK s u:=fun u hu=>by
 rw[qW] at hu
 split at hu
 ·simp at hu
 ·split at hu
  ·simp at hu
  ·rw[Q5] at hu
   split at hu
   ·next h=>exact nextTo_ok h u hu
   ·simp at hu
theorem least_of{g:Nat->Bool}:∀k,g k=true->∃m,m<=k/\g m=true/\∀j,j<m->g j=false:=fun k=>Nat.strongRecOn k fun k ih h=>by
 by_cases hx:∃j,j<k/\g j=true
 ·obtain⟨j,hj,h1⟩:=hx
  obtain⟨m,a,b,c⟩:=ih j hj h1
  exact⟨m,by omega,b,c⟩
 ·exact⟨k,Nat.le_refl _,h,fun j hj=>by
   cases e:g j with
   |false=>rfl
   |true=>exact absurd ⟨j,hj,e⟩ hx⟩
theorem firstIdx_lt{g:Nat->Bool}(h:0<=firstIdx g n):(firstIdx g n).toNat<n:=by
 by_cases hx:∃k,k<n/\g k=true
 ·obtain⟨k,hk,h1⟩:=hx
  obtain⟨m,a,b,c⟩:=least_of k h1
  rw[Xj (show m<n by omega) c b];omega
 ·rw[firstIdx_none (fun j hj=>by
   cases e:g j with
   |false=>rfl
   |true=>exact absurd ⟨j,hj,e⟩ hx)] at h
  omega
def vC(S nx:List qG):Nat->List qG×yLI
 |0=>(S,[])
 |k+1=>if firstIdx (fun j=>decide ((vC S nx k).1[j]! =nx[k]!)) (vC S nx k).1.length<0 then ((vC S nx k).1++[nx[k]!],(vC S nx k).2++[((vC S nx k).1.length:Int)])
  else ((vC S nx k).1,(vC S nx k).2++[firstIdx (fun j=>decide ((vC S nx k).1[j]! =nx[k]!)) (vC S nx k).1.length])
theorem Qi(h:firstIdx (fun j=>decide ((vC S nx k).1[j]! =nx[k]!)) (vC S nx k).1.length<0):
 (vC S nx k).1++[nx[k]!]=(vC S nx<|k+1).1/\(vC S nx k).2++[((vC S nx k).1.length:Int)]=(vC S nx<|k+1).2:=by
 rw[vC,if_pos h];exact⟨rfl,rfl⟩
theorem Qh(h:¬firstIdx (fun j=>decide ((vC S nx k).1[j]! =nx[k]!)) (vC S nx k).1.length<0):
 (vC S nx k).1=(vC S nx<|k+1).1/\(vC S nx k).2++[firstIdx (fun j=>decide ((vC S nx k).1[j]! =nx[k]!)) (vC S nx k).1.length]=(vC S nx<|k+1).2:=by
 rw[vC,if_neg h];exact⟨rfl,rfl⟩
theorem Xp{S nx:List qG}:∀k,S.length<=(vC S nx k).1.length/\(vC S nx k).1.length<=S.length+k/\(vC S nx k).2.length=k
 |0=>⟨Nat.le_refl _,Nat.le_refl _,rfl⟩
 |k+1=>by
  have h:=Xp (S:=S) (nx:=nx) k
  rw[vC]
  split <;> simp only[List.length_append,List.length_cons,List.length_nil] <;> omega
theorem addSt_mem{S nx:List qG}{p:qG->Prop}(h1:∀u∈S,p u)(h2:∀u∈nx,p u):∀k,k<=nx.length->∀u∈(vC S nx k).1,p u
 |0,_,u,hu=>h1 u hu
 |k+1,hk,u,hu=>by
  have ih:=addSt_mem h1 h2 k qf
  rw[vC] at hu
  split at hu
  ·rcases List.mem_append.1 hu with h|h
   ·exact ih u h
   ·obtain rfl:=List.mem_singleton.1 h
    exact h2 _<|by rw[getElem!_pos nx k qf];exact List.getElem_mem _
  ·exact ih u hu
noncomputable def grGo(s:qH):Nat->Nat->List qG->yLL->(List qG×yLL)×Int
 |0,_,S,R=>((S,R),0)
 |f+1,i,S,R=>if S.length<=i then ((S,R),0) else if (qW s<|S[i]!).2≠0 then (([],[]),(qW s<|S[i]!).2)
  else if (vC S (qW s<|S[i]!).1 (qW s<|S[i]!).1.length).1.length>300 then (([],[]),3)
  else grGo s f (i+1) (vC S (qW s<|S[i]!).1 (qW s<|S[i]!).1.length).1 (R++[(vC S (qW s<|S[i]!).1 (qW s<|S[i]!).1.length).2])
noncomputable def Yf(s:qH)(t:qG):(List qG×yLL)×Int:=grGo s 302 0 [t] []
theorem gr_end(h:S.length<=i):grGo s f i S R=((S,R),0):=by
 cases f with
 |zero=>rfl
 |succ f=>rw[grGo,if_pos h]
theorem gr_code(hf:0<f)(h:i<S.length)(h1:(qW s<|S[i]!).2≠0):grGo s f i S R=(([],[]),(qW s<|S[i]!).2):=by
 obtain⟨f,rfl⟩:∃g,f=g+1:=⟨f-1,by omega⟩
 rw[grGo,if_neg qf,if_pos h1]
theorem gr_many(hf:0<f)(h:i<S.length)(h1:(qW s<|S[i]!).2=0)(hk:k=(qW s<|S[i]!).1.length)(h2:(vC S (qW s<|S[i]!).1 k).1.length>300):grGo s f i S R=(([],[]),3):=by
 obtain⟨f,rfl⟩:∃g,f=g+1:=⟨f-1,by omega⟩
 subst hk
 rw[grGo,if_neg qf,if_neg<|fun x=>x h1,if_pos h2]
theorem gr_go(hf:0<f)(h:i<S.length)(h1:(qW s<|S[i]!).2=0)(hk:k=(qW s<|S[i]!).1.length)(h2:¬(vC S (qW s<|S[i]!).1 k).1.length>300):
 grGo s f i S R=grGo s (f-1) (i+1) (vC S (qW s<|S[i]!).1 k).1 (R++[(vC S (qW s<|S[i]!).1 k).2]):=by
 obtain⟨f,rfl⟩:∃g,f=g+1:=⟨f-1,by omega⟩
 subst hk
 rw[grGo,if_neg qf,if_neg<|fun x=>x h1,if_neg h2]
 rfl
structure GrOk(S:List qG)(R:yLL):Prop where
 rows:∀i,i<R.length->∀k,k<(R[i]!).length->0<=(R[i]!)[k]! /\((R[i]!)[k]!).toNat<S.length
 lens:∀i,i<R.length->(R[i]!).length<=300
 from':∀j,0<j->j<S.length->∃i,i<R.length/\i<j/\∃k,k<(R[i]!).length/\(R[i]!)[k]! =(j:Int)
theorem addSt_rows{S nx:List qG}:∀k,(∀q,q<k->0<=(vC S nx k).2[q]! /\((vC S nx k).2[q]!).toNat<(vC S nx k).1.length)/\∀j,S.length<=j->j<(vC S nx k).1.length->∃q,q<k/\(vC S nx k).2[q]! =(j:Int)
 |0=>⟨fun q hq=>by omega,fun j h1 h2=>by have:j<S.length:=h2;omega⟩
 |k+1=>by
  obtain⟨h1,h2⟩:=addSt_rows (S:=S) (nx:=nx) k
  obtain⟨l1,l2,l3⟩:=Xp (S:=S) (nx:=nx) k
  have hg:∀(x:Int) q,q<k->((vC S nx k).2++[x])[q]! =(vC S nx k).2[q]! :=fun x q hq=>by
   rw[getElem!_pos _ q qy,getElem!_pos _ q qf,List.getElem_append_left]
  have hk:∀(x:Int),((vC S nx k).2++[x])[k]! =x:=fun x=>by
   rw[getElem!_pos _ k qy,List.getElem_append_right qf];simp[l3]
  rw[vC]
  split
  ·refine⟨fun q hq=>?_,fun j hj Fq=>?_⟩
   ·show 0<=((vC S nx k).2++[_])[q]! /\(((vC S nx k).2++[_])[q]!).toNat<((vC S nx k).1++[_]).length
    rw[List.length_append,List.length_singleton]
    by_cases e:q=k
    ·subst e;rw[hk];omega
    ·rw[hg _ q qf];have:=h1 q qf;omega
   ·have hj3:j<(vC S nx k).1.length+1:=by simpa using Fq
    by_cases e:j=(vC S nx k).1.length
    ·exact⟨k,by omega,by subst e;exact hk _⟩
    ·obtain⟨q,hq,e2⟩:=h2 j hj qf
     exact⟨q,by omega,by rw[←e2];exact hg _ q hq⟩
  ·next hn=>
   have hb:0<=firstIdx (fun j=>decide ((vC S nx k).1[j]! =nx[k]!)) (vC S nx k).1.length:=by omega
   have O4:(firstIdx (fun j=>decide ((vC S nx k).1[j]! =nx[k]!)) (vC S nx k).1.length).toNat<(vC S nx k).1.length:=firstIdx_lt hb
   refine⟨fun q hq=>?_,fun j hj Fq=>?_⟩
   ·show 0<=((vC S nx k).2++[_])[q]! /\(((vC S nx k).2++[_])[q]!).toNat<(vC S nx k).1.length
    by_cases e:q=k
    ·subst e;rw[hk];exact⟨hb,O4⟩
    ·rw[hg _ q qf];exact h1 q qf
   ·obtain⟨q,hq,e2⟩:=h2 j hj Fq
    exact⟨q,by omega,by rw[←e2];exact hg _ q hq⟩
theorem GrOk.start(t:qG):GrOk [t] []:=⟨fun i hi=>by simp at hi,fun i hi=>by simp at hi,fun j h1 h2=>by simp at h2;omega⟩
theorem GrOk.next(h:GrOk S R)(hR:R.length<S.length)(hk:k<=300):GrOk (vC S nx k).1 (R++[(vC S nx k).2]):=by
 obtain⟨h1,h2⟩:=addSt_rows (S:=S) (nx:=nx) k
 obtain⟨l1,l2,l3⟩:=Xp (S:=S) (nx:=nx) k
 have hg:∀i,i<R.length->(R++[(vC S nx k).2])[i]! =R[i]! :=fun i hi=>by
  rw[getElem!_pos _ i qy,getElem!_pos _ i hi,List.getElem_append_left]
 have he:(R++[(vC S nx k).2])[R.length]! =(vC S nx k).2:=by
  rw[getElem!_pos _ R.length qm];simp
 refine⟨fun i hi q hq=>?_,fun i hi=>?_,fun j hj Fq=>?_⟩
 ·rw[List.length_append,List.length_singleton] at hi
  by_cases e:i=R.length
  ·subst e;rw[he] at hq ⊢;exact h1 q qf
  ·rw[hg i qf] at hq ⊢;have:=h.rows i qf q hq;omega
 ·rw[List.length_append,List.length_singleton] at hi
  by_cases e:i=R.length
  ·subst e;rw[he];omega
  ·rw[hg i qf];exact h.lens i qf
 ·rw[List.length_append,List.length_singleton]
  by_cases e:j<S.length
  ·obtain⟨i,hi,Kr,q,hq,e2⟩:=h.from' j hj e
   exact⟨i,by omega,Kr,q,by rw[hg i hi];exact hq,by rw[hg i hi];exact e2⟩
  ·obtain⟨q,hq,e2⟩:=h2 j qf Fq
   exact⟨R.length,by omega,by omega,q,by rw[he];omega,by rw[he];exact e2⟩
def HaltIn(R:yLL):Nat->Nat->Prop
 |0,_=>False
 |f+1,i=>∀k,k<(R[i]!).length->HaltIn R f ((R[i]!)[k]!).toNat
def mxF(g:Nat->Int)(r:yLI):Nat->Int
 |0=>0
 |k+1=>max (mxF g r k)<|g ((r[k]!).toNat)+1
def dpN(R:yLL):Nat->Nat->Int
 |0,_=>0
 |f+1,i=>mxF (dpN R f) (R[i]!) (R[i]!).length
def Fi(R:yLL)(i:Nat)(d:Int):Prop:=∃f,HaltIn R f i/\dpN R f i=d
def Halts(R:yLL)(i:Nat):Prop:=∃f,HaltIn R f i
theorem mxF_congr{g g':Nat->Int}{r:yLI}:∀k:Nat,(∀q,q<k->g ((r[q]!).toNat)=g' ((r[q]!).toNat))->mxF g r k=mxF g' r k
 |0,_=>rfl
 |k+1,h=>by rw[mxF,mxF,mxF_congr k fun q hq=>h q qf,h k qf]
theorem haltIn_mono{R:yLL}:∀f i,HaltIn R f i->∀f',f<=f' ->HaltIn R f' i/\dpN R f' i=dpN R f i
 |0,_,h,_,_=>h.elim
 |f+1,i,h,f',hf=>by
  obtain⟨f',rfl⟩:∃x,f'=x+1:=⟨f'-1,by omega⟩
  exact⟨fun k hk=>(haltIn_mono f _ (h k hk) f' qf).1,mxF_congr _ fun q hq=>(haltIn_mono f _ (h q hq) f' qf).2⟩
theorem Fi.same{d':Int}(h:Fi R i d)(h':Fi R i d'):d=d':=by
 obtain⟨f,h1,rfl⟩:=h
 obtain⟨f',h2,rfl⟩:=h'
 by_cases hx:f<=f'
 ·exact(haltIn_mono f i h1 f' hx).2.symm
 ·exact(haltIn_mono f' i h2 f qf).2
theorem Fi.halts(h:Fi R i d):Halts R i:=⟨h.choose,h.choose_spec.1⟩
theorem fi_all{R:yLL}{g:Nat->Int}{r:yLI}:∀k:Nat,(∀q,q<k->Fi R ((r[q]!).toNat) (g ((r[q]!).toNat)))->∃f,∀q,q<k->HaltIn R f ((r[q]!).toNat)/\dpN R f ((r[q]!).toNat)=g ((r[q]!).toNat)
 |0,_=>⟨0,fun q hq=>by omega⟩
 |k+1,h=>by
  obtain⟨f,hf⟩:=fi_all k fun q hq=>h q qf
  obtain⟨f',h1,h2⟩:=h k qf
  refine⟨max f f',fun q hq=>?_⟩
  by_cases e:q=k
  ·subst e
   obtain⟨a,b⟩:=haltIn_mono f' _ h1 (max f f')<|Nat.le_max_right ..
   exact⟨a,b.trans h2⟩
  ·obtain⟨c,d⟩:=hf q qf
   obtain⟨a,b⟩:=haltIn_mono f _ c (max f f')<|Nat.le_max_left ..
   exact⟨a,b.trans d⟩
theorem fi_step{g:Nat->Int}(h:∀q,q<(R[i]!).length->Fi R (((R[i]!)[q]!).toNat) (g (((R[i]!)[q]!).toNat))):Fi R i (mxF g (R[i]!) (R[i]!).length):=by
 obtain⟨f,hf⟩:=fi_all _ h
 exact⟨f+1,fun k hk=>(hf k hk).1,mxF_congr _ fun q hq=>(hf q hq).2⟩
theorem not_halt{p:Nat->Prop}(h:∀j,p j->∃k,k<(R[j]!).length/\p (((R[j]!)[k]!).toNat))(hi:p i):¬Halts R i:=by
 rintro⟨f,hf⟩
 induction f generalizing i with
 |zero=>exact hf
 |succ f ih=>
  obtain⟨k,hk,hp⟩:=h i hi
  exact ih hp<|hf k hk
theorem Halts.go(h:Halts R i)(hk:k<(R[i]!).length):Halts R (((R[i]!)[k]!).toNat):=by
 obtain⟨f,hf⟩:=h
 cases f with
 |zero=>exact hf.elim
 |succ f=>exact⟨f,hf k hk⟩
theorem halts_all(h:GrOk S R)(h0:Halts R 0):∀j,j<S.length->Halts R j:=fun j=>Nat.strongRecOn j fun j ih hj=>by
 by_cases e:j=0
 ·subst e;exact h0
 ·obtain⟨i,h1,h2,k,hk,he⟩:=h.from' j qf hj
  have:=(ih i h2 qf).go hk
  rwa [he] at this
structure LayI(R:yLL)(D:yLI)(O:List Bool)(left:Int):Prop where
 dl:D.length=R.length
 ol:O.length=R.length
 fi:∀j,j<R.length->O[j]! =true->Fi R j (D[j]!)
 nn:∀j,j<R.length->0<=D[j]! /\D[j]! <=R.length-left
 lf:left=R.length-(O.count true:Int)
theorem repAt1{α:Type}[Inhabited α]{a:α}(h:j<n):(List.replicate n a)[j]! =a:=by rw[getElem!_pos _ j<|by simpa using h];simp
theorem LayI.start(R:yLL):LayI R (List.replicate R.length 0) (List.replicate R.length false) R.length:=
 ⟨by simp,by simp,fun j hj h=>by rw[repAt1 hj] at h;exact absurd h qj,fun j hj=>by rw[repAt1 hj];omega,by simp[List.count_replicate]⟩
theorem mxF_le{g:Nat->Int}{r:yLI}{m:Int}(hm:0<=m):∀k:Nat,(∀q,q<k->g ((r[q]!).toNat)+1<=m)->0<=mxF g r k/\mxF g r k<=m
 |0,_=>⟨Int.le_refl _,hm⟩
 |k+1,h=>by
  have h1:=mxF_le hm k fun q hq=>h q qf
  have h2:=h k qf
  rw[mxF];omega
theorem count_set:∀ {i:Nat},i<O.length->O[i]! =false->(O.set i true).count true=O.count true+1:=by
 induction O with
 |nil=>intro i h;simp at h
 |cons a O ih=>
  intro i h h1
  cases i with
  |zero=>simp at h1;subst h1;simp
  |succ i=>
   have:=ih (i:=i) (by simpa using h)<|by simpa using h1
   rw[List.set_cons_succ,List.count_cons,List.count_cons,this];omega
theorem setAt1{α:Type}[Inhabited α]{l:List α}{a:α}(h:j<l.length):(l.set i a)[j]! =if i=j then a else l[j]! :=by
 rw[getElem!_pos _ j<|by simpa using h,List.getElem_set,getElem!_pos l j h]
theorem LayI.set{R:yLL}{D:yLI}{O:List Bool}{left:Int}(h:LayI R D O left){i:Nat}(hi:i<R.length)(h1:O[i]! =false)(hr:∀k,k<(R[i]!).length->(((R[i]!)[k]!).toNat)<R.length)
 (ha:∀k,k<(R[i]!).length->O[((R[i]!)[k]!).toNat]! =true) {m:Nat} (hm:m=(R[i]!).length):LayI R (D.set i<|mxF (fun j=>D[j]!) (R[i]!) m) (O.set i true) (left-1):=by
 subst hm
 have hb:=mxF_le (g:=fun j=>D[j]!) (r:=R[i]!) (m:=(R.length:Int)-(left-1)) (by have:=h.nn i hi;omega) (R[i]!).length fun q hq=>by have:=h.nn _ (hr q hq);show D[_]! +1<=_;omega
 refine⟨by simp[h.dl],by simp[h.ol],fun j hj ho=>?_,fun j hj=>?_,?_⟩
 ·rw[setAt1<|by rw[h.dl];exact hj]
  by_cases e:i=j
  ·subst e;rw[if_pos rfl];exact fi_step fun q hq=>h.fi _ (hr q hq)<|ha q hq
  ·rw[if_neg e];rw[setAt1<|by rw[h.ol];exact hj,if_neg e] at ho;exact h.fi j hj ho
 ·rw[setAt1<|by rw[h.dl];exact hj]
  by_cases e:i=j
  ·rw[if_pos e];exact hb
  ·rw[if_neg e];have:=h.nn j hj;omega
 ·rw[count_set (by rw[h.ol];exact hi) h1];have:=h.lf;omega
theorem count_lt:O.count true<O.length->∃j,j<O.length/\O[j]! =false:=by
 induction O with
 |nil=>intro h;simp at h
 |cons a O ih=>
  intro h
  cases a with
  |false=>exact⟨0,by simp,rfl⟩
  |true=>
   rw[List.count_cons_self,List.length_cons] at h
   obtain⟨j,h1,h2⟩:=ih qf
   exact⟨j+1,by simpa using h1,by simpa using h2⟩
theorem count_all(h:O.length<=O.count true):∀j,j<O.length->O[j]! =true:=fun j hj=>by
 cases e:O[j]! with
 |true=>rfl
 |false=>have:=count_set hj e;have h2:=List.count_le_length (a:=true) (l:=O.set j true);rw[List.length_set] at h2;omega
def rdTo(O:List Bool)(r:yLI):Nat->Bool
 |0=>true
 |k+1=>rdTo O r k && O[(r[k]!).toNat]!
theorem rdTo_true{O:List Bool}{r:yLI}:∀ {k:Nat},rdTo O r k=true->∀q,q<k->O[(r[q]!).toNat]! =true
 |0,_,q,hq=>by omega
 |k+1,h,q,hq=>by
  rw[rdTo,Bool.and_eq_true] at h
  by_cases e:q=k
  ·subst e;exact h.2
  ·exact rdTo_true h.1 q qf
theorem rdTo_false{O:List Bool}{r:yLI}:∀ {k:Nat},rdTo O r k=false->∃q,q<k/\O[(r[q]!).toNat]! =false
 |0,h=>by cases h
 |k+1,h=>by
  rw[rdTo,Bool.and_eq_false_iff] at h
  rcases h with h|h
  ·obtain⟨q,h1,h2⟩:=rdTo_false h;exact⟨q,by omega,h2⟩
  ·exact⟨k,by omega,h⟩
def NoneR(R:yLL)(O:List Bool)(i:Nat):Prop:=∀j,j<i->O[j]! =false->∃k,k<(R[j]!).length/\O[((R[j]!)[k]!).toNat]! =false
theorem NoneR.succ(h:NoneR R O i)(h1:O[i]! =true\/∃k,k<(R[i]!).length/\O[((R[i]!)[k]!).toNat]! =false):NoneR R O (i+1):=fun j hj ho=>by
 by_cases e:j=i
 ·subst e
  rcases h1 with h1|h1
  ·rw[h1] at ho;cases ho
  ·exact h1
 ·exact h j qf ho
theorem lay_end{S:List qG}(h:LayI R D O left)(h1:left<=0)(h0:0<R.length):Fi R 0 (D[0]!):=
 h.fi 0 h0 (count_all (by have:=h.lf;rw[h.ol];omega) 0<|by rw[h.ol];exact h0)
theorem lay_not(h:LayI R D O left)(h1:0<left)(g:GrOk S R)(hl:R.length=S.length)(hn:NoneR R O R.length):¬Halts R 0:=fun h0=>by
 obtain⟨j,hj,ho⟩:=count_lt (O:=O) (by have:=h.lf;rw[h.ol];omega)
 rw[h.ol] at hj
 refine not_halt (p:=fun j=>j<R.length/\O[j]! =false) (fun j ⟨a,b⟩=>?_) ⟨hj,ho⟩<|halts_all g h0 j qf
 obtain⟨k,hk,hf⟩:=hn j a b
 exact⟨k,hk,by have:=(g.rows j a k hk).2;omega,hf⟩
open Classical in
noncomputable def Qn(s:qH)(t:qG):Bool×Int:=if vz s/\xK s t then (if (Yf s t).2=0 then (dec<|Halts (Yf s t).1.2 0,0) else (false,(Yf s t).2)) else (false,1)
open Classical in
noncomputable def lonD(R:yLL):Int:=if h:∃d,Fi R 0 d then h.choose else 0
open Classical in
theorem lonD_of(h:Fi R 0 d):lonD R=d:=by
 have hx:∃d,Fi R 0 d:=⟨d,h⟩
 rw[lonD,dif_pos hx];exact hx.choose_spec.same h
open Classical in
noncomputable def QD(s:qH)(t:qG):Int×Int:=if vz s/\xK s t then (if (Yf s t).2=0 then (if Halts (Yf s t).1.2 0 then (lonD (Yf s t).1.2,0) else (0,4)) else (0,(Yf s t).2)) else (0,1)
theorem ah_1(h:¬(vz s/\xK s t)):Qn s t=(false,1):=by rw[Qn,if_neg h]
theorem ah_c(h:vz s/\xK s t){x:(List qG×yLL)×Int}{c:Int}(h1:Yf s t=x)(hc:x.2=c)(h2:c≠0):Qn s t=(false,c):=by subst hc h1;rw[Qn,if_pos h,if_neg h2]
theorem ah_y(h:vz s/\xK s t)(h1:Yf s t=((S,R),0))(h2:Fi R 0 d):Qn s t=(true,0):=by rw[Qn,if_pos h,if_pos<|by rw[h1],h1];rw[jP h2.halts]
theorem ah_n(h:vz s/\xK s t)(h1:Yf s t=((S,R),0))(h2:¬Halts R 0):Qn s t=(false,0):=by rw[Qn,if_pos h,if_pos<|by rw[h1],h1];rw[xw h2]
theorem succ_len(s:qH)(t:qG):(qW s t).1.length<=300:=by
 rw[qW]
 split
 ·simp
 ·split
  ·simp
  ·have:=cho_len s t
   rw[Q5]
   split
   ·have:=nextTo_len (s:=s) (t:=t) (cs:=(zK s t).1) (zK s t).1.length;show (yV ..).length<=_;omega
   ·simp
end
end Go.Proofs.YtdhklgjmiamiaaaGreat
