/- Walks and laws, printed by program and by hand: what each function comes to, for all arguments, part 3. -/
import Derived.Test.YtcpnclokildllaaGreatA2
import Derived.Shelf.SlSortCmp.Whole1
import Derived.Ground.SlsfProg
namespace Go.Proofs.YtcpnclokildllaaGreat
open Go.Proofs.Tryz
set_option linter.unusedVariables false
set_option linter.unusedSimpArgs false
open Go.Proofs.YtcpnclokildllaaGreat.Tot (tot)
open Go.Proofs.YtcpnclokildllaaGreat.Mark (cnt mrk mkd mkd_mark cnt_mark)
section
open Go.RowKit Go.Shelf Go.Lib Go.Sort
def cmpL:yLI→yLI→Int
  | [],[]=>0
  | [],_ :: _=> -1
  | _ :: _,[]=>1
  | x :: a,y :: b=>if x < y then -1 else if y < x then 1 else cmpL a b
theorem cmpL_refl:∀ a,cmpL a a=0
  | []=>rfl
  | x :: a=>by rw [cmpL,if_neg (Int.lt_irrefl x),if_neg (Int.lt_irrefl x),cmpL_refl a]
theorem cmpL_trans:∀ {a b c:yLI},cmpL a b < 0→cmpL b c < 0→cmpL a c < 0
  | [],[],_,h,_=>by simp [cmpL] at h
  | [],_ :: _,[],_,h=>by simp [cmpL] at h
  | [],_ :: _,_ :: _,_,_=>by simp [cmpL]
  | _ :: _,[],_,h,_=>by simp [cmpL] at h
  | _ :: _,_ :: _,[],_,h=>by simp [cmpL] at h
  | x :: a,y :: b,z :: c,h1,h2=>by
    rw [cmpL] at h1 h2 ⊢
    by_cases e1:x < y
    · by_cases e2:y < z
      · rw [if_pos qf];omega
      · rw [if_neg e2] at h2
        by_cases e3:z < y
        · rw [if_pos e3] at h2;omega
        · rw [if_pos qf];omega
    · rw [if_neg e1] at h1
      by_cases e2:y < x
      · rw [if_pos e2] at h1;omega
      · rw [if_neg e2] at h1
        by_cases e3:y < z
        · rw [if_pos qf];omega
        · rw [if_neg e3] at h2
          by_cases e4:z < y
          · rw [if_pos e4] at h2;omega
          · rw [if_neg e4] at h2
            rw [if_neg qf,if_neg qf]
            exact cmpL_trans h1 h2
theorem cmpL_ntrans:∀ {a b c:yLI},¬ cmpL a b < 0→¬ cmpL b c < 0→¬ cmpL a c < 0
  | [],[],[],_,_=>by simp [cmpL]
  | _ :: _,_,[],_,_=>by simp [cmpL]
  | [],_ :: _,_,h,_=>by simp [cmpL] at h
  | _,[],_ :: _,_,h=>by simp [cmpL] at h
  | x :: a,y :: b,z :: c,h1,h2=>by
    rw [cmpL] at h1 h2 ⊢
    by_cases e1:x < y
    · rw [if_pos e1] at h1;omega
    · rw [if_neg e1] at h1
      by_cases e2:y < z
      · rw [if_pos e2] at h2;omega
      · rw [if_neg e2] at h2
        rw [if_neg qf]
        by_cases e3:z < x
        · rw [if_pos e3];omega
        · rw [if_neg e3]
          have ey:¬ y < x:=by omega
          have ez:¬ z < y:=by omega
          rw [if_neg ey] at h1
          rw [if_neg ez] at h2
          exact cmpL_ntrans h1 h2
theorem drop_cons {l:yLI} {i:Nat} (h:i < l.length):l.drop i=l[i]! :: l.drop (i+1):=by
  rw [getElem!_pos l i h];exact (List.drop_eq_getElem_cons h)
theorem cmp_a {a b:yLI} {i:Nat} (h:i < a.length) (h1:b.length≤i):cmpL (a.drop i) (b.drop i)=1:=by rw [drop_cons h,List.drop_eq_nil_of_le h1,cmpL]
theorem cmp_b {a b:yLI} {i:Nat} (h:a.length≤i) (h1:i < b.length):cmpL (a.drop i) (b.drop i)= -1:=by rw [drop_cons h1,List.drop_eq_nil_of_le h,cmpL]
theorem cmp_c {a b:yLI} {i:Nat} (h:a.length≤i) (h1:b.length≤i):cmpL (a.drop i) (b.drop i)=0:=by rw [List.drop_eq_nil_of_le h,List.drop_eq_nil_of_le h1,cmpL]
theorem cmp_d {a b:yLI} {i:Nat} (h:i < a.length) (h1:i < b.length) (h2:a[i]! < b[i]!):cmpL (a.drop i) (b.drop i)= -1:=by rw [drop_cons h,drop_cons h1,cmpL,if_pos h2]
theorem cmp_e {a b:yLI} {i:Nat} (h:i < a.length) (h1:i < b.length) (h2:a[i]! > b[i]!):cmpL (a.drop i) (b.drop i)=1:=by rw [drop_cons h,drop_cons h1,cmpL,if_neg qf,if_pos h2]
theorem cmp_f {a b:yLI} {i:Nat} (h:i < a.length) (h1:i < b.length) (h2:¬ a[i]! < b[i]!) (h3:¬ a[i]! > b[i]!):cmpL (a.drop i) (b.drop i)=cmpL (a.drop (i+1)) (b.drop (i+1)):=by rw [drop_cons h,drop_cons h1,cmpL,if_neg h2,if_neg h3]
theorem cmpL_ahead:∀ {a b:yLI},a.length=b.length→(cmpL a b < 0↔ahead a b)
  | [],[],_=>⟨fun h=>by simp [cmpL] at h,fun ⟨i,h,_⟩=>by simp at h⟩
  | x :: a,[],h=>by simp at h
  | [],y :: b,h=>by simp at h
  | x :: a,y :: b,h=>by
    have ih:=cmpL_ahead (a:=a) (b:=b) (by simpa using h)
    rw [cmpL]
    constructor
    · intro h1
      by_cases e:x < y
      · exact ⟨0,by simp,fun j hj=>by omega,by simpa using e⟩
      · rw [if_neg e] at h1
        by_cases e2:y < x
        · rw [if_pos e2] at h1;omega
        · rw [if_neg e2] at h1
          obtain ⟨i,h2,h3,h4⟩:=ih.1 h1
          refine ⟨i+1,by simp;omega,fun j hj=>?_,by simpa using h4⟩
          cases j with
          | zero=>simp;omega
          | succ j=>simpa using h3 j qf
    · rintro ⟨i,h2,h3,h4⟩
      cases i with
      | zero=>rw [if_pos (by simpa using h4)];omega
      | succ i=>
        have h0:=h3 0 qf
        simp only [List.getElem!_cons_zero] at h0
        rw [if_neg qf,if_neg qf]
        exact ih.2 ⟨i,by simpa using h2,fun j hj=>by simpa using h3 (j+1) qf,by simpa using h4⟩

section
variable {W0 w : World} {ps : List Prv} {Γ : List Fact}
theorem sw_block {α:Type} [Inhabited α] {enc:α→Value} {blk m:Nat} {d:Array α} {os:Array Obj} {k:Nat} (hk:k < w.heap.size) (hne:k≠blk):(sortWorld enc w blk 0 m d os).heap[k]? =w.heap[k]? :=by
  unfold sortWorld putRow mapBlock grow
  show ((Sort.ahead w m).heap.modify blk _++os)[k]? =_
  have hs:((Sort.ahead w m).heap.modify blk (onCells (putCells enc 0 d))).size=w.heap.size:=by rw [Array.size_modify];rfl
  rw [Array.getElem?_append_left (by rw [hs];exact hk),Array.getElem?_modify,if_neg (Ne.symm hne)]
  rfl
theorem sw_row {α:Type} [Inhabited α] {enc:α→Value} {blk m:Nat} {d:Array α} {os:Array Obj} {cur:Array Value} {e:TypeId} (h:w.heap[blk]? =some (.cells cur e (0,0))):(sortWorld enc w blk 0 m d os).heap[blk]? =some (.cells (putCells enc 0 d cur) e (0,0)):=by
  have hk:blk < w.heap.size:=(Array.getElem?_eq_some_iff.1 h).1
  unfold sortWorld putRow mapBlock grow
  show ((Sort.ahead w m).heap.modify blk _++os)[blk]? =_
  have hs:((Sort.ahead w m).heap.modify blk (onCells (putCells enc 0 d))).size=w.heap.size:=by rw [Array.size_modify];rfl
  rw [Array.getElem?_append_left (by rw [hs];exact hk),Array.getElem?_modify,if_pos rfl]
  show (w.heap[blk]?).map _=_
  rw [h]
  rfl
theorem sortRow {P:Program} {ρ:Ren} (L:SlLaysF.n6 P ρ) {g:Nat} (eg:∀ args w,(callFunc g args).run P w=.ok (.enter g args) w)
    (cmp:∀ (W:World) (x y:yLI) (a:yOA) (c:Nat) (F:yLN) (a' :yOA) (c' :Nat) (F' :yLN),qX.rep W F [Sv a x.length c] x→qX.rep W F' [Sv a' y.length c'] y→
      Calls P g #[Sv a x.length c,Sv a' y.length c'] W fun e w' =>e=.returned (.int .i64 (cmpL x y))∧w' =W)
    (H:St W0 w ps Γ) (k:Nat) {b c:Nat} {e:TypeId} {nn:Nat} {xs:List Value} (hp:ps[k]? =some (.row (Sv (some ⟨b,0,none⟩) nn c) e 1 nn xs)) (j:Nat) {fr:Bool} {F:yLN} {l:yLL} (hf:Γ[j]? =some (xN fr F xs l)) (h0:0 < l.length) (hsz:l.length < 4611686018427387904):
    Calls P (ρ.f 6) #[Sv (some ⟨b,0,none⟩) nn c,.func (.func g) #[] #[]] w fun e' w' =>∃ v,e' =.returned v∧∃ xs' F' l',v=.tuple #[]∧F'.Perm F∧l.Perm l' ∧(∀ i j,i < j→j < l'.length→¬ cmpL (l'[j]!) (l'[i]!) < 0)∧
      St W0 w' (ps.set k (.row (Sv (some ⟨b,0,none⟩) nn c) e 1 nn xs')) (xN fr F' xs' l' :: Γ):=by
  have ho:=(H.has _ (List.mem_of_getElem? hp):w.ownsRow W0.heap.size e 1 _ nn xs)
  obtain ⟨hr,hfr⟩:=H.get j hf
  have hxl:xs.length=l.length:=by have:=reps_len hr;simpa [qX.size] using this
  have hnn:nn=l.length:=by have:=ho.1;omega
  subst hnn
  obtain ⟨hl,h | ⟨g',cap,cur,hv,hB,hg,hn,hm,hcs,ht⟩⟩:=ho
  · simp at h
  simp only [Value.slice.injEq,Option.some.injEq,Addr.mk.injEq,and_true] at hv
  obtain ⟨rfl,_,rfl⟩:=hv
  have hF:=(H.facts _ (List.mem_of_getElem? hf)).2
  have hbF:∀ x∈F,x≠b:=fun x hx e' =>(hF x hx).2 k (by simp [yz,hp,Prv.blk,Value.ownBlock,e'])
  let enc:Nat→Value:=fun i=>xs[i % l.length]!
  let cf:Nat→Nat→Int:=fun i j=>cmpL (l[i % l.length]!) (l[j % l.length]!)
  have hmod:∀ i,i % l.length < l.length:=fun i=>Nat.mod_lt _ h0
  have hrep:∀ i,∃ a c' G,(∀ x∈G,x∈F)∧enc i=Sv a (l[i % l.length]!).length c' ∧qX.rep w G [Sv a (l[i % l.length]!).length c'] (l[i % l.length]!):=fun i=>by
    obtain ⟨F1,Fk,F2,v1,cs,v2,hFe,hxe,hl1,hl2,hu,_,_⟩:=reps_get hr (i % l.length) (hmod i)
    obtain ⟨a,c',rfl,hx⟩:=id hu
    have hl1' :v1.length=i % l.length:=by rw [hl1];exact Nat.mul_one _
    refine ⟨a,c',Fk,fun x hx=>by rw [hFe];simp [hx],?_,?_⟩
    · show xs[i % l.length]! =_
      rw [getElem!_pos l _ (hmod i),getElem!_pos xs _ (by rw [hxl];exact hmod i)]
      have:xs[i % l.length]? =some (Sv a (l[i % l.length]'(hmod i)).length c'):=by
        refine (congrArg (fun z:List Value=>z[i % l.length]?) hxe).trans ?_
        show (v1++[_]++v2)[i % l.length]? =_
        rw [List.append_assoc,List.getElem?_append_right qf]
        simp [hl1']
      exact (List.getElem?_eq_some_iff.1 this).2
    · rw [getElem!_pos l _ (hmod i)];exact hu
  have hO:OneCell enc:=fun i=>by obtain ⟨a,c',G,_,he,_⟩:=hrep i;show Value.oneCell' (enc i)=true;rw [he];rfl
  have hS:SWO (ltOf cf):=by
    refine ⟨fun x=>?_,fun x y z h1 h2=>?_,fun x y z h1 h2=>?_⟩ <;> unfold ltOf at *
    · show decide (cmpL _ _ < 0)=false
      rw [cmpL_refl];rfl
    · exact decide_eq_true (cmpL_trans (of_decide_eq_true h1) (of_decide_eq_true h2))
    · exact decide_eq_false (cmpL_ntrans (of_decide_eq_false h1) (of_decide_eq_false h2))
  let d:Array Nat:=Array.range l.length
  have hds:d.size=l.length:=Array.size_range
  have hdi:∀ i,i < l.length→d[i]! =i:=fun i hi=>by rw [getElem!_pos d i (by rw [hds];exact hi)];exact Array.getElem_range _
  have hcx:∀ i,i < l.length→cur[i]? =some (enc i):=fun i hi=>by
    have h1:xs[i]? =some (enc i):=by
      show xs[i]? =some (xs[i % l.length]!)
      rw [Nat.mod_eq_of_lt hi,getElem!_pos xs i qf]
      exact List.getElem?_eq_getElem qf
    rw [← ht,List.getElem?_take,if_pos qf] at h1
    simpa using h1
  have hH:Holds enc w b 0 d:=fun i hi=>by
    have hi' :i < l.length:=by rw [hds] at hi;exact hi
    rw [hdi i hi',Nat.zero_add]
    constructor
    · rw [World.cell?,hg];exact hcx i hi'
    · rw [World.frozen?,hg];simp
  have hcmp:CmpLays1 P g #[] enc cf b 0 d.size w:=fun m os dk hs x y=>by
    obtain ⟨a,c1,G,hG,he,hx⟩:=hrep x
    obtain ⟨a2,c2,G2,hG2,he2,hy⟩:=hrep y
    have st:∀ z∈F,(sortWorld enc w b 0 m dk os).heap[z]? =w.heap[z]? :=fun z hz=>sw_block (hF z hz).1 (hbF z hz)
    rw [he,he2]
    refine (cmp _ _ _ a c1 G a2 c2 G2 (qX.stay hx fun z hz=>st z (hG z hz)) (qX.stay hy fun z hz=>st z (hG2 z hz))).mono fun e' w' h=>⟨h.1,0,#[],?_⟩
    rw [grow_empty];exact h.2
  have hblk:b < w.heap.size:=(Array.getElem?_eq_some_iff.1 hg).1
  have hc:=Any.slices_SortFunc L enc hO cf hS g #[] b 0 c d w eg hcmp hH hblk (by rw [hds];exact hsz)
  rw [hds] at hc
  refine hc.mono fun e' w' ⟨he,d',n,os,hpm,hso,hw⟩=>⟨_,he,?_⟩
  have hd' :d'.size=l.length:=hpm.1.trans hds
  have hperm:d'.toList.Perm (List.range l.length):=by
    have:=hpm.2.2
    rw [Array.extract_eq_self_of_le qf,Array.extract_eq_self_of_le qf] at this
    simpa [d] using this
  have hlt:∀ x∈d'.toList,x < l.length:=fun x hx=>List.mem_range.1 (hperm.subset hx)
  -- the pairs
  have hz:(xs.zip l).Perm (d'.toList.map fun i=>(xs[i]!,l[i]!)):=by
    have e1:xs.zip l=(List.range l.length).map fun i=>(xs[i]!,l[i]!):=by
      refine List.ext_getElem (by simp [hxl]) fun i h1 h2=>?_
      have hi:i < l.length:=by simpa using h2
      rw [List.getElem_zip,List.getElem_map,List.getElem_range,getElem!_pos xs i qf,getElem!_pos l i hi]
    rw [e1]
    exact (hperm.map _).symm
  have hr' :reps w F ((xs.zip l).map Prod.fst) ((xs.zip l).map Prod.snd):=by rw [zip_fst hxl,zip_snd hxl];exact hr
  obtain ⟨F',hF',hr2⟩:=reps_perm rfl hz hr'
  rw [List.map_map,List.map_map] at hr2
  refine ⟨d'.toList.map fun i=>xs[i]!,F',d'.toList.map fun i=>l[i]!,rfl,hF',?_,?_,?_⟩
  · have:=hz.map Prod.snd
    rw [zip_snd hxl,List.map_map] at this
    exact this
  · intro i j hij hj
    rw [List.length_map,Array.length_toList,hd'] at hj
    have hge:∀ q,q < l.length→(d'.toList.map fun i=>l[i]!)[q]! =l[d'[q]! % l.length]! :=fun q hq=>by
      rw [getElem!_pos _ q (by simp [hd',hq]),List.getElem_map,Array.getElem_toList]
      have:d'[q]! =d'[q]:=getElem!_pos d' q qf
      rw [this,Nat.mod_eq_of_lt (hlt _ qm)]
    rw [hge i qf,hge j hj]
    exact of_decide_eq_false (hso i j (Nat.zero_le _) hij hj)
  · subst hw
    have hcells:∀ q,q < l.length→(putCells enc 0 d' cur)[q]? =some (xs[d'[q]!]!):=fun q hq=>by
      unfold putCells
      rw [Array.getElem?_mapIdx]
      have hcq:=hcx q hq
      rw [hcq]
      simp only [Option.map_some,Nat.zero_le,true_and,Nat.zero_add,hd',if_pos hq,Nat.sub_zero]
      show some (xs[d'[q]! % l.length]!)=_
      have:d'[q]! =d'[q]:=getElem!_pos d' q qf
      rw [this,Nat.mod_eq_of_lt (hlt _ qm)]
    have hown:(sortWorld enc w b 0 n d' os).ownsRow W0.heap.size e 1 (Sv (some ⟨b,0,none⟩) l.length c) l.length (d'.toList.map fun i=>xs[i]!):=by
      refine ⟨by simp [hd'],Or.inr ⟨b,c,putCells enc 0 d' cur,rfl,hB,sw_row hg,hn,hm,by unfold putCells;rw [Array.size_mapIdx];exact hcs,?_⟩⟩
      rw [Nat.mul_one]
      refine List.ext_getElem? fun q=>?_
      rw [List.getElem?_take]
      split
      · next hq=>
        rw [Array.getElem?_toList,hcells q hq,List.getElem?_map,Array.getElem?_toList]
        have:d'[q]! =d'[q]:=getElem!_pos d' q qf
        rw [this,Array.getElem?_eq_getElem qf]
        rfl
      · next hq=>rw [List.getElem?_eq_none qy]
    have hsize:w.heap.size≤(sortWorld enc w b 0 n d' os).heap.size:=by
      unfold sortWorld putRow mapBlock grow
      show _≤((Sort.ahead w n).heap.modify b _++os).size
      rw [Array.size_append,Array.size_modify]
      exact Nat.le_add_right _ _
    have H1:=H.change k hp (w' :=sortWorld enc w b 0 n d' os) (p' :=.row (Sv (some ⟨b,0,none⟩) l.length c) e 1 l.length (d'.toList.map fun i=>xs[i]!)) rfl rfl rfl hsize (fun i hi hne=>sw_block hi (fun e2=>hne (by subst e2;rfl))) hown (Or.inl rfl)
    refine H1.add _ ⟨?_,fun e2 x hx=>?_⟩ fun x hx=>?_
    · exact reps_stay hr2 fun z hz=>sw_block (hF z (hF'.subset hz)).1 (hbF z (hF'.subset hz))
    · have h2:=hfr e2 x (hF'.subset hx)
      obtain ⟨o1,o2,ho⟩:=h2
      exact ⟨o1,o2,(sw_block (hF x (hF'.subset hx)).1 (hbF x (hF'.subset hx))).trans ho⟩
    · refine ⟨Nat.lt_of_lt_of_le (hF x (hF'.subset hx)).1 hsize,fun i hi=>?_⟩
      have h3:=(hF x (hF'.subset hx)).2
      by_cases e3:i=k
      · subst e3
        have:(ps.set i (Prv.row (Sv (some ⟨b,0,none⟩) l.length c) e 1 l.length (d'.toList.map fun i=>xs[i]!)))[i]? =some (Prv.row (Sv (some ⟨b,0,none⟩) l.length c) e 1 l.length (d'.toList.map fun i=>xs[i]!)):=set_at hp
        simp only [yz,this,Option.bind_some,Prv.blk,Value.ownBlock,Option.some.injEq] at hi
        exact hbF x (hF'.subset hx) hi.symm
      · have:yz (ps.set k (Prv.row (Sv (some ⟨b,0,none⟩) l.length c) e 1 l.length (d'.toList.map fun i=>xs[i]!))) i=yz ps i:=by unfold yz;rw [List.getElem?_set_ne (Ne.symm e3)]
        rw [this] at hi
        exact h3 i hi
end
end
section
open Go.Proofs.Tryz
open Go.RowKit
set_option linter.unusedVariables false
set_option linter.unusedSimpArgs false
set_option maxRecDepth 100000
set_option maxHeartbeats 4000000
variable {cl bs os qC qK br or jT jV jU jM Qr jD bt ot qQ qY qL cm : Nat}
theorem l01Bag_ok (w:World) (l:yLI) {al:yOA} {Fl:yLN} (hl:qX.rep w Fl [Sv al l.length cl] l):Calls Tryz.prog 177 #[Sv al l.length cl] w (Ret (fun v w' =>v=Bv (dec (Xt l))) w):=by
 refine en func177 ntmps177 ?_
 have H:=(St.start w).arg hl
 have nhl:=qV hl
 clear hl
 refine zcr (sp (Bv false) (zjcc (sp (yI 0) (zjn (xg ?_)))))
 refine zJ (fun m' ρ w1=>∃ (xY:Env) (k:Nat),ρ=upd (upd xY 0 (Sv al l.length cl)) 3 (yI k)∧(k≤l.length)∧(Counts l k)∧m' =l.length - k∧St w w1 [] [sF false Fl al cl l]) (l.length - 0) ⟨_,0,uE2,qf,(by exact Counts.zero l),rfl,H⟩ ?_
 clear H
 rintro m' ρ w2 ⟨xY,k,rfl,i0,i1,rfl,H⟩
 refine zcc (sps [yI k,Sv al l.length cl] (oN rfl (sp (Bv (decide ((k:Int) < l.length))) (zjn (cD rfl (fun h3=>?_) (fun h3=>?_))))))
 ·skip
  refine xk (t_n (zf (xg (zcr (sps [Sv al l.length cl,yI k] ?_)))))
  obtain ⟨b4,o5,rfl⟩:=H.addr 0 rfl qf
  refine oI rfl rfl (oL rfl (H.yF 0 rfl k qf qf) (sw (oq (l00In_ok w2 (l[k]!) 0 1000) H fun w6 H=>sp (Bv (!(inR (l[k]!) 0 1000))) (zjn (xK (!(inR (l[k]!) 0 1000)) rfl (fun h8=>?_) (fun h8=>?_))))))
  ·skip
   replace h8:=xM h8
   replace h8:=XL h8
   refine zcr (sp (Bv false) (zjr (zr5 (ret1 (Bv false) rfl rfl ⟨_,rfl,?_,H.base⟩))))
   rw [xy (fun h=>‹¬ (0≤l[k]! ∧l[k]! ≤1000)› (h.1 k qf))]
  replace h8:=xG h8
  replace h8:=Xj.1 h8
  refine xk (b_n (t_n (zg (sp (yI k) (sw (zL k 1 rfl rfl qf (sp (yI (k+1)) (zi (xq (m' :=l.length - (k+1)) qf ⟨_,k+1,uE2,?_,?_,rfl,H⟩)))))))))
  · omega
  · exact i1.succ ‹_›
 refine zx4 (zcr (sp (Sv al l.length cl) (oN rfl (sw (oq (l00In_ok w2 l.length 1 8) H fun w9 H=>sp (Bv (inR l.length 1 8)) (zjr (ret1 (Bv (inR l.length 1 8)) rfl rfl ⟨_,rfl,?_,H.base⟩)))))))
 obtain rfl:k=l.length:=by omega
 refine congrArg Value.bool (dec_eq ?_)
 rw [Xj]
 exact ⟨fun h=>⟨i1,by omega,by omega⟩,fun h=>by have:=h.2;omega⟩

theorem Xl (w:World) (s:qI) (b:yLI) {qE:yOA} {xe:yLN} {qO:yOA} {xE:yLN} {ab:yOA} {cb:Nat} {Fb:yLN} (hs:jk w bs os (yS s qE qC qO qK)) (qZ:qX.rep w xe [Sv qE s.qA.length qC] s.qA) (xC:qX.rep w xE [Sv qO s.qB.length qK] s.qB) (hb:qX.rep w Fb [Sv ab b.length cb] b):Calls Tryz.prog 119 #[pp bs os,Sv ab b.length cb] w (Ret (fun v w' =>v=Bv (dec (vS s.xh b))) w):=by
 refine en func119 ntmps119 ?_
 have H:=((((St.start w).arg hb).arg xC).arg qZ).Vf hs
 have zX:=qV qZ
 have jo:=qV xC
 have nhb:=qV hb
 clear hs qZ xC hb
 refine zcr (sp (Bv false) (zjc (sp (Sv ab b.length cb) (sw (oq (l01Bag_ok _ b (H.get 3 rfl).1) H fun w1 H=>sp (Bv (dec (Xt b))) ?_)))))
 cases h3:(dec (Xt b))
 ·skip
  replace h3:=ve h3
  refine xW [8,9,10,11,12,13,14] (sps [Bv false,Bv false] (zjr (ret1 (Bv false) rfl rfl ⟨_,rfl,?_,H.base⟩)))
  rw [xy (fun h=>‹¬ Xt b› h.1)]
 replace h3:=Qq h3
 refine qR 7 rfl rfl (sp (Sv ab b.length cb) (qR 7 rfl rfl (oN rfl (qR 7 rfl rfl (sp (pp bs os) (qR 7 rfl rfl (sp (pp bs os) (qR 7 rfl rfl (oF rfl (qR 7 rfl rfl (oL rfl (H.x9 0 rfl 0 rfl) (qR 7 rfl rfl (sps [Bv ((b.length:Int) == s.xh),Bv ((b.length:Int) == s.xh),Bv ((b.length:Int) == s.xh)] (zjr (ret1 (Bv ((b.length:Int) == s.xh)) rfl rfl ⟨_,rfl,(congrArg Value.bool (dec_eq ?_)),H.base⟩)))))))))))))))
 rw [beq_iff_eq]
 exact ⟨fun h=>⟨‹_›,h⟩,fun h=>h.2⟩

theorem l02Frame_ok (w:World) (s:qI) {qE:yOA} {xe:yLN} {qO:yOA} {xE:yLN} (hs:jk w bs os (yS s qE qC qO qK)) (qZ:qX.rep w xe [Sv qE s.qA.length qC] s.qA) (xC:qX.rep w xE [Sv qO s.qB.length qK] s.qB):Calls Tryz.prog 117 #[pp bs os] w (Ret (fun v w' =>v=Bv (dec (yg s))) w):=by
 refine en func117 ntmps117 ?_
 have H:=(((St.start w).arg xC).arg qZ).Vf hs
 have zX:=qV qZ
 have jo:=qV xC
 clear hs qZ xC
 refine zcr (sp (Bv false) (zjcc (sps [pp bs os,pp bs os] (oF rfl (oL rfl (H.x9 0 rfl 0 rfl) (sw (oq (l00In_ok w s.xh 1 8) H fun w1 H=>sps [Bv (!(inR s.xh 1 8)),Bv (!(inR s.xh 1 8))] ?_)))))))
 cases h3:(!(inR s.xh 1 8))
 ·skip
  replace h3:=xG h3
  replace h3:=Xj.1 h3
  refine qR 10 rfl rfl (sp (pp bs os) (qR 10 rfl rfl (sp (pp bs os) (qR 10 rfl rfl (oF rfl (qR 10 rfl rfl (oL rfl (H.x9 0 rfl 1 rfl) (qR 10 rfl rfl (oN rfl (qR 10 rfl rfl (sw (oq (l00In_ok w1 s.qA.length 1 6) H fun w4 H=>qR 10 rfl rfl (sps [Bv (!(inR s.qA.length 1 6)),Bv (!(inR s.qA.length 1 6)),Bv (!(inR s.qA.length 1 6))] ?_)))))))))))))
  cases h6:(!(inR s.qA.length 1 6))
  ·skip
   replace h6:=xG h6
   replace h6:=Xj.1 h6
   refine qR 19 rfl rfl (sp (pp bs os) (qR 19 rfl rfl (sp (pp bs os) (qR 19 rfl rfl (oF rfl (qR 19 rfl rfl (oL rfl (H.x9 0 rfl 1 rfl) (qR 19 rfl rfl ?_))))))))
   obtain ⟨b7,o8,rfl⟩:=H.addr 1 rfl qf
   refine oI rfl rfl (qR 19 rfl rfl (oL rfl (H.yF 1 rfl 0 qf qf) (qR 19 rfl rfl (sps [Bv ((s.qA[0]! :Int) != (-1)),Bv ((s.qA[0]! :Int) != (-1))] (zjn (xK ((s.qA[0]! :Int) != (-1)) rfl (fun h9=>?_) (fun h9=>?_)))))))
   ·skip
    replace h9:=bne_iff_ne.1 h9
    refine zcr (sp (Bv false) (zjr (t_r (ret1 (Bv false) rfl rfl ⟨_,rfl,?_,H.base⟩))))
    rw [xy (fun h=>by obtain ⟨h1,h2,h3,h4⟩:=h;first | omega | (have:=h4 k qf qf;omega))]
   replace h9:=xF h9
   refine xk (t_n (zcc (sp (yI 1) (zjn (xg ?_)))))
   refine zJ (fun m' ρ w10=>∃ (xY:Env) (k:Nat),ρ=upd (upd xY 0 (pp bs os)) 3 (yI k)∧(k≤s.qA.length)∧(1≤k)∧(FrameTo s k)∧m' =s.qA.length - k∧St w w10 [] [atF bs os [yI s.xh,Sv (aa b7 o8) s.qA.length qC,Sv qO s.qB.length qK],sF false xe (aa b7 o8) qC s.qA,sF false xE qO qK s.qB]) (s.qA.length - 1) ⟨_,1,uE2,qf,qf,(by exact FrameTo.one s),rfl,H⟩ ?_
   clear H
   rintro m' ρ w11 ⟨xY,k,rfl,i0,i2,i1,rfl,H⟩
   refine zcc (sps [yI k,pp bs os,pp bs os] (oF rfl (oL rfl (H.x9 0 rfl 1 rfl) (oN rfl (sp (Bv (decide ((k:Int) < s.qA.length))) (zjn (cD rfl (fun h12=>?_) (fun h12=>?_))))))))
   ·skip
    refine xk (t_n (zf (xg (zcr (sps [pp bs os,pp bs os] (oF rfl (oL rfl (H.x9 0 rfl 1 rfl) (sp (yI k) (oI rfl rfl (oL rfl (H.yF 1 rfl k qf qf) (sp (yI k) (sw (o_sub k 1 rfl rfl qf (sw (oq (l00In_ok w11 (s.qA[k]!) 0 (k - 1)) H fun w13 H=>sp (Bv (!(inR (s.qA[k]!) 0 (k - 1)))) (zjn (xK (!(inR (s.qA[k]!) 0 (k - 1))) rfl (fun h15=>?_) (fun h15=>?_))))))))))))))))))
    ·skip
     replace h15:=xM h15
     replace h15:=XL h15
     refine zcr (sp (Bv false) (zjr (zr5 (ret1 (Bv false) rfl rfl ⟨_,rfl,?_,H.base⟩))))
     rw [xy (fun h=>by obtain ⟨h1,h2,h3,h4⟩:=h;first | omega | (have:=h4 k qf qf;omega))]
    replace h15:=xG h15
    replace h15:=Xj.1 h15
    refine xk (b_n (t_n (zg (sp (yI k) (sw (zL k 1 rfl rfl qf (sp (yI (k+1)) (zi (xq (m' :=s.qA.length - (k+1)) qf ⟨_,k+1,uE2,?_,?_,?_,rfl,H⟩)))))))))
    · omega
    · omega
    · exact i1.succ ‹_›
   refine zx4 (zcr (sp (Bv true) (zjr (ret1 (Bv true) rfl rfl ⟨_,rfl,?_,H.base⟩))))
   obtain rfl:k=s.qA.length:=by omega
   rw [yh ⟨by omega,by omega,by omega,i1⟩]
  replace h6:=xM h6
  replace h6:=XL h6
  refine xW [20,21,22,23,24,25,26] (sp (Bv true) (zjn (xK true rfl (fun _=>zcr (sp (Bv false) (zjr (t_r (ret1 (Bv false) rfl rfl ⟨_,rfl,?_,H.base⟩))))) (fun h=>absurd h qj))))
  rw [xy (fun h=>by obtain ⟨h1,h2,h3,h4⟩:=h;first | omega | (have:=h4 k qf qf;omega))]
 replace h3:=xM h3
 replace h3:=XL h3
 refine xW [11,12,13,14,15,16,17] (sps [Bv true,Bv true] (xW [20,21,22,23,24,25,26] (sp (Bv true) (zjn (xK true rfl (fun _=>zcr (sp (Bv false) (zjr (t_r (ret1 (Bv false) rfl rfl ⟨_,rfl,?_,H.base⟩))))) (fun h=>absurd h qj))))))
 rw [xy (fun h=>by obtain ⟨h1,h2,h3,h4⟩:=h;first | omega | (have:=h4 k qf qf;omega))]

theorem l02In_ok (w:World) (s:qI) (c:Int) (other:Int) {qE:yOA} {xe:yLN} {qO:yOA} {xE:yLN} (hs:jk w bs os (yS s qE qC qO qK)) (qZ:qX.rep w xe [Sv qE s.qA.length qC] s.qA) (xC:qX.rep w xE [Sv qO s.qB.length qK] s.qB) (p0:yg s) (p1:CellIn s c):Calls Tryz.prog 176 #[pp bs os,yI c,yI other] w (Ret (fun v w' =>v=Bv (dec (Lies s.qA other c))) w):=by
 refine en func176 ntmps176 ?_
 have H:=(((St.start w).arg xC).arg qZ).Vf hs
 have zX:=qV qZ
 have jo:=qV xC
 clear hs qZ xC
 refine zcr (sp (Bv false) (zjn (zf (xg ?_))))
 refine zJ (fun m' ρ w1=>∃ (xY:Env) (y:Int),ρ=upd (upd (upd xY 0 (pp bs os)) 1 (yI y)) 2 (yI other)∧(0≤y∧y≤(s.qA.length:Int) - 1)∧(Lies s.qA other c↔Lies s.qA other y)∧m' =y.toNat∧St w w1 [] [atF bs os (yS s qE qC qO qK),sF false xe qE qC s.qA,sF false xE qO qK s.qB]) (c.toNat) ⟨_,c,uE3,(by exact p1),(by exact Iff.rfl),rfl,H⟩ ?_
 clear H
 rintro m' ρ w2 ⟨xY,y,rfl,i0,i1,rfl,H⟩
 have up:=fun h=>p0.up (c:=y) h i0.2
 refine zcc (sps [yI y,Bv (decide ((y:Int) > 0))] (zjn (cD rfl (fun h3=>?_) (fun h3=>?_))))
 ·skip
  refine xk (t_n (xg (zcr (sps [pp bs os,pp bs os] (oF rfl (oL rfl (H.x9 0 rfl 1 rfl) (sp (yI y) ?_)))))))
  obtain ⟨b4,o5,rfl⟩:=H.addr 1 rfl qf
  refine oI rfl rfl (oL rfl (H.yF 1 rfl y qf qf) (sp (yI (s.qA[y.toNat]!)) (zjc (sps [yI (s.qA[y.toNat]!),yI other,Bv ((s.qA[y.toNat]! :Int) == other)] (zjn (cE rfl (fun h6=>?_) (fun h6=>?_)))))))
  ·skip
   refine zcr (sp (Bv true) (zjr (b_r (t_r (b_r (t_r (ret1 (Bv true) rfl rfl ⟨_,rfl,?_,H.base⟩)))))))
   rw [yh (i1.2 (.here qf ‹_›))]
  refine xk (b_n ?_)
  have up1:=up qf
  refine xq (m' :=(s.qA[y.toNat]!).toNat) qf ⟨_,(s.qA[y.toNat]!),uE3,?_,?_,rfl,H⟩
  · have:=up qf;omega
  · exact i1.trans (lies_iff.trans ⟨fun h=>h.2.resolve_left ‹_›,fun h=>⟨by omega,.inr h⟩⟩)
 refine zx4 (zcr (sp (Bv false) (zjr (ret1 (Bv false) rfl rfl ⟨_,rfl,?_,H.base⟩))))
 rw [xy (fun h=>by have:=(lies_iff.1 (i1.1 h)).1;omega)]

theorem l02Rule_ok (w:World) (s:qI) (r:jL) {qE:yOA} {xe:yLN} {qO:yOA} {xE:yLN} {jW:yOA} {XF:yLN} {jY:yOA} {XI:yLN} {jX:yOA} {XG:yLN} {jO:yOA} {XH:yLN} {Qs:yOA} {FrOut:yLN} {jE:yOA} {VJ:yLN} (hs:jk w bs os (yS s qE qC qO qK)) (qZ:qX.rep w xe [Sv qE s.qA.length qC] s.qA) (xC:qX.rep w xE [Sv qO s.qB.length qK] s.qB) (hr:jk w br or [yI r.qN,yI r.vP,Sv jW r.xR.length jT,Sv jY r.zM.length jV,Sv jX r.zK.length jU,Sv jO r.zH.length jM,Sv Qs r.jC.length Qr,Sv jE r.qW.length jD,Bv r.vF]) (hrNeed:qX.rep w XF [Sv jW r.xR.length jT] r.xR) (hrHave:qX.rep w XI [Sv jY r.zM.length jV] r.zM) (hrLack:qX.rep w XG [Sv jX r.zK.length jU] r.zK) (hrHere:qX.rep w XH [Sv jO r.zH.length jM] r.zH) (hrOut:qX.rep w FrOut [Sv Qs r.jC.length Qr] r.jC) (hrInto:qX.rep w VJ [Sv jE r.qW.length jD] r.qW) (p0:yg s):Calls Tryz.prog 118 #[pp bs os,pp br or] w (Ret (fun v w' =>v=Bv (dec (RuleOk s r))) w):=by
 refine en func118 ntmps118 ?_
 have H:=((((((((((St.start w).arg hrInto).arg hrOut).arg hrHere).arg hrLack).arg hrHave).arg hrNeed).Vf hr).arg xC).arg qZ).Vf hs
 have zX:=qV qZ
 have jo:=qV xC
 have nhrNeed:=qV hrNeed
 have nhrHave:=qV hrHave
 have nhrLack:=qV hrLack
 have nhrHere:=qV hrHere
 have nhrOut:=qV hrOut
 have nhrInto:=qV hrInto
 clear hs qZ xC hr hrNeed hrHave hrLack hrHere hrOut hrInto
 refine zcr (sp (Bv false) (zjn (zf (zf ?_))))
 refine yl rfl H fun H=>rtp 0 (pp br or) H ?_
 refine rtp 1 (pp br or) H ?_
 refine tF 2 rfl rfl H ?_
 refine tL 3 rfl rfl (fun _ h=>h.x9 3 rfl 0 rfl) H ?_
 refine rtp 4 (pp bs os) H ?_
 refine rtp 5 (pp bs os) H ?_
 refine tF 6 rfl rfl H ?_
 refine tL 7 rfl rfl (fun _ h=>h.x9 0 rfl 1 rfl) H ?_
 refine tN 8 rfl rfl H ?_
 refine rt 9 (yI (s.qA.length - 1)) (y_sub s.qA.length 1 rfl rfl qf) H ?_
 refine ro 10 rfl (oq (l00In_ok w.drew r.qN 0 (s.qA.length - 1)) H fun w2 H=>⟨H,(rtp 11 (Bv (!(inR r.qN 0 (s.qA.length - 1)))) H ?_)⟩)
 refine rtp 12 (Bv (!(inR r.qN 0 (s.qA.length - 1)))) H ?_
 cases h4:(!(inR r.qN 0 (s.qA.length - 1)))
 ·skip
  replace h4:=xG h4
  replace h4:=Xj.1 h4
  refine rgp 13 (pp br or) 19 H ?_
  refine rgp 14 (pp br or) 19 H ?_
  refine gF 15 rfl rfl H ?_
  refine gL 16 rfl rfl (fun _ h=>h.x9 3 rfl 1 rfl) H ?_
  refine jb [17] qh qm (Vh rfl (e:=19) rfl rfl (oq (l00In_ok w2 r.vP 0 9) H fun w5 H=>⟨H,(rgp 18 (Bv (!(inR r.vP 0 9))) 19 H ?_)⟩) jd)
  refine rtp 19 (Bv (!(inR r.vP 0 9))) H ?_
  refine rtp 20 (Bv (!(inR r.vP 0 9))) H ?_
  cases h7:(!(inR r.vP 0 9))
  ·skip
   replace h7:=xG h7
   replace h7:=Xj.1 h7
   refine rgp 21 (pp br or) 27 H ?_
   refine rgp 22 (pp br or) 27 H ?_
   refine gF 23 rfl rfl H ?_
   refine gL 24 rfl rfl (fun _ h=>h.x9 3 rfl 8 rfl) H ?_
   refine rgp 25 (Bv r.vF) 27 H ?_
   cases h8:(r.vF)
   ·skip
    rw [h8] at H
    refine zV [26,27,28,29,30] 5 (H) (rgp 31 (Bv false) 27 H ?_)
    refine rtp 32 (Bv false) H ?_
    refine rtp 33 (Bv false) H ?_
    refine rgp 34 (pp br or) 40 H ?_
    refine rgp 35 (pp br or) 40 H ?_
    refine gF 36 rfl rfl H ?_
    refine gL 37 rfl rfl (fun _ h=>h.x9 3 rfl 7 rfl) H ?_
    refine gN 38 rfl rfl H ?_
    refine rgp 39 (Bv (decide ((r.qW.length:Int) > 3))) 40 H ?_
    refine rtp 40 (Bv (decide ((r.qW.length:Int) > 3))) H ?_
    refine xJ qh (t_n (cD rfl (fun h9=>?_) (fun h9=>?_)))
    ·skip
     refine zcr (sp (Bv false) (zjr (t_r (ret1 (Bv false) rfl rfl ⟨_,rfl,?_,H.base⟩))))
     rw [xy (fun h=>by obtain ⟨h1,h2,h3,h4,h5,h6,h7,h8,h9,h10,h11⟩:=h;first | contradiction | omega | exact h3 ⟨‹_›,‹_›⟩ | (obtain ⟨q1,q2,q3,q4,q5⟩:=h11 k qf;first | contradiction | omega | (have:=q5 qf;omega)))]
    refine xk (t_n (zcc (sps [pp bs os,pp br or,pp br or] (oF rfl (oL rfl (H.x9 3 rfl 2 rfl) (sw (oq (Xl _ s r.xR (qJ (H.get 0 rfl) 0 3) (H.get 1 rfl).1 (H.get 2 rfl).1 (H.get 4 rfl).1) H fun w10 H=>sps [Bv (!(dec (vS s.xh r.xR))),Bv (!(dec (vS s.xh r.xR)))] ?_)))))))
    cases h12:(!(dec (vS s.xh r.xR)))
    ·skip
     replace h12:=xG h12
     replace h12:=Qq h12
     refine qR 55 rfl rfl (sp (pp bs os) (qR 55 rfl rfl (sp (pp br or) (qR 55 rfl rfl (sp (pp br or) (qR 55 rfl rfl (oF rfl (qR 55 rfl rfl (oL rfl (H.x9 3 rfl 3 rfl) (qR 55 rfl rfl (sw (oq (Xl _ s r.zM (qJ (H.get 0 rfl) 0 3) (H.get 1 rfl).1 (H.get 2 rfl).1 (H.get 5 rfl).1) H fun w13 H=>qR 55 rfl rfl (sps [Bv (!(dec (vS s.xh r.zM))),Bv (!(dec (vS s.xh r.zM))),Bv (!(dec (vS s.xh r.zM)))] ?_)))))))))))))
     cases h15:(!(dec (vS s.xh r.zM)))
     ·skip
      replace h15:=xG h15
      replace h15:=Qq h15
      refine qR 64 rfl rfl (sp (pp bs os) (qR 64 rfl rfl (sp (pp br or) (qR 64 rfl rfl (sp (pp br or) (qR 64 rfl rfl (oF rfl (qR 64 rfl rfl (oL rfl (H.x9 3 rfl 4 rfl) (qR 64 rfl rfl (sw (oq (Xl _ s r.zK (qJ (H.get 0 rfl) 0 3) (H.get 1 rfl).1 (H.get 2 rfl).1 (H.get 6 rfl).1) H fun w16 H=>qR 64 rfl rfl (sps [Bv (!(dec (vS s.xh r.zK))),Bv (!(dec (vS s.xh r.zK))),Bv (!(dec (vS s.xh r.zK)))] ?_)))))))))))))
      cases h18:(!(dec (vS s.xh r.zK)))
      ·skip
       replace h18:=xG h18
       replace h18:=Qq h18
       refine qR 73 rfl rfl (sp (pp bs os) (qR 73 rfl rfl (sp (pp br or) (qR 73 rfl rfl (sp (pp br or) (qR 73 rfl rfl (oF rfl (qR 73 rfl rfl (oL rfl (H.x9 3 rfl 5 rfl) (qR 73 rfl rfl (sw (oq (Xl _ s r.zH (qJ (H.get 0 rfl) 0 3) (H.get 1 rfl).1 (H.get 2 rfl).1 (H.get 7 rfl).1) H fun w19 H=>qR 73 rfl rfl (sps [Bv (!(dec (vS s.xh r.zH))),Bv (!(dec (vS s.xh r.zH))),Bv (!(dec (vS s.xh r.zH)))] ?_)))))))))))))
       cases h21:(!(dec (vS s.xh r.zH)))
       ·skip
        replace h21:=xG h21
        replace h21:=Qq h21
        refine qR 82 rfl rfl (sp (pp bs os) (qR 82 rfl rfl (sp (pp br or) (qR 82 rfl rfl (sp (pp br or) (qR 82 rfl rfl (oF rfl (qR 82 rfl rfl (oL rfl (H.x9 3 rfl 6 rfl) (qR 82 rfl rfl (sw (oq (Xl _ s r.jC (qJ (H.get 0 rfl) 0 3) (H.get 1 rfl).1 (H.get 2 rfl).1 (H.get 8 rfl).1) H fun w22 H=>qR 82 rfl rfl (sps [Bv (!(dec (vS s.xh r.jC))),Bv (!(dec (vS s.xh r.jC))),Bv (!(dec (vS s.xh r.jC)))] ?_)))))))))))))
        cases h24:(!(dec (vS s.xh r.jC)))
        ·skip
         replace h24:=xG h24
         replace h24:=Qq h24
         refine qR 91 rfl rfl (sp (pp br or) (qR 91 rfl rfl (sp (pp br or) (qR 91 rfl rfl (oF rfl (qR 91 rfl rfl (oL rfl (H.x9 3 rfl 2 rfl) (qR 91 rfl rfl (sw (oq (X3 _ r.xR (H.get 4 rfl).1 (by first | assumption | exact vz ql | exact Qa ql)) H fun w25 H=>qR 91 rfl rfl (sps [Bv ((Xh r.xR:Int) == 0),Bv ((Xh r.xR:Int) == 0)] (zjn (cE rfl (fun h27=>?_) (fun h27=>?_))))))))))))))
         ·skip
          refine zcr (sp (Bv false) (zjr (t_r (ret1 (Bv false) rfl rfl ⟨_,rfl,?_,H.base⟩))))
          rw [xy (fun h=>by obtain ⟨h1,h2,h3,h4,h5,h6,h7,h8,h9,h10,h11⟩:=h;first | contradiction | omega | exact h3 ⟨‹_›,‹_›⟩ | (obtain ⟨q1,q2,q3,q4,q5⟩:=h11 k qf;first | contradiction | omega | (have:=q5 qf;omega)))]
         refine xk (t_n (zcc (sp (yI 0) (zjn (xg ?_)))))
         refine zJ (fun m' ρ w28=>∃ (xY:Env) (k:Nat),ρ=upd (upd (upd xY 0 (pp bs os)) 1 (pp br or)) 5 (yI k)∧(k≤r.qW.length)∧(IntosTo s r k)∧m' =r.qW.length - k∧St w w28 [] [atF bs os (yS s qE qC qO qK),sF false xe qE qC s.qA,sF false xE qO qK s.qB,atF br or [yI r.qN,yI r.vP,Sv jW r.xR.length jT,Sv jY r.zM.length jV,Sv jX r.zK.length jU,Sv jO r.zH.length jM,Sv Qs r.jC.length Qr,Sv jE r.qW.length jD,Bv false],sF false XF jW jT r.xR,sF false XI jY jV r.zM,sF false XG jX jU r.zK,sF false XH jO jM r.zH,sF false FrOut Qs Qr r.jC,sF false VJ jE jD r.qW]) (r.qW.length - 0) ⟨_,0,uE3,qf,qx,rfl,H⟩ ?_
         clear H
         rintro m' ρ w29 ⟨xY,k,rfl,i0,i1,rfl,H⟩
         refine zcc (sps [yI k,pp br or,pp br or] (oF rfl (oL rfl (H.x9 3 rfl 7 rfl) (oN rfl (sp (Bv (decide ((k:Int) < r.qW.length))) (zjn (cD rfl (fun h30=>?_) (fun h30=>?_))))))))
         ·skip
          refine xk (t_n (zf (xg (zcr (sps [pp br or,pp br or] (oF rfl (oL rfl (H.x9 3 rfl 7 rfl) (sp (yI k) ?_))))))))
          obtain ⟨b31,o32,rfl⟩:=H.addr 9 rfl qf
          obtain ⟨ae33Bag,ce33Bag,Fe33Bag,H⟩:=H.Qd 9 rfl k k qf qf qf
          refine oI rfl rfl (sp (pp b31 (o32+(k:Int).toNat * 2)) (zjn (zf (zf ?_))))
          refine yl rfl H fun H=>rtp 0 (pp b31 (o32+(k:Int).toNat * 2)) H ?_
          refine rtp 1 (pp b31 (o32+(k:Int).toNat * 2)) H ?_
          refine tF 2 rfl rfl H ?_
          refine tL 3 rfl rfl (fun _ h=>h.x9 1 rfl 0 rfl) H ?_
          refine rtp 4 (pp bs os) H ?_
          refine rtp 5 (pp bs os) H ?_
          refine tF 6 rfl rfl H ?_
          refine tL 7 rfl rfl (fun _ h=>h.x9 2 rfl 1 rfl) H ?_
          refine tN 8 rfl rfl H ?_
          refine rt 9 (yI (s.qA.length - 1)) (y_sub s.qA.length 1 rfl rfl qf) H ?_
          refine ro 10 rfl (oq (l00In_ok w29.drew ((r.qW[k]!).qN) 0 (s.qA.length - 1)) H fun w35 H=>⟨H,(rtp 11 (Bv (!(inR ((r.qW[k]!).qN) 0 (s.qA.length - 1)))) H ?_)⟩)
          refine rtp 12 (Bv (!(inR ((r.qW[k]!).qN) 0 (s.qA.length - 1)))) H ?_
          cases h37:(!(inR ((r.qW[k]!).qN) 0 (s.qA.length - 1)))
          ·skip
           replace h37:=xG h37
           replace h37:=Xj.1 h37
           refine rgp 13 (pp bs os) 126 H ?_
           refine rgp 14 (pp b31 (o32+(k:Int).toNat * 2)) 126 H ?_
           refine rgp 15 (pp b31 (o32+(k:Int).toNat * 2)) 126 H ?_
           refine gF 16 rfl rfl H ?_
           refine gL 17 rfl rfl (fun _ h=>h.x9 1 rfl 0 rfl) H ?_
           refine rgp 18 (pp br or) 126 H ?_
           refine rgp 19 (pp br or) 126 H ?_
           refine gF 20 rfl rfl H ?_
           refine gL 21 rfl rfl (fun _ h=>h.x9 5 rfl 0 rfl) H ?_
           refine jb [22] qh qm (Vh rfl (e:=126) rfl rfl (oq (l02In_ok _ s ((r.qW[k]!).qN) r.qN (qJ (H.get 2 rfl) 0 3) (H.get 3 rfl).1 (H.get 4 rfl).1 ql ql) H fun w38 H=>⟨H,(rgp 23 (Bv (!(dec (Lies s.qA r.qN ((r.qW[k]!).qN))))) 126 H ?_)⟩) jd)
           refine rtp 24 (Bv (!(dec (Lies s.qA r.qN ((r.qW[k]!).qN))))) H ?_
           refine rtp 25 (Bv (!(dec (Lies s.qA r.qN ((r.qW[k]!).qN))))) H ?_
           cases h40:(!(dec (Lies s.qA r.qN ((r.qW[k]!).qN))))
           ·skip
            replace h40:=xG h40
            replace h40:=Qq h40
            refine rgp 26 (pp bs os) 139 H ?_
            refine rgp 27 (pp b31 (o32+(k:Int).toNat * 2)) 139 H ?_
            refine rgp 28 (pp b31 (o32+(k:Int).toNat * 2)) 139 H ?_
            refine gF 29 rfl rfl H ?_
            refine gL 30 rfl rfl (fun _ h=>h.x9 1 rfl 1 rfl) H ?_
            refine jb [31] qh qm (Vh rfl (e:=139) rfl rfl (oq (Xl _ s ((r.qW[k]!).QP) (qJ (H.get 2 rfl) 0 3) (H.get 3 rfl).1 (H.get 4 rfl).1 (H.get 0 rfl).1) H fun w41 H=>⟨H,(rgp 32 (Bv (!(dec (vS s.xh ((r.qW[k]!).QP))))) 139 H ?_)⟩) jd)
            refine rtp 33 (Bv (!(dec (vS s.xh ((r.qW[k]!).QP))))) H ?_
            refine rtp 34 (Bv (!(dec (vS s.xh ((r.qW[k]!).QP))))) H ?_
            cases h43:(!(dec (vS s.xh ((r.qW[k]!).QP))))
            ·skip
             replace h43:=xG h43
             replace h43:=Qq h43
             refine rgp 35 (pp b31 (o32+(k:Int).toNat * 2)) 148 H ?_
             refine rgp 36 (pp b31 (o32+(k:Int).toNat * 2)) 148 H ?_
             refine gF 37 rfl rfl H ?_
             refine gL 38 rfl rfl (fun _ h=>h.x9 1 rfl 1 rfl) H ?_
             refine jb [39] qh qm (Vh rfl (e:=148) rfl rfl (oq (X3 _ ((r.qW[k]!).QP) (H.get 0 rfl).1 (by first | assumption | exact vz ql | exact Qa ql)) H fun w44 H=>⟨H,(rgp 40 (Bv ((Xh ((r.qW[k]!).QP):Int) == 0)) 148 H ?_)⟩) jd)
             refine rtp 41 (Bv ((Xh ((r.qW[k]!).QP):Int) == 0)) H ?_
             refine xJ qh (t_n (cE rfl (fun h46=>?_) (fun h46=>?_)))
             ·skip
              refine zcr (sp (Bv false) (zjr (t_r (zr5 (ret1 (Bv false) rfl rfl ⟨_,rfl,?_,H.base⟩)))))
              rw [xy (fun h=>by obtain ⟨h1,h2,h3,h4,h5,h6,h7,h8,h9,h10,h11⟩:=h;first | contradiction | omega | exact h3 ⟨‹_›,‹_›⟩ | (obtain ⟨q1,q2,q3,q4,q5⟩:=h11 k qf;first | contradiction | omega | (have:=q5 qf;omega)))]
             refine xk (t_n (zf ?_))
             refine yl rfl H fun H=>rtp 0 (yI k) H ?_
             refine rtp 1 (Bv (decide ((k:Int) > 0))) H ?_
             refine rtp 2 (Bv (decide ((k:Int) > 0))) H ?_
             cases h48:(decide ((k:Int) > 0))
             ·skip
              replace h48:=of_decide_eq_false h48
              refine zV [3,4,5,6,7,8,9,10,11,12,13,14,15,16] 14 (H) (rtp 17 (Bv false) H ?_)
              refine xJ qh (t_n (xK false rfl (fun h=>absurd h qj) (fun _=>xk (b_n (t_n (zg (sp (yI k) (sw (zL k 1 rfl rfl qf (sp (yI (k+1)) (zi (xq (m' :=r.qW.length - (k+1)) qf ⟨_,k+1,uE3,?_,?_,rfl,H.sel _ (.refl _) _ qm⟩))))))))))))
              · omega
              · exact i1.succ ⟨‹_›,‹_›,‹_›,‹_›,fun hk=>by omega⟩
             replace h48:=of_decide_eq_true h48
             refine rgp 3 (pp br or) 158 H ?_
             refine rgp 4 (pp br or) 158 H ?_
             refine gF 5 rfl rfl H ?_
             refine gL 6 rfl rfl (fun _ h=>h.x9 5 rfl 7 rfl) H ?_
             refine rgp 7 (yI k) 158 H ?_
             refine rg 8 (yI (k - 1)) 158 (y_sub k 1 rfl rfl qf) H ?_
             obtain ⟨ae49Bag,ce49Bag,Fe49Bag,H⟩:=H.Qd 11 rfl (k - 1) (k - 1) qf qf qf
             refine gI 9 rfl rfl rfl (H.sel _ (.refl _) _ (fun _ h=>List.mem_cons_of_mem _ (List.mem_cons_of_mem _ (h)))) ?_
             refine gF 10 rfl rfl (H.sel _ (.refl _) _ (fun _ h=>List.mem_cons_of_mem _ (List.mem_cons_of_mem _ (h)))) ?_
             refine rgp 12 (pp b31 (o32+(k:Int).toNat * 2)) 158 (H.sel _ (.refl _) _ (fun _ h=>List.mem_cons_of_mem _ (List.mem_cons_of_mem _ (h)))) ?_
             refine rgp 13 (pp b31 (o32+(k:Int).toNat * 2)) 158 (H.sel _ (.refl _) _ (fun _ h=>List.mem_cons_of_mem _ (List.mem_cons_of_mem _ (h)))) ?_
             refine gF 14 rfl rfl (H.sel _ (.refl _) _ (fun _ h=>List.mem_cons_of_mem _ (List.mem_cons_of_mem _ (h)))) ?_
             refine gL 15 rfl rfl (fun _ h=>h.x9 1 rfl 0 rfl) (H.sel _ (.refl _) _ (fun _ h=>List.mem_cons_of_mem _ (List.mem_cons_of_mem _ (h)))) ?_
             refine jb [11] qh qm (Vh rfl (e:=158) rfl rfl (zF (yI ((r.qW[k - 1]!).qN)) isAgg2 rfl (H.x9 1 rfl 0 rfl) (⟨H.dF 2,(rgp 16 (Bv (decide (((r.qW[k - 1]!).qN:Int)≥((r.qW[k]!).qN)))) 158 (H.sel _ (.refl _) _ (fun _ h=>List.mem_cons_of_mem _ (List.mem_cons_of_mem _ (h)))) ?_)⟩)) jd)
             refine rtp 17 (Bv (decide (((r.qW[k - 1]!).qN:Int)≥((r.qW[k]!).qN)))) (H.sel _ (.refl _) _ (fun _ h=>List.mem_cons_of_mem _ (List.mem_cons_of_mem _ (h)))) ?_
             refine xJ qh (t_n (cD rfl (fun h50=>?_) (fun h50=>?_)))
             ·skip
              refine zcr (sp (Bv false) (zjr (zr5 (ret1 (Bv false) rfl rfl ⟨_,rfl,?_,H.base⟩))))
              rw [xy (fun h=>by obtain ⟨h1,h2,h3,h4,h5,h6,h7,h8,h9,h10,h11⟩:=h;first | contradiction | omega | exact h3 ⟨‹_›,‹_›⟩ | (obtain ⟨q1,q2,q3,q4,q5⟩:=h11 k qf;first | contradiction | omega | (have:=q5 qf;omega)))]
             refine xk (b_n (t_n (zg (sp (yI k) (sw (zL k 1 rfl rfl qf (sp (yI (k+1)) (zi (xq (m' :=r.qW.length - (k+1)) qf ⟨_,k+1,uE3,?_,?_,rfl,H.sel _ (.refl _) _ qm⟩)))))))))
             · omega
             · exact i1.succ ⟨‹_›,‹_›,‹_›,‹_›,fun hk=>by omega⟩
            replace h43:=xM h43
            replace h43:=ve h43
            refine zV [35,36,37,38,39,40] 6 (H) (rtp 41 (Bv true) H ?_)
            refine xJ qh (t_n (xK true rfl (fun _=>zcr (sp (Bv false) (zjr (t_r (zr5 (ret1 (Bv false) rfl rfl ⟨_,rfl,?_,H.base⟩)))))) (fun h=>absurd h qj)))
            rw [xy (fun h=>by obtain ⟨h1,h2,h3,h4,h5,h6,h7,h8,h9,h10,h11⟩:=h;first | contradiction | omega | exact h3 ⟨‹_›,‹_›⟩ | (obtain ⟨q1,q2,q3,q4,q5⟩:=h11 k qf;first | contradiction | omega | (have:=q5 qf;omega)))]
           replace h40:=xM h40
           replace h40:=ve h40
           refine zV [26,27,28,29,30,31,32] 7 (H) (rtp 33 (Bv true) H ?_)
           refine rtp 34 (Bv true) H ?_
           refine zV [35,36,37,38,39,40] 6 (H) (rtp 41 (Bv true) H ?_)
           refine xJ qh (t_n (xK true rfl (fun _=>zcr (sp (Bv false) (zjr (t_r (zr5 (ret1 (Bv false) rfl rfl ⟨_,rfl,?_,H.base⟩)))))) (fun h=>absurd h qj)))
           rw [xy (fun h=>by obtain ⟨h1,h2,h3,h4,h5,h6,h7,h8,h9,h10,h11⟩:=h;first | contradiction | omega | exact h3 ⟨‹_›,‹_›⟩ | (obtain ⟨q1,q2,q3,q4,q5⟩:=h11 k qf;first | contradiction | omega | (have:=q5 qf;omega)))]
          replace h37:=xM h37
          replace h37:=XL h37
          refine zV [13,14,15,16,17,18,19,20,21,22,23] 11 (H) (rtp 24 (Bv true) H ?_)
          refine rtp 25 (Bv true) H ?_
          refine zV [26,27,28,29,30,31,32] 7 (H) (rtp 33 (Bv true) H ?_)
          refine rtp 34 (Bv true) H ?_
          refine zV [35,36,37,38,39,40] 6 (H) (rtp 41 (Bv true) H ?_)
          refine xJ qh (t_n (xK true rfl (fun _=>zcr (sp (Bv false) (zjr (t_r (zr5 (ret1 (Bv false) rfl rfl ⟨_,rfl,?_,H.base⟩)))))) (fun h=>absurd h qj)))
          rw [xy (fun h=>by obtain ⟨h1,h2,h3,h4,h5,h6,h7,h8,h9,h10,h11⟩:=h;first | contradiction | omega | exact h3 ⟨‹_›,‹_›⟩ | (obtain ⟨q1,q2,q3,q4,q5⟩:=h11 k qf;first | contradiction | omega | (have:=q5 qf;omega)))]
         refine zx4 (zcr (sp (Bv true) (zjr (ret1 (Bv true) rfl rfl ⟨_,rfl,?_,H.base⟩))))
         obtain rfl:k=r.qW.length:=by omega
         rw [yh ⟨by assumption,by omega,by simp_all,by omega,by assumption,by assumption,by assumption,by assumption,by assumption,by assumption,i1⟩]
        replace h24:=xM h24
        replace h24:=ve h24
        refine xW [92,93,94,95,96,97] (sp (Bv true) (zjn (xK true rfl (fun _=>zcr (sp (Bv false) (zjr (t_r (ret1 (Bv false) rfl rfl ⟨_,rfl,?_,H.base⟩))))) (fun h=>absurd h qj))))
        rw [xy (fun h=>by obtain ⟨h1,h2,h3,h4,h5,h6,h7,h8,h9,h10,h11⟩:=h;first | contradiction | omega | exact h3 ⟨‹_›,‹_›⟩ | (obtain ⟨q1,q2,q3,q4,q5⟩:=h11 k qf;first | contradiction | omega | (have:=q5 qf;omega)))]
       replace h21:=xM h21
       replace h21:=ve h21
       refine xW [83,84,85,86,87,88,89] (sps [Bv true,Bv true] (xW [92,93,94,95,96,97] (sp (Bv true) (zjn (xK true rfl (fun _=>zcr (sp (Bv false) (zjr (t_r (ret1 (Bv false) rfl rfl ⟨_,rfl,?_,H.base⟩))))) (fun h=>absurd h qj))))))
       rw [xy (fun h=>by obtain ⟨h1,h2,h3,h4,h5,h6,h7,h8,h9,h10,h11⟩:=h;first | contradiction | omega | exact h3 ⟨‹_›,‹_›⟩ | (obtain ⟨q1,q2,q3,q4,q5⟩:=h11 k qf;first | contradiction | omega | (have:=q5 qf;omega)))]
      replace h18:=xM h18
      replace h18:=ve h18
      refine xW [74,75,76,77,78,79,80] (sps [Bv true,Bv true] (xW [83,84,85,86,87,88,89] (sps [Bv true,Bv true] (xW [92,93,94,95,96,97] (sp (Bv true) (zjn (xK true rfl (fun _=>zcr (sp (Bv false) (zjr (t_r (ret1 (Bv false) rfl rfl ⟨_,rfl,?_,H.base⟩))))) (fun h=>absurd h qj))))))))
      rw [xy (fun h=>by obtain ⟨h1,h2,h3,h4,h5,h6,h7,h8,h9,h10,h11⟩:=h;first | contradiction | omega | exact h3 ⟨‹_›,‹_›⟩ | (obtain ⟨q1,q2,q3,q4,q5⟩:=h11 k qf;first | contradiction | omega | (have:=q5 qf;omega)))]
     replace h15:=xM h15
     replace h15:=ve h15
     refine xW [65,66,67,68,69,70,71] (sps [Bv true,Bv true] (xW [74,75,76,77,78,79,80] (sps [Bv true,Bv true] (xW [83,84,85,86,87,88,89] (sps [Bv true,Bv true] (xW [92,93,94,95,96,97] (sp (Bv true) (zjn (xK true rfl (fun _=>zcr (sp (Bv false) (zjr (t_r (ret1 (Bv false) rfl rfl ⟨_,rfl,?_,H.base⟩))))) (fun h=>absurd h qj))))))))))
     rw [xy (fun h=>by obtain ⟨h1,h2,h3,h4,h5,h6,h7,h8,h9,h10,h11⟩:=h;first | contradiction | omega | exact h3 ⟨‹_›,‹_›⟩ | (obtain ⟨q1,q2,q3,q4,q5⟩:=h11 k qf;first | contradiction | omega | (have:=q5 qf;omega)))]
    replace h12:=xM h12
    replace h12:=ve h12
    refine xW [56,57,58,59,60,61,62] (sps [Bv true,Bv true] (xW [65,66,67,68,69,70,71] (sps [Bv true,Bv true] (xW [74,75,76,77,78,79,80] (sps [Bv true,Bv true] (xW [83,84,85,86,87,88,89] (sps [Bv true,Bv true] (xW [92,93,94,95,96,97] (sp (Bv true) (zjn (xK true rfl (fun _=>zcr (sp (Bv false) (zjr (t_r (ret1 (Bv false) rfl rfl ⟨_,rfl,?_,H.base⟩))))) (fun h=>absurd h qj))))))))))))
    rw [xy (fun h=>by obtain ⟨h1,h2,h3,h4,h5,h6,h7,h8,h9,h10,h11⟩:=h;first | contradiction | omega | exact h3 ⟨‹_›,‹_›⟩ | (obtain ⟨q1,q2,q3,q4,q5⟩:=h11 k qf;first | contradiction | omega | (have:=q5 qf;omega)))]
   rw [h8] at H
   refine rgp 26 (pp br or) 32 H ?_
   refine rgp 27 (pp br or) 32 H ?_
   refine gF 28 rfl rfl H ?_
   refine gL 29 rfl rfl (fun _ h=>h.x9 3 rfl 0 rfl) H ?_
   refine rgp 30 (Bv ((r.qN:Int) == 0)) 32 H ?_
   refine rgp 31 (Bv ((r.qN:Int) == 0)) 27 H ?_
   refine rtp 32 (Bv ((r.qN:Int) == 0)) H ?_
   refine rtp 33 (Bv ((r.qN:Int) == 0)) H ?_
   cases h51:((r.qN:Int) == 0)
   ·skip
    replace h51:=ne_of_beq_false h51
    refine rgp 34 (pp br or) 40 H ?_
    refine rgp 35 (pp br or) 40 H ?_
    refine gF 36 rfl rfl H ?_
    refine gL 37 rfl rfl (fun _ h=>h.x9 3 rfl 7 rfl) H ?_
    refine gN 38 rfl rfl H ?_
    refine rgp 39 (Bv (decide ((r.qW.length:Int) > 3))) 40 H ?_
    refine rtp 40 (Bv (decide ((r.qW.length:Int) > 3))) H ?_
    refine xJ qh (t_n (cD rfl (fun h52=>?_) (fun h52=>?_)))
    ·skip
     refine zcr (sp (Bv false) (zjr (t_r (ret1 (Bv false) rfl rfl ⟨_,rfl,?_,H.base⟩))))
     rw [xy (fun h=>by obtain ⟨h1,h2,h3,h4,h5,h6,h7,h8,h9,h10,h11⟩:=h;first | contradiction | omega | exact h3 ⟨‹_›,‹_›⟩ | (obtain ⟨q1,q2,q3,q4,q5⟩:=h11 k qf;first | contradiction | omega | (have:=q5 qf;omega)))]
    refine xk (t_n (zcc (sps [pp bs os,pp br or,pp br or] (oF rfl (oL rfl (H.x9 3 rfl 2 rfl) (sw (oq (Xl _ s r.xR (qJ (H.get 0 rfl) 0 3) (H.get 1 rfl).1 (H.get 2 rfl).1 (H.get 4 rfl).1) H fun w53 H=>sps [Bv (!(dec (vS s.xh r.xR))),Bv (!(dec (vS s.xh r.xR)))] ?_)))))))
    cases h55:(!(dec (vS s.xh r.xR)))
    ·skip
     replace h55:=xG h55
     replace h55:=Qq h55
     refine qR 55 rfl rfl (sp (pp bs os) (qR 55 rfl rfl (sp (pp br or) (qR 55 rfl rfl (sp (pp br or) (qR 55 rfl rfl (oF rfl (qR 55 rfl rfl (oL rfl (H.x9 3 rfl 3 rfl) (qR 55 rfl rfl (sw (oq (Xl _ s r.zM (qJ (H.get 0 rfl) 0 3) (H.get 1 rfl).1 (H.get 2 rfl).1 (H.get 5 rfl).1) H fun w56 H=>qR 55 rfl rfl (sps [Bv (!(dec (vS s.xh r.zM))),Bv (!(dec (vS s.xh r.zM))),Bv (!(dec (vS s.xh r.zM)))] ?_)))))))))))))
     cases h58:(!(dec (vS s.xh r.zM)))
     ·skip
      replace h58:=xG h58
      replace h58:=Qq h58
      refine qR 64 rfl rfl (sp (pp bs os) (qR 64 rfl rfl (sp (pp br or) (qR 64 rfl rfl (sp (pp br or) (qR 64 rfl rfl (oF rfl (qR 64 rfl rfl (oL rfl (H.x9 3 rfl 4 rfl) (qR 64 rfl rfl (sw (oq (Xl _ s r.zK (qJ (H.get 0 rfl) 0 3) (H.get 1 rfl).1 (H.get 2 rfl).1 (H.get 6 rfl).1) H fun w59 H=>qR 64 rfl rfl (sps [Bv (!(dec (vS s.xh r.zK))),Bv (!(dec (vS s.xh r.zK))),Bv (!(dec (vS s.xh r.zK)))] ?_)))))))))))))
      cases h61:(!(dec (vS s.xh r.zK)))
      ·skip
       replace h61:=xG h61
       replace h61:=Qq h61
       refine qR 73 rfl rfl (sp (pp bs os) (qR 73 rfl rfl (sp (pp br or) (qR 73 rfl rfl (sp (pp br or) (qR 73 rfl rfl (oF rfl (qR 73 rfl rfl (oL rfl (H.x9 3 rfl 5 rfl) (qR 73 rfl rfl (sw (oq (Xl _ s r.zH (qJ (H.get 0 rfl) 0 3) (H.get 1 rfl).1 (H.get 2 rfl).1 (H.get 7 rfl).1) H fun w62 H=>qR 73 rfl rfl (sps [Bv (!(dec (vS s.xh r.zH))),Bv (!(dec (vS s.xh r.zH))),Bv (!(dec (vS s.xh r.zH)))] ?_)))))))))))))
       cases h64:(!(dec (vS s.xh r.zH)))
       ·skip
        replace h64:=xG h64
        replace h64:=Qq h64
        refine qR 82 rfl rfl (sp (pp bs os) (qR 82 rfl rfl (sp (pp br or) (qR 82 rfl rfl (sp (pp br or) (qR 82 rfl rfl (oF rfl (qR 82 rfl rfl (oL rfl (H.x9 3 rfl 6 rfl) (qR 82 rfl rfl (sw (oq (Xl _ s r.jC (qJ (H.get 0 rfl) 0 3) (H.get 1 rfl).1 (H.get 2 rfl).1 (H.get 8 rfl).1) H fun w65 H=>qR 82 rfl rfl (sps [Bv (!(dec (vS s.xh r.jC))),Bv (!(dec (vS s.xh r.jC))),Bv (!(dec (vS s.xh r.jC)))] ?_)))))))))))))
        cases h67:(!(dec (vS s.xh r.jC)))
        ·skip
         replace h67:=xG h67
         replace h67:=Qq h67
         refine qR 91 rfl rfl (sp (pp br or) (qR 91 rfl rfl (sp (pp br or) (qR 91 rfl rfl (oF rfl (qR 91 rfl rfl (oL rfl (H.x9 3 rfl 2 rfl) (qR 91 rfl rfl (sw (oq (X3 _ r.xR (H.get 4 rfl).1 (by first | assumption | exact vz ql | exact Qa ql)) H fun w68 H=>qR 91 rfl rfl (sps [Bv ((Xh r.xR:Int) == 0),Bv ((Xh r.xR:Int) == 0)] (zjn (cE rfl (fun h70=>?_) (fun h70=>?_))))))))))))))
         ·skip
          refine zcr (sp (Bv false) (zjr (t_r (ret1 (Bv false) rfl rfl ⟨_,rfl,?_,H.base⟩))))
          rw [xy (fun h=>by obtain ⟨h1,h2,h3,h4,h5,h6,h7,h8,h9,h10,h11⟩:=h;first | contradiction | omega | exact h3 ⟨‹_›,‹_›⟩ | (obtain ⟨q1,q2,q3,q4,q5⟩:=h11 k qf;first | contradiction | omega | (have:=q5 qf;omega)))]
         refine xk (t_n (zcc (sp (yI 0) (zjn (xg ?_)))))
         refine zJ (fun m' ρ w71=>∃ (xY:Env) (k:Nat),ρ=upd (upd (upd xY 0 (pp bs os)) 1 (pp br or)) 5 (yI k)∧(k≤r.qW.length)∧(IntosTo s r k)∧m' =r.qW.length - k∧St w w71 [] [atF bs os (yS s qE qC qO qK),sF false xe qE qC s.qA,sF false xE qO qK s.qB,atF br or [yI r.qN,yI r.vP,Sv jW r.xR.length jT,Sv jY r.zM.length jV,Sv jX r.zK.length jU,Sv jO r.zH.length jM,Sv Qs r.jC.length Qr,Sv jE r.qW.length jD,Bv true],sF false XF jW jT r.xR,sF false XI jY jV r.zM,sF false XG jX jU r.zK,sF false XH jO jM r.zH,sF false FrOut Qs Qr r.jC,sF false VJ jE jD r.qW]) (r.qW.length - 0) ⟨_,0,uE3,qf,qx,rfl,H⟩ ?_
         clear H
         rintro m' ρ w72 ⟨xY,k,rfl,i0,i1,rfl,H⟩
         refine zcc (sps [yI k,pp br or,pp br or] (oF rfl (oL rfl (H.x9 3 rfl 7 rfl) (oN rfl (sp (Bv (decide ((k:Int) < r.qW.length))) (zjn (cD rfl (fun h73=>?_) (fun h73=>?_))))))))
         ·skip
          refine xk (t_n (zf (xg (zcr (sps [pp br or,pp br or] (oF rfl (oL rfl (H.x9 3 rfl 7 rfl) (sp (yI k) ?_))))))))
          obtain ⟨b74,o75,rfl⟩:=H.addr 9 rfl qf
          obtain ⟨ae76Bag,ce76Bag,Fe76Bag,H⟩:=H.Qd 9 rfl k k qf qf qf
          refine oI rfl rfl (sp (pp b74 (o75+(k:Int).toNat * 2)) (zjn (zf (zf ?_))))
          refine yl rfl H fun H=>rtp 0 (pp b74 (o75+(k:Int).toNat * 2)) H ?_
          refine rtp 1 (pp b74 (o75+(k:Int).toNat * 2)) H ?_
          refine tF 2 rfl rfl H ?_
          refine tL 3 rfl rfl (fun _ h=>h.x9 1 rfl 0 rfl) H ?_
          refine rtp 4 (pp bs os) H ?_
          refine rtp 5 (pp bs os) H ?_
          refine tF 6 rfl rfl H ?_
          refine tL 7 rfl rfl (fun _ h=>h.x9 2 rfl 1 rfl) H ?_
          refine tN 8 rfl rfl H ?_
          refine rt 9 (yI (s.qA.length - 1)) (y_sub s.qA.length 1 rfl rfl qf) H ?_
          refine ro 10 rfl (oq (l00In_ok w72.drew ((r.qW[k]!).qN) 0 (s.qA.length - 1)) H fun w78 H=>⟨H,(rtp 11 (Bv (!(inR ((r.qW[k]!).qN) 0 (s.qA.length - 1)))) H ?_)⟩)
          refine rtp 12 (Bv (!(inR ((r.qW[k]!).qN) 0 (s.qA.length - 1)))) H ?_
          cases h80:(!(inR ((r.qW[k]!).qN) 0 (s.qA.length - 1)))
          ·skip
           replace h80:=xG h80
           replace h80:=Xj.1 h80
           refine rgp 13 (pp bs os) 126 H ?_
           refine rgp 14 (pp b74 (o75+(k:Int).toNat * 2)) 126 H ?_
           refine rgp 15 (pp b74 (o75+(k:Int).toNat * 2)) 126 H ?_
           refine gF 16 rfl rfl H ?_
           refine gL 17 rfl rfl (fun _ h=>h.x9 1 rfl 0 rfl) H ?_
           refine rgp 18 (pp br or) 126 H ?_
           refine rgp 19 (pp br or) 126 H ?_
           refine gF 20 rfl rfl H ?_
           refine gL 21 rfl rfl (fun _ h=>h.x9 5 rfl 0 rfl) H ?_
           refine jb [22] qh qm (Vh rfl (e:=126) rfl rfl (oq (l02In_ok _ s ((r.qW[k]!).qN) r.qN (qJ (H.get 2 rfl) 0 3) (H.get 3 rfl).1 (H.get 4 rfl).1 ql ql) H fun w81 H=>⟨H,(rgp 23 (Bv (!(dec (Lies s.qA r.qN ((r.qW[k]!).qN))))) 126 H ?_)⟩) jd)
           refine rtp 24 (Bv (!(dec (Lies s.qA r.qN ((r.qW[k]!).qN))))) H ?_
           refine rtp 25 (Bv (!(dec (Lies s.qA r.qN ((r.qW[k]!).qN))))) H ?_
           cases h83:(!(dec (Lies s.qA r.qN ((r.qW[k]!).qN))))
           ·skip
            replace h83:=xG h83
            replace h83:=Qq h83
            refine rgp 26 (pp bs os) 139 H ?_
            refine rgp 27 (pp b74 (o75+(k:Int).toNat * 2)) 139 H ?_
            refine rgp 28 (pp b74 (o75+(k:Int).toNat * 2)) 139 H ?_
            refine gF 29 rfl rfl H ?_
            refine gL 30 rfl rfl (fun _ h=>h.x9 1 rfl 1 rfl) H ?_
            refine jb [31] qh qm (Vh rfl (e:=139) rfl rfl (oq (Xl _ s ((r.qW[k]!).QP) (qJ (H.get 2 rfl) 0 3) (H.get 3 rfl).1 (H.get 4 rfl).1 (H.get 0 rfl).1) H fun w84 H=>⟨H,(rgp 32 (Bv (!(dec (vS s.xh ((r.qW[k]!).QP))))) 139 H ?_)⟩) jd)
            refine rtp 33 (Bv (!(dec (vS s.xh ((r.qW[k]!).QP))))) H ?_
            refine rtp 34 (Bv (!(dec (vS s.xh ((r.qW[k]!).QP))))) H ?_
            cases h86:(!(dec (vS s.xh ((r.qW[k]!).QP))))
            ·skip
             replace h86:=xG h86
             replace h86:=Qq h86
             refine rgp 35 (pp b74 (o75+(k:Int).toNat * 2)) 148 H ?_
             refine rgp 36 (pp b74 (o75+(k:Int).toNat * 2)) 148 H ?_
             refine gF 37 rfl rfl H ?_
             refine gL 38 rfl rfl (fun _ h=>h.x9 1 rfl 1 rfl) H ?_
             refine jb [39] qh qm (Vh rfl (e:=148) rfl rfl (oq (X3 _ ((r.qW[k]!).QP) (H.get 0 rfl).1 (by first | assumption | exact vz ql | exact Qa ql)) H fun w87 H=>⟨H,(rgp 40 (Bv ((Xh ((r.qW[k]!).QP):Int) == 0)) 148 H ?_)⟩) jd)
             refine rtp 41 (Bv ((Xh ((r.qW[k]!).QP):Int) == 0)) H ?_
             refine xJ qh (t_n (cE rfl (fun h89=>?_) (fun h89=>?_)))
             ·skip
              refine zcr (sp (Bv false) (zjr (t_r (zr5 (ret1 (Bv false) rfl rfl ⟨_,rfl,?_,H.base⟩)))))
              rw [xy (fun h=>by obtain ⟨h1,h2,h3,h4,h5,h6,h7,h8,h9,h10,h11⟩:=h;first | contradiction | omega | exact h3 ⟨‹_›,‹_›⟩ | (obtain ⟨q1,q2,q3,q4,q5⟩:=h11 k qf;first | contradiction | omega | (have:=q5 qf;omega)))]
             refine xk (t_n (zf ?_))
             refine yl rfl H fun H=>rtp 0 (yI k) H ?_
             refine rtp 1 (Bv (decide ((k:Int) > 0))) H ?_
             refine rtp 2 (Bv (decide ((k:Int) > 0))) H ?_
             cases h91:(decide ((k:Int) > 0))
             ·skip
              replace h91:=of_decide_eq_false h91
              refine zV [3,4,5,6,7,8,9,10,11,12,13,14,15,16] 14 (H) (rtp 17 (Bv false) H ?_)
              refine xJ qh (t_n (xK false rfl (fun h=>absurd h qj) (fun _=>xk (b_n (t_n (zg (sp (yI k) (sw (zL k 1 rfl rfl qf (sp (yI (k+1)) (zi (xq (m' :=r.qW.length - (k+1)) qf ⟨_,k+1,uE3,?_,?_,rfl,H.sel _ (.refl _) _ qm⟩))))))))))))
              · omega
              · exact i1.succ ⟨‹_›,‹_›,‹_›,‹_›,fun hk=>by omega⟩
             replace h91:=of_decide_eq_true h91
             refine rgp 3 (pp br or) 158 H ?_
             refine rgp 4 (pp br or) 158 H ?_
             refine gF 5 rfl rfl H ?_
             refine gL 6 rfl rfl (fun _ h=>h.x9 5 rfl 7 rfl) H ?_
             refine rgp 7 (yI k) 158 H ?_
             refine rg 8 (yI (k - 1)) 158 (y_sub k 1 rfl rfl qf) H ?_
             obtain ⟨ae92Bag,ce92Bag,Fe92Bag,H⟩:=H.Qd 11 rfl (k - 1) (k - 1) qf qf qf
             refine gI 9 rfl rfl rfl (H.sel _ (.refl _) _ (fun _ h=>List.mem_cons_of_mem _ (List.mem_cons_of_mem _ (h)))) ?_
             refine gF 10 rfl rfl (H.sel _ (.refl _) _ (fun _ h=>List.mem_cons_of_mem _ (List.mem_cons_of_mem _ (h)))) ?_
             refine rgp 12 (pp b74 (o75+(k:Int).toNat * 2)) 158 (H.sel _ (.refl _) _ (fun _ h=>List.mem_cons_of_mem _ (List.mem_cons_of_mem _ (h)))) ?_
             refine rgp 13 (pp b74 (o75+(k:Int).toNat * 2)) 158 (H.sel _ (.refl _) _ (fun _ h=>List.mem_cons_of_mem _ (List.mem_cons_of_mem _ (h)))) ?_
             refine gF 14 rfl rfl (H.sel _ (.refl _) _ (fun _ h=>List.mem_cons_of_mem _ (List.mem_cons_of_mem _ (h)))) ?_
             refine gL 15 rfl rfl (fun _ h=>h.x9 1 rfl 0 rfl) (H.sel _ (.refl _) _ (fun _ h=>List.mem_cons_of_mem _ (List.mem_cons_of_mem _ (h)))) ?_
             refine jb [11] qh qm (Vh rfl (e:=158) rfl rfl (zF (yI ((r.qW[k - 1]!).qN)) isAgg2 rfl (H.x9 1 rfl 0 rfl) (⟨H.dF 2,(rgp 16 (Bv (decide (((r.qW[k - 1]!).qN:Int)≥((r.qW[k]!).qN)))) 158 (H.sel _ (.refl _) _ (fun _ h=>List.mem_cons_of_mem _ (List.mem_cons_of_mem _ (h)))) ?_)⟩)) jd)
             refine rtp 17 (Bv (decide (((r.qW[k - 1]!).qN:Int)≥((r.qW[k]!).qN)))) (H.sel _ (.refl _) _ (fun _ h=>List.mem_cons_of_mem _ (List.mem_cons_of_mem _ (h)))) ?_
             refine xJ qh (t_n (cD rfl (fun h93=>?_) (fun h93=>?_)))
             ·skip
              refine zcr (sp (Bv false) (zjr (zr5 (ret1 (Bv false) rfl rfl ⟨_,rfl,?_,H.base⟩))))
              rw [xy (fun h=>by obtain ⟨h1,h2,h3,h4,h5,h6,h7,h8,h9,h10,h11⟩:=h;first | contradiction | omega | exact h3 ⟨‹_›,‹_›⟩ | (obtain ⟨q1,q2,q3,q4,q5⟩:=h11 k qf;first | contradiction | omega | (have:=q5 qf;omega)))]
             refine xk (b_n (t_n (zg (sp (yI k) (sw (zL k 1 rfl rfl qf (sp (yI (k+1)) (zi (xq (m' :=r.qW.length - (k+1)) qf ⟨_,k+1,uE3,?_,?_,rfl,H.sel _ (.refl _) _ qm⟩)))))))))
             · omega
             · exact i1.succ ⟨‹_›,‹_›,‹_›,‹_›,fun hk=>by omega⟩
            replace h86:=xM h86
            replace h86:=ve h86
            refine zV [35,36,37,38,39,40] 6 (H) (rtp 41 (Bv true) H ?_)
            refine xJ qh (t_n (xK true rfl (fun _=>zcr (sp (Bv false) (zjr (t_r (zr5 (ret1 (Bv false) rfl rfl ⟨_,rfl,?_,H.base⟩)))))) (fun h=>absurd h qj)))
            rw [xy (fun h=>by obtain ⟨h1,h2,h3,h4,h5,h6,h7,h8,h9,h10,h11⟩:=h;first | contradiction | omega | exact h3 ⟨‹_›,‹_›⟩ | (obtain ⟨q1,q2,q3,q4,q5⟩:=h11 k qf;first | contradiction | omega | (have:=q5 qf;omega)))]
           replace h83:=xM h83
           replace h83:=ve h83
           refine zV [26,27,28,29,30,31,32] 7 (H) (rtp 33 (Bv true) H ?_)
           refine rtp 34 (Bv true) H ?_
           refine zV [35,36,37,38,39,40] 6 (H) (rtp 41 (Bv true) H ?_)
           refine xJ qh (t_n (xK true rfl (fun _=>zcr (sp (Bv false) (zjr (t_r (zr5 (ret1 (Bv false) rfl rfl ⟨_,rfl,?_,H.base⟩)))))) (fun h=>absurd h qj)))
           rw [xy (fun h=>by obtain ⟨h1,h2,h3,h4,h5,h6,h7,h8,h9,h10,h11⟩:=h;first | contradiction | omega | exact h3 ⟨‹_›,‹_›⟩ | (obtain ⟨q1,q2,q3,q4,q5⟩:=h11 k qf;first | contradiction | omega | (have:=q5 qf;omega)))]
          replace h80:=xM h80
          replace h80:=XL h80
          refine zV [13,14,15,16,17,18,19,20,21,22,23] 11 (H) (rtp 24 (Bv true) H ?_)
          refine rtp 25 (Bv true) H ?_
          refine zV [26,27,28,29,30,31,32] 7 (H) (rtp 33 (Bv true) H ?_)
          refine rtp 34 (Bv true) H ?_
          refine zV [35,36,37,38,39,40] 6 (H) (rtp 41 (Bv true) H ?_)
          refine xJ qh (t_n (xK true rfl (fun _=>zcr (sp (Bv false) (zjr (t_r (zr5 (ret1 (Bv false) rfl rfl ⟨_,rfl,?_,H.base⟩)))))) (fun h=>absurd h qj)))
          rw [xy (fun h=>by obtain ⟨h1,h2,h3,h4,h5,h6,h7,h8,h9,h10,h11⟩:=h;first | contradiction | omega | exact h3 ⟨‹_›,‹_›⟩ | (obtain ⟨q1,q2,q3,q4,q5⟩:=h11 k qf;first | contradiction | omega | (have:=q5 qf;omega)))]
         refine zx4 (zcr (sp (Bv true) (zjr (ret1 (Bv true) rfl rfl ⟨_,rfl,?_,H.base⟩))))
         obtain rfl:k=r.qW.length:=by omega
         rw [yh ⟨by assumption,by omega,by simp_all,by omega,by assumption,by assumption,by assumption,by assumption,by assumption,by assumption,i1⟩]
        replace h67:=xM h67
        replace h67:=ve h67
        refine xW [92,93,94,95,96,97] (sp (Bv true) (zjn (xK true rfl (fun _=>zcr (sp (Bv false) (zjr (t_r (ret1 (Bv false) rfl rfl ⟨_,rfl,?_,H.base⟩))))) (fun h=>absurd h qj))))
        rw [xy (fun h=>by obtain ⟨h1,h2,h3,h4,h5,h6,h7,h8,h9,h10,h11⟩:=h;first | contradiction | omega | exact h3 ⟨‹_›,‹_›⟩ | (obtain ⟨q1,q2,q3,q4,q5⟩:=h11 k qf;first | contradiction | omega | (have:=q5 qf;omega)))]
       replace h64:=xM h64
       replace h64:=ve h64
       refine xW [83,84,85,86,87,88,89] (sps [Bv true,Bv true] (xW [92,93,94,95,96,97] (sp (Bv true) (zjn (xK true rfl (fun _=>zcr (sp (Bv false) (zjr (t_r (ret1 (Bv false) rfl rfl ⟨_,rfl,?_,H.base⟩))))) (fun h=>absurd h qj))))))
       rw [xy (fun h=>by obtain ⟨h1,h2,h3,h4,h5,h6,h7,h8,h9,h10,h11⟩:=h;first | contradiction | omega | exact h3 ⟨‹_›,‹_›⟩ | (obtain ⟨q1,q2,q3,q4,q5⟩:=h11 k qf;first | contradiction | omega | (have:=q5 qf;omega)))]
      replace h61:=xM h61
      replace h61:=ve h61
      refine xW [74,75,76,77,78,79,80] (sps [Bv true,Bv true] (xW [83,84,85,86,87,88,89] (sps [Bv true,Bv true] (xW [92,93,94,95,96,97] (sp (Bv true) (zjn (xK true rfl (fun _=>zcr (sp (Bv false) (zjr (t_r (ret1 (Bv false) rfl rfl ⟨_,rfl,?_,H.base⟩))))) (fun h=>absurd h qj))))))))
      rw [xy (fun h=>by obtain ⟨h1,h2,h3,h4,h5,h6,h7,h8,h9,h10,h11⟩:=h;first | contradiction | omega | exact h3 ⟨‹_›,‹_›⟩ | (obtain ⟨q1,q2,q3,q4,q5⟩:=h11 k qf;first | contradiction | omega | (have:=q5 qf;omega)))]
     replace h58:=xM h58
     replace h58:=ve h58
     refine xW [65,66,67,68,69,70,71] (sps [Bv true,Bv true] (xW [74,75,76,77,78,79,80] (sps [Bv true,Bv true] (xW [83,84,85,86,87,88,89] (sps [Bv true,Bv true] (xW [92,93,94,95,96,97] (sp (Bv true) (zjn (xK true rfl (fun _=>zcr (sp (Bv false) (zjr (t_r (ret1 (Bv false) rfl rfl ⟨_,rfl,?_,H.base⟩))))) (fun h=>absurd h qj))))))))))
     rw [xy (fun h=>by obtain ⟨h1,h2,h3,h4,h5,h6,h7,h8,h9,h10,h11⟩:=h;first | contradiction | omega | exact h3 ⟨‹_›,‹_›⟩ | (obtain ⟨q1,q2,q3,q4,q5⟩:=h11 k qf;first | contradiction | omega | (have:=q5 qf;omega)))]
    replace h55:=xM h55
    replace h55:=ve h55
    refine xW [56,57,58,59,60,61,62] (sps [Bv true,Bv true] (xW [65,66,67,68,69,70,71] (sps [Bv true,Bv true] (xW [74,75,76,77,78,79,80] (sps [Bv true,Bv true] (xW [83,84,85,86,87,88,89] (sps [Bv true,Bv true] (xW [92,93,94,95,96,97] (sp (Bv true) (zjn (xK true rfl (fun _=>zcr (sp (Bv false) (zjr (t_r (ret1 (Bv false) rfl rfl ⟨_,rfl,?_,H.base⟩))))) (fun h=>absurd h qj))))))))))))
    rw [xy (fun h=>by obtain ⟨h1,h2,h3,h4,h5,h6,h7,h8,h9,h10,h11⟩:=h;first | contradiction | omega | exact h3 ⟨‹_›,‹_›⟩ | (obtain ⟨q1,q2,q3,q4,q5⟩:=h11 k qf;first | contradiction | omega | (have:=q5 qf;omega)))]
   replace h51:=eq_of_beq h51
   refine zV [34,35,36,37,38,39] 6 (H) (rtp 40 (Bv true) H ?_)
   refine xJ qh (t_n (xK true rfl (fun _=>zcr (sp (Bv false) (zjr (t_r (ret1 (Bv false) rfl rfl ⟨_,rfl,?_,H.base⟩))))) (fun h=>absurd h qj)))
   rw [xy (fun h=>by obtain ⟨h1,h2,h3,h4,h5,h6,h7,h8,h9,h10,h11⟩:=h;first | contradiction | omega | exact h3 ⟨‹_›,‹_›⟩ | (obtain ⟨q1,q2,q3,q4,q5⟩:=h11 k qf;first | contradiction | omega | (have:=q5 qf;omega)))]
  replace h7:=xM h7
  replace h7:=XL h7
  refine zV [21,22,23,24,25,26,27,28,29,30,31] 11 (H) (rtp 32 (Bv true) H ?_)
  refine rtp 33 (Bv true) H ?_
  refine zV [34,35,36,37,38,39] 6 (H) (rtp 40 (Bv true) H ?_)
  refine xJ qh (t_n (xK true rfl (fun _=>zcr (sp (Bv false) (zjr (t_r (ret1 (Bv false) rfl rfl ⟨_,rfl,?_,H.base⟩))))) (fun h=>absurd h qj)))
  rw [xy (fun h=>by obtain ⟨h1,h2,h3,h4,h5,h6,h7,h8,h9,h10,h11⟩:=h;first | contradiction | omega | exact h3 ⟨‹_›,‹_›⟩ | (obtain ⟨q1,q2,q3,q4,q5⟩:=h11 k qf;first | contradiction | omega | (have:=q5 qf;omega)))]
 replace h4:=xM h4
 replace h4:=XL h4
 refine zV [13,14,15,16,17,18] 6 (H) (rtp 19 (Bv true) H ?_)
 refine rtp 20 (Bv true) H ?_
 refine zV [21,22,23,24,25,26,27,28,29,30,31] 11 (H) (rtp 32 (Bv true) H ?_)
 refine rtp 33 (Bv true) H ?_
 refine zV [34,35,36,37,38,39] 6 (H) (rtp 40 (Bv true) H ?_)
 refine xJ qh (t_n (xK true rfl (fun _=>zcr (sp (Bv false) (zjr (t_r (ret1 (Bv false) rfl rfl ⟨_,rfl,?_,H.base⟩))))) (fun h=>absurd h qj)))
 rw [xy (fun h=>by obtain ⟨h1,h2,h3,h4,h5,h6,h7,h8,h9,h10,h11⟩:=h;first | contradiction | omega | exact h3 ⟨‹_›,‹_›⟩ | (obtain ⟨q1,q2,q3,q4,q5⟩:=h11 k qf;first | contradiction | omega | (have:=q5 qf;omega)))]

theorem l02State_ok (w:World) (s:qI) (t:qP) {qE:yOA} {xe:yLN} {qO:yOA} {xE:yLN} {qU:yOA} {xO:yLN} {xf:yOA} {zo:yLN} {qM:yOA} {xB:yLN} (hs:jk w bs os (yS s qE qC qO qK)) (qZ:qX.rep w xe [Sv qE s.qA.length qC] s.qA) (xC:qX.rep w xE [Sv qO s.qB.length qK] s.qB) (ht:jk w bt ot (yT t qU qQ xf qY qM qL)) (xQ:qX.rep w xO [Sv qU t.qG.length qQ] t.qG) (zA:qX.rep w zo [Sv xf t.qH.length qY] t.qH) (xH:qX.rep w xB [Sv qM t.qF.length qL] t.qF) (p0:yg s):Calls Tryz.prog 60 #[pp bs os,pp bt ot] w (Ret (fun v w' =>v=Bv (dec (xI s t))) w):=by
 refine en func60 ntmps60 ?_
 have H:=(((((((St.start w).arg xH).arg zA).arg xQ).Vf ht).arg xC).arg qZ).Vf hs
 have zX:=qV qZ
 have jo:=qV xC
 have yC:=qV xQ
 have Qm:=qV zA
 have jH:=qV xH
 clear hs qZ xC ht xQ zA xH
 have p1:=p0.2.1
 refine zcr (sp (Bv false) (zjn (zf (zf ?_))))
 refine yl rfl H fun H=>rtp 0 (pp bt ot) H ?_
 refine rtp 1 (pp bt ot) H ?_
 refine tF 2 rfl rfl H ?_
 refine tL 3 rfl rfl (fun _ h=>h.x9 3 rfl 0 rfl) H ?_
 refine tN 4 rfl rfl H ?_
 refine rtp 5 (pp bs os) H ?_
 refine rtp 6 (pp bs os) H ?_
 refine tF 7 rfl rfl H ?_
 refine tL 8 rfl rfl (fun _ h=>h.x9 0 rfl 1 rfl) H ?_
 refine tN 9 rfl rfl H ?_
 refine rtp 10 (Bv ((t.qG.length:Int) != s.qA.length)) H ?_
 refine rtp 11 (Bv ((t.qG.length:Int) != s.qA.length)) H ?_
 cases h2:((t.qG.length:Int) != s.qA.length)
 ·skip
  replace h2:=xF h2
  refine rgp 12 (pp bt ot) 17 H ?_
  refine rgp 13 (pp bt ot) 17 H ?_
  refine gF 14 rfl rfl H ?_
  refine gL 15 rfl rfl (fun _ h=>h.x9 3 rfl 1 rfl) H ?_
  refine gN 16 rfl rfl H ?_
  refine rgp 17 (pp bs os) 17 H ?_
  refine rgp 18 (pp bs os) 17 H ?_
  refine gF 19 rfl rfl H ?_
  refine gL 20 rfl rfl (fun _ h=>h.x9 0 rfl 1 rfl) H ?_
  refine gN 21 rfl rfl H ?_
  refine rgp 22 (Bv ((t.qH.length:Int) != s.qA.length)) 17 H ?_
  refine rtp 23 (Bv ((t.qH.length:Int) != s.qA.length)) H ?_
  refine rtp 24 (Bv ((t.qH.length:Int) != s.qA.length)) H ?_
  cases h3:((t.qH.length:Int) != s.qA.length)
  ·skip
   replace h3:=xF h3
   refine rgp 25 (pp bt ot) 30 H ?_
   refine rgp 26 (pp bt ot) 30 H ?_
   refine gF 27 rfl rfl H ?_
   refine gL 28 rfl rfl (fun _ h=>h.x9 3 rfl 0 rfl) H ?_
   obtain ⟨b4,o5,rfl⟩:=H.addr 4 rfl qf
   refine gI 29 rfl rfl rfl H ?_
   refine gL 30 rfl rfl (fun _ h=>h.Vx 4 rfl 0 qf qf) H ?_
   refine rgp 31 (Bv (!(t.qG[0]!))) 30 H ?_
   refine rtp 32 (Bv (!(t.qG[0]!))) H ?_
   refine rtp 33 (Bv (!(t.qG[0]!))) H ?_
   cases h6:(!(t.qG[0]!))
   ·skip
    replace h6:=xG h6
    refine rgp 34 (pp bs os) 39 H ?_
    refine rgp 35 (pp bt ot) 39 H ?_
    refine rgp 36 (pp bt ot) 39 H ?_
    refine gF 37 rfl rfl H ?_
    refine gL 38 rfl rfl (fun _ h=>h.x9 3 rfl 2 rfl) H ?_
    refine jb [39] qh qm (Vh rfl (e:=39) rfl rfl (oq (Xl _ s t.qF (qJ (H.get 0 rfl) 0 3) (H.get 1 rfl).1 (H.get 2 rfl).1 (H.get 6 rfl).1) H fun w7 H=>⟨H,(rgp 40 (Bv (!(dec (vS s.xh t.qF)))) 39 H ?_)⟩) jd)
    refine rtp 41 (Bv (!(dec (vS s.xh t.qF)))) H ?_
    refine xJ qh (t_n (cQ rfl (fun h9=>?_) (fun h9=>?_)))
    ·skip
     refine zcr (sp (Bv false) (zjr (t_r (ret1 (Bv false) rfl rfl ⟨_,rfl,?_,H.base⟩))))
     rw [xy (fun h=>by obtain ⟨h1,h2,h3,h4,h5⟩:=h;first | contradiction | omega | (simp_all;done) | (obtain ⟨q1,q2⟩:=h5 k qf;first | contradiction | (have:=q2 ql;omega)))]
    refine xk (t_n (zcc (sp (yI 0) (zjn (xg ?_)))))
    refine zJ (fun m' ρ w10=>∃ (xY:Env) (k:Nat),ρ=upd (upd (upd xY 0 (pp bs os)) 1 (pp bt ot)) 5 (yI k)∧(k≤t.qH.length)∧(BagsTo s t k)∧m' =t.qH.length - k∧St w w10 [] [atF bs os (yS s qE qC qO qK),sF false xe qE qC s.qA,sF false xE qO qK s.qB,atF bt ot [Sv (aa b4 o5) t.qG.length qQ,Sv xf t.qH.length qY,Sv qM t.qF.length qL],sF false xO (aa b4 o5) qQ t.qG,sF false zo xf qY t.qH,sF false xB qM qL t.qF]) (t.qH.length - 0) ⟨_,0,uE3,qf,qx,rfl,H⟩ ?_
    clear H
    rintro m' ρ w11 ⟨xY,k,rfl,i0,i1,rfl,H⟩
    refine zcc (sps [yI k,pp bt ot,pp bt ot] (oF rfl (oL rfl (H.x9 3 rfl 1 rfl) (oN rfl (sp (Bv (decide ((k:Int) < t.qH.length))) (zjn (cD rfl (fun h12=>?_) (fun h12=>?_))))))))
    ·skip
     refine xk (t_n (zf (xg (zcr (sps [pp bs os,pp bt ot,pp bt ot] (oF rfl (oL rfl (H.x9 3 rfl 1 rfl) (sp (yI k) ?_))))))))
     obtain ⟨b13,o14,rfl⟩:=H.addr 5 rfl qf
     obtain ⟨ae15,ce15,Fe15,H⟩:=H.jq 5 rfl k k qf qf qf
     refine oI rfl rfl (oL rfl (H.x9 1 rfl 0 rfl) (sw (oq (Xl _ s (t.qH[k]!) (qJ (H.get 2 rfl) 0 3) (H.get 3 rfl).1 (H.get 4 rfl).1 (H.get 0 rfl).1) H fun w16 H=>sps [Bv (!(dec (vS s.xh (t.qH[k]!)))),Bv (!(dec (vS s.xh (t.qH[k]!))))] ?_)))
     cases h18:(!(dec (vS s.xh (t.qH[k]!))))
     ·skip
      replace h18:=xG h18
      replace h18:=Qq h18
      refine qR 67 rfl rfl (sp (pp bt ot) (qR 67 rfl rfl (sp (pp bt ot) (qR 67 rfl rfl (oF rfl (qR 67 rfl rfl (oL rfl (H.x9 5 rfl 0 rfl) (qR 67 rfl rfl (sp (yI k) (qR 67 rfl rfl (oI rfl rfl (qR 67 rfl rfl (oL rfl (H.Vx 6 rfl k qf qf) (qR 67 rfl rfl (sp (Bv (!(t.qG[k]!))) (qR 67 rfl rfl (sp (Bv (!(t.qG[k]!))) ?_)))))))))))))))))
      cases h19:(!(t.qG[k]!))
      ·skip
       replace h19:=xG h19
       refine xW [77,78,79,80,81,82,83,84,85] (qR 67 rfl rfl (sps [Bv false,Bv false] (zjn (xK false rfl (fun h=>absurd h qj) (fun _=>xk (b_n (t_n (zg (sp (yI k) (sw (zL k 1 rfl rfl qf (sp (yI (k+1)) (zi (xq (m' :=t.qH.length - (k+1)) qf ⟨_,k+1,uE3,?_,?_,rfl,H.sel _ (.refl _) _ qm⟩))))))))))))))
       · omega
       · exact i1.succ ‹_› (fun hk=>by first | omega | simp_all)
      replace h19:=xM h19
      refine qR 76 rfl rfl (sp (pp bt ot) (qR 76 rfl rfl (sp (pp bt ot) (qR 76 rfl rfl (oF rfl (qR 76 rfl rfl (oL rfl (H.x9 5 rfl 1 rfl) (qR 76 rfl rfl (sp (yI k) (qR 76 rfl rfl (oI rfl rfl (qR 76 rfl rfl (oL rfl (H.x9 1 rfl 0 rfl) (qR 76 rfl rfl (sw (oq (X3 _ (t.qH[k]!) (H.get 0 rfl).1 (by first | assumption | exact vz ql | exact Qa ql)) H fun w20 H=>qR 76 rfl rfl (sp (Bv (decide ((Xh (t.qH[k]!):Int) > 0))) (qR 67 rfl rfl ?_))))))))))))))))))
      refine sps [Bv (decide ((Xh (t.qH[k]!):Int) > 0)),Bv (decide ((Xh (t.qH[k]!):Int) > 0))] (zjn (cD rfl (fun h22=>?_) (fun h22=>?_)))
      ·skip
       refine zcr (sp (Bv false) (zjr (zr5 (ret1 (Bv false) rfl rfl ⟨_,rfl,?_,H.base⟩))))
       rw [xy (fun h=>by obtain ⟨h1,h2,h3,h4,h5⟩:=h;first | contradiction | omega | (simp_all;done) | (obtain ⟨q1,q2⟩:=h5 k qf;first | contradiction | (have:=q2 ql;omega)))]
      refine xk (b_n (t_n (zg (sp (yI k) (sw (zL k 1 rfl rfl qf (sp (yI (k+1)) (zi (xq (m' :=t.qH.length - (k+1)) qf ⟨_,k+1,uE3,?_,?_,rfl,H.sel _ (.refl _) _ qm⟩)))))))))
      · omega
      · exact i1.succ ‹_› (fun hk=>by first | omega | simp_all)
     replace h18:=xM h18
     replace h18:=ve h18
     refine xW [68,69,70,71,72,73,74,75,76,77,78,79,80,81,82,83,84,85,86] (sp (Bv true) (zjn (xK true rfl (fun _=>zcr (sp (Bv false) (zjr (zr5 (ret1 (Bv false) rfl rfl ⟨_,rfl,?_,H.base⟩))))) (fun h=>absurd h qj))))
     rw [xy (fun h=>by obtain ⟨h1,h2,h3,h4,h5⟩:=h;first | contradiction | omega | (simp_all;done) | (obtain ⟨q1,q2⟩:=h5 k qf;first | contradiction | (have:=q2 ql;omega)))]
    refine zx4 (zcr (sp (Bv true) (zjr (ret1 (Bv true) rfl rfl ⟨_,rfl,?_,H.base⟩))))
    obtain rfl:k=t.qH.length:=by omega
    rw [yh ⟨by omega,by omega,by first | assumption | simp_all,by assumption,i1⟩]
   replace h6:=xM h6
   refine zV [34,35,36,37,38,39,40] 7 (H) (rtp 41 (Bv true) H ?_)
   refine xJ qh (t_n (xK true rfl (fun _=>zcr (sp (Bv false) (zjr (t_r (ret1 (Bv false) rfl rfl ⟨_,rfl,?_,H.base⟩))))) (fun h=>absurd h qj)))
   rw [xy (fun h=>by obtain ⟨h1,h2,h3,h4,h5⟩:=h;first | contradiction | omega | (simp_all;done) | (obtain ⟨q1,q2⟩:=h5 k qf;first | contradiction | (have:=q2 ql;omega)))]
  replace h3:=bne_iff_ne.1 h3
  refine zV [25,26,27,28,29,30,31] 7 (H) (rtp 32 (Bv true) H ?_)
  refine rtp 33 (Bv true) H ?_
  refine zV [34,35,36,37,38,39,40] 7 (H) (rtp 41 (Bv true) H ?_)
  refine xJ qh (t_n (xK true rfl (fun _=>zcr (sp (Bv false) (zjr (t_r (ret1 (Bv false) rfl rfl ⟨_,rfl,?_,H.base⟩))))) (fun h=>absurd h qj)))
  rw [xy (fun h=>by obtain ⟨h1,h2,h3,h4,h5⟩:=h;first | contradiction | omega | (simp_all;done) | (obtain ⟨q1,q2⟩:=h5 k qf;first | contradiction | (have:=q2 ql;omega)))]
 replace h2:=bne_iff_ne.1 h2
 refine zV [12,13,14,15,16,17,18,19,20,21,22] 11 (H) (rtp 23 (Bv true) H ?_)
 refine rtp 24 (Bv true) H ?_
 refine zV [25,26,27,28,29,30,31] 7 (H) (rtp 32 (Bv true) H ?_)
 refine rtp 33 (Bv true) H ?_
 refine zV [34,35,36,37,38,39,40] 7 (H) (rtp 41 (Bv true) H ?_)
 refine xJ qh (t_n (xK true rfl (fun _=>zcr (sp (Bv false) (zjr (t_r (ret1 (Bv false) rfl rfl ⟨_,rfl,?_,H.base⟩))))) (fun h=>absurd h qj)))
 rw [xy (fun h=>by obtain ⟨h1,h2,h3,h4,h5⟩:=h;first | contradiction | omega | (simp_all;done) | (obtain ⟨q1,q2⟩:=h5 k qf;first | contradiction | (have:=q2 ql;omega)))]

theorem l02Parent_ok (w:World) (s:qI) (t:qP) (c:Int) {qE:yOA} {xe:yLN} {qO:yOA} {xE:yLN} {qU:yOA} {xO:yLN} {xf:yOA} {zo:yLN} {qM:yOA} {xB:yLN} (hs:jk w bs os (yS s qE qC qO qK)) (qZ:qX.rep w xe [Sv qE s.qA.length qC] s.qA) (xC:qX.rep w xE [Sv qO s.qB.length qK] s.qB) (ht:jk w bt ot (yT t qU qQ xf qY qM qL)) (xQ:qX.rep w xO [Sv qU t.qG.length qQ] t.qG) (zA:qX.rep w zo [Sv xf t.qH.length qY] t.qH) (xH:qX.rep w xB [Sv qM t.qF.length qL] t.qF) (p0:yg s) (p1:CellIn s c) (p2:t.qG.length=s.qA.length):Calls Tryz.prog 113 #[pp bs os,pp bt ot,yI c] w (Ret (fun v w' =>v=yI (xm s t c)) w):=by
 refine en func113 ntmps113 ?_
 have H:=(((((((St.start w).arg xH).arg zA).arg xQ).Vf ht).arg xC).arg qZ).Vf hs
 have zX:=qV qZ
 have jo:=qV xC
 have yC:=qV xQ
 have Qm:=qV zA
 have jH:=qV xH
 clear hs qZ xC ht xQ zA xH
 have p3:=p0.step p1.1 p1.2
 refine zcr (sp (yI 0) (zjc (sps [pp bs os,pp bs os] (oF rfl (oL rfl (H.x9 0 rfl 1 rfl) (sp (yI c) ?_))))))
 obtain ⟨b1,o2,rfl⟩:=H.addr 1 rfl qf
 refine oI rfl rfl (oL rfl (H.yF 1 rfl c qf qf) (sp (yI (s.qA[c.toNat]!)) (zjn (zf (xg ?_)))))
 refine zJ (fun m' ρ w3=>∃ (xY:Env) (y:Int) (n:Nat),ρ=upd (upd (upd (upd xY 0 (pp bs os)) 1 (pp bt ot)) 6 (yI 0)) 7 (yI y)∧(-1≤y∧y≤(s.qA.length:Int) - 1)∧(y < n)∧(xm s t c=climb s.qA t.qG n y)∧m' =(y+1).toNat∧St w w3 [] [atF bs os [yI s.xh,Sv (aa b1 o2) s.qA.length qC,Sv qO s.qB.length qK],sF false xe (aa b1 o2) qC s.qA,sF false xE qO qK s.qB,atF bt ot (yT t qU qQ xf qY qM qL),sF false xO qU qQ t.qG,sF false zo xf qY t.qH,sF false xB qM qL t.qF]) (((s.qA[c.toNat]!)+1).toNat) ⟨_,s.qA[c.toNat]!,s.qA.length,uE4,qf,qf,(by rfl),rfl,H⟩ ?_
 clear H
 rintro m' ρ w4 ⟨xY,y,n,rfl,i0,i1,i2,rfl,H⟩
 have up:=fun h=>p0.step (c:=y) h i0.2
 refine zcc (sps [yI y,Bv (decide ((y:Int)≥0)),Bv (decide ((y:Int)≥0))] ?_)
 cases h5:(decide ((y:Int)≥0))
 ·skip
  replace h5:=of_decide_eq_false h5
  refine xW [18,19,20,21,22,23,24,25] (sp (Bv false) (zjn (xK false rfl (fun h=>absurd h qj) (fun _=>zx4 (zcr (sps [yI y,yI y] (zjr (ret1 (yI y) rfl rfl ⟨_,rfl,?_,H.base⟩))))))))
  rw [i2,climb_end (by first | omega | simp_all)]
 replace h5:=of_decide_eq_true h5
 refine qR 17 rfl rfl (sp (pp bt ot) (qR 17 rfl rfl (sp (pp bt ot) (qR 17 rfl rfl (oF rfl (qR 17 rfl rfl (oL rfl (H.x9 3 rfl 0 rfl) (qR 17 rfl rfl (sp (yI y) (qR 17 rfl rfl ?_))))))))))
 obtain ⟨b6,o7,rfl⟩:=H.addr 4 rfl qf
 refine oI rfl rfl (qR 17 rfl rfl (oL rfl (H.Vx 4 rfl y qf qf) (qR 17 rfl rfl (sps [Bv (!(t.qG[y.toNat]!)),Bv (!(t.qG[y.toNat]!))] (zjn (xK (!(t.qG[y.toNat]!)) rfl (fun h8=>?_) (fun h8=>?_)))))))
 ·skip
  replace h8:=xM h8
  refine xk (t_n (xg (zg (sps [pp bs os,pp bs os] (oF rfl (oL rfl (H.x9 0 rfl 1 rfl) (sp (yI y) (oI rfl rfl (oL rfl (H.yF 1 rfl y qf qf) (sp (yI (s.qA[y.toNat]!)) (zi (b_n ?_))))))))))))
  have up1:=up qf
  refine xq (m' :=((s.qA[y.toNat]!)+1).toNat) qf ⟨_,(s.qA[y.toNat]!),n - 1,uE4,?_,?_,?_,rfl,H⟩
  · omega
  · omega
  · exact i2.trans (climb_go qf qf ‹_›)
 replace h8:=xG h8
 refine zx4 (zcr (sps [yI y,yI y] (zjr (ret1 (yI y) rfl rfl ⟨_,rfl,?_,H.base⟩))))
 rw [i2,climb_end (by first | omega | simp_all)]

theorem l02Ok_ok (w:World) (s:qI) {qE:yOA} {xe:yLN} {qO:yOA} {xE:yLN} (hs:jk w bs os (yS s qE qC qO qK)) (qZ:qX.rep w xe [Sv qE s.qA.length qC] s.qA) (xC:qX.rep w xE [Sv qO s.qB.length qK] s.qB):Calls Tryz.prog 59 #[pp bs os] w (Ret (fun v w' =>v=Bv (dec (zQ s))) w):=by
 refine en func59 ntmps59 ?_
 have H:=(((St.start w).arg xC).arg qZ).Vf hs
 have zX:=qV qZ
 have jo:=qV xC
 clear hs qZ xC
 have p1:=fun h:yg s=>h.2.1
 refine zcr (sp (Bv false) (zjcc (sp (pp bs os) (sw (oq (l02Frame_ok _ s (qJ (H.get 0 rfl) 0 3) (H.get 1 rfl).1 (H.get 2 rfl).1) H fun w1 H=>sps [Bv (!(dec (yg s))),Bv (!(dec (yg s)))] ?_)))))
 cases h3:(!(dec (yg s)))
 ·skip
  replace h3:=xG h3
  replace h3:=Qq h3
  refine qR 8 rfl rfl (sp (pp bs os) (qR 8 rfl rfl (sp (pp bs os) (qR 8 rfl rfl (oF rfl (qR 8 rfl rfl (oL rfl (H.x9 0 rfl 2 rfl) (qR 8 rfl rfl (oN rfl (qR 8 rfl rfl (sps [Bv (decide ((s.qB.length:Int) > 16)),Bv (decide ((s.qB.length:Int) > 16))] (zjn (cD rfl (fun h4=>?_) (fun h4=>?_))))))))))))))
  ·skip
   refine zcr (sp (Bv false) (zjr (t_r (ret1 (Bv false) rfl rfl ⟨_,rfl,?_,H.base⟩))))
   rw [xy (fun h=>by obtain ⟨h1,h2,h3⟩:=h;first | contradiction | omega | (obtain ⟨q1,q2⟩:=h3 k qf;first | contradiction | (have:=Yd (k:=k+1) q;omega)))]
  have p2:=p1 ql
  refine xk (t_n (zcr (sps [pp bs os,pp bs os] (oF rfl (oL rfl (H.x9 0 rfl 1 rfl) (oN rfl (sw (o_make1 H underlying24 ti2 rfl s.qA.length rfl rfl qf qf fun b5 w6 H=>?_))))))))
  replace H:St _ _ [.box b5 (List.replicate s.qA.length (yI 0)) 2] _:=H
  refine sp (Sv (aa b5 0) s.qA.length s.qA.length) (zjcc (sp (yI 0) (zjn (xg ?_))))
  rw [ints_zero,counts_zero] at H
  refine zJ (fun m' ρ w7=>∃ (xY:Env) (k:Nat),ρ=upd (upd (upd xY 0 (pp bs os)) 3 (Sv (aa b5 0) s.qA.length s.qA.length)) 4 (yI k)∧(k≤s.qB.length)∧(RulesTo s k)∧m' =s.qB.length - k∧St w w7 [.box b5 ((counts s k).map (Value.int .i64)) 2] [atF bs os (yS s qE qC qO qK),sF false xe qE qC s.qA,sF false xE qO qK s.qB]) (s.qB.length - 0) ⟨_,0,uE3,qf,qx,rfl,H⟩ ?_
  clear H
  rintro m' ρ w8 ⟨xY,k,rfl,i0,i1,rfl,H⟩
  refine zcc (sps [yI k,pp bs os,pp bs os] (oF rfl (oL rfl (H.x9 0 rfl 2 rfl) (oN rfl (sp (Bv (decide ((k:Int) < s.qB.length))) (zjn (cD rfl (fun h9=>?_) (fun h9=>?_))))))))
  ·skip
   refine xk (t_n (zf (xg (zcc (sps [pp bs os,pp bs os,pp bs os] (oF rfl (oL rfl (H.x9 0 rfl 2 rfl) (sp (yI k) ?_))))))))
   obtain ⟨b10,o11,rfl⟩:=H.addr 2 rfl qf
   obtain ⟨ae12Need,ce12Need,Fe12Need,ae12Have,ce12Have,Fe12Have,ae12Lack,ce12Lack,Fe12Lack,ae12Here,ce12Here,Fe12Here,ae12Out,ce12Out,Fe12Out,ae12Into,ce12Into,Fe12Into,H⟩:=H.yH 2 rfl k k qf qf qf
   refine oI rfl rfl (sw (oq (l02Rule_ok _ s (s.qB[k]!) (qJ (H.get 7 rfl) 0 3) (H.get 8 rfl).1 (H.get 9 rfl).1 (qJ (H.get 6 rfl) 0 9) (H.get 0 rfl).1 (H.get 1 rfl).1 (H.get 2 rfl).1 (H.get 3 rfl).1 (H.get 4 rfl).1 (H.get 5 rfl).1 ql) H fun w13 H=>sp (Bv (!(dec (RuleOk s (s.qB[k]!))))) (zjn (cQ rfl (fun h15=>?_) (fun h15=>?_)))))
   ·skip
    refine zcr (sp (Bv false) (zjr (t_r (zr5 (ret1 (Bv false) rfl rfl ⟨_,rfl,?_,H.base⟩)))))
    rw [xy (fun h=>by obtain ⟨h1,h2,h3⟩:=h;first | contradiction | omega | (obtain ⟨q1,q2⟩:=h3 k qf;first | contradiction | (have:=Yd (k:=k+1) q;omega)))]
   have q:=(h15).1
   refine xk (t_n (zcr (sps [Sv (aa b5 0) s.qA.length s.qA.length,pp bs os,pp bs os] (oF rfl (oL rfl (H.x9 7 rfl 2 rfl) (sp (yI k) (oI rfl rfl (oF rfl (oL rfl (H.x9 6 rfl 0 rfl) (oI rfl rfl (oL rfl (H.cell 0 rfl (ints_get (by rw [counts_len];omega))) (sw (zL ((counts s k)[((s.qB[k]!).qN:Int).toNat]!) 1 rfl rfl (by (first | omega | (rw [Yd q];have:=ofCell_bd s.qB (s.qB[k]!).qN k;omega))) (oI rfl rfl ?_))))))))))))))
   refine sw (o_store1 H 0 rfl (yI (((counts s k)[((s.qB[k]!).qN:Int).toNat]!)+1)) sizeOf2 rfl rfl rfl (ints_lt (by rw [counts_len];omega)) fun w16 H=>?_)
   rw [ints_set] at H
   rw [counts_succ q] at H
   replace H:St _ _ [.box b5 ((counts s (k+1)).map (Value.int .i64)) 2] _:=H
   refine zjc (sps [Sv (aa b5 0) s.qA.length s.qA.length,pp bs os,pp bs os] (oF rfl (oL rfl (H.x9 7 rfl 2 rfl) (sp (yI k) (oI rfl rfl (oF rfl (oL rfl (H.x9 6 rfl 0 rfl) (oI rfl rfl (oL rfl (H.cell 0 rfl (ints_get (by rw [counts_len];omega))) (sp (Bv (decide (((counts s (k+1))[((s.qB[k]!).qN:Int).toNat]! :Int) > 8))) (zjn (cD rfl (fun h17=>?_) (fun h17=>?_)))))))))))))
   ·skip
    refine zcr (sp (Bv false) (zjr (zr5 (ret1 (Bv false) rfl rfl ⟨_,rfl,?_,H.base⟩))))
    rw [xy (fun h=>by obtain ⟨h1,h2,h3⟩:=h;first | contradiction | omega | (obtain ⟨q1,q2⟩:=h3 k qf;first | contradiction | (have:=Yd (k:=k+1) q;omega)))]
   refine xk (b_n (t_n (zg (sp (yI k) (sw (zL k 1 rfl rfl (by (first | omega | (rw [Yd q];have:=ofCell_bd s.qB (s.qB[k]!).qN k;omega))) (sp (yI (k+1)) (zi (xq (m' :=s.qB.length - (k+1)) qf ⟨_,k+1,uE3,?_,?_,rfl,H.sel _ (.refl _) _ qm⟩)))))))))
   · omega
   · exact i1.succ ‹_› (by have:=Yd (k:=k+1) q;omega)
  refine zx4 (zcr (sp (Bv true) (zjr (ret1 (Bv true) rfl rfl ⟨_,rfl,?_,H.base⟩))))
  obtain rfl:k=s.qB.length:=by omega
  rw [yh ⟨by assumption,by omega,i1⟩]
 replace h3:=xM h3
 replace h3:=ve h3
 refine xW [9,10,11,12,13,14] (sp (Bv true) (zjn (xK true rfl (fun _=>zcr (sp (Bv false) (zjr (t_r (ret1 (Bv false) rfl rfl ⟨_,rfl,?_,H.base⟩))))) (fun h=>absurd h qj))))
 rw [xy (fun h=>by obtain ⟨h1,h2,h3⟩:=h;first | contradiction | omega | (obtain ⟨q1,q2⟩:=h3 k qf;first | contradiction | (have:=Yd (k:=k+1) q;omega)))]
theorem cloneB_ok (w:World) (l:List Bool) {al:yOA} {Fl:yLN} (hl:qX.rep w Fl [Sv al l.length cl] l) (p0:l.length≤1000000):Calls Tryz.prog 103 #[Sv al l.length cl] w (Ret (fun v w' =>∃ (ra:yOA) (rn:Nat) (rc:Nat),v=Sv ra rn rc∧Fresh w.heap.size []∧St w w' [rr ra rn rc 4 1 (l.map (Value.bool))] []) w):=by
 refine en func103 ntmps103 ?_
 have H:=(St.start w).arg hl
 have nhl:=qV hl
 clear hl
 have N:=Fresh.nil w.heap.size
 refine zcr (sp yN (zjcc (sp (Sv al l.length cl) (sw (o_eqnil underlying28 al l.length cl rfl (zjn (xK (al.isNone) rfl (fun h1=>?_) (fun h1=>?_))))))))
 ·skip
  refine zcr (sp yN (zjr (t_r ?_)))
  replace H:=H.nilRowB 4
  refine ret1 yN rfl rfl ⟨_,rfl,?_,H.base⟩
  obtain rfl:=H.nilOf 0 rfl ‹_›
  exact ⟨none,0,0,rfl,N,H.pick [0] []⟩
 refine xk (t_n (zcr (sw (je H underlying28 ti4 fun b2 w3 H=>sp (Sv al l.length cl) ?_))))
 replace H:=H.boxRowB 0 [] 0
 refine sw (o_appendFR H 0 rfl 0 rfl underlying28 ti4 rfl qj rfl rfl qp qf fun a4 c5 w6 us7 G8 H hG9=>?_)
 obtain ⟨_,rfl⟩:=reps_bools (H.get 0 rfl).1
 replace H:=H.sub _ fun f hf=>List.mem_cons_of_mem _ hf
 rw [catB] at H
 refine sp (Sv a4 (0+l.length) c5) (zjr (ret1 (Sv a4 (0+l.length) c5) rfl rfl ⟨_,rfl,(⟨a4,0+l.length,c5,rfl,N,H.pick [0] []⟩),H.base⟩))

theorem l02Own_ok (w:World) (t:qP) {qU:yOA} {xO:yLN} {xf:yOA} {zo:yLN} {qM:yOA} {xB:yLN} (ht:jk w bt ot (yT t qU qQ xf qY qM qL)) (xQ:qX.rep w xO [Sv qU t.qG.length qQ] t.qG) (zA:qX.rep w zo [Sv xf t.qH.length qY] t.qH) (xH:qX.rep w xB [Sv qM t.qF.length qL] t.qF) (p0:t.qG.length≤1000000) (p1:t.qF.length≤1000000) (p2:t.qH.length≤1000000) (p3:∀ k,k < t.qH.length→(t.qH[k]!).length≤1000000):Calls Tryz.prog 55 #[pp bt ot] w (Ret (fun v w' =>∃ (raAlive:yOA) (rnAlive:Nat) (rcAlive:Nat) (raBags:yOA) (rnBags:Nat) (rcBags:Nat) (rxBags:List Value) (rFBags:yLN) (raAround:yOA) (rnAround:Nat) (rcAround:Nat),v=.agg #[Sv raAlive rnAlive rcAlive,Sv raBags rnBags rcBags,Sv raAround rnAround rcAround]∧Fresh w.heap.size [rFBags]∧St w w' [rr raAlive rnAlive rcAlive 4 1 (t.qG.map (Value.bool)),rr raBags rnBags rcBags 24 1 rxBags,rr raAround rnAround rcAround 2 1 (t.qF.map (Value.int .i64))] [xN true rFBags rxBags t.qH]) w):=by
 refine en func55 ntmps55 ?_
 have H:=((((St.start w).arg xH).arg zA).arg xQ).Vf ht
 have yC:=qV xQ
 have Qm:=qV zA
 have jH:=qV xH
 clear ht xQ zA xH
 have N:=Fresh.nil w.heap.size
 refine zcr (sw (xZ H ti31 [yN,yN,yN] fun b1 w2 H=>zjn (zf ?_)))
 refine c_cut (fun ρ w8=>∃ (xY:Env) (b3:Nat) (a4:yOA) (c5:Nat) (a6:yOA) (c7:Nat),ρ=upd (upd (upd xY 0 (pp bt ot)) 2 (pp b1 0)) 3 (pp b3 0)∧Fresh w.heap.size []∧St w w8 [.box b3 [Sv a4 (0+t.qG.length) c5,yN,Sv a6 t.qF.length c7] 31,rr a6 t.qF.length c7 2 1 (t.qF.map (Value.int .i64)),rr a4 (0+t.qG.length) c5 4 1 ((([]:List Bool)++t.qG).map (Value.bool)),.box b1 [yN,yN,yN] 31] [atF bt ot (yT t qU qQ xf qY qM qL),sF false xO qU qQ t.qG,sF false zo xf qY t.qH,sF false xB qM qL t.qF]) ?_ ?_
 ·skip
  refine yl rfl H fun H=>rtp 1 (pp bt ot) H ?_
  refine rtp 2 (pp bt ot) H ?_
  refine tF 3 rfl rfl H ?_
  refine tL 4 rfl rfl (fun _ h=>h.x9 0 rfl 0 rfl) H ?_
  refine rtp 6 (pp bt ot) H ?_
  refine rtp 7 (pp bt ot) H ?_
  refine tF 8 rfl rfl H ?_
  refine tL 9 rfl rfl (fun _ h=>h.x9 0 rfl 2 rfl) H ?_
  refine jb [0,12] qh qm (jQ rfl ?_ (jQ rfl ?_ jd))
  ·skip
   refine je H underlying28 ti4 fun b10 w11 H=>⟨H.pick [1] [0,1,2,3],(jb [5,12] qh qm (jQ rfl ?_ (jQ rfl ?_ jd)))⟩
   ·skip
    replace H:=H.boxRowB 0 [] 0
    refine o_appendFR H 0 rfl 1 rfl underlying28 ti4 rfl qj rfl rfl qp qf fun a12 c13 w14 us15 G16 H hG17=>?_
    obtain ⟨_,rfl⟩:=reps_bools (H.get 0 rfl).1
    replace H:=H.sub _ fun f hf=>List.mem_cons_of_mem _ hf
    rw [catB] at H
    refine ⟨H.pick [1] [0,1,2,3],(jb [10,12] qh qm (jQ rfl ?_ (jQ rfl ?_ jd)))⟩
    ·skip
     have sz18:=H.base.size
     refine oc (XW _ t.qF (H.get 3 rfl).1 qg) ?_
     rintro v23 w21 r23 x22
     replace H:=H.zB x22 r23
     obtain ⟨a24,c25,rfl,hc26,hm27⟩:=H.jG 0 rfl
     refine ⟨H.pick [2] [0,1,2,3],(jb [11,12] qh qm (jQ rfl ?_ (jQ rfl ?_ jd)))⟩
     ·skip
      refine vX [Sv a12 (0+t.qG.length) c13,yN,Sv a24 t.qF.length c25] [(0,Sv a12 (0+t.qG.length) c13),(2,Sv a24 t.qF.length c25)] (⟨H.pick [2] [0,1,2,3],(ro 12 rfl (xZ H ti31 [yN,yN,yN] fun b28 w29 H=>⟨H.pick [3] [0,1,2,3],(ro 13 rfl (zu H 0 [Sv a12 (0+t.qG.length) c13,yN,Sv a24 t.qF.length c25] sizeOf31 fun w30 H=>⟨H.pick [3] [0,1,2,3],(xJ qh ((meet ⟨_,b28,a12,c13,a24,c25,uE3,N,H⟩)))⟩))⟩))⟩)
     refine xZ H ti31 [yN,yN,yN] fun b31 w32 H=>⟨H.pick [3] [0,1,2,3],(ro 11 rfl (vX [Sv a12 (0+t.qG.length) c13,yN,Sv a24 t.qF.length c25] [(0,Sv a12 (0+t.qG.length) c13),(2,Sv a24 t.qF.length c25)] (⟨H.pick [3] [0,1,2,3],(ro 13 rfl (zu H 0 [Sv a12 (0+t.qG.length) c13,yN,Sv a24 t.qF.length c25] sizeOf31 fun w33 H=>⟨H.pick [3] [0,1,2,3],(xJ qh ((meet ⟨_,b31,a12,c13,a24,c25,uE3,N,H⟩)))⟩))⟩)))⟩
    refine xZ H ti31 [yN,yN,yN] fun b34 w35 H=>⟨H.pick [2] [0,1,2,3],(ro 10 rfl ?_)⟩
    have sz36:=H.base.size
    refine oc (XW _ t.qF (H.get 3 rfl).1 qg) ?_
    rintro v41 w39 r41 x40
    replace H:=H.zB x40 r41
    obtain ⟨a42,c43,rfl,hc44,hm45⟩:=H.jG 0 rfl
    refine ⟨H.pick [3] [0,1,2,3],(ro 11 rfl (vX [Sv a12 (0+t.qG.length) c13,yN,Sv a42 t.qF.length c43] [(0,Sv a12 (0+t.qG.length) c13),(2,Sv a42 t.qF.length c43)] (⟨H.pick [3] [0,1,2,3],(ro 13 rfl (zu H 1 [Sv a12 (0+t.qG.length) c13,yN,Sv a42 t.qF.length c43] sizeOf31 fun w46 H=>⟨H.pick [3] [0,1,2,3],(xJ qh ((meet ⟨_,b34,a12,c13,a42,c43,uE3,N,H.pick [1,0,2,3] [0,1,2,3]⟩)))⟩))⟩)))⟩
   refine xZ H ti31 [yN,yN,yN] fun b47 w48 H=>⟨H.pick [2] [0,1,2,3],(ro 5 rfl ?_)⟩
   replace H:=H.boxRowB 1 [] 0
   refine o_appendFR H 1 rfl 1 rfl underlying28 ti4 rfl qj rfl rfl qp qf fun a49 c50 w51 us52 G53 H hG54=>?_
   obtain ⟨_,rfl⟩:=reps_bools (H.get 0 rfl).1
   replace H:=H.sub _ fun f hf=>List.mem_cons_of_mem _ hf
   rw [catB] at H
   refine ⟨H.pick [2] [0,1,2,3],(ro 10 rfl ?_)⟩
   have sz55:=H.base.size
   refine oc (XW _ t.qF (H.get 3 rfl).1 qg) ?_
   rintro v60 w58 r60 x59
   replace H:=H.zB x59 r60
   obtain ⟨a61,c62,rfl,hc63,hm64⟩:=H.jG 0 rfl
   refine ⟨H.pick [3] [0,1,2,3],(ro 11 rfl (vX [Sv a49 (0+t.qG.length) c50,yN,Sv a61 t.qF.length c62] [(0,Sv a49 (0+t.qG.length) c50),(2,Sv a61 t.qF.length c62)] (⟨H.pick [3] [0,1,2,3],(ro 13 rfl (zu H 1 [Sv a49 (0+t.qG.length) c50,yN,Sv a61 t.qF.length c62] sizeOf31 fun w65 H=>⟨H.pick [3] [0,1,2,3],(xJ qh ((meet ⟨_,b47,a49,c50,a61,c62,uE3,N,H.pick [1,0,2,3] [0,1,2,3]⟩)))⟩))⟩)))⟩
  refine xZ H ti31 [yN,yN,yN] fun b66 w67 H=>⟨H.pick [1] [0,1,2,3],(ro 0 rfl (je H underlying28 ti4 fun b68 w69 H=>⟨H.pick [2] [0,1,2,3],(ro 5 rfl ?_)⟩))⟩
  replace H:=H.boxRowB 0 [] 0
  refine o_appendFR H 0 rfl 1 rfl underlying28 ti4 rfl qj rfl rfl qp qf fun a70 c71 w72 us73 G74 H hG75=>?_
  obtain ⟨_,rfl⟩:=reps_bools (H.get 0 rfl).1
  replace H:=H.sub _ fun f hf=>List.mem_cons_of_mem _ hf
  rw [catB] at H
  refine ⟨H.pick [2] [0,1,2,3],(ro 10 rfl ?_)⟩
  have sz76:=H.base.size
  refine oc (XW _ t.qF (H.get 3 rfl).1 qg) ?_
  rintro v81 w79 r81 x80
  replace H:=H.zB x80 r81
  obtain ⟨a82,c83,rfl,hc84,hm85⟩:=H.jG 0 rfl
  refine ⟨H.pick [3] [0,1,2,3],(ro 11 rfl (vX [Sv a70 (0+t.qG.length) c71,yN,Sv a82 t.qF.length c83] [(0,Sv a70 (0+t.qG.length) c71),(2,Sv a82 t.qF.length c83)] (⟨H.pick [3] [0,1,2,3],(ro 13 rfl (zu H 2 [Sv a70 (0+t.qG.length) c71,yN,Sv a82 t.qF.length c83] sizeOf31 fun w86 H=>⟨H.pick [3] [0,1,2,3],(xJ qh ((meet ⟨_,b66,a70,c71,a82,c83,uE3,N,H.pick [2,0,1,3] [0,1,2,3]⟩)))⟩))⟩)))⟩
 clear H N
 rintro ρ w87 ⟨xY,b3,a4,c5,a6,c7,rfl,N,H⟩
 refine t_n (zcc (sp (yI 0) (zjn (xg ?_))))
 replace H:=H.nilRow 24 1
 replace H:=H.vT (α:=yLI)
 refine zJ (fun m' ρ w88=>∃ (xY:Env) (c:Nat) (yO:yOA) (vW:Nat) (yM:Nat) (out_Bags:yLL) (vg:List Value) (zq:yLN),ρ=upd (upd (upd (upd xY 0 (pp bt ot)) 2 (pp b1 0)) 3 (pp b3 0)) 4 (yI c)∧out_Bags=t.qH.take c∧((c:Int)≤t.qH.length)∧m' =(t.qH.length - (c:Int)).toNat∧Fresh w.heap.size [zq]∧St w w88 [rr yO vW yM 24 1 vg,.box b3 [Sv a4 (0+t.qG.length) c5,Sv yO vW yM,Sv a6 t.qF.length c7] 31,rr a6 t.qF.length c7 2 1 (t.qF.map (Value.int .i64)),rr a4 (0+t.qG.length) c5 4 1 ((([]:List Bool)++t.qG).map (Value.bool)),.box b1 [yN,yN,yN] 31] [xN true zq vg out_Bags,atF bt ot (yT t qU qQ xf qY qM qL),sF false xO qU qQ t.qG,sF false zo xf qY t.qH,sF false xB qM qL t.qF]) ((t.qH.length - (0:Int)).toNat) ⟨_,0,none,0,0,([]:yLL),[],[],uE4,(by rfl),qf,rfl,N.emp,H⟩ ?_
 clear H N
 rintro m' ρ w89 ⟨xY,c,yO,vW,yM,out_Bags,vg,zq,rfl,rfl,i0,rfl,N,H⟩
 have V7:=H.x8 (α:=yLI) 0 rfl 0 rfl qj
 have p4:=p3 c
 rw [List.length_take_of_le qf] at V7
 refine zcc (sps [yI c,pp bt ot,pp bt ot] (oF rfl (oL rfl (H.x9 1 rfl 1 rfl) (oN rfl (sp (Bv (decide ((c:Int) < t.qH.length))) (zjn (cD rfl (fun h90=>?_) (fun h90=>?_))))))))
 ·skip
  refine xk (t_n (zf (xg ?_)))
  obtain ⟨b91,o92,rfl⟩:=H.addr 3 rfl qf
  refine c_cut (fun ρ w102=>∃ (xY:Env) (a94:yOA) (c95:Nat) (a96:yOA) (c97:Nat) (G98:yLN) (F99:yLN) (a100:yOA) (c101:Nat),ρ=upd (upd (upd (upd xY 0 (pp bt ot)) 2 (pp b1 0)) 3 (pp b3 0)) 4 (yI c)∧Fresh w.heap.size [(zq++G98)]∧St w w102 [rr a94 (vW+1) c95 24 1 (vg++[Sv a96 ((t.qH[c]!).length) c97]),.box b3 [Sv a4 (0+t.qG.length) c5,Sv a94 (vW+1) c95,Sv a6 t.qF.length c7] 31,rr a6 t.qF.length c7 2 1 (t.qF.map (Value.int .i64)),rr a4 (0+t.qG.length) c5 4 1 ((([]:List Bool)++t.qG).map (Value.bool)),.box b1 [yN,yN,yN] 31] [xN true (zq++G98) (vg++[Sv a96 ((t.qH[c]!).length) c97]) ((t.qH.take c)++[(t.qH[c]!)]),sF true G98 a96 c97 (t.qH[c]!),sF false F99 a100 c101 (t.qH[c]!),atF b91 (o92+(c:Int).toNat * 1) [Sv a100 ((t.qH[c]!).length) c101],atF bt ot [Sv qU t.qG.length qQ,Sv (aa b91 o92) t.qH.length qY,Sv qM t.qF.length qL],sF false xO qU qQ t.qG,sF false zo (aa b91 o92) qY t.qH,sF false xB qM qL t.qF]) ?_ ?_
  ·skip
   refine yR rfl H [2,3,4] fun H=>?_
   have S:=H.yj [2,3,4] [0,1,2,3,4]
   refine tF 0 rfl rfl S ?_
   refine rtp 2 (pp bt ot) S ?_
   refine rtp 3 (pp bt ot) S ?_
   refine tF 4 rfl rfl S ?_
   refine tL 5 rfl rfl (fun _ h=>h.x9 1 rfl 1 rfl) S ?_
   refine rtp 6 (yI c) S ?_
   obtain ⟨ae104,ce104,Fe104,H⟩:=H.jq 3 rfl c c qf qf qf
   refine tI 7 rfl rfl rfl (H.pick [2,3,4] [2,3,4,5,6]) ?_
   refine jb [1,8] qh qm (jQ rfl ?_ (jQ rfl ?_ jd))
   ·skip
    refine zF (Sv yO vW yM) isAgg29 rfl (H.cell 1 rfl rfl) (⟨H.pick [2,3,4] [2,3,4,5,6],(ro 8 rfl (zF (Sv ae104 ((t.qH[c]!).length) ce104) isAgg24 rfl (H.x9 1 rfl 0 rfl) (⟨H.pick [2,3,4] [2,3,4,5,6],(ro 9 rfl ?_)⟩)))⟩)
    have sz105:=H.base.size
    have lt106:=H.ltN (L:=[zq]) [2]
    refine oc (XW _ (t.qH[c]!) (H.get 0 rfl).1 qg) ?_
    rintro v110 w108 r110 x109
    replace H:=H.zB x109 r110
    obtain ⟨a111,c112,rfl,hc113,hm114⟩:=H.jG 0 rfl
    refine ⟨H.pick [3,4,5] [2,3,4,5,6],(ro 10 rfl (zy H underlying29 ti24 [Sv a111 ((t.qH[c]!).length) c112] fun b115 w116 H=>⟨H.pick [4,5,6] [2,3,4,5,6],(ro 11 rfl ?_)⟩))⟩
    obtain ⟨G120,N,hn121,H⟩:=H.zT 1 rfl N (H.jR [2])
    refine zC H 2 rfl 0 rfl underlying29 ti24 rfl qj rfl rfl rfl qw qp qf fun a117 c118 w119 H=>?_
    replace H:=H.yt 3 rfl 0 rfl
    replace N:Fresh w.heap.size [(zq++G120)]:=(N.pick [1,0]).join
    refine ⟨H.pick [4,5,6] [4,5,6,7,8],(tF 12 rfl rfl (H.pick [4,5,6] [4,5,6,7,8]) ?_)⟩
    refine ro 13 rfl (zh H 3 [Sv a4 (0+t.qG.length) c5,Sv a117 (vW+1) c118,Sv a6 t.qF.length c7] sizeOf29 fun w122 H=>⟨H.pick [4,5,6] [4,5,6,7,8],(xJ qh ((meet ⟨_,a117,c118,a111,c112,G120,Fe104,ae104,ce104,uE4,N,H.pick [2,3,4,5,6] [0,1,2,3,5,6,7,8]⟩)))⟩)
   refine zF (Sv ae104 ((t.qH[c]!).length) ce104) isAgg24 rfl (H.x9 1 rfl 0 rfl) (⟨H.pick [2,3,4] [2,3,4,5,6],(jb [1,9] qh qm (jQ rfl ?_ (jQ rfl ?_ jd)))⟩)
   ·skip
    refine zF (Sv yO vW yM) isAgg29 rfl (H.cell 1 rfl rfl) (⟨H.pick [2,3,4] [2,3,4,5,6],(ro 9 rfl ?_)⟩)
    have sz123:=H.base.size
    have lt124:=H.ltN (L:=[zq]) [2]
    refine oc (XW _ (t.qH[c]!) (H.get 0 rfl).1 qg) ?_
    rintro v128 w126 r128 x127
    replace H:=H.zB x127 r128
    obtain ⟨a129,c130,rfl,hc131,hm132⟩:=H.jG 0 rfl
    refine ⟨H.pick [3,4,5] [2,3,4,5,6],(ro 10 rfl (zy H underlying29 ti24 [Sv a129 ((t.qH[c]!).length) c130] fun b133 w134 H=>⟨H.pick [4,5,6] [2,3,4,5,6],(ro 11 rfl ?_)⟩))⟩
    obtain ⟨G138,N,hn139,H⟩:=H.zT 1 rfl N (H.jR [2])
    refine zC H 2 rfl 0 rfl underlying29 ti24 rfl qj rfl rfl rfl qw qp qf fun a135 c136 w137 H=>?_
    replace H:=H.yt 3 rfl 0 rfl
    replace N:Fresh w.heap.size [(zq++G138)]:=(N.pick [1,0]).join
    refine ⟨H.pick [4,5,6] [4,5,6,7,8],(tF 12 rfl rfl (H.pick [4,5,6] [4,5,6,7,8]) ?_)⟩
    refine ro 13 rfl (zh H 3 [Sv a4 (0+t.qG.length) c5,Sv a135 (vW+1) c136,Sv a6 t.qF.length c7] sizeOf29 fun w140 H=>⟨H.pick [4,5,6] [4,5,6,7,8],(xJ qh ((meet ⟨_,a135,c136,a129,c130,G138,Fe104,ae104,ce104,uE4,N,H.pick [2,3,4,5,6] [0,1,2,3,5,6,7,8]⟩)))⟩)
   have sz141:=H.base.size
   have lt142:=H.ltN (L:=[zq]) [2]
   refine oc (XW _ (t.qH[c]!) (H.get 0 rfl).1 qg) ?_
   rintro v146 w144 r146 x145
   replace H:=H.zB x145 r146
   obtain ⟨a147,c148,rfl,hc149,hm150⟩:=H.jG 0 rfl
   refine ⟨H.pick [3,4,5] [2,3,4,5,6],(jb [1,10] qh qm (jQ rfl ?_ (jQ rfl ?_ jd)))⟩
   ·skip
    refine zF (Sv yO vW yM) isAgg29 rfl (H.cell 2 rfl rfl) (⟨H.pick [3,4,5] [2,3,4,5,6],(ro 10 rfl (zy H underlying29 ti24 [Sv a147 ((t.qH[c]!).length) c148] fun b151 w152 H=>⟨H.pick [4,5,6] [2,3,4,5,6],(ro 11 rfl ?_)⟩))⟩)
    obtain ⟨G156,N,hn157,H⟩:=H.zT 1 rfl N (H.jR [2])
    refine zC H 2 rfl 0 rfl underlying29 ti24 rfl qj rfl rfl rfl qw qp qf fun a153 c154 w155 H=>?_
    replace H:=H.yt 3 rfl 0 rfl
    replace N:Fresh w.heap.size [(zq++G156)]:=(N.pick [1,0]).join
    refine ⟨H.pick [4,5,6] [4,5,6,7,8],(tF 12 rfl rfl (H.pick [4,5,6] [4,5,6,7,8]) ?_)⟩
    refine ro 13 rfl (zh H 3 [Sv a4 (0+t.qG.length) c5,Sv a153 (vW+1) c154,Sv a6 t.qF.length c7] sizeOf29 fun w158 H=>⟨H.pick [4,5,6] [4,5,6,7,8],(xJ qh ((meet ⟨_,a153,c154,a147,c148,G156,Fe104,ae104,ce104,uE4,N,H.pick [2,3,4,5,6] [0,1,2,3,5,6,7,8]⟩)))⟩)
   refine zy H underlying29 ti24 [Sv a147 ((t.qH[c]!).length) c148] fun b159 w160 H=>⟨H.pick [4,5,6] [2,3,4,5,6],(ro 1 rfl (zF (Sv yO vW yM) isAgg29 rfl (H.cell 3 rfl rfl) (⟨H.pick [4,5,6] [2,3,4,5,6],(ro 11 rfl ?_)⟩)))⟩
   obtain ⟨G164,N,hn165,H⟩:=H.zT 1 rfl N (H.jR [2])
   refine zC H 2 rfl 0 rfl underlying29 ti24 rfl qj rfl rfl rfl qw qp qf fun a161 c162 w163 H=>?_
   replace H:=H.yt 3 rfl 0 rfl
   replace N:Fresh w.heap.size [(zq++G164)]:=(N.pick [1,0]).join
   refine ⟨H.pick [4,5,6] [4,5,6,7,8],(tF 12 rfl rfl (H.pick [4,5,6] [4,5,6,7,8]) ?_)⟩
   refine ro 13 rfl (zh H 3 [Sv a4 (0+t.qG.length) c5,Sv a161 (vW+1) c162,Sv a6 t.qF.length c7] sizeOf29 fun w166 H=>⟨H.pick [4,5,6] [4,5,6,7,8],(xJ qh ((meet ⟨_,a161,c162,a147,c148,G164,Fe104,ae104,ce104,uE4,N,H.pick [2,3,4,5,6] [0,1,2,3,5,6,7,8]⟩)))⟩)
  clear H N
  rintro ρ w167 ⟨xY,a94,c95,a96,c97,G98,F99,a100,c101,rfl,N,H⟩
  refine b_n (t_n (zg (sp (yI c) (sw (zL c 1 rfl rfl qf (sp (yI (c+1)) (zi (xq (m' :=(t.qH.length - ((c+1):Int)).toNat) qf ⟨_,c+1,a94,vW+1,c95,((t.qH.take c)++[(t.qH[c]!)]),vg++[Sv a96 ((t.qH[c]!).length) c97],(zq++G98),uE4,?_,?_,rfl,N,H.pick [0,1,2,3,4] [0,4,5,6,7]⟩))))))))
  · exact take_snoc qf
  · omega
 refine zx4 (zcr (sw (xU [Sv a4 (0+t.qG.length) c5,Sv yO vW yM,Sv a6 t.qF.length c7] isAgg31 sizeOf31 rfl (qJ (H.cells 1 rfl) 0 3) (sw (zu H 4 [Sv a4 (0+t.qG.length) c5,Sv yO vW yM,Sv a6 t.qF.length c7] sizeOf31 fun w168 H=>zjr (retC H 4 rfl rfl isAgg31 sizeOf31 rfl ⟨_,rfl,?_,H.base⟩))))))
 obtain rfl:c=t.qH.length:=by omega
 rw [List.take_length] at H
 exact ⟨a4,0+t.qG.length,c5,yO,vW,yM,vg,zq,a6,t.qF.length,c7,rfl,N,H.pick [3,0,2] [0]⟩
theorem isShell_ok (w:World) (s:qI) {qE:yOA} {xe:yLN} {qO:yOA} {xE:yLN} (qZ:qX.rep w xe [Sv qE s.qA.length qC] s.qA) (xC:qX.rep w xE [Sv qO s.qB.length qK] s.qB):Calls Tryz.prog 121 #[.agg #[yI s.xh,Sv qE s.qA.length qC,Sv qO s.qB.length qK]] w (Ret (fun v w' =>v=Bv (dec (yg s))) w):=by
 refine en func121 ntmps121 ?_
 have H:=((St.start w).arg xC).arg qZ
 have zX:=qV qZ
 have jo:=qV xC
 clear qZ xC
 have N:=Fresh.nil w.heap.size
 refine zcr (sw (zW H (yS s qE qC qO qK) fun b1 w2 H=>sp (Bv false) (zjcc (oF rfl (oL rfl (H.cell 0 rfl rfl) (sw (oq (X5 w2 s.xh 1 8) H fun w3 H=>sps [Bv (!(inR s.xh 1 8)),Bv (!(inR s.xh 1 8))] ?_)))))))
 cases h5:(!(inR s.xh 1 8))
 ·skip
  replace h5:=xG h5
  replace h5:=Xj.1 h5
  refine qR 9 rfl rfl (oF rfl (qR 9 rfl rfl (oL rfl (H.cell 0 rfl rfl) (qR 9 rfl rfl (sw (oq (sizeI_ok _ s.qA (H.get 0 rfl).1) H fun w6 H=>qR 9 rfl rfl (sw (oq (X5 w6 (s.qA.length:Int) 1 6) H fun w8 H=>qR 9 rfl rfl (sps [Bv (!(inR (s.qA.length:Int) 1 6)),Bv (!(inR (s.qA.length:Int) 1 6)),Bv (!(inR (s.qA.length:Int) 1 6))] ?_)))))))))
  cases h10:(!(inR (s.qA.length:Int) 1 6))
  ·skip
   replace h10:=xG h10
   replace h10:=Xj.1 h10
   refine qR 16 rfl rfl (oF rfl (qR 16 rfl rfl (oL rfl (H.cell 0 rfl rfl) (qR 16 rfl rfl ?_))))
   obtain ⟨b11,o12,rfl⟩:=H.addr 0 rfl qf
   refine oI rfl rfl (qR 16 rfl rfl (oL rfl (H.yF 0 rfl 0 qf qf) (qR 16 rfl rfl (sps [Bv ((s.qA[0]! :Int) != (-1)),Bv ((s.qA[0]! :Int) != (-1))] (zjn (xK ((s.qA[0]! :Int) != (-1)) rfl (fun h14=>?_) (fun h14=>?_)))))))
   ·skip
    replace h14:=bne_iff_ne.1 h14
    refine zcr (sp (Bv false) (zjr (t_r (ret1 (Bv false) rfl rfl ⟨_,rfl,?_,H.base⟩))))
    rw [xy (fun h=>by obtain ⟨h1,h2,h3,h4⟩:=h;first | omega | (have:=h4 (c+1) qf qf;rw [← dg qf] at this;omega))]
   replace h14:=xF h14
   refine xk (t_n (zcc (oF rfl (oL rfl (H.cell 0 rfl rfl) (sw (o_tail H 0 rfl 1 underlying24 ti2 rfl qf fun a15 G16 hG17 H=>?_))))))
   have hl18:(s.qA.drop 1).length=s.qA.length - 1:=List.length_drop
   refine oN rfl (sp (yI 0) (zjn (xg ?_)))
   refine zJ (fun m' ρ w19=>∃ (xY:Env) (c:Nat),ρ=upd (upd (upd xY 25 (Sv a15 ((s.qA.drop 1).length) (qC - 1))) 26 (yI ((s.qA.drop 1).length))) 27 (yI c)∧((c:Int)≤((s.qA.drop 1).length))∧(FrameTo s (c+1))∧m' =(((s.qA.drop 1).length) - (c:Int)).toNat∧Fresh w.heap.size []∧St w w19 [.box b1 [yI s.xh,Sv (aa b11 o12) s.qA.length qC,Sv qO s.qB.length qK] 27] [sF false G16 a15 (qC - 1) (s.qA.drop 1),sF false xe (aa b11 o12) qC s.qA,sF false xE qO qK s.qB]) ((((s.qA.drop 1).length) - (0:Int)).toNat) ⟨_,0,uE3,qf,(by exact FrameTo.one s),rfl,N,H⟩ ?_
   clear H N
   rintro m' ρ w20 ⟨xY,c,rfl,i0,i1,rfl,N,H⟩
   have dg:=drop_get (l:=s.qA) (k:=c)
   refine zcr (sp (Bv (decide ((c:Int) < ((s.qA.drop 1).length)))) (zjn (zf (cD rfl (fun h21=>?_) (fun h21=>?_)))))
   ·skip
    refine xk (t_n (zf (xg (zcr (sp (yI c) ?_)))))
    obtain ⟨b22,o23,rfl⟩:=H.addr 0 rfl qf
    refine oI rfl rfl (oL rfl (H.yF 0 rfl c qf qf) (sps [yI c,yI ((s.qA.drop 1)[c]!)] (zjc (sps [yI ((s.qA.drop 1)[c]!),yI c] (sw (oq (X5 w20 ((s.qA.drop 1)[c]!) 0 c) H fun w25 H=>sp (Bv (!(inR ((s.qA.drop 1)[c]!) 0 c))) (zjn (xK (!(inR ((s.qA.drop 1)[c]!) 0 c)) rfl (fun h27=>?_) (fun h27=>?_)))))))))
    ·skip
     replace h27:=xM h27
     replace h27:=XL h27
     refine zcr (sp (Bv false) (zjr (zr5 (ret1 (Bv false) rfl rfl ⟨_,rfl,?_,H.base⟩))))
     rw [xy (fun h=>by obtain ⟨h1,h2,h3,h4⟩:=h;first | omega | (have:=h4 (c+1) qf qf;rw [← dg qf] at this;omega))]
    replace h27:=xG h27
    replace h27:=Xj.1 h27
    refine xk (b_n (t_n (zg (sw (zL c 1 rfl rfl qf (sp (yI (c+1)) (zi (xq (m' :=(((s.qA.drop 1).length) - ((c+1):Int)).toNat) qf ⟨_,c+1,uE3,?_,?_,rfl,N,H⟩))))))))
    · omega
    · exact i1.succ (by rw [← dg qf];omega)
   refine zx4 (zcr (sp (Bv true) (zjr (ret1 (Bv true) rfl rfl ⟨_,rfl,?_,H.base⟩))))
   rw [yh ⟨by omega,by omega,by omega,(show s.qA.length=c+1 by omega)▸i1⟩]
  replace h10:=xM h10
  replace h10:=XL h10
  refine xW [17,18,19,20,21] (sp (Bv true) (zjn (xK true rfl (fun _=>zcr (sp (Bv false) (zjr (t_r (ret1 (Bv false) rfl rfl ⟨_,rfl,?_,H.base⟩))))) (fun h=>absurd h qj))))
  rw [xy (fun h=>by obtain ⟨h1,h2,h3,h4⟩:=h;first | omega | (have:=h4 (c+1) qf qf;rw [← dg qf] at this;omega))]
 replace h5:=xM h5
 replace h5:=XL h5
 refine xW [10,11,12,13,14] (sps [Bv true,Bv true] (xW [17,18,19,20,21] (sp (Bv true) (zjn (xK true rfl (fun _=>zcr (sp (Bv false) (zjr (t_r (ret1 (Bv false) rfl rfl ⟨_,rfl,?_,H.base⟩))))) (fun h=>absurd h qj))))))
 rw [xy (fun h=>by obtain ⟨h1,h2,h3,h4⟩:=h;first | omega | (have:=h4 (c+1) qf qf;rw [← dg qf] at this;omega))]

theorem isCell_ok (w:World) (s:qI) (c:Int) {qE:yOA} {xe:yLN} {qO:yOA} {xE:yLN} (qZ:qX.rep w xe [Sv qE s.qA.length qC] s.qA) (xC:qX.rep w xE [Sv qO s.qB.length qK] s.qB):Calls Tryz.prog 62 #[.agg #[yI s.xh,Sv qE s.qA.length qC,Sv qO s.qB.length qK],yI c] w (Ret (fun v w' =>v=Bv (inR c 0 ((s.qA.length:Int) - 1))) w):=by
 refine en func62 ntmps62 ?_
 have H:=((St.start w).arg xC).arg qZ
 have zX:=qV qZ
 have jo:=qV xC
 clear qZ xC
 have N:=Fresh.nil w.heap.size
 refine zcr (sw (zW H (yS s qE qC qO qK) fun b1 w2 H=>sp (Bv false) (zjc (sp (yI c) (oF rfl (oL rfl (H.cell 0 rfl rfl) (sw (oq (sizeI_ok _ s.qA (H.get 0 rfl).1) H fun w3 H=>sw (o_sub (s.qA.length:Int) 1 rfl rfl qf (sw (oq (X5 w3 c 0 ((s.qA.length:Int) - 1)) H fun w5 H=>sp (Bv (inR c 0 ((s.qA.length:Int) - 1))) (zjr (ret1 (Bv (inR c 0 ((s.qA.length:Int) - 1))) rfl rfl ⟨_,rfl,?_,H.base⟩)))))))))))))
 rfl

theorem lies_ok (w:World) (s:qI) (c:Int) (within:Int) {qE:yOA} {xe:yLN} {qO:yOA} {xE:yLN} (qZ:qX.rep w xe [Sv qE s.qA.length qC] s.qA) (xC:qX.rep w xE [Sv qO s.qB.length qK] s.qB) (p0:yg s) (p1:CellIn s c):Calls Tryz.prog 178 #[.agg #[yI s.xh,Sv qE s.qA.length qC,Sv qO s.qB.length qK],yI c,yI within] w (Ret (fun v w' =>v=Bv (dec (Lies s.qA within c))) w):=by
 refine en func178 ntmps178 ?_
 have H:=((St.start w).arg xC).arg qZ
 have zX:=qV qZ
 have jo:=qV xC
 clear qZ xC
 have N:=Fresh.nil w.heap.size
 have p2:=p0.step p1.1 p1.2
 refine zcr (sw (zW H (yS s qE qC qO qK) fun b1 w2 H=>sp (Bv false) (zjcc (oF rfl (oL rfl (H.cell 0 rfl rfl) (sp (yI c) ?_))))))
 obtain ⟨b3,o4,rfl⟩:=H.addr 0 rfl qf
 refine oI rfl rfl (oL rfl (H.yF 0 rfl c qf qf) (sp (yI (s.qA[c.toNat]!)) (zjn (xg ?_))))
 refine zJ (fun m' ρ w6=>∃ (xY:Env) (c_1:Int),ρ=upd (upd (upd xY 1 (yI c_1)) 2 (yI within)) 3 (pp b1 0)∧(-1≤c_1∧c_1≤(s.qA.length:Int) - 1)∧(Lies s.qA within c↔0≤c_1∧(c_1=within∨Lies s.qA within c_1))∧m' =(c_1+1).toNat∧Fresh w.heap.size []∧St w w6 [.box b1 [yI s.xh,Sv (aa b3 o4) s.qA.length qC,Sv qO s.qB.length qK] 27] [sF false xe (aa b3 o4) qC s.qA,sF false xE qO qK s.qB]) (((s.qA[c.toNat]!)+1).toNat) ⟨_,s.qA[c.toNat]!,uE3,qf,(by exact lies_up p0 p1),rfl,N,H⟩ ?_
 clear H N
 rintro m' ρ w7 ⟨xY,c_1,rfl,i0,i1,rfl,N,H⟩
 have up:=fun h=>p0.step (c:=c_1) h i0.2
 refine zcc (sps [yI c_1,Bv (decide ((c_1:Int)≥0))] (zjn (cD rfl (fun h8=>?_) (fun h8=>?_))))
 ·skip
  refine xk (t_n (zf (xg (zcr (sps [yI c_1,yI within,Bv ((c_1:Int) == within)] (zjn (cE rfl (fun h9=>?_) (fun h9=>?_))))))))
  ·skip
   refine zcr (sp (Bv true) (zjr (zr5 (ret1 (Bv true) rfl rfl ⟨_,rfl,?_,H.base⟩))))
   rw [yh (i1.2 ⟨by omega,.inl ‹_›⟩)]
  refine xk (b_n (t_n (zg (oF rfl (oL rfl (H.cell 0 rfl rfl) (sp (yI c_1) (oI rfl rfl (oL rfl (H.yF 0 rfl c_1 qf qf) (sp (yI (s.qA[c_1.toNat]!)) (zi ?_))))))))))
  have up1:=up qf
  refine xq (m' :=((s.qA[c_1.toNat]!)+1).toNat) qf ⟨_,s.qA[c_1.toNat]!,uE3,?_,?_,rfl,N,H⟩
  · omega
  · exact i1.trans ⟨fun h=>(lies_up p0 ⟨by omega,by omega⟩).1 (h.2.resolve_left ‹_›),fun h=>⟨by omega,.inr ((lies_up p0 ⟨by omega,by omega⟩).2 h)⟩⟩
 refine zx4 (zcr (sp (Bv false) (zjr (ret1 (Bv false) rfl rfl ⟨_,rfl,?_,H.base⟩))))
 rw [xy (fun h=>by have:=(i1.1 h).1;omega)]

theorem isRule_ok (w:World) (s:qI) (r:jL) {qE:yOA} {xe:yLN} {qO:yOA} {xE:yLN} {jW:yOA} {XF:yLN} {jY:yOA} {XI:yLN} {jX:yOA} {XG:yLN} {jO:yOA} {XH:yLN} {Qs:yOA} {FrOut:yLN} {jE:yOA} {VJ:yLN} (qZ:qX.rep w xe [Sv qE s.qA.length qC] s.qA) (xC:qX.rep w xE [Sv qO s.qB.length qK] s.qB) (hrNeed:qX.rep w XF [Sv jW r.xR.length jT] r.xR) (hrHave:qX.rep w XI [Sv jY r.zM.length jV] r.zM) (hrLack:qX.rep w XG [Sv jX r.zK.length jU] r.zK) (hrHere:qX.rep w XH [Sv jO r.zH.length jM] r.zH) (hrOut:qX.rep w FrOut [Sv Qs r.jC.length Qr] r.jC) (hrInto:qX.rep w VJ [Sv jE r.qW.length jD] r.qW) (p0:yg s):Calls Tryz.prog 122 #[.agg #[yI s.xh,Sv qE s.qA.length qC,Sv qO s.qB.length qK],.agg #[yI r.qN,yI r.vP,Sv jW r.xR.length jT,Sv jY r.zM.length jV,Sv jX r.zK.length jU,Sv jO r.zH.length jM,Sv Qs r.jC.length Qr,Sv jE r.qW.length jD,Bv r.vF]] w (Ret (fun v w' =>v=Bv (dec (RuleOk s r))) w):=by
 refine en func122 ntmps122 ?_
 have H:=((((((((St.start w).arg hrInto).arg hrOut).arg hrHere).arg hrLack).arg hrHave).arg hrNeed).arg xC).arg qZ
 have zX:=qV qZ
 have jo:=qV xC
 have nhrNeed:=qV hrNeed
 have nhrHave:=qV hrHave
 have nhrLack:=qV hrLack
 have nhrHere:=qV hrHere
 have nhrOut:=qV hrOut
 have nhrInto:=qV hrInto
 clear qZ xC hrNeed hrHave hrLack hrHere hrOut hrInto
 have N:=Fresh.nil w.heap.size
 refine zcr (sw (zW H (yS s qE qC qO qK) fun b1 w2 H=>sw (zW H [yI r.qN,yI r.vP,Sv jW r.xR.length jT,Sv jY r.zM.length jV,Sv jX r.zK.length jU,Sv jO r.zH.length jM,Sv Qs r.jC.length Qr,Sv jE r.qW.length jD,Bv r.vF] fun b3 w4 H=>sp (Bv false) (zjcc ?_))))
 refine sw (xU (yS s qE qC qO qK) isAgg27 sizeOf27 rfl (qJ (H.cells 1 rfl) 0 3) (oF rfl (oL rfl (H.cell 0 rfl rfl) (sw (oq (isCell_ok _ s r.qN (H.get 0 rfl).1 (H.get 1 rfl).1) H fun w6 H=>sps [Bv (!(inR r.qN 0 ((s.qA.length:Int) - 1))),Bv (!(inR r.qN 0 ((s.qA.length:Int) - 1)))] ?_)))))
 cases h8:(!(inR r.qN 0 ((s.qA.length:Int) - 1)))
 ·skip
  replace h8:=xG h8
  replace h8:=Xj.1 h8
  refine qR 14 rfl rfl (oF rfl (qR 14 rfl rfl (oL rfl (H.cell 0 rfl rfl) (qR 14 rfl rfl (sw (oq (X5 w6 r.vP 0 9) H fun w9 H=>qR 14 rfl rfl (sps [Bv (!(inR r.vP 0 9)),Bv (!(inR r.vP 0 9)),Bv (!(inR r.vP 0 9))] ?_)))))))
  cases h11:(!(inR r.vP 0 9))
  ·skip
   replace h11:=xG h11
   replace h11:=Xj.1 h11
   refine qR 20 rfl rfl (oF rfl (qR 20 rfl rfl (oL rfl (H.cell 0 rfl rfl) (qR 20 rfl rfl (sp (Bv r.vF) ?_)))))
   cases h12:(r.vF)
   ·skip
    rw [h12] at H
    refine xW [24,25,26] (qR 20 rfl rfl (sps [Bv false,Bv false,Bv false] (qR 29 rfl rfl (oF rfl (qR 29 rfl rfl (oL rfl (H.cell 0 rfl rfl) (qR 29 rfl rfl (oN rfl (qR 29 rfl rfl (sps [Bv (decide ((r.qW.length:Int) > 3)),Bv (decide ((r.qW.length:Int) > 3))] (zjn (cD rfl (fun h13=>?_) (fun h13=>?_)))))))))))))
    ·skip
     refine zcr (sp (Bv false) (zjr (t_r (ret1 (Bv false) rfl rfl ⟨_,rfl,?_,H.base⟩))))
     rw [xy (fun h=>by obtain ⟨h1,h2,h3,h4,h5,h6,h7,h8,h9,h10,h11⟩:=h;first | contradiction | omega | exact h3 ⟨‹_›,‹_›⟩ | (obtain ⟨q1,q2,q3,q4,q5⟩:=h11 i qf;first | contradiction | omega | (have:=q5 qf;omega)) | (refine absurd ?_ ‹¬ vS _ _›;rcases (show k=0∨k=1∨k=2∨k=3∨k=4 by omega) with e | e | e | e | e <;> subst e <;> assumption))]
    refine xk (t_n (zcc (oF rfl (oL rfl (H.cell 0 rfl rfl) (oF rfl (oL rfl (H.cell 0 rfl rfl) (oF rfl (oL rfl (H.cell 0 rfl rfl) (oF rfl (oL rfl (H.cell 0 rfl rfl) (oF rfl (oL rfl (H.cell 0 rfl rfl) (sw (o_buildF H underlying29 ti24 [Sv jW r.xR.length jT,Sv jY r.zM.length jV,Sv jX r.zK.length jU,Sv jO r.zH.length jM,Sv Qs r.jC.length Qr] rfl (by simp [Value.cells]) rfl qj qj fun b14 w15 H=>oN rfl (sp (yI 0) (zjn (xg ?_)))))))))))))))))
    replace H:=H.boxRow 0 rfl 1 5 rfl qj
    replace H:=H.vT (α:=yLI)
    replace H:=H.VS false 7 rfl 0 rfl qm
    replace H:=H.VS false 7 rfl 0 rfl qm
    replace H:=H.VS false 7 rfl 0 rfl qm
    replace H:=H.VS false 7 rfl 0 rfl qm
    replace H:=H.VS false 7 rfl 0 rfl qm
    refine zJ (fun m' ρ w16=>∃ (xY:Env) (k:Nat),ρ=upd (upd (upd (upd (upd xY 2 (pp b1 0)) 3 (pp b3 0)) 45 (Sv (aa b14 0) 5 5)) 46 (yI 5)) 47 (yI k)∧((k:Int)≤5)∧(∀ j,j < k→vS s.xh ([r.xR,r.zM,r.zK,r.zH,r.jC][j]!))∧m' =(5 - (k:Int)).toNat∧Fresh w.heap.size []∧St w w16 [rr (aa b14 0) 5 5 24 1 [Sv jW r.xR.length jT,Sv jY r.zM.length jV,Sv jX r.zK.length jU,Sv jO r.zH.length jM,Sv Qs r.jC.length Qr],.box b3 [yI r.qN,yI r.vP,Sv jW r.xR.length jT,Sv jY r.zM.length jV,Sv jX r.zK.length jU,Sv jO r.zH.length jM,Sv Qs r.jC.length Qr,Sv jE r.qW.length jD,Bv false] 56,.box b1 (yS s qE qC qO qK) 27] [xN false (XF++(XI++(XG++(XH++(FrOut++[]))))) [Sv jW r.xR.length jT,Sv jY r.zM.length jV,Sv jX r.zK.length jU,Sv jO r.zH.length jM,Sv Qs r.jC.length Qr] [r.xR,r.zM,r.zK,r.zH,r.jC],sF false xe qE qC s.qA,sF false xE qO qK s.qB,sF false XF jW jT r.xR,sF false XI jY jV r.zM,sF false XG jX jU r.zK,sF false XH jO jM r.zH,sF false FrOut Qs Qr r.jC,sF false VJ jE jD r.qW]) ((5 - (0:Int)).toNat) ⟨_,0,uE5,qf,(by intro j hj;omega),rfl,N,H.pick [0,1,2] [0,6,7,8,9,10,11,12,13]⟩ ?_
    clear H N
    rintro m' ρ w17 ⟨xY,k,rfl,i0,i1,rfl,N,H⟩
    refine zcr (sp (Bv (decide ((k:Int) < 5))) (zjn (zf (cD rfl (fun h18=>?_) (fun h18=>?_)))))
    ·skip
     refine xk (t_n (zf (xg (zcr (oI rfl rfl ?_)))))
     obtain ⟨a19,c20,G21,s22,h23,H⟩:=H.jP 0 rfl 0 rfl (iv:=k) k qf qf
     refine oL rfl (h23) (sp (Sv a19 (([r.xR,r.zM,r.zK,r.zH,r.jC][k]!).length) c20) (zjc (oF rfl (oL rfl (H.cell 2 rfl rfl) (sp (Sv a19 (([r.xR,r.zM,r.zK,r.zH,r.jC][k]!).length) c20) (sw (oq (VZ _ s.xh ([r.xR,r.zM,r.zK,r.zH,r.jC][k]!) (H.get 0 rfl).1) H fun w24 H=>sp (Bv (!(dec (vS s.xh ([r.xR,r.zM,r.zK,r.zH,r.jC][k]!))))) (zjn (cQ rfl (fun h26=>?_) (fun h26=>?_))))))))))
     ·skip
      refine zcr (sp (Bv false) (zjr (zr5 (ret1 (Bv false) rfl rfl ⟨_,rfl,?_,H.base⟩))))
      rw [xy (fun h=>by obtain ⟨h1,h2,h3,h4,h5,h6,h7,h8,h9,h10,h11⟩:=h;first | contradiction | omega | exact h3 ⟨‹_›,‹_›⟩ | (obtain ⟨q1,q2,q3,q4,q5⟩:=h11 i qf;first | contradiction | omega | (have:=q5 qf;omega)) | (refine absurd ?_ ‹¬ vS _ _›;rcases (show k=0∨k=1∨k=2∨k=3∨k=4 by omega) with e | e | e | e | e <;> subst e <;> assumption))]
     refine xk (b_n (t_n (zg (sw (zL k 1 rfl rfl qf (sp (yI (k+1)) (zi (xq (m' :=(5 - ((k+1):Int)).toNat) qf ⟨_,k+1,uE5,?_,?_,rfl,N,H.pick [0,1,2] [1,2,3,4,5,6,7,8,9]⟩))))))))
     · omega
     · intro j hj;by_cases e:j=k;(subst e;assumption);exact i1 j qf
    refine zx4 (zcc (oF rfl (oL rfl (H.cell 1 rfl rfl) (oN rfl (sp (yI 0) (zjn (xg ?_)))))))
    have n1:vS s.xh r.xR:=i1 0 qf
    have n2:vS s.xh r.zM:=i1 1 qf
    have n3:vS s.xh r.zK:=i1 2 qf
    have n4:vS s.xh r.zH:=i1 3 qf
    have n5:vS s.xh r.jC:=i1 4 qf
    refine zJ (fun m' ρ w27=>∃ (xY:Env) (i:Nat),ρ=upd (upd (upd (upd (upd xY 2 (pp b1 0)) 3 (pp b3 0)) 58 (Sv jE r.qW.length jD)) 59 (yI r.qW.length)) 60 (yI i)∧((i:Int)≤r.qW.length)∧(IntosTo s r i)∧m' =(r.qW.length - (i:Int)).toNat∧Fresh w.heap.size []∧St w w27 [rr (aa b14 0) 5 5 24 1 [Sv jW r.xR.length jT,Sv jY r.zM.length jV,Sv jX r.zK.length jU,Sv jO r.zH.length jM,Sv Qs r.jC.length Qr],.box b3 [yI r.qN,yI r.vP,Sv jW r.xR.length jT,Sv jY r.zM.length jV,Sv jX r.zK.length jU,Sv jO r.zH.length jM,Sv Qs r.jC.length Qr,Sv jE r.qW.length jD,Bv false] 56,.box b1 (yS s qE qC qO qK) 27] [xN false (XF++(XI++(XG++(XH++(FrOut++[]))))) [Sv jW r.xR.length jT,Sv jY r.zM.length jV,Sv jX r.zK.length jU,Sv jO r.zH.length jM,Sv Qs r.jC.length Qr] [r.xR,r.zM,r.zK,r.zH,r.jC],sF false xe qE qC s.qA,sF false xE qO qK s.qB,sF false XF jW jT r.xR,sF false XI jY jV r.zM,sF false XG jX jU r.zK,sF false XH jO jM r.zH,sF false FrOut Qs Qr r.jC,sF false VJ jE jD r.qW]) ((r.qW.length - (0:Int)).toNat) ⟨_,0,uE5,qf,qx,rfl,N,H⟩ ?_
    clear H N
    rintro m' ρ w28 ⟨xY,i,rfl,i0,i2,rfl,N,H⟩
    refine zcr (sp (Bv (decide ((i:Int) < r.qW.length))) (zjn (zf (cD rfl (fun h29=>?_) (fun h29=>?_)))))
    ·skip
     refine xk (t_n (zf (xg (zcr (sp (yI i) ?_)))))
     obtain ⟨b30,o31,rfl⟩:=H.addr 8 rfl qf
     obtain ⟨ae33Bag,ce33Bag,Fe33Bag,H⟩:=H.Qd 8 rfl i i qf qf qf
     refine oI rfl rfl (sw (xU [yI ((r.qW[i]!).qN),Sv ae33Bag (((r.qW[i]!).QP).length) ce33Bag] isAgg142 sizeOf142 rfl (qJ (H.get 1 rfl) 0 2) (sw (xZ H ti142 [yI 0,yN] fun b34 w35 H=>sp (yI i) (sw (zu H 0 [yI ((r.qW[i]!).qN),Sv ae33Bag (((r.qW[i]!).QP).length) ce33Bag] sizeOf142 fun w36 H=>zjn (zf ?_)))))))
     refine yl rfl H fun H=>rt 0 (.agg #[yI s.xh,Sv qE s.qA.length qC,Sv qO s.qB.length qK]) (Qv (cs:=(yS s qE qC qO qK)) isAgg27 sizeOf27 rfl (fun _ h=>qJ (h.cells 3 rfl) 0 3)) H ?_
     refine tF 1 rfl rfl H ?_
     refine tL 2 rfl rfl (fun _ h=>h.cell 0 rfl rfl) H ?_
     refine ro 3 rfl (oq (isCell_ok _ s ((r.qW[i]!).qN) (H.get 3 rfl).1 (H.get 4 rfl).1) H fun w39 H=>⟨H,(rtp 4 (Bv (!(inR ((r.qW[i]!).qN) 0 ((s.qA.length:Int) - 1)))) H ?_)⟩)
     refine rtp 5 (Bv (!(inR ((r.qW[i]!).qN) 0 ((s.qA.length:Int) - 1)))) H ?_
     cases h41:(!(inR ((r.qW[i]!).qN) 0 ((s.qA.length:Int) - 1)))
     ·skip
      replace h41:=xG h41
      replace h41:=Xj.1 h41
      refine rg 6 (.agg #[yI s.xh,Sv qE s.qA.length qC,Sv qO s.qB.length qK]) 70 (Qv (cs:=(yS s qE qC qO qK)) isAgg27 sizeOf27 rfl (fun _ h=>qJ (h.cells 3 rfl) 0 3)) H ?_
      refine gF 7 rfl rfl H ?_
      refine gL 8 rfl rfl (fun _ h=>h.cell 0 rfl rfl) H ?_
      refine gF 9 rfl rfl H ?_
      refine gL 10 rfl rfl (fun _ h=>h.cell 2 rfl rfl) H ?_
      refine jb [11] qh qm (Vh rfl (e:=70) rfl rfl (oq (lies_ok _ s ((r.qW[i]!).qN) r.qN (H.get 3 rfl).1 (H.get 4 rfl).1 qg qg) H fun w43 H=>⟨H,(rgp 12 (Bv (!(dec (Lies s.qA r.qN ((r.qW[i]!).qN))))) 70 H ?_)⟩) jd)
      refine rtp 13 (Bv (!(dec (Lies s.qA r.qN ((r.qW[i]!).qN))))) H ?_
      refine rtp 14 (Bv (!(dec (Lies s.qA r.qN ((r.qW[i]!).qN))))) H ?_
      cases h45:(!(dec (Lies s.qA r.qN ((r.qW[i]!).qN))))
      ·skip
       replace h45:=xG h45
       replace h45:=Qq h45
       refine gF 15 rfl rfl H ?_
       refine gL 16 rfl rfl (fun _ h=>h.cell 3 rfl rfl) H ?_
       refine gF 17 rfl rfl H ?_
       refine gL 18 rfl rfl (fun _ h=>h.cell 0 rfl rfl) H ?_
       refine jb [19] qh qm (Vh rfl (e:=79) rfl rfl (oq (VZ _ s.xh ((r.qW[i]!).QP) (H.get 0 rfl).1) H fun w46 H=>⟨H,(rgp 20 (Bv (!(dec (vS s.xh ((r.qW[i]!).QP))))) 79 H ?_)⟩) jd)
       refine rtp 21 (Bv (!(dec (vS s.xh ((r.qW[i]!).QP))))) H ?_
       refine rtp 22 (Bv (!(dec (vS s.xh ((r.qW[i]!).QP))))) H ?_
       cases h48:(!(dec (vS s.xh ((r.qW[i]!).QP))))
       ·skip
        replace h48:=xG h48
        replace h48:=Qq h48
        refine gF 23 rfl rfl H ?_
        refine gL 24 rfl rfl (fun _ h=>h.cell 0 rfl rfl) H ?_
        refine jb [25] qh qm (Vh rfl (e:=87) rfl rfl ?_ jd)
        have sm:Small ((r.qW[i]!).QP):=vz (by first | assumption | exact i1 0 qf)
        refine oq (X6 _ ((r.qW[i]!).QP) (H.get 0 rfl).1 (by first | assumption | exact vz ql | exact Qa ql)) H fun w49 H=>⟨H,(rgp 26 (Bv ((Xh ((r.qW[i]!).QP):Int) == 0)) 87 H ?_)⟩
        refine rtp 27 (Bv ((Xh ((r.qW[i]!).QP):Int) == 0)) H ?_
        refine rtp 28 (Bv ((Xh ((r.qW[i]!).QP):Int) == 0)) H ?_
        cases h51:((Xh ((r.qW[i]!).QP):Int) == 0)
        ·skip
         replace h51:=ne_of_beq_false h51
         refine rgp 29 (yI i) 93 H ?_
         refine rgp 30 (Bv (decide ((i:Int) > 0))) 93 H ?_
         refine rgp 31 (Bv (decide ((i:Int) > 0))) 93 H ?_
         cases h52:(decide ((i:Int) > 0))
         ·skip
          replace h52:=of_decide_eq_false h52
          refine zV [32,33,34,35,36,37,38,39,40,41] 10 (H) (rgp 42 (Bv false) 93 H ?_)
          refine rtp 43 (Bv false) H ?_
          refine xJ qh (t_n (xK false rfl (fun h=>absurd h qj) (fun _=>xk (b_n (t_n (zg (sw (zL i 1 rfl rfl qf (sp (yI (i+1)) (zi (xq (m' :=(r.qW.length - ((i+1):Int)).toNat) qf ⟨_,i+1,uE5,?_,?_,rfl,N,H.pick [1,2,3] [2,3,4,5,6,7,8,9,10]⟩)))))))))))
          · omega
          · exact i2.succ ⟨‹_›,‹_›,‹_›,‹_›,fun hk=>by omega⟩
         replace h52:=of_decide_eq_true h52
         refine gF 32 rfl rfl H ?_
         refine gL 33 rfl rfl (fun _ h=>h.cell 0 rfl rfl) H ?_
         refine gF 34 rfl rfl H ?_
         refine gL 35 rfl rfl (fun _ h=>h.cell 2 rfl rfl) H ?_
         refine rgp 36 (yI i) 96 H ?_
         refine rg 37 (yI (i - 1)) 96 (y_sub i 1 rfl rfl qf) H ?_
         obtain ⟨ae53Bag,ce53Bag,Fe53Bag,H⟩:=H.Qd 10 rfl (i - 1) (i - 1) qf qf qf
         have S:=H.yj [0,1,2,3] [2,3,4,5,6,7,8,9,10,11,12]
         refine gI 38 rfl rfl rfl S ?_
         refine gF 39 rfl rfl S ?_
         refine jb [40] qh qm (Vh rfl (e:=96) rfl rfl (zF (yI ((r.qW[i - 1]!).qN)) isAgg2 rfl (H.x9 1 rfl 0 rfl) (⟨H.pick [0,1,2,3] [2,3,4,5,6,7,8,9,10,11,12],?_⟩)) jd)
         have S:=H.yj [0,1,2,3] [2,3,4,5,6,7,8,9,10,11,12]
         refine rgp 41 (Bv (decide (((r.qW[i]!).qN:Int)≤((r.qW[i - 1]!).qN)))) 96 S ?_
         refine rgp 42 (Bv (decide (((r.qW[i]!).qN:Int)≤((r.qW[i - 1]!).qN)))) 93 S ?_
         refine rtp 43 (Bv (decide (((r.qW[i]!).qN:Int)≤((r.qW[i - 1]!).qN)))) S ?_
         refine xJ qh (t_n (cD rfl (fun h54=>?_) (fun h54=>?_)))
         ·skip
          refine zcr (sp (Bv false) (zjr (zr5 (ret1 (Bv false) rfl rfl ⟨_,rfl,?_,H.base⟩))))
          rw [xy (fun h=>by obtain ⟨h1,h2,h3,h4,h5,h6,h7,h8,h9,h10,h11⟩:=h;first | contradiction | omega | exact h3 ⟨‹_›,‹_›⟩ | (obtain ⟨q1,q2,q3,q4,q5⟩:=h11 i qf;first | contradiction | omega | (have:=q5 qf;omega)) | (refine absurd ?_ ‹¬ vS _ _›;rcases (show k=0∨k=1∨k=2∨k=3∨k=4 by omega) with e | e | e | e | e <;> subst e <;> assumption))]
         refine xk (b_n (t_n (zg (sw (zL i 1 rfl rfl qf (sp (yI (i+1)) (zi (xq (m' :=(r.qW.length - ((i+1):Int)).toNat) qf ⟨_,i+1,uE5,?_,?_,rfl,N,H.pick [1,2,3] [4,5,6,7,8,9,10,11,12]⟩))))))))
         · omega
         · exact i2.succ ⟨‹_›,‹_›,‹_›,‹_›,fun hk=>by omega⟩
        replace h51:=eq_of_beq h51
        refine zV [29,30,31,32,33,34,35,36,37,38,39,40,41,42] 14 (H) (rtp 43 (Bv true) H ?_)
        refine xJ qh (t_n (xK true rfl (fun _=>zcr (sp (Bv false) (zjr (zr5 (ret1 (Bv false) rfl rfl ⟨_,rfl,?_,H.base⟩))))) (fun h=>absurd h qj)))
        rw [xy (fun h=>by obtain ⟨h1,h2,h3,h4,h5,h6,h7,h8,h9,h10,h11⟩:=h;first | contradiction | omega | exact h3 ⟨‹_›,‹_›⟩ | (obtain ⟨q1,q2,q3,q4,q5⟩:=h11 i qf;first | contradiction | omega | (have:=q5 qf;omega)) | (refine absurd ?_ ‹¬ vS _ _›;rcases (show k=0∨k=1∨k=2∨k=3∨k=4 by omega) with e | e | e | e | e <;> subst e <;> assumption))]
       replace h48:=xM h48
       replace h48:=ve h48
       refine zV [23,24,25,26] 4 (H) (rtp 27 (Bv true) H ?_)
       refine rtp 28 (Bv true) H ?_
       refine zV [29,30,31,32,33,34,35,36,37,38,39,40,41,42] 14 (H) (rtp 43 (Bv true) H ?_)
       refine xJ qh (t_n (xK true rfl (fun _=>zcr (sp (Bv false) (zjr (zr5 (ret1 (Bv false) rfl rfl ⟨_,rfl,?_,H.base⟩))))) (fun h=>absurd h qj)))
       rw [xy (fun h=>by obtain ⟨h1,h2,h3,h4,h5,h6,h7,h8,h9,h10,h11⟩:=h;first | contradiction | omega | exact h3 ⟨‹_›,‹_›⟩ | (obtain ⟨q1,q2,q3,q4,q5⟩:=h11 i qf;first | contradiction | omega | (have:=q5 qf;omega)) | (refine absurd ?_ ‹¬ vS _ _›;rcases (show k=0∨k=1∨k=2∨k=3∨k=4 by omega) with e | e | e | e | e <;> subst e <;> assumption))]
      replace h45:=xM h45
      replace h45:=ve h45
      refine zV [15,16,17,18,19,20] 6 (H) (rtp 21 (Bv true) H ?_)
      refine rtp 22 (Bv true) H ?_
      refine zV [23,24,25,26] 4 (H) (rtp 27 (Bv true) H ?_)
      refine rtp 28 (Bv true) H ?_
      refine zV [29,30,31,32,33,34,35,36,37,38,39,40,41,42] 14 (H) (rtp 43 (Bv true) H ?_)
      refine xJ qh (t_n (xK true rfl (fun _=>zcr (sp (Bv false) (zjr (zr5 (ret1 (Bv false) rfl rfl ⟨_,rfl,?_,H.base⟩))))) (fun h=>absurd h qj)))
      rw [xy (fun h=>by obtain ⟨h1,h2,h3,h4,h5,h6,h7,h8,h9,h10,h11⟩:=h;first | contradiction | omega | exact h3 ⟨‹_›,‹_›⟩ | (obtain ⟨q1,q2,q3,q4,q5⟩:=h11 i qf;first | contradiction | omega | (have:=q5 qf;omega)) | (refine absurd ?_ ‹¬ vS _ _›;rcases (show k=0∨k=1∨k=2∨k=3∨k=4 by omega) with e | e | e | e | e <;> subst e <;> assumption))]
     replace h41:=xM h41
     replace h41:=XL h41
     refine zV [6,7,8,9,10,11,12] 7 (H) (rtp 13 (Bv true) H ?_)
     refine rtp 14 (Bv true) H ?_
     refine zV [15,16,17,18,19,20] 6 (H) (rtp 21 (Bv true) H ?_)
     refine rtp 22 (Bv true) H ?_
     refine zV [23,24,25,26] 4 (H) (rtp 27 (Bv true) H ?_)
     refine rtp 28 (Bv true) H ?_
     refine zV [29,30,31,32,33,34,35,36,37,38,39,40,41,42] 14 (H) (rtp 43 (Bv true) H ?_)
     refine xJ qh (t_n (xK true rfl (fun _=>zcr (sp (Bv false) (zjr (zr5 (ret1 (Bv false) rfl rfl ⟨_,rfl,?_,H.base⟩))))) (fun h=>absurd h qj)))
     rw [xy (fun h=>by obtain ⟨h1,h2,h3,h4,h5,h6,h7,h8,h9,h10,h11⟩:=h;first | contradiction | omega | exact h3 ⟨‹_›,‹_›⟩ | (obtain ⟨q1,q2,q3,q4,q5⟩:=h11 i qf;first | contradiction | omega | (have:=q5 qf;omega)) | (refine absurd ?_ ‹¬ vS _ _›;rcases (show k=0∨k=1∨k=2∨k=3∨k=4 by omega) with e | e | e | e | e <;> subst e <;> assumption))]
    refine zx4 (zcr (oF rfl (oL rfl (H.cell 1 rfl rfl) ?_)))
    have sm:Small r.xR:=vz (by first | assumption | exact i1 0 qf)
    refine sw (oq (X6 _ r.xR (H.get 3 rfl).1 (by first | assumption | exact vz ql | exact Qa ql)) H fun w55 H=>sps [Bv (decide ((Xh r.xR:Int) > 0)),Bv (decide ((Xh r.xR:Int) > 0))] (zjr (ret1 (Bv (decide ((Xh r.xR:Int) > 0))) rfl rfl ⟨_,rfl,(congrArg Value.bool (dec_eq ?_)),H.base⟩)))
    rw [decide_eq_true_iff]
    exact ⟨fun h=>⟨by omega,by omega,by simp_all,by omega,n1,n2,n3,n4,n5,by omega,(show i=r.qW.length by omega)▸i2⟩,fun h=>by have:=h.2.2.2.2.2.2.2.2.2.1;have:=sum_nonneg n1.1;omega⟩
   rw [h12] at H
   refine qR 23 rfl rfl (oF rfl (qR 23 rfl rfl (oL rfl (H.cell 0 rfl rfl) (qR 23 rfl rfl (sp (Bv ((r.qN:Int) == 0)) (qR 20 rfl rfl (sps [Bv ((r.qN:Int) == 0),Bv ((r.qN:Int) == 0),Bv ((r.qN:Int) == 0)] ?_)))))))
   cases h57:((r.qN:Int) == 0)
   ·skip
    replace h57:=ne_of_beq_false h57
    refine qR 29 rfl rfl (oF rfl (qR 29 rfl rfl (oL rfl (H.cell 0 rfl rfl) (qR 29 rfl rfl (oN rfl (qR 29 rfl rfl (sps [Bv (decide ((r.qW.length:Int) > 3)),Bv (decide ((r.qW.length:Int) > 3))] (zjn (cD rfl (fun h58=>?_) (fun h58=>?_))))))))))
    ·skip
     refine zcr (sp (Bv false) (zjr (t_r (ret1 (Bv false) rfl rfl ⟨_,rfl,?_,H.base⟩))))
     rw [xy (fun h=>by obtain ⟨h1,h2,h3,h4,h5,h6,h7,h8,h9,h10,h11⟩:=h;first | contradiction | omega | exact h3 ⟨‹_›,‹_›⟩ | (obtain ⟨q1,q2,q3,q4,q5⟩:=h11 i qf;first | contradiction | omega | (have:=q5 qf;omega)) | (refine absurd ?_ ‹¬ vS _ _›;rcases (show k=0∨k=1∨k=2∨k=3∨k=4 by omega) with e | e | e | e | e <;> subst e <;> assumption))]
    refine xk (t_n (zcc (oF rfl (oL rfl (H.cell 0 rfl rfl) (oF rfl (oL rfl (H.cell 0 rfl rfl) (oF rfl (oL rfl (H.cell 0 rfl rfl) (oF rfl (oL rfl (H.cell 0 rfl rfl) (oF rfl (oL rfl (H.cell 0 rfl rfl) (sw (o_buildF H underlying29 ti24 [Sv jW r.xR.length jT,Sv jY r.zM.length jV,Sv jX r.zK.length jU,Sv jO r.zH.length jM,Sv Qs r.jC.length Qr] rfl (by simp [Value.cells]) rfl qj qj fun b59 w60 H=>oN rfl (sp (yI 0) (zjn (xg ?_)))))))))))))))))
    replace H:=H.boxRow 0 rfl 1 5 rfl qj
    replace H:=H.vT (α:=yLI)
    replace H:=H.VS false 7 rfl 0 rfl qm
    replace H:=H.VS false 7 rfl 0 rfl qm
    replace H:=H.VS false 7 rfl 0 rfl qm
    replace H:=H.VS false 7 rfl 0 rfl qm
    replace H:=H.VS false 7 rfl 0 rfl qm
    refine zJ (fun m' ρ w61=>∃ (xY:Env) (k:Nat),ρ=upd (upd (upd (upd (upd xY 2 (pp b1 0)) 3 (pp b3 0)) 45 (Sv (aa b59 0) 5 5)) 46 (yI 5)) 47 (yI k)∧((k:Int)≤5)∧(∀ j,j < k→vS s.xh ([r.xR,r.zM,r.zK,r.zH,r.jC][j]!))∧m' =(5 - (k:Int)).toNat∧Fresh w.heap.size []∧St w w61 [rr (aa b59 0) 5 5 24 1 [Sv jW r.xR.length jT,Sv jY r.zM.length jV,Sv jX r.zK.length jU,Sv jO r.zH.length jM,Sv Qs r.jC.length Qr],.box b3 [yI r.qN,yI r.vP,Sv jW r.xR.length jT,Sv jY r.zM.length jV,Sv jX r.zK.length jU,Sv jO r.zH.length jM,Sv Qs r.jC.length Qr,Sv jE r.qW.length jD,Bv true] 56,.box b1 (yS s qE qC qO qK) 27] [xN false (XF++(XI++(XG++(XH++(FrOut++[]))))) [Sv jW r.xR.length jT,Sv jY r.zM.length jV,Sv jX r.zK.length jU,Sv jO r.zH.length jM,Sv Qs r.jC.length Qr] [r.xR,r.zM,r.zK,r.zH,r.jC],sF false xe qE qC s.qA,sF false xE qO qK s.qB,sF false XF jW jT r.xR,sF false XI jY jV r.zM,sF false XG jX jU r.zK,sF false XH jO jM r.zH,sF false FrOut Qs Qr r.jC,sF false VJ jE jD r.qW]) ((5 - (0:Int)).toNat) ⟨_,0,uE5,qf,(by intro j hj;omega),rfl,N,H.pick [0,1,2] [0,6,7,8,9,10,11,12,13]⟩ ?_
    clear H N
    rintro m' ρ w62 ⟨xY,k,rfl,i0,i1,rfl,N,H⟩
    refine zcr (sp (Bv (decide ((k:Int) < 5))) (zjn (zf (cD rfl (fun h63=>?_) (fun h63=>?_)))))
    ·skip
     refine xk (t_n (zf (xg (zcr (oI rfl rfl ?_)))))
     obtain ⟨a64,c65,G66,s67,h68,H⟩:=H.jP 0 rfl 0 rfl (iv:=k) k qf qf
     refine oL rfl (h68) (sp (Sv a64 (([r.xR,r.zM,r.zK,r.zH,r.jC][k]!).length) c65) (zjc (oF rfl (oL rfl (H.cell 2 rfl rfl) (sp (Sv a64 (([r.xR,r.zM,r.zK,r.zH,r.jC][k]!).length) c65) (sw (oq (VZ _ s.xh ([r.xR,r.zM,r.zK,r.zH,r.jC][k]!) (H.get 0 rfl).1) H fun w69 H=>sp (Bv (!(dec (vS s.xh ([r.xR,r.zM,r.zK,r.zH,r.jC][k]!))))) (zjn (cQ rfl (fun h71=>?_) (fun h71=>?_))))))))))
     ·skip
      refine zcr (sp (Bv false) (zjr (zr5 (ret1 (Bv false) rfl rfl ⟨_,rfl,?_,H.base⟩))))
      rw [xy (fun h=>by obtain ⟨h1,h2,h3,h4,h5,h6,h7,h8,h9,h10,h11⟩:=h;first | contradiction | omega | exact h3 ⟨‹_›,‹_›⟩ | (obtain ⟨q1,q2,q3,q4,q5⟩:=h11 i qf;first | contradiction | omega | (have:=q5 qf;omega)) | (refine absurd ?_ ‹¬ vS _ _›;rcases (show k=0∨k=1∨k=2∨k=3∨k=4 by omega) with e | e | e | e | e <;> subst e <;> assumption))]
     refine xk (b_n (t_n (zg (sw (zL k 1 rfl rfl qf (sp (yI (k+1)) (zi (xq (m' :=(5 - ((k+1):Int)).toNat) qf ⟨_,k+1,uE5,?_,?_,rfl,N,H.pick [0,1,2] [1,2,3,4,5,6,7,8,9]⟩))))))))
     · omega
     · intro j hj;by_cases e:j=k;(subst e;assumption);exact i1 j qf
    refine zx4 (zcc (oF rfl (oL rfl (H.cell 1 rfl rfl) (oN rfl (sp (yI 0) (zjn (xg ?_)))))))
    have n1:vS s.xh r.xR:=i1 0 qf
    have n2:vS s.xh r.zM:=i1 1 qf
    have n3:vS s.xh r.zK:=i1 2 qf
    have n4:vS s.xh r.zH:=i1 3 qf
    have n5:vS s.xh r.jC:=i1 4 qf
    refine zJ (fun m' ρ w72=>∃ (xY:Env) (i:Nat),ρ=upd (upd (upd (upd (upd xY 2 (pp b1 0)) 3 (pp b3 0)) 58 (Sv jE r.qW.length jD)) 59 (yI r.qW.length)) 60 (yI i)∧((i:Int)≤r.qW.length)∧(IntosTo s r i)∧m' =(r.qW.length - (i:Int)).toNat∧Fresh w.heap.size []∧St w w72 [rr (aa b59 0) 5 5 24 1 [Sv jW r.xR.length jT,Sv jY r.zM.length jV,Sv jX r.zK.length jU,Sv jO r.zH.length jM,Sv Qs r.jC.length Qr],.box b3 [yI r.qN,yI r.vP,Sv jW r.xR.length jT,Sv jY r.zM.length jV,Sv jX r.zK.length jU,Sv jO r.zH.length jM,Sv Qs r.jC.length Qr,Sv jE r.qW.length jD,Bv true] 56,.box b1 (yS s qE qC qO qK) 27] [xN false (XF++(XI++(XG++(XH++(FrOut++[]))))) [Sv jW r.xR.length jT,Sv jY r.zM.length jV,Sv jX r.zK.length jU,Sv jO r.zH.length jM,Sv Qs r.jC.length Qr] [r.xR,r.zM,r.zK,r.zH,r.jC],sF false xe qE qC s.qA,sF false xE qO qK s.qB,sF false XF jW jT r.xR,sF false XI jY jV r.zM,sF false XG jX jU r.zK,sF false XH jO jM r.zH,sF false FrOut Qs Qr r.jC,sF false VJ jE jD r.qW]) ((r.qW.length - (0:Int)).toNat) ⟨_,0,uE5,qf,qx,rfl,N,H⟩ ?_
    clear H N
    rintro m' ρ w73 ⟨xY,i,rfl,i0,i2,rfl,N,H⟩
    refine zcr (sp (Bv (decide ((i:Int) < r.qW.length))) (zjn (zf (cD rfl (fun h74=>?_) (fun h74=>?_)))))
    ·skip
     refine xk (t_n (zf (xg (zcr (sp (yI i) ?_)))))
     obtain ⟨b75,o76,rfl⟩:=H.addr 8 rfl qf
     obtain ⟨ae78Bag,ce78Bag,Fe78Bag,H⟩:=H.Qd 8 rfl i i qf qf qf
     refine oI rfl rfl (sw (xU [yI ((r.qW[i]!).qN),Sv ae78Bag (((r.qW[i]!).QP).length) ce78Bag] isAgg142 sizeOf142 rfl (qJ (H.get 1 rfl) 0 2) (sw (xZ H ti142 [yI 0,yN] fun b79 w80 H=>sp (yI i) (sw (zu H 0 [yI ((r.qW[i]!).qN),Sv ae78Bag (((r.qW[i]!).QP).length) ce78Bag] sizeOf142 fun w81 H=>zjn (zf ?_)))))))
     refine yl rfl H fun H=>rt 0 (.agg #[yI s.xh,Sv qE s.qA.length qC,Sv qO s.qB.length qK]) (Qv (cs:=(yS s qE qC qO qK)) isAgg27 sizeOf27 rfl (fun _ h=>qJ (h.cells 3 rfl) 0 3)) H ?_
     refine tF 1 rfl rfl H ?_
     refine tL 2 rfl rfl (fun _ h=>h.cell 0 rfl rfl) H ?_
     refine ro 3 rfl (oq (isCell_ok _ s ((r.qW[i]!).qN) (H.get 3 rfl).1 (H.get 4 rfl).1) H fun w84 H=>⟨H,(rtp 4 (Bv (!(inR ((r.qW[i]!).qN) 0 ((s.qA.length:Int) - 1)))) H ?_)⟩)
     refine rtp 5 (Bv (!(inR ((r.qW[i]!).qN) 0 ((s.qA.length:Int) - 1)))) H ?_
     cases h86:(!(inR ((r.qW[i]!).qN) 0 ((s.qA.length:Int) - 1)))
     ·skip
      replace h86:=xG h86
      replace h86:=Xj.1 h86
      refine rg 6 (.agg #[yI s.xh,Sv qE s.qA.length qC,Sv qO s.qB.length qK]) 70 (Qv (cs:=(yS s qE qC qO qK)) isAgg27 sizeOf27 rfl (fun _ h=>qJ (h.cells 3 rfl) 0 3)) H ?_
      refine gF 7 rfl rfl H ?_
      refine gL 8 rfl rfl (fun _ h=>h.cell 0 rfl rfl) H ?_
      refine gF 9 rfl rfl H ?_
      refine gL 10 rfl rfl (fun _ h=>h.cell 2 rfl rfl) H ?_
      refine jb [11] qh qm (Vh rfl (e:=70) rfl rfl (oq (lies_ok _ s ((r.qW[i]!).qN) r.qN (H.get 3 rfl).1 (H.get 4 rfl).1 qg qg) H fun w88 H=>⟨H,(rgp 12 (Bv (!(dec (Lies s.qA r.qN ((r.qW[i]!).qN))))) 70 H ?_)⟩) jd)
      refine rtp 13 (Bv (!(dec (Lies s.qA r.qN ((r.qW[i]!).qN))))) H ?_
      refine rtp 14 (Bv (!(dec (Lies s.qA r.qN ((r.qW[i]!).qN))))) H ?_
      cases h90:(!(dec (Lies s.qA r.qN ((r.qW[i]!).qN))))
      ·skip
       replace h90:=xG h90
       replace h90:=Qq h90
       refine gF 15 rfl rfl H ?_
       refine gL 16 rfl rfl (fun _ h=>h.cell 3 rfl rfl) H ?_
       refine gF 17 rfl rfl H ?_
       refine gL 18 rfl rfl (fun _ h=>h.cell 0 rfl rfl) H ?_
       refine jb [19] qh qm (Vh rfl (e:=79) rfl rfl (oq (VZ _ s.xh ((r.qW[i]!).QP) (H.get 0 rfl).1) H fun w91 H=>⟨H,(rgp 20 (Bv (!(dec (vS s.xh ((r.qW[i]!).QP))))) 79 H ?_)⟩) jd)
       refine rtp 21 (Bv (!(dec (vS s.xh ((r.qW[i]!).QP))))) H ?_
       refine rtp 22 (Bv (!(dec (vS s.xh ((r.qW[i]!).QP))))) H ?_
       cases h93:(!(dec (vS s.xh ((r.qW[i]!).QP))))
       ·skip
        replace h93:=xG h93
        replace h93:=Qq h93
        refine gF 23 rfl rfl H ?_
        refine gL 24 rfl rfl (fun _ h=>h.cell 0 rfl rfl) H ?_
        refine jb [25] qh qm (Vh rfl (e:=87) rfl rfl ?_ jd)
        have sm:Small ((r.qW[i]!).QP):=vz (by first | assumption | exact i1 0 qf)
        refine oq (X6 _ ((r.qW[i]!).QP) (H.get 0 rfl).1 (by first | assumption | exact vz ql | exact Qa ql)) H fun w94 H=>⟨H,(rgp 26 (Bv ((Xh ((r.qW[i]!).QP):Int) == 0)) 87 H ?_)⟩
        refine rtp 27 (Bv ((Xh ((r.qW[i]!).QP):Int) == 0)) H ?_
        refine rtp 28 (Bv ((Xh ((r.qW[i]!).QP):Int) == 0)) H ?_
        cases h96:((Xh ((r.qW[i]!).QP):Int) == 0)
        ·skip
         replace h96:=ne_of_beq_false h96
         refine rgp 29 (yI i) 93 H ?_
         refine rgp 30 (Bv (decide ((i:Int) > 0))) 93 H ?_
         refine rgp 31 (Bv (decide ((i:Int) > 0))) 93 H ?_
         cases h97:(decide ((i:Int) > 0))
         ·skip
          replace h97:=of_decide_eq_false h97
          refine zV [32,33,34,35,36,37,38,39,40,41] 10 (H) (rgp 42 (Bv false) 93 H ?_)
          refine rtp 43 (Bv false) H ?_
          refine xJ qh (t_n (xK false rfl (fun h=>absurd h qj) (fun _=>xk (b_n (t_n (zg (sw (zL i 1 rfl rfl qf (sp (yI (i+1)) (zi (xq (m' :=(r.qW.length - ((i+1):Int)).toNat) qf ⟨_,i+1,uE5,?_,?_,rfl,N,H.pick [1,2,3] [2,3,4,5,6,7,8,9,10]⟩)))))))))))
          · omega
          · exact i2.succ ⟨‹_›,‹_›,‹_›,‹_›,fun hk=>by omega⟩
         replace h97:=of_decide_eq_true h97
         refine gF 32 rfl rfl H ?_
         refine gL 33 rfl rfl (fun _ h=>h.cell 0 rfl rfl) H ?_
         refine gF 34 rfl rfl H ?_
         refine gL 35 rfl rfl (fun _ h=>h.cell 2 rfl rfl) H ?_
         refine rgp 36 (yI i) 96 H ?_
         refine rg 37 (yI (i - 1)) 96 (y_sub i 1 rfl rfl qf) H ?_
         obtain ⟨ae98Bag,ce98Bag,Fe98Bag,H⟩:=H.Qd 10 rfl (i - 1) (i - 1) qf qf qf
         have S:=H.yj [0,1,2,3] [2,3,4,5,6,7,8,9,10,11,12]
         refine gI 38 rfl rfl rfl S ?_
         refine gF 39 rfl rfl S ?_
         refine jb [40] qh qm (Vh rfl (e:=96) rfl rfl (zF (yI ((r.qW[i - 1]!).qN)) isAgg2 rfl (H.x9 1 rfl 0 rfl) (⟨H.pick [0,1,2,3] [2,3,4,5,6,7,8,9,10,11,12],?_⟩)) jd)
         have S:=H.yj [0,1,2,3] [2,3,4,5,6,7,8,9,10,11,12]
         refine rgp 41 (Bv (decide (((r.qW[i]!).qN:Int)≤((r.qW[i - 1]!).qN)))) 96 S ?_
         refine rgp 42 (Bv (decide (((r.qW[i]!).qN:Int)≤((r.qW[i - 1]!).qN)))) 93 S ?_
         refine rtp 43 (Bv (decide (((r.qW[i]!).qN:Int)≤((r.qW[i - 1]!).qN)))) S ?_
         refine xJ qh (t_n (cD rfl (fun h99=>?_) (fun h99=>?_)))
         ·skip
          refine zcr (sp (Bv false) (zjr (zr5 (ret1 (Bv false) rfl rfl ⟨_,rfl,?_,H.base⟩))))
          rw [xy (fun h=>by obtain ⟨h1,h2,h3,h4,h5,h6,h7,h8,h9,h10,h11⟩:=h;first | contradiction | omega | exact h3 ⟨‹_›,‹_›⟩ | (obtain ⟨q1,q2,q3,q4,q5⟩:=h11 i qf;first | contradiction | omega | (have:=q5 qf;omega)) | (refine absurd ?_ ‹¬ vS _ _›;rcases (show k=0∨k=1∨k=2∨k=3∨k=4 by omega) with e | e | e | e | e <;> subst e <;> assumption))]
         refine xk (b_n (t_n (zg (sw (zL i 1 rfl rfl qf (sp (yI (i+1)) (zi (xq (m' :=(r.qW.length - ((i+1):Int)).toNat) qf ⟨_,i+1,uE5,?_,?_,rfl,N,H.pick [1,2,3] [4,5,6,7,8,9,10,11,12]⟩))))))))
         · omega
         · exact i2.succ ⟨‹_›,‹_›,‹_›,‹_›,fun hk=>by omega⟩
        replace h96:=eq_of_beq h96
        refine zV [29,30,31,32,33,34,35,36,37,38,39,40,41,42] 14 (H) (rtp 43 (Bv true) H ?_)
        refine xJ qh (t_n (xK true rfl (fun _=>zcr (sp (Bv false) (zjr (zr5 (ret1 (Bv false) rfl rfl ⟨_,rfl,?_,H.base⟩))))) (fun h=>absurd h qj)))
        rw [xy (fun h=>by obtain ⟨h1,h2,h3,h4,h5,h6,h7,h8,h9,h10,h11⟩:=h;first | contradiction | omega | exact h3 ⟨‹_›,‹_›⟩ | (obtain ⟨q1,q2,q3,q4,q5⟩:=h11 i qf;first | contradiction | omega | (have:=q5 qf;omega)) | (refine absurd ?_ ‹¬ vS _ _›;rcases (show k=0∨k=1∨k=2∨k=3∨k=4 by omega) with e | e | e | e | e <;> subst e <;> assumption))]
       replace h93:=xM h93
       replace h93:=ve h93
       refine zV [23,24,25,26] 4 (H) (rtp 27 (Bv true) H ?_)
       refine rtp 28 (Bv true) H ?_
       refine zV [29,30,31,32,33,34,35,36,37,38,39,40,41,42] 14 (H) (rtp 43 (Bv true) H ?_)
       refine xJ qh (t_n (xK true rfl (fun _=>zcr (sp (Bv false) (zjr (zr5 (ret1 (Bv false) rfl rfl ⟨_,rfl,?_,H.base⟩))))) (fun h=>absurd h qj)))
       rw [xy (fun h=>by obtain ⟨h1,h2,h3,h4,h5,h6,h7,h8,h9,h10,h11⟩:=h;first | contradiction | omega | exact h3 ⟨‹_›,‹_›⟩ | (obtain ⟨q1,q2,q3,q4,q5⟩:=h11 i qf;first | contradiction | omega | (have:=q5 qf;omega)) | (refine absurd ?_ ‹¬ vS _ _›;rcases (show k=0∨k=1∨k=2∨k=3∨k=4 by omega) with e | e | e | e | e <;> subst e <;> assumption))]
      replace h90:=xM h90
      replace h90:=ve h90
      refine zV [15,16,17,18,19,20] 6 (H) (rtp 21 (Bv true) H ?_)
      refine rtp 22 (Bv true) H ?_
      refine zV [23,24,25,26] 4 (H) (rtp 27 (Bv true) H ?_)
      refine rtp 28 (Bv true) H ?_
      refine zV [29,30,31,32,33,34,35,36,37,38,39,40,41,42] 14 (H) (rtp 43 (Bv true) H ?_)
      refine xJ qh (t_n (xK true rfl (fun _=>zcr (sp (Bv false) (zjr (zr5 (ret1 (Bv false) rfl rfl ⟨_,rfl,?_,H.base⟩))))) (fun h=>absurd h qj)))
      rw [xy (fun h=>by obtain ⟨h1,h2,h3,h4,h5,h6,h7,h8,h9,h10,h11⟩:=h;first | contradiction | omega | exact h3 ⟨‹_›,‹_›⟩ | (obtain ⟨q1,q2,q3,q4,q5⟩:=h11 i qf;first | contradiction | omega | (have:=q5 qf;omega)) | (refine absurd ?_ ‹¬ vS _ _›;rcases (show k=0∨k=1∨k=2∨k=3∨k=4 by omega) with e | e | e | e | e <;> subst e <;> assumption))]
     replace h86:=xM h86
     replace h86:=XL h86
     refine zV [6,7,8,9,10,11,12] 7 (H) (rtp 13 (Bv true) H ?_)
     refine rtp 14 (Bv true) H ?_
     refine zV [15,16,17,18,19,20] 6 (H) (rtp 21 (Bv true) H ?_)
     refine rtp 22 (Bv true) H ?_
     refine zV [23,24,25,26] 4 (H) (rtp 27 (Bv true) H ?_)
     refine rtp 28 (Bv true) H ?_
     refine zV [29,30,31,32,33,34,35,36,37,38,39,40,41,42] 14 (H) (rtp 43 (Bv true) H ?_)
     refine xJ qh (t_n (xK true rfl (fun _=>zcr (sp (Bv false) (zjr (zr5 (ret1 (Bv false) rfl rfl ⟨_,rfl,?_,H.base⟩))))) (fun h=>absurd h qj)))
     rw [xy (fun h=>by obtain ⟨h1,h2,h3,h4,h5,h6,h7,h8,h9,h10,h11⟩:=h;first | contradiction | omega | exact h3 ⟨‹_›,‹_›⟩ | (obtain ⟨q1,q2,q3,q4,q5⟩:=h11 i qf;first | contradiction | omega | (have:=q5 qf;omega)) | (refine absurd ?_ ‹¬ vS _ _›;rcases (show k=0∨k=1∨k=2∨k=3∨k=4 by omega) with e | e | e | e | e <;> subst e <;> assumption))]
    refine zx4 (zcr (oF rfl (oL rfl (H.cell 1 rfl rfl) ?_)))
    have sm:Small r.xR:=vz (by first | assumption | exact i1 0 qf)
    refine sw (oq (X6 _ r.xR (H.get 3 rfl).1 (by first | assumption | exact vz ql | exact Qa ql)) H fun w100 H=>sps [Bv (decide ((Xh r.xR:Int) > 0)),Bv (decide ((Xh r.xR:Int) > 0))] (zjr (ret1 (Bv (decide ((Xh r.xR:Int) > 0))) rfl rfl ⟨_,rfl,(congrArg Value.bool (dec_eq ?_)),H.base⟩)))
    rw [decide_eq_true_iff]
    exact ⟨fun h=>⟨by omega,by omega,by simp_all,by omega,n1,n2,n3,n4,n5,by omega,(show i=r.qW.length by omega)▸i2⟩,fun h=>by have:=h.2.2.2.2.2.2.2.2.2.1;have:=sum_nonneg n1.1;omega⟩
   replace h57:=eq_of_beq h57
   refine xW [30,31,32,33] (sp (Bv true) (zjn (xK true rfl (fun _=>zcr (sp (Bv false) (zjr (t_r (ret1 (Bv false) rfl rfl ⟨_,rfl,?_,H.base⟩))))) (fun h=>absurd h qj))))
   rw [xy (fun h=>by obtain ⟨h1,h2,h3,h4,h5,h6,h7,h8,h9,h10,h11⟩:=h;first | contradiction | omega | exact h3 ⟨‹_›,‹_›⟩ | (obtain ⟨q1,q2,q3,q4,q5⟩:=h11 i qf;first | contradiction | omega | (have:=q5 qf;omega)) | (refine absurd ?_ ‹¬ vS _ _›;rcases (show k=0∨k=1∨k=2∨k=3∨k=4 by omega) with e | e | e | e | e <;> subst e <;> assumption))]
  replace h11:=xM h11
  replace h11:=XL h11
  refine xW [21,22,23,24,25,26,27] (sps [Bv true,Bv true] (xW [30,31,32,33] (sp (Bv true) (zjn (xK true rfl (fun _=>zcr (sp (Bv false) (zjr (t_r (ret1 (Bv false) rfl rfl ⟨_,rfl,?_,H.base⟩))))) (fun h=>absurd h qj))))))
  rw [xy (fun h=>by obtain ⟨h1,h2,h3,h4,h5,h6,h7,h8,h9,h10,h11⟩:=h;first | contradiction | omega | exact h3 ⟨‹_›,‹_›⟩ | (obtain ⟨q1,q2,q3,q4,q5⟩:=h11 i qf;first | contradiction | omega | (have:=q5 qf;omega)) | (refine absurd ?_ ‹¬ vS _ _›;rcases (show k=0∨k=1∨k=2∨k=3∨k=4 by omega) with e | e | e | e | e <;> subst e <;> assumption))]
 replace h8:=xM h8
 replace h8:=XL h8
 refine xW [15,16,17,18] (sps [Bv true,Bv true] (xW [21,22,23,24,25,26,27] (sps [Bv true,Bv true] (xW [30,31,32,33] (sp (Bv true) (zjn (xK true rfl (fun _=>zcr (sp (Bv false) (zjr (t_r (ret1 (Bv false) rfl rfl ⟨_,rfl,?_,H.base⟩))))) (fun h=>absurd h qj))))))))
 rw [xy (fun h=>by obtain ⟨h1,h2,h3,h4,h5,h6,h7,h8,h9,h10,h11⟩:=h;first | contradiction | omega | exact h3 ⟨‹_›,‹_›⟩ | (obtain ⟨q1,q2,q3,q4,q5⟩:=h11 i qf;first | contradiction | omega | (have:=q5 qf;omega)) | (refine absurd ?_ ‹¬ vS _ _›;rcases (show k=0∨k=1∨k=2∨k=3∨k=4 by omega) with e | e | e | e | e <;> subst e <;> assumption))]
theorem validSystem_ok (w:World) (s:qI) {qE:yOA} {xe:yLN} {qO:yOA} {xE:yLN} (qZ:qX.rep w xe [Sv qE s.qA.length qC] s.qA) (xC:qX.rep w xE [Sv qO s.qB.length qK] s.qB):Calls Tryz.prog 61 #[.agg #[yI s.xh,Sv qE s.qA.length qC,Sv qO s.qB.length qK]] w (Ret (fun v w' =>v=Bv (dec (zQ s))) w):=by
 refine en func61 ntmps61 ?_
 have H:=((St.start w).arg xC).arg qZ
 have zX:=qV qZ
 have jo:=qV xC
 clear qZ xC
 have N:=Fresh.nil w.heap.size
 have p1:=fun h:yg s=>h.2.1
 refine zcr (sw (zW H (yS s qE qC qO qK) fun b1 w2 H=>sp (Bv false) (zjcc (sw (xU (yS s qE qC qO qK) isAgg27 sizeOf27 rfl (qJ (H.cells 0 rfl) 0 3) (sw (oq (isShell_ok _ s (H.get 0 rfl).1 (H.get 1 rfl).1) H fun w4 H=>sps [Bv (!(dec (yg s))),Bv (!(dec (yg s)))] ?_)))))))
 cases h6:(!(dec (yg s)))
 ·skip
  replace h6:=xG h6
  replace h6:=Qq h6
  refine qR 9 rfl rfl (oF rfl (qR 9 rfl rfl (oL rfl (H.cell 0 rfl rfl) (qR 9 rfl rfl (oN rfl (qR 9 rfl rfl (sps [Bv (decide ((s.qB.length:Int) > 16)),Bv (decide ((s.qB.length:Int) > 16))] (zjn (cD rfl (fun h7=>?_) (fun h7=>?_))))))))))
  ·skip
   refine zcr (sp (Bv false) (zjr (t_r (ret1 (Bv false) rfl rfl ⟨_,rfl,?_,H.base⟩))))
   rw [xy (fun h=>by obtain ⟨h1,h2,h3⟩:=h;first | contradiction | omega | (obtain ⟨r1,r2⟩:=h3 k qf;first | contradiction | (have:=Ya (s:=s) (k:=k+1) q1 q2;omega)))]
  refine xk (t_n (zcr (sw (vX [yI 0,yI 0,yI 0,yI 0,yI 0,yI 0] [] (sw (xZ H ti148 [yI 0,yI 0,yI 0,yI 0,yI 0,yI 0] fun b8 w9 H=>sw (zu H 0 [yI 0,yI 0,yI 0,yI 0,yI 0,yI 0] sizeOf148 fun w10 H=>zjcc (oF rfl (oL rfl (H.cell 1 rfl rfl) (oN rfl (sp (yI 0) (zjn (xg ?_)))))))))))))
  have p2:=p1 ‹_›
  refine zJ (fun m' ρ w11=>∃ (xY:Env) (k:Nat) (many:yLI),ρ=upd (upd (upd (upd (upd xY 1 (pp b1 0)) 3 (pp b8 0)) 17 (Sv qO s.qB.length qK)) 18 (yI s.qB.length)) 19 (yI k)∧many=counts6 s k∧((k:Int)≤s.qB.length)∧(RulesTo s k)∧m' =(s.qB.length - (k:Int)).toNat∧Fresh w.heap.size []∧St w w11 [.box b8 (many.map (Value.int .i64)) 148,.box b1 (yS s qE qC qO qK) 27] [sF false xe qE qC s.qA,sF false xE qO qK s.qB]) ((s.qB.length - (0:Int)).toNat) ⟨_,0,[0,0,0,0,0,0],uE5,(by exact counts6_zero s),qf,qx,rfl,N,H⟩ ?_
  clear H N
  rintro m' ρ w12 ⟨xY,k,many,rfl,rfl,i0,i1,rfl,N,H⟩
  refine zcr (sp (Bv (decide ((k:Int) < s.qB.length))) (zjn (zf (cD rfl (fun h13=>?_) (fun h13=>?_)))))
  ·skip
   refine xk (t_n (zf (xg (zcr ?_))))
   obtain ⟨b14,o15,rfl⟩:=H.addr 1 rfl qf
   obtain ⟨ae17Need,ce17Need,Fe17Need,ae17Have,ce17Have,Fe17Have,ae17Lack,ce17Lack,Fe17Lack,ae17Here,ce17Here,Fe17Here,ae17Out,ce17Out,Fe17Out,ae17Into,ce17Into,Fe17Into,H⟩:=H.yH 1 rfl k k qf qf qf
   refine oI rfl rfl (sw (xU [yI ((s.qB[k]!).qN),yI ((s.qB[k]!).vP),Sv ae17Need (((s.qB[k]!).xR).length) ce17Need,Sv ae17Have (((s.qB[k]!).zM).length) ce17Have,Sv ae17Lack (((s.qB[k]!).zK).length) ce17Lack,Sv ae17Here (((s.qB[k]!).zH).length) ce17Here,Sv ae17Out (((s.qB[k]!).jC).length) ce17Out,Sv ae17Into (((s.qB[k]!).qW).length) ce17Into,Bv ((s.qB[k]!).vF)] isAgg56 sizeOf56 rfl (qJ (H.get 6 rfl) 0 9) ?_))
   refine sw (xZ H ti56 [yI 0,yI 0,yN,yN,yN,yN,yN,yN,Bv false] fun b18 w19 H=>sw (zu H 0 [yI ((s.qB[k]!).qN),yI ((s.qB[k]!).vP),Sv ae17Need (((s.qB[k]!).xR).length) ce17Need,Sv ae17Have (((s.qB[k]!).zM).length) ce17Have,Sv ae17Lack (((s.qB[k]!).zK).length) ce17Lack,Sv ae17Here (((s.qB[k]!).zH).length) ce17Here,Sv ae17Out (((s.qB[k]!).jC).length) ce17Out,Sv ae17Into (((s.qB[k]!).qW).length) ce17Into,Bv ((s.qB[k]!).vF)] sizeOf56 fun w20 H=>?_))
   refine zjcc (sw (xU [yI s.xh,Sv qE s.qA.length qC,Sv (aa b14 o15) s.qB.length qK] isAgg27 sizeOf27 rfl (qJ (H.cells 2 rfl) 0 3) ?_))
   refine sw (xU [yI ((s.qB[k]!).qN),yI ((s.qB[k]!).vP),Sv ae17Need (((s.qB[k]!).xR).length) ce17Need,Sv ae17Have (((s.qB[k]!).zM).length) ce17Have,Sv ae17Lack (((s.qB[k]!).zK).length) ce17Lack,Sv ae17Here (((s.qB[k]!).zH).length) ce17Here,Sv ae17Out (((s.qB[k]!).jC).length) ce17Out,Sv ae17Into (((s.qB[k]!).qW).length) ce17Into,Bv ((s.qB[k]!).vF)] isAgg56 sizeOf56 rfl (qJ (H.cells 0 rfl) 0 9) ?_)
   refine sw (oq (isRule_ok _ s (s.qB[k]!) (H.get 7 rfl).1 (H.get 8 rfl).1 (H.get 0 rfl).1 (H.get 1 rfl).1 (H.get 2 rfl).1 (H.get 3 rfl).1 (H.get 4 rfl).1 (H.get 5 rfl).1 qg) H fun w22 H=>?_)
   have q:=fun h:RuleOk s (s.qB[k]!)=>(show 0≤(s.qB[k]!).qN∧(s.qB[k]!).qN≤5 from ⟨h.1.1,by have:=h.1.2;omega⟩)
   refine sp (Bv (!(dec (RuleOk s (s.qB[k]!))))) (zjn (cQ rfl (fun h24=>?_) (fun h24=>?_)))
   ·skip
    refine zcr (sp (Bv false) (zjr (t_r (zr5 (ret1 (Bv false) rfl rfl ⟨_,rfl,?_,H.base⟩)))))
    rw [xy (fun h=>by obtain ⟨h1,h2,h3⟩:=h;first | contradiction | omega | (obtain ⟨r1,r2⟩:=h3 k qf;first | contradiction | (have:=Ya (s:=s) (k:=k+1) q1 q2;omega)))]
   obtain ⟨q1,q2⟩:=q ‹_›
   have q3:=Ya (s:=s) (k:=k) q1 q2
   have q4:=ofCell_bd s.qB (s.qB[k]!).qN k
   refine xk (t_n (zcr (oF rfl (oL rfl (H.cell 0 rfl rfl) (sw (o_idxArr ((s.qB[k]!).qN) underlying148 ti3 rfl rfl qf qf (oL rfl (H.cell 1 rfl (ints_at (iv:=(s.qB[k]!).qN) (i:=(((s.qB[k]!).qN).toNat)) qf (by simp only [List.length_set,List.length_cons,List.length_nil,counts6_len];omega))) (sw (zL ((counts6 s k)[((s.qB[k]!).qN).toNat]!) 1 rfl rfl qf (sw (o_idxArr ((s.qB[k]!).qN) underlying148 ti3 rfl rfl qf qf ?_)))))))))))
   refine sw (o_storeArr H 1 rfl (((counts6 s k)[((s.qB[k]!).qN).toNat]!)+1) sizeOf3 rfl rfl (i:=(((s.qB[k]!).qN).toNat)) qf (by simp only [List.length_set,List.length_cons,List.length_nil,counts6_len];omega) fun w25 H=>?_)
   rw [counts6_succ q1 q2] at H
   refine zjc (oF rfl (oL rfl (H.cell 0 rfl rfl) (sw (o_idxArr ((s.qB[k]!).qN) underlying148 ti3 rfl rfl qf qf (oL rfl (H.cell 1 rfl (ints_at (iv:=(s.qB[k]!).qN) (i:=(((s.qB[k]!).qN).toNat)) qf (by simp only [List.length_set,List.length_cons,List.length_nil,counts6_len];omega))) (sp (Bv (decide (((counts6 s (k+1))[((s.qB[k]!).qN).toNat]! :Int) > 8))) (zjn (cD rfl (fun h26=>?_) (fun h26=>?_)))))))))
   ·skip
    refine zcr (sp (Bv false) (zjr (zr5 (ret1 (Bv false) rfl rfl ⟨_,rfl,?_,H.base⟩))))
    rw [xy (fun h=>by obtain ⟨h1,h2,h3⟩:=h;first | contradiction | omega | (obtain ⟨r1,r2⟩:=h3 k qf;first | contradiction | (have:=Ya (s:=s) (k:=k+1) q1 q2;omega)))]
   refine xk (b_n (t_n (zg (sw (zL k 1 rfl rfl qf (sp (yI (k+1)) (zi (xq (m' :=(s.qB.length - ((k+1):Int)).toNat) qf ⟨_,k+1,counts6 s (k+1),uE5,?_,?_,?_,rfl,N,H.pick [1,2] [7,8]⟩))))))))
   · rfl
   · omega
   · exact i1.succ ‹_› (by have:=Ya (s:=s) (k:=k+1) q1 q2;omega)
  refine zx4 (zcr (sp (Bv true) (zjr (ret1 (Bv true) rfl rfl ⟨_,rfl,?_,H.base⟩))))
  rw [yh ⟨by assumption,by omega,(show s.qB.length=k by omega)▸i1⟩]
 replace h6:=xM h6
 replace h6:=ve h6
 refine xW [10,11,12,13] (sp (Bv true) (zjn (xK true rfl (fun _=>zcr (sp (Bv false) (zjr (t_r (ret1 (Bv false) rfl rfl ⟨_,rfl,?_,H.base⟩))))) (fun h=>absurd h qj))))
 rw [xy (fun h=>by obtain ⟨h1,h2,h3⟩:=h;first | contradiction | omega | (obtain ⟨r1,r2⟩:=h3 k qf;first | contradiction | (have:=Ya (s:=s) (k:=k+1) q1 q2;omega)))]

theorem Xk (w:World) (s:qI) (t:qP) {qE:yOA} {xe:yLN} {qO:yOA} {xE:yLN} {qU:yOA} {xO:yLN} {xf:yOA} {zo:yLN} {qM:yOA} {xB:yLN} (qZ:qX.rep w xe [Sv qE s.qA.length qC] s.qA) (xC:qX.rep w xE [Sv qO s.qB.length qK] s.qB) (xQ:qX.rep w xO [Sv qU t.qG.length qQ] t.qG) (zA:qX.rep w zo [Sv xf t.qH.length qY] t.qH) (xH:qX.rep w xB [Sv qM t.qF.length qL] t.qF):Calls Tryz.prog 47 #[.agg #[yI s.xh,Sv qE s.qA.length qC,Sv qO s.qB.length qK],.agg #[Sv qU t.qG.length qQ,Sv xf t.qH.length qY,Sv qM t.qF.length qL]] w (Ret (fun v w' =>v=Bv (dec (zQ s∧xI s t))) w):=by
 refine en func47 ntmps47 ?_
 have H:=(((((St.start w).arg xH).arg zA).arg xQ).arg xC).arg qZ
 have zX:=qV qZ
 have jo:=qV xC
 have yC:=qV xQ
 have Qm:=qV zA
 have jH:=qV xH
 clear qZ xC xQ zA xH
 have N:=Fresh.nil w.heap.size
 refine zcr (sw (zW H (yS s qE qC qO qK) fun b1 w2 H=>sw (zW H (yT t qU qQ xf qY qM qL) fun b3 w4 H=>sp (Bv false) (zjcc (sw (xU (yS s qE qC qO qK) isAgg27 sizeOf27 rfl (qJ (H.cells 1 rfl) 0 3) (sw (oq (validSystem_ok _ s (H.get 0 rfl).1 (H.get 1 rfl).1) H fun w6 H=>sps [Bv (!(dec (zQ s))),Bv (!(dec (zQ s)))] ?_))))))))
 cases h8:(!(dec (zQ s)))
 ·skip
  replace h8:=xG h8
  replace h8:=Qq h8
  have z1:=(‹zQ s›:zQ s).1.2.1
  refine qR 10 rfl rfl (oF rfl (qR 10 rfl rfl (oL rfl (H.cell 0 rfl rfl) (qR 10 rfl rfl (oN rfl (qR 10 rfl rfl (oF rfl (qR 10 rfl rfl (oL rfl (H.cell 1 rfl rfl) (qR 10 rfl rfl (oN rfl (qR 10 rfl rfl (sps [Bv ((t.qG.length:Int) != s.qA.length),Bv ((t.qG.length:Int) != s.qA.length),Bv ((t.qG.length:Int) != s.qA.length)] ?_)))))))))))))
  cases h9:((t.qG.length:Int) != s.qA.length)
  ·skip
   replace h9:=xF h9
   refine qR 19 rfl rfl (oF rfl (qR 19 rfl rfl (oL rfl (H.cell 0 rfl rfl) (qR 19 rfl rfl (oN rfl (qR 19 rfl rfl (oF rfl (qR 19 rfl rfl (oL rfl (H.cell 1 rfl rfl) (qR 19 rfl rfl (oN rfl (qR 19 rfl rfl (sps [Bv ((t.qH.length:Int) != s.qA.length),Bv ((t.qH.length:Int) != s.qA.length),Bv ((t.qH.length:Int) != s.qA.length)] ?_)))))))))))))
   cases h10:((t.qH.length:Int) != s.qA.length)
   ·skip
    replace h10:=xF h10
    refine qR 28 rfl rfl (oF rfl (qR 28 rfl rfl (oL rfl (H.cell 0 rfl rfl) (qR 28 rfl rfl ?_))))
    obtain ⟨b11,o12,rfl⟩:=H.addr 2 rfl qf
    refine oI rfl rfl (qR 28 rfl rfl (oL rfl (H.Vx 2 rfl 0 qf qf) (qR 28 rfl rfl (sps [Bv (!(t.qG[0]!)),Bv (!(t.qG[0]!)),Bv (!(t.qG[0]!))] ?_))))
    cases h14:(!(t.qG[0]!))
    ·skip
     replace h14:=xG h14
     refine qR 35 rfl rfl (oF rfl (qR 35 rfl rfl (oL rfl (H.cell 1 rfl rfl) (qR 35 rfl rfl (oF rfl (qR 35 rfl rfl (oL rfl (H.cell 0 rfl rfl) (qR 35 rfl rfl (sw (oq (VZ _ s.xh t.qF (H.get 4 rfl).1) H fun w15 H=>qR 35 rfl rfl (sps [Bv (!(dec (vS s.xh t.qF))),Bv (!(dec (vS s.xh t.qF)))] (zjn (cQ rfl (fun h17=>?_) (fun h17=>?_))))))))))))))
     ·skip
      refine zcr (sp (Bv false) (zjr (t_r (ret1 (Bv false) rfl rfl ⟨_,rfl,?_,H.base⟩))))
      rw [xy (fun h=>by obtain ⟨h0,h1,h2,h3,h4,h5⟩:=h;first | contradiction | omega | (simp_all;done) | (obtain ⟨q1,q2⟩:=h5 c qf;first | contradiction | (have:=q2 ql;omega)))]
     refine xk (t_n (zcc (oF rfl (oL rfl (H.cell 0 rfl rfl) (oN rfl (sp (yI 0) (zjn (xg ?_))))))))
     refine zJ (fun m' ρ w18=>∃ (xY:Env) (c:Nat),ρ=upd (upd (upd (upd (upd xY 2 (pp b1 0)) 3 (pp b3 0)) 44 (Sv xf t.qH.length qY)) 45 (yI t.qH.length)) 46 (yI c)∧((c:Int)≤t.qH.length)∧(BagsTo s t c)∧m' =(t.qH.length - (c:Int)).toNat∧Fresh w.heap.size []∧St w w18 [.box b3 [Sv (aa b11 o12) t.qG.length qQ,Sv xf t.qH.length qY,Sv qM t.qF.length qL] 31,.box b1 (yS s qE qC qO qK) 27] [sF false xe qE qC s.qA,sF false xE qO qK s.qB,sF false xO (aa b11 o12) qQ t.qG,sF false zo xf qY t.qH,sF false xB qM qL t.qF]) ((t.qH.length - (0:Int)).toNat) ⟨_,0,uE5,qf,qx,rfl,N,H⟩ ?_
     clear H N
     rintro m' ρ w19 ⟨xY,c,rfl,i0,i1,rfl,N,H⟩
     refine zcr (sp (Bv (decide ((c:Int) < t.qH.length))) (zjn (zf (cD rfl (fun h20=>?_) (fun h20=>?_)))))
     ·skip
      refine xk (t_n (zf (xg (zcr (sp (yI c) ?_)))))
      obtain ⟨b21,o22,rfl⟩:=H.addr 3 rfl qf
      obtain ⟨ae24,ce24,Fe24,H⟩:=H.jq 3 rfl c c qf qf qf
      refine oI rfl rfl (oL rfl (H.x9 1 rfl 0 rfl) (sps [yI c,Sv ae24 ((t.qH[c]!).length) ce24] (zjc (oF rfl (oL rfl (H.cell 1 rfl rfl) (sp (Sv ae24 ((t.qH[c]!).length) ce24) (sw (oq (VZ _ s.xh (t.qH[c]!) (H.get 0 rfl).1) H fun w25 H=>sps [Bv (!(dec (vS s.xh (t.qH[c]!)))),Bv (!(dec (vS s.xh (t.qH[c]!))))] ?_))))))))
      cases h27:(!(dec (vS s.xh (t.qH[c]!))))
      ·skip
       replace h27:=xG h27
       replace h27:=Qq h27
       refine qR 56 rfl rfl (oF rfl (qR 56 rfl rfl (oL rfl (H.cell 0 rfl rfl) (qR 56 rfl rfl (sp (yI c) (qR 56 rfl rfl (oI rfl rfl (qR 56 rfl rfl (oL rfl (H.Vx 4 rfl c qf qf) (qR 56 rfl rfl (sp (Bv (!(t.qG[c]!))) (qR 56 rfl rfl (sp (Bv (!(t.qG[c]!))) ?_)))))))))))))
       cases h28:(!(t.qG[c]!))
       ·skip
        replace h28:=xG h28
        refine xW [64,65,66] (qR 56 rfl rfl (sps [Bv false,Bv false] (zjn (xK false rfl (fun h=>absurd h qj) (fun _=>xk (b_n (t_n (zg (sw (zL c 1 rfl rfl qf (sp (yI (c+1)) (zi (xq (m' :=(t.qH.length - ((c+1):Int)).toNat) qf ⟨_,c+1,uE5,?_,?_,rfl,N,H.pick [0,1] [2,3,4,5,6]⟩)))))))))))))
        · omega
        · exact i1.succ ‹_› (fun hk=>by first | omega | simp_all)
       replace h28:=xM h28
       refine qR 63 rfl rfl (sp (Sv ae24 ((t.qH[c]!).length) ce24) (qR 63 rfl rfl (sw (oq (X6 _ (t.qH[c]!) (H.get 0 rfl).1 (by first | assumption | exact vz ql | exact Qa ql)) H fun w29 H=>qR 63 rfl rfl (sp (Bv (decide ((Xh (t.qH[c]!):Int) > 0))) (qR 56 rfl rfl (sps [Bv (decide ((Xh (t.qH[c]!):Int) > 0)),Bv (decide ((Xh (t.qH[c]!):Int) > 0))] (zjn (cD rfl (fun h31=>?_) (fun h31=>?_))))))))))
       ·skip
        refine zcr (sp (Bv false) (zjr (zr5 (ret1 (Bv false) rfl rfl ⟨_,rfl,?_,H.base⟩))))
        rw [xy (fun h=>by obtain ⟨h0,h1,h2,h3,h4,h5⟩:=h;first | contradiction | omega | (simp_all;done) | (obtain ⟨q1,q2⟩:=h5 c qf;first | contradiction | (have:=q2 ql;omega)))]
       refine xk (b_n (t_n (zg (sw (zL c 1 rfl rfl qf (sp (yI (c+1)) (zi (xq (m' :=(t.qH.length - ((c+1):Int)).toNat) qf ⟨_,c+1,uE5,?_,?_,rfl,N,H.pick [0,1] [2,3,4,5,6]⟩))))))))
       · omega
       · exact i1.succ ‹_› (fun hk=>by first | omega | simp_all)
      replace h27:=xM h27
      replace h27:=ve h27
      refine xW [57,58,59,60,61,62,63,64,65,66,67] (sp (Bv true) (zjn (xK true rfl (fun _=>zcr (sp (Bv false) (zjr (zr5 (ret1 (Bv false) rfl rfl ⟨_,rfl,?_,H.base⟩))))) (fun h=>absurd h qj))))
      rw [xy (fun h=>by obtain ⟨h0,h1,h2,h3,h4,h5⟩:=h;first | contradiction | omega | (simp_all;done) | (obtain ⟨q1,q2⟩:=h5 c qf;first | contradiction | (have:=q2 ql;omega)))]
     refine zx4 (zcr (sp (Bv true) (zjr (ret1 (Bv true) rfl rfl ⟨_,rfl,?_,H.base⟩))))
     rw [yh ⟨by assumption,by omega,by omega,by first | assumption | simp_all,by assumption,(show t.qH.length=c by omega)▸i1⟩]
    replace h14:=xM h14
    refine xW [36,37,38,39,40,41] (sp (Bv true) (zjn (xK true rfl (fun _=>zcr (sp (Bv false) (zjr (t_r (ret1 (Bv false) rfl rfl ⟨_,rfl,?_,H.base⟩))))) (fun h=>absurd h qj))))
    rw [xy (fun h=>by obtain ⟨h0,h1,h2,h3,h4,h5⟩:=h;first | contradiction | omega | (simp_all;done) | (obtain ⟨q1,q2⟩:=h5 c qf;first | contradiction | (have:=q2 ql;omega)))]
   replace h10:=bne_iff_ne.1 h10
   refine xW [29,30,31,32,33] (sps [Bv true,Bv true] (xW [36,37,38,39,40,41] (sp (Bv true) (zjn (xK true rfl (fun _=>zcr (sp (Bv false) (zjr (t_r (ret1 (Bv false) rfl rfl ⟨_,rfl,?_,H.base⟩))))) (fun h=>absurd h qj))))))
   rw [xy (fun h=>by obtain ⟨h0,h1,h2,h3,h4,h5⟩:=h;first | contradiction | omega | (simp_all;done) | (obtain ⟨q1,q2⟩:=h5 c qf;first | contradiction | (have:=q2 ql;omega)))]
  replace h9:=bne_iff_ne.1 h9
  refine xW [20,21,22,23,24,25,26] (sps [Bv true,Bv true] (xW [29,30,31,32,33] (sps [Bv true,Bv true] (xW [36,37,38,39,40,41] (sp (Bv true) (zjn (xK true rfl (fun _=>zcr (sp (Bv false) (zjr (t_r (ret1 (Bv false) rfl rfl ⟨_,rfl,?_,H.base⟩))))) (fun h=>absurd h qj))))))))
  rw [xy (fun h=>by obtain ⟨h0,h1,h2,h3,h4,h5⟩:=h;first | contradiction | omega | (simp_all;done) | (obtain ⟨q1,q2⟩:=h5 c qf;first | contradiction | (have:=q2 ql;omega)))]
 replace h8:=xM h8
 replace h8:=ve h8
 refine xW [11,12,13,14,15,16,17] (sps [Bv true,Bv true] (xW [20,21,22,23,24,25,26] (sps [Bv true,Bv true] (xW [29,30,31,32,33] (sps [Bv true,Bv true] (xW [36,37,38,39,40,41] (sp (Bv true) (zjn (xK true rfl (fun _=>zcr (sp (Bv false) (zjr (t_r (ret1 (Bv false) rfl rfl ⟨_,rfl,?_,H.base⟩))))) (fun h=>absurd h qj))))))))))
 rw [xy (fun h=>by obtain ⟨h0,h1,h2,h3,h4,h5⟩:=h;first | contradiction | omega | (simp_all;done) | (obtain ⟨q1,q2⟩:=h5 c qf;first | contradiction | (have:=q2 ql;omega)))]

theorem parentNow_ok (w:World) (s:qI) (t:qP) (c:Int) {qE:yOA} {xe:yLN} {qO:yOA} {xE:yLN} {qU:yOA} {xO:yLN} {xf:yOA} {zo:yLN} {qM:yOA} {xB:yLN} (qZ:qX.rep w xe [Sv qE s.qA.length qC] s.qA) (xC:qX.rep w xE [Sv qO s.qB.length qK] s.qB) (xQ:qX.rep w xO [Sv qU t.qG.length qQ] t.qG) (zA:qX.rep w zo [Sv xf t.qH.length qY] t.qH) (xH:qX.rep w xB [Sv qM t.qF.length qL] t.qF) (p0:yg s) (p1:CellIn s c) (p2:t.qG.length=s.qA.length):Calls Tryz.prog 65 #[.agg #[yI s.xh,Sv qE s.qA.length qC,Sv qO s.qB.length qK],.agg #[Sv qU t.qG.length qQ,Sv xf t.qH.length qY,Sv qM t.qF.length qL],yI c] w (Ret (fun v w' =>v=yI (xm s t c)) w):=by
 refine en func65 ntmps65 ?_
 have H:=(((((St.start w).arg xH).arg zA).arg xQ).arg xC).arg qZ
 have zX:=qV qZ
 have jo:=qV xC
 have yC:=qV xQ
 have Qm:=qV zA
 have jH:=qV xH
 clear qZ xC xQ zA xH
 have N:=Fresh.nil w.heap.size
 have p3:=p0.step p1.1 p1.2
 refine zcr (sw (zW H (yS s qE qC qO qK) fun b1 w2 H=>sw (zW H (yT t qU qQ xf qY qM qL) fun b3 w4 H=>sp (yI 0) (zjc (oF rfl (oL rfl (H.cell 1 rfl rfl) (sp (yI c) ?_)))))))
 obtain ⟨b5,o6,rfl⟩:=H.addr 0 rfl qf
 refine oI rfl rfl (oL rfl (H.yF 0 rfl c qf qf) (sp (yI (s.qA[c.toNat]!)) (zjn (zf (xg ?_)))))
 refine zJ (fun m' ρ w8=>∃ (xY:Env) (p:Int) (n:Nat),ρ=upd (upd (upd xY 3 (pp b1 0)) 4 (pp b3 0)) 7 (yI p)∧(-1≤p∧p≤(s.qA.length:Int) - 1)∧(p < n)∧(xm s t c=climb s.qA t.qG n p)∧m' =(p+1).toNat∧Fresh w.heap.size []∧St w w8 [.box b3 (yT t qU qQ xf qY qM qL) 31,.box b1 [yI s.xh,Sv (aa b5 o6) s.qA.length qC,Sv qO s.qB.length qK] 27] [sF false xe (aa b5 o6) qC s.qA,sF false xE qO qK s.qB,sF false xO qU qQ t.qG,sF false zo xf qY t.qH,sF false xB qM qL t.qF]) (((s.qA[c.toNat]!)+1).toNat) ⟨_,s.qA[c.toNat]!,s.qA.length,uE3,qf,qf,(by rfl),rfl,N,H⟩ ?_
 clear H N
 rintro m' ρ w9 ⟨xY,p,n,rfl,i0,i1,i2,rfl,N,H⟩
 have up:=fun h=>p0.step (c:=p) h i0.2
 refine zcc (sps [yI p,Bv (decide ((p:Int)≥0)),Bv (decide ((p:Int)≥0))] ?_)
 cases h10:(decide ((p:Int)≥0))
 ·skip
  replace h10:=of_decide_eq_false h10
  refine xW [16,17,18,19,20,21] (sp (Bv false) (zjn (xK false rfl (fun h=>absurd h qj) (fun _=>zx4 (zcr (sps [yI p,yI p] (zjr (ret1 (yI p) rfl rfl ⟨_,rfl,?_,H.base⟩))))))))
  rw [i2,climb_end (by first | omega | simp_all)]
 replace h10:=of_decide_eq_true h10
 refine qR 15 rfl rfl (oF rfl (qR 15 rfl rfl (oL rfl (H.cell 0 rfl rfl) (qR 15 rfl rfl (sp (yI p) (qR 15 rfl rfl ?_))))))
 obtain ⟨b11,o12,rfl⟩:=H.addr 2 rfl qf
 refine oI rfl rfl (qR 15 rfl rfl (oL rfl (H.Vx 2 rfl p qf qf) (qR 15 rfl rfl (sps [Bv (!(t.qG[p.toNat]!)),Bv (!(t.qG[p.toNat]!))] (zjn (xK (!(t.qG[p.toNat]!)) rfl (fun h14=>?_) (fun h14=>?_)))))))
 ·skip
  replace h14:=xM h14
  refine xk (t_n (xg (zg (oF rfl (oL rfl (H.cell 1 rfl rfl) (sp (yI p) (oI rfl rfl (oL rfl (H.yF 0 rfl p qf qf) (sp (yI (s.qA[p.toNat]!)) (zi (b_n ?_)))))))))))
  have up1:=up qf
  refine xq (m' :=((s.qA[p.toNat]!)+1).toNat) qf ⟨_,s.qA[p.toNat]!,n - 1,uE3,?_,?_,?_,rfl,N,H⟩
  · omega
  · omega
  · exact i2.trans (climb_go qf qf ‹_›)
 replace h14:=xG h14
 refine zx4 (zcr (sps [yI p,yI p] (zjr (ret1 (yI p) rfl rfl ⟨_,rfl,?_,H.base⟩))))
 rw [i2,climb_end (by first | omega | simp_all)]

theorem copied_ok (w:World) (t:qP) {qU:yOA} {xO:yLN} {xf:yOA} {zo:yLN} {qM:yOA} {xB:yLN} (xQ:qX.rep w xO [Sv qU t.qG.length qQ] t.qG) (zA:qX.rep w zo [Sv xf t.qH.length qY] t.qH) (xH:qX.rep w xB [Sv qM t.qF.length qL] t.qF) (p0:t.qG.length≤1000000) (p1:t.qF.length≤1000000) (p2:t.qH.length≤1000000) (p3:∀ j,j < t.qH.length→(t.qH[j]!).length≤1000000):Calls Tryz.prog 49 #[.agg #[Sv qU t.qG.length qQ,Sv xf t.qH.length qY,Sv qM t.qF.length qL]] w (Ret (fun v w' =>∃ (raAlive:yOA) (rnAlive:Nat) (rcAlive:Nat) (raBags:yOA) (rnBags:Nat) (rcBags:Nat) (rxBags:List Value) (rFBags:yLN) (raAround:yOA) (rnAround:Nat) (rcAround:Nat),v=.agg #[Sv raAlive rnAlive rcAlive,Sv raBags rnBags rcBags,Sv raAround rnAround rcAround]∧Fresh w.heap.size [rFBags]∧St w w' [rr raAlive rnAlive rcAlive 4 1 (t.qG.map (Value.bool)),rr raBags rnBags rcBags 24 1 rxBags,rr raAround rnAround rcAround 2 1 (t.qF.map (Value.int .i64))] [xN true rFBags rxBags t.qH]) w):=by
 refine en func49 ntmps49 ?_
 have H:=(((St.start w).arg xH).arg zA).arg xQ
 have yC:=qV xQ
 have Qm:=qV zA
 have jH:=qV xH
 clear xQ zA xH
 have N:=Fresh.nil w.heap.size
 refine zcr (sw (zW H (yT t qU qQ xf qY qM qL) fun b1 w2 H=>sw (xZ H ti31 [yN,yN,yN] fun b3 w4 H=>zjn (zf ?_))))
 refine c_cut (fun ρ w10=>∃ (xY:Env) (b5:Nat) (ra6:yOA) (rc7:Nat) (a8:yOA) (c9:Nat),ρ=upd (upd (upd xY 1 (pp b1 0)) 2 (pp b3 0)) 3 (pp b5 0)∧Fresh w.heap.size []∧St w w10 [.box b5 [Sv ra6 t.qG.length rc7,yN,Sv a8 t.qF.length c9] 31,rr a8 t.qF.length c9 2 1 (t.qF.map (Value.int .i64)),rr ra6 t.qG.length rc7 4 1 (t.qG.map (Value.bool)),.box b3 [yN,yN,yN] 31,.box b1 (yT t qU qQ xf qY qM qL) 31] [sF false xO qU qQ t.qG,sF false zo xf qY t.qH,sF false xB qM qL t.qF]) ?_ ?_
 ·skip
  refine yl rfl H fun H=>tF 0 rfl rfl H ?_
  refine tL 1 rfl rfl (fun _ h=>h.cell 1 rfl rfl) H ?_
  refine tF 3 rfl rfl H ?_
  refine tL 4 rfl rfl (fun _ h=>h.cell 1 rfl rfl) H ?_
  refine jb [2,7] qh qm (jQ rfl ?_ (jQ rfl ?_ jd))
  ·skip
   have sz15:=H.base.size
   refine oc (cloneB_ok _ t.qG (H.get 0 rfl).1 qg) ?_
   rintro _ w13 ⟨ra12,rn12,rc12,rfl,M,K⟩ _
   replace H:=H.merge K M
   obtain rfl:=H.rowNB 0 rfl
   refine ⟨H.pick [1,2] [0,1,2],(jb [5,7] qh qm (jQ rfl ?_ (jQ rfl ?_ jd)))⟩
   ·skip
    have sz18:=H.base.size
    refine oc (cloneI_ok _ t.qF (H.get 2 rfl).1 qg) ?_
    rintro v23 w21 r23 x22
    replace H:=H.zB x22 r23
    obtain ⟨a24,c25,rfl,hc26,hm27⟩:=H.jG 0 rfl
    refine ⟨H.pick [2,3] [0,1,2],(jb [6,7] qh qm (jQ rfl ?_ (jQ rfl ?_ jd)))⟩
    ·skip
     refine vX [Sv ra12 t.qG.length rc12,yN,Sv a24 t.qF.length c25] [(0,Sv ra12 t.qG.length rc12),(2,Sv a24 t.qF.length c25)] (⟨H.pick [2,3] [0,1,2],(ro 7 rfl (xZ H ti31 [yN,yN,yN] fun b28 w29 H=>⟨H.pick [3,4] [0,1,2],(ro 8 rfl (zu H 0 [Sv ra12 t.qG.length rc12,yN,Sv a24 t.qF.length c25] sizeOf31 fun w30 H=>⟨H.pick [3,4] [0,1,2],(xJ qh ((meet ⟨_,b28,ra12,rc12,a24,c25,uE3,N,H⟩)))⟩))⟩))⟩)
    refine xZ H ti31 [yN,yN,yN] fun b31 w32 H=>⟨H.pick [3,4] [0,1,2],(ro 6 rfl (vX [Sv ra12 t.qG.length rc12,yN,Sv a24 t.qF.length c25] [(0,Sv ra12 t.qG.length rc12),(2,Sv a24 t.qF.length c25)] (⟨H.pick [3,4] [0,1,2],(ro 8 rfl (zu H 0 [Sv ra12 t.qG.length rc12,yN,Sv a24 t.qF.length c25] sizeOf31 fun w33 H=>⟨H.pick [3,4] [0,1,2],(xJ qh ((meet ⟨_,b31,ra12,rc12,a24,c25,uE3,N,H⟩)))⟩))⟩)))⟩
   refine xZ H ti31 [yN,yN,yN] fun b34 w35 H=>⟨H.pick [2,3] [0,1,2],(ro 5 rfl ?_)⟩
   have sz36:=H.base.size
   refine oc (cloneI_ok _ t.qF (H.get 2 rfl).1 qg) ?_
   rintro v41 w39 r41 x40
   replace H:=H.zB x40 r41
   obtain ⟨a42,c43,rfl,hc44,hm45⟩:=H.jG 0 rfl
   refine ⟨H.pick [3,4] [0,1,2],(ro 6 rfl (vX [Sv ra12 t.qG.length rc12,yN,Sv a42 t.qF.length c43] [(0,Sv ra12 t.qG.length rc12),(2,Sv a42 t.qF.length c43)] (⟨H.pick [3,4] [0,1,2],(ro 8 rfl (zu H 1 [Sv ra12 t.qG.length rc12,yN,Sv a42 t.qF.length c43] sizeOf31 fun w46 H=>⟨H.pick [3,4] [0,1,2],(xJ qh ((meet ⟨_,b34,ra12,rc12,a42,c43,uE3,N,H.pick [1,0,2,3,4] [0,1,2]⟩)))⟩))⟩)))⟩
  refine xZ H ti31 [yN,yN,yN] fun b47 w48 H=>⟨H.pick [1,2] [0,1,2],(ro 2 rfl ?_)⟩
  have sz52:=H.base.size
  refine oc (cloneB_ok _ t.qG (H.get 0 rfl).1 qg) ?_
  rintro _ w50 ⟨ra49,rn49,rc49,rfl,M,K⟩ _
  replace H:=H.merge K M
  obtain rfl:=H.rowNB 0 rfl
  refine ⟨H.pick [2,3] [0,1,2],(ro 5 rfl ?_)⟩
  have sz55:=H.base.size
  refine oc (cloneI_ok _ t.qF (H.get 2 rfl).1 qg) ?_
  rintro v60 w58 r60 x59
  replace H:=H.zB x59 r60
  obtain ⟨a61,c62,rfl,hc63,hm64⟩:=H.jG 0 rfl
  refine ⟨H.pick [3,4] [0,1,2],(ro 6 rfl (vX [Sv ra49 t.qG.length rc49,yN,Sv a61 t.qF.length c62] [(0,Sv ra49 t.qG.length rc49),(2,Sv a61 t.qF.length c62)] (⟨H.pick [3,4] [0,1,2],(ro 8 rfl (zu H 2 [Sv ra49 t.qG.length rc49,yN,Sv a61 t.qF.length c62] sizeOf31 fun w65 H=>⟨H.pick [3,4] [0,1,2],(xJ qh ((meet ⟨_,b47,ra49,rc49,a61,c62,uE3,N,H.pick [2,0,1,3,4] [0,1,2]⟩)))⟩))⟩)))⟩
 clear H N
 rintro ρ w66 ⟨xY,b5,ra6,rc7,a8,c9,rfl,N,H⟩
 refine t_n (zcc (oF rfl (oL rfl (H.cell 4 rfl rfl) (oN rfl (sp (yI 0) (zjn (xg ?_)))))))
 replace H:=H.nilRow 24 1
 replace H:=H.vT (α:=yLI)
 refine zJ (fun m' ρ w67=>∃ (xY:Env) (k:Nat) (yO:yOA) (vW:Nat) (yM:Nat) (out_Bags:yLL) (vg:List Value) (zq:yLN),ρ=upd (upd (upd (upd (upd xY 2 (pp b3 0)) 3 (pp b5 0)) 14 (Sv xf t.qH.length qY)) 15 (yI t.qH.length)) 16 (yI k)∧out_Bags=t.qH.take k∧((k:Int)≤t.qH.length)∧m' =(t.qH.length - (k:Int)).toNat∧Fresh w.heap.size [zq]∧St w w67 [rr yO vW yM 24 1 vg,.box b5 [Sv ra6 t.qG.length rc7,Sv yO vW yM,Sv a8 t.qF.length c9] 31,rr a8 t.qF.length c9 2 1 (t.qF.map (Value.int .i64)),rr ra6 t.qG.length rc7 4 1 (t.qG.map (Value.bool)),.box b3 [yN,yN,yN] 31,.box b1 (yT t qU qQ xf qY qM qL) 31] [xN true zq vg out_Bags,sF false xO qU qQ t.qG,sF false zo xf qY t.qH,sF false xB qM qL t.qF]) ((t.qH.length - (0:Int)).toNat) ⟨_,0,none,0,0,([]:yLL),[],[],uE5,(by rfl),qf,rfl,N.emp,H⟩ ?_
 clear H N
 rintro m' ρ w68 ⟨xY,k,yO,vW,yM,out_Bags,vg,zq,rfl,rfl,i0,rfl,N,H⟩
 have V7:=H.x8 (α:=yLI) 0 rfl 0 rfl qj
 have p4:=p3 k
 rw [List.length_take_of_le qf] at V7
 refine zcr (sp (Bv (decide ((k:Int) < t.qH.length))) (zjn (zf (cD rfl (fun h69=>?_) (fun h69=>?_)))))
 ·skip
  refine xk (t_n (zf (xg (zcr ?_))))
  obtain ⟨b70,o71,rfl⟩:=H.addr 2 rfl qf
  obtain ⟨ae73,ce73,Fe73,H⟩:=H.jq 2 rfl k k qf qf qf
  refine oI rfl rfl (oL rfl (H.x9 1 rfl 0 rfl) (sp (Sv ae73 ((t.qH[k]!).length) ce73) (zjn ?_)))
  refine c_cut (fun ρ w79=>∃ (xY:Env) (a74:yOA) (c75:Nat) (a76:yOA) (c77:Nat) (G78:yLN),ρ=upd (upd (upd (upd (upd xY 2 (pp b3 0)) 3 (pp b5 0)) 14 (Sv (aa b70 o71) t.qH.length qY)) 15 (yI t.qH.length)) 16 (yI k)∧Fresh w.heap.size [(zq++G78)]∧St w w79 [rr a74 (vW+1) c75 24 1 (vg++[Sv a76 ((t.qH[k]!).length) c77]),.box b5 [Sv ra6 t.qG.length rc7,Sv a74 (vW+1) c75,Sv a8 t.qF.length c9] 31,rr a8 t.qF.length c9 2 1 (t.qF.map (Value.int .i64)),rr ra6 t.qG.length rc7 4 1 (t.qG.map (Value.bool)),.box b3 [yN,yN,yN] 31,.box b1 [Sv qU t.qG.length qQ,Sv (aa b70 o71) t.qH.length qY,Sv qM t.qF.length qL] 31] [xN true (zq++G78) (vg++[Sv a76 ((t.qH[k]!).length) c77]) ((t.qH.take k)++[(t.qH[k]!)]),sF true G78 a76 c77 (t.qH[k]!),sF false Fe73 ae73 ce73 (t.qH[k]!),atF b70 (o71+(k:Int).toNat * 1) [Sv ae73 ((t.qH[k]!).length) ce73],sF false xO qU qQ t.qG,sF false zo (aa b70 o71) qY t.qH,sF false xB qM qL t.qF]) ?_ ?_
  ·skip
   refine yR rfl H [2,3,4,5] fun H=>?_
   have S:=H.yj [2,3,4,5] [0,1,2,3,4,5]
   refine tF 0 rfl rfl S ?_
   refine rtp 2 (Sv ae73 ((t.qH[k]!).length) ce73) S ?_
   refine jb [1,3] qh qm (jQ rfl ?_ (jQ rfl ?_ jd))
   ·skip
    refine zF (Sv yO vW yM) isAgg29 rfl (H.cell 1 rfl rfl) (⟨H.pick [2,3,4,5] [0,1,2,3,4,5],(ro 3 rfl ?_)⟩)
    have sz81:=H.base.size
    have lt82:=H.ltN (L:=[zq]) [2]
    refine oc (cloneI_ok _ (t.qH[k]!) (H.get 0 rfl).1 qg) ?_
    rintro v86 w84 r86 x85
    replace H:=H.zB x85 r86
    obtain ⟨a87,c88,rfl,hc89,hm90⟩:=H.jG 0 rfl
    refine ⟨H.pick [3,4,5,6] [0,1,2,3,4,5],(ro 4 rfl (zy H underlying29 ti24 [Sv a87 ((t.qH[k]!).length) c88] fun b91 w92 H=>⟨H.pick [4,5,6,7] [0,1,2,3,4,5],(ro 5 rfl ?_)⟩))⟩
    obtain ⟨G96,N,hn97,H⟩:=H.zT 1 rfl N (H.jR [2])
    refine zC H 2 rfl 0 rfl underlying29 ti24 rfl qj rfl rfl rfl qw qp qf fun a93 c94 w95 H=>?_
    replace H:=H.yt 3 rfl 0 rfl
    replace N:Fresh w.heap.size [(zq++G96)]:=(N.pick [1,0]).join
    refine ⟨H.pick [4,5,6,7] [2,3,4,5,6,7],(tF 6 rfl rfl (H.pick [4,5,6,7] [2,3,4,5,6,7]) ?_)⟩
    refine ro 7 rfl (zh H 3 [Sv ra6 t.qG.length rc7,Sv a93 (vW+1) c94,Sv a8 t.qF.length c9] sizeOf29 fun w98 H=>⟨H.pick [4,5,6,7] [2,3,4,5,6,7],(xJ qh ((meet ⟨_,a93,c94,a87,c88,G96,uE5,N,H.pick [2,3,4,5,6,7] [0,1,2,3,5,6,7]⟩)))⟩)
   have sz99:=H.base.size
   have lt100:=H.ltN (L:=[zq]) [2]
   refine oc (cloneI_ok _ (t.qH[k]!) (H.get 0 rfl).1 qg) ?_
   rintro v104 w102 r104 x103
   replace H:=H.zB x103 r104
   obtain ⟨a105,c106,rfl,hc107,hm108⟩:=H.jG 0 rfl
   refine ⟨H.pick [3,4,5,6] [0,1,2,3,4,5],(jb [1,4] qh qm (jQ rfl ?_ (jQ rfl ?_ jd)))⟩
   ·skip
    refine zF (Sv yO vW yM) isAgg29 rfl (H.cell 2 rfl rfl) (⟨H.pick [3,4,5,6] [0,1,2,3,4,5],(ro 4 rfl (zy H underlying29 ti24 [Sv a105 ((t.qH[k]!).length) c106] fun b109 w110 H=>⟨H.pick [4,5,6,7] [0,1,2,3,4,5],(ro 5 rfl ?_)⟩))⟩)
    obtain ⟨G114,N,hn115,H⟩:=H.zT 1 rfl N (H.jR [2])
    refine zC H 2 rfl 0 rfl underlying29 ti24 rfl qj rfl rfl rfl qw qp qf fun a111 c112 w113 H=>?_
    replace H:=H.yt 3 rfl 0 rfl
    replace N:Fresh w.heap.size [(zq++G114)]:=(N.pick [1,0]).join
    refine ⟨H.pick [4,5,6,7] [2,3,4,5,6,7],(tF 6 rfl rfl (H.pick [4,5,6,7] [2,3,4,5,6,7]) ?_)⟩
    refine ro 7 rfl (zh H 3 [Sv ra6 t.qG.length rc7,Sv a111 (vW+1) c112,Sv a8 t.qF.length c9] sizeOf29 fun w116 H=>⟨H.pick [4,5,6,7] [2,3,4,5,6,7],(xJ qh ((meet ⟨_,a111,c112,a105,c106,G114,uE5,N,H.pick [2,3,4,5,6,7] [0,1,2,3,5,6,7]⟩)))⟩)
   refine zy H underlying29 ti24 [Sv a105 ((t.qH[k]!).length) c106] fun b117 w118 H=>⟨H.pick [4,5,6,7] [0,1,2,3,4,5],(ro 1 rfl (zF (Sv yO vW yM) isAgg29 rfl (H.cell 3 rfl rfl) (⟨H.pick [4,5,6,7] [0,1,2,3,4,5],(ro 5 rfl ?_)⟩)))⟩
   obtain ⟨G122,N,hn123,H⟩:=H.zT 1 rfl N (H.jR [2])
   refine zC H 2 rfl 0 rfl underlying29 ti24 rfl qj rfl rfl rfl qw qp qf fun a119 c120 w121 H=>?_
   replace H:=H.yt 3 rfl 0 rfl
   replace N:Fresh w.heap.size [(zq++G122)]:=(N.pick [1,0]).join
   refine ⟨H.pick [4,5,6,7] [2,3,4,5,6,7],(tF 6 rfl rfl (H.pick [4,5,6,7] [2,3,4,5,6,7]) ?_)⟩
   refine ro 7 rfl (zh H 3 [Sv ra6 t.qG.length rc7,Sv a119 (vW+1) c120,Sv a8 t.qF.length c9] sizeOf29 fun w124 H=>⟨H.pick [4,5,6,7] [2,3,4,5,6,7],(xJ qh ((meet ⟨_,a119,c120,a105,c106,G122,uE5,N,H.pick [2,3,4,5,6,7] [0,1,2,3,5,6,7]⟩)))⟩)
  clear H N
  rintro ρ w125 ⟨xY,a74,c75,a76,c77,G78,rfl,N,H⟩
  refine b_n (t_n (zg (sw (zL k 1 rfl rfl qf (sp (yI (k+1)) (zi (xq (m' :=(t.qH.length - ((k+1):Int)).toNat) qf ⟨_,k+1,a74,vW+1,c75,((t.qH.take k)++[(t.qH[k]!)]),vg++[Sv a76 ((t.qH[k]!).length) c77],(zq++G78),uE5,?_,?_,rfl,N,H.pick [0,1,2,3,4,5] [0,4,5,6]⟩)))))))
  · exact take_snoc qf
  · omega
 refine zx4 (zcr (sw (xU [Sv ra6 t.qG.length rc7,Sv yO vW yM,Sv a8 t.qF.length c9] isAgg31 sizeOf31 rfl (qJ (H.cells 1 rfl) 0 3) (sw (zu H 4 [Sv ra6 t.qG.length rc7,Sv yO vW yM,Sv a8 t.qF.length c9] sizeOf31 fun w126 H=>zjr (retC H 4 rfl rfl isAgg31 sizeOf31 rfl ⟨_,rfl,?_,H.base⟩))))))
 obtain rfl:k=t.qH.length:=by omega
 rw [List.take_length] at H
 exact ⟨ra6,t.qG.length,rc7,yO,vW,yM,vg,zq,a8,t.qF.length,c9,rfl,N,H.pick [3,0,2] [0]⟩
theorem l00Max_ok (w:World) (a:Int) (b:Int):Calls Tryz.prog 175 #[yI a,yI b] w (Ret (fun v w' =>v=yI (max a b)) w):=by
 refine en func175 ntmps175 ?_
 have H:=St.start w
 have N:=Fresh.nil w.heap.size
 refine zcr (sp (yI 0) (zjcc (sps [yI a,yI b,Bv (decide ((a:Int) > b))] (zjn (cD rfl (fun h1=>?_) (fun h1=>?_))))))
 ·skip
  refine zcr (sps [yI a,yI a] (zjr (t_r (ret1 (yI a) rfl rfl ⟨_,rfl,(congrArg (Value.int .i64) ?_),H.base⟩))))
  omega
 refine xk (t_n (zcr (sps [yI b,yI b] (zjr (ret1 (yI b) rfl rfl ⟨_,rfl,(congrArg (Value.int .i64) ?_),H.base⟩)))))
 omega

theorem l01Within_ok (w:World) (l:yLI) (m:yLI) {al:yOA} {Fl:yLN} {am:yOA} {Fm:yLN} (hl:qX.rep w Fl [Sv al l.length cl] l) (hm:qX.rep w Fm [Sv am m.length cm] m) (p0:l.length≤m.length):Calls Tryz.prog 136 #[Sv al l.length cl,Sv am m.length cm] w (Ret (fun v w' =>v=Bv (within l m)) w):=by
 refine en func136 ntmps136 ?_
 have H:=((St.start w).arg hm).arg hl
 have nhl:=qV hl
 have nhm:=qV hm
 clear hl hm
 have N:=Fresh.nil w.heap.size
 refine zcr (sp (Bv false) (zjcc (sp (yI 0) (zjn (xg ?_)))))
 refine zJ (fun m' ρ w1=>∃ (xY:Env) (i:Nat),ρ=upd (upd (upd xY 0 (Sv al l.length cl)) 1 (Sv am m.length cm)) 5 (yI i)∧((i:Int)≤l.length)∧(withinTo l m i)∧m' =(l.length - (i:Int)).toNat∧Fresh w.heap.size []∧St w w1 [] [sF false Fl al cl l,sF false Fm am cm m]) ((l.length - (0:Int)).toNat) ⟨_,0,uE3,qf,(by exact withinTo_zero l m),rfl,N,H⟩ ?_
 clear H N
 rintro m' ρ w2 ⟨xY,i,rfl,i0,i1,rfl,N,H⟩
 refine zcc (sps [yI i,Sv al l.length cl] (oN rfl (sp (Bv (decide ((i:Int) < l.length))) (zjn (cD rfl (fun h3=>?_) (fun h3=>?_))))))
 ·skip
  refine xk (t_n (zf (xg (zf ?_))))
  refine yl rfl H fun H=>rtp 0 (Sv al l.length cl) H ?_
  refine rtp 1 (yI i) H ?_
  obtain ⟨b5,o6,rfl⟩:=H.addr 0 rfl qf
  refine tI 2 rfl rfl rfl H ?_
  refine tL 3 rfl rfl (fun _ h=>h.yV 0 rfl i qf) H ?_
  refine rtp 4 (Sv am m.length cm) H ?_
  refine rtp 5 (yI i) H ?_
  obtain ⟨b8,o9,rfl⟩:=H.addr 1 rfl qf
  refine tI 6 rfl rfl rfl H ?_
  refine tL 7 rfl rfl (fun _ h=>h.yV 1 rfl i qf) H ?_
  refine rtp 8 (Bv (decide ((l[i]! :Int) > (m[i]!)))) H ?_
  refine xJ qh (t_n (cD rfl (fun h11=>?_) (fun h11=>?_)))
  ·skip
   refine zcr (sp (Bv false) (zjr (zr5 (ret1 (Bv false) rfl rfl ⟨_,rfl,?_,H.base⟩))))
   rw [within_no (k:=i) ‹_› qf]
  refine xk (b_n (t_n (zg (sp (yI i) (sw (zL i 1 rfl rfl qf (sp (yI (i+1)) (zi (xq (m' :=(l.length - ((i+1):Int)).toNat) qf ⟨_,i+1,uE3,?_,?_,rfl,N,H⟩)))))))))
  · omega
  · exact withinTo_succ ‹_› qf
 refine zx4 (zcr (sp (Bv true) (zjr (ret1 (Bv true) rfl rfl ⟨_,rfl,?_,H.base⟩))))
 rw [within_yes ‹_› qf]

theorem l01Times_ok (w:World) (l:yLI) (m:yLI) {al:yOA} {Fl:yLN} {am:yOA} {Fm:yLN} (hl:qX.rep w Fl [Sv al l.length cl] l) (hm:qX.rep w Fm [Sv am m.length cm] m) (p0:l.length≤m.length) (p2:∀ k,k < l.length→0≤m[k]! ∧m[k]! ≤1000) (p3:∃ j,j < l.length∧0 < l[j]!):Calls Tryz.prog 116 #[Sv al l.length cl,Sv am m.length cm] w (Ret (fun v w' =>v=yI (jF l m)) w):=by
 refine en func116 ntmps116 ?_
 have H:=((St.start w).arg hm).arg hl
 have nhl:=qV hl
 have nhm:=qV hm
 clear hl hm
 have N:=Fresh.nil w.heap.size
 refine zcr (sp (yI 0) (zjc (sp (yI (-1)) (zjcc (sp (yI 0) (zjn (xg ?_)))))))
 refine zJ (fun m' ρ w1=>∃ (xY:Env) (best:Int) (i:Nat),ρ=upd (upd (upd (upd xY 0 (Sv al l.length cl)) 1 (Sv am m.length cm)) 5 (yI best)) 6 (yI i)∧((i:Int)≤l.length)∧(Xw l m i best)∧m' =(l.length - (i:Int)).toNat∧Fresh w.heap.size []∧St w w1 [] [sF false Fl al cl l,sF false Fm am cm m]) ((l.length - (0:Int)).toNat) ⟨_,(-1),0,uE4,qf,(by exact Xw.zero l m),rfl,N,H⟩ ?_
 clear H N
 rintro m' ρ w2 ⟨xY,best,i,rfl,i0,i1,rfl,N,H⟩
 refine zcc (sps [yI i,Sv al l.length cl] (oN rfl (sp (Bv (decide ((i:Int) < l.length))) (zjn (cD rfl (fun h3=>?_) (fun h3=>?_))))))
 ·skip
  refine xk (t_n (zf (xg (zf ?_))))
  refine yl rfl H fun H=>rtp 0 (Sv al l.length cl) H ?_
  refine rtp 1 (yI i) H ?_
  obtain ⟨b5,o6,rfl⟩:=H.addr 0 rfl qf
  refine tI 2 rfl rfl rfl H ?_
  refine tL 3 rfl rfl (fun _ h=>h.yV 0 rfl i qf) H ?_
  refine rtp 4 (Bv (decide ((l[i]! :Int) > 0))) H ?_
  refine rtp 5 (Bv (decide ((l[i]! :Int) > 0))) H ?_
  cases h8:(decide ((l[i]! :Int) > 0))
  ·skip
   replace h8:=of_decide_eq_false h8
   refine zV [6,7,8,9,10,11,12,13,14,15,16,17,18,19,20] 15 (H) (rtp 21 (Bv false) H ?_)
   refine xJ qh (t_n (xK false rfl (fun h=>absurd h qj) (fun _=>xk (b_n (t_n (zg (sp (yI i) (sw (zL i 1 rfl rfl (by (have:=p2 i qf;omega)) (sp (yI (i+1)) (zi (xq (m' :=(l.length - ((i+1):Int)).toNat) qf ⟨_,best,i+1,uE4,?_,?_,rfl,N,H⟩))))))))))))
   · omega
   · first | exact i1.take (p2 i qf) qf qf (Vs (fun k hk=>(p2 k hk).1) i qf).1 | exact i1.keep qf | exact i1.keep2 qf qf qf
  replace h8:=of_decide_eq_true h8
  refine rgp 6 (yI best) 18 H ?_
  refine rgp 7 (Bv (decide ((best:Int) < 0))) 18 H ?_
  refine rgp 8 (Bv (decide ((best:Int) < 0))) 18 H ?_
  cases h9:(decide ((best:Int) < 0))
  ·skip
   replace h9:=of_decide_eq_false h9
   refine rgp 9 (Sv am m.length cm) 21 H ?_
   refine rgp 10 (yI i) 21 H ?_
   obtain ⟨b10,o11,rfl⟩:=H.addr 1 rfl qf
   refine gI 11 rfl rfl rfl H ?_
   refine gL 12 rfl rfl (fun _ h=>h.yF 1 rfl i qf qf) H ?_
   refine rgp 13 (Sv (aa b5 o6) l.length cl) 21 H ?_
   refine rgp 14 (yI i) 21 H ?_
   refine gI 15 rfl rfl rfl H ?_
   refine gL 16 rfl rfl (fun _ h=>h.yF 0 rfl i qf qf) H ?_
   refine rg 17 (yI ((m[i]!) / (l[i]!))) 21 (y_quo (m[i]!) (l[i]!) rfl rfl (by (have:=p2 i qf;omega)) (by (have:=p2 i qf;omega))) H ?_
   refine rgp 18 (yI best) 21 H ?_
   refine rgp 19 (Bv (decide (((m[i]!) / (l[i]!):Int) < best))) 21 H ?_
   refine rgp 20 (Bv (decide (((m[i]!) / (l[i]!):Int) < best))) 18 H ?_
   refine rtp 21 (Bv (decide (((m[i]!) / (l[i]!):Int) < best))) H ?_
   refine xJ qh (t_n (cD rfl (fun h13=>?_) (fun h13=>?_)))
   ·skip
    refine yl rfl H fun H=>rtp 0 (Sv (aa b10 o11) m.length cm) H ?_
    refine rtp 1 (yI i) H ?_
    refine tI 2 rfl rfl rfl H ?_
    refine tL 3 rfl rfl (fun _ h=>h.yV 1 rfl i qf) H ?_
    refine rtp 4 (Sv (aa b5 o6) l.length cl) H ?_
    refine rtp 5 (yI i) H ?_
    refine tI 6 rfl rfl rfl H ?_
    refine tL 7 rfl rfl (fun _ h=>h.yV 0 rfl i qf) H ?_
    refine rt 8 (yI ((m[i]!) / (l[i]!))) (y_quo (m[i]!) (l[i]!) rfl rfl (by (have:=p2 i qf;omega)) (by (have:=p2 i qf;omega))) H ?_
    refine rtp 9 (yI ((m[i]!) / (l[i]!))) H ?_
    refine xJ qh (b_n (t_n (zg (sp (yI i) (sw (zL i 1 rfl rfl (by (have:=p2 i qf;omega)) (sp (yI (i+1)) (zi (xq (m' :=(l.length - ((i+1):Int)).toNat) qf ⟨_,(m[i]!) / (l[i]!),i+1,uE4,?_,?_,rfl,N,H⟩)))))))))
    · omega
    · first | exact i1.take (p2 i qf) qf qf (Vs (fun k hk=>(p2 k hk).1) i qf).1 | exact i1.keep qf | exact i1.keep2 qf qf qf
   refine xk (b_n (t_n (zg (sp (yI i) (sw (zL i 1 rfl rfl (by (have:=p2 i qf;omega)) (sp (yI (i+1)) (zi (xq (m' :=(l.length - ((i+1):Int)).toNat) qf ⟨_,best,i+1,uE4,?_,?_,rfl,N,H⟩)))))))))
   · omega
   · first | exact i1.take (p2 i qf) qf qf (Vs (fun k hk=>(p2 k hk).1) i qf).1 | exact i1.keep qf | exact i1.keep2 qf qf qf
  replace h9:=of_decide_eq_true h9
  refine zV [9,10,11,12,13,14,15,16,17,18,19] 11 (H) (rgp 20 (Bv true) 18 H ?_)
  refine rtp 21 (Bv true) H ?_
  refine xJ qh (t_n (xK true rfl (fun _=>?_) (fun h=>absurd h qj)))
  refine yl rfl H fun H=>rtp 0 (Sv am m.length cm) H ?_
  refine rtp 1 (yI i) H ?_
  obtain ⟨b16,o17,rfl⟩:=H.addr 1 rfl qf
  refine tI 2 rfl rfl rfl H ?_
  refine tL 3 rfl rfl (fun _ h=>h.yV 1 rfl i qf) H ?_
  refine rtp 4 (Sv (aa b5 o6) l.length cl) H ?_
  refine rtp 5 (yI i) H ?_
  refine tI 6 rfl rfl rfl H ?_
  refine tL 7 rfl rfl (fun _ h=>h.yV 0 rfl i qf) H ?_
  refine rt 8 (yI ((m[i]!) / (l[i]!))) (y_quo (m[i]!) (l[i]!) rfl rfl (by (have:=p2 i qf;omega)) (by (have:=p2 i qf;omega))) H ?_
  refine rtp 9 (yI ((m[i]!) / (l[i]!))) H ?_
  refine xJ qh (b_n (t_n (zg (sp (yI i) (sw (zL i 1 rfl rfl (by (have:=p2 i qf;omega)) (sp (yI (i+1)) (zi (xq (m' :=(l.length - ((i+1):Int)).toNat) qf ⟨_,(m[i]!) / (l[i]!),i+1,uE4,?_,?_,rfl,N,H⟩)))))))))
  · omega
  · first | exact i1.take (p2 i qf) qf qf (Vs (fun k hk=>(p2 k hk).1) i qf).1 | exact i1.keep qf | exact i1.keep2 qf qf qf
 refine zx4 (zcr (sps [yI best,yI best] (zjr (ret1 (yI best) rfl rfl ⟨_,rfl,?_,H.base⟩))))
 obtain rfl:i=l.length:=by omega
 rw [i1.done p3];rfl

theorem l03Both_ok (w:World) (s:qI) (t:qP) {qE:yOA} {xe:yLN} {qO:yOA} {xE:yLN} {qU:yOA} {xO:yLN} {xf:yOA} {zo:yLN} {qM:yOA} {xB:yLN} (hs:jk w bs os (yS s qE qC qO qK)) (qZ:qX.rep w xe [Sv qE s.qA.length qC] s.qA) (xC:qX.rep w xE [Sv qO s.qB.length qK] s.qB) (ht:jk w bt ot (yT t qU qQ xf qY qM qL)) (xQ:qX.rep w xO [Sv qU t.qG.length qQ] t.qG) (zA:qX.rep w zo [Sv xf t.qH.length qY] t.qH) (xH:qX.rep w xB [Sv qM t.qF.length qL] t.qF):Calls Tryz.prog 53 #[pp bs os,pp bt ot] w (Ret (fun v w' =>v=Bv (dec (zQ s∧xI s t))) w):=by
 refine en func53 ntmps53 ?_
 have H:=(((((((St.start w).arg xH).arg zA).arg xQ).Vf ht).arg xC).arg qZ).Vf hs
 have zX:=qV qZ
 have jo:=qV xC
 have yC:=qV xQ
 have Qm:=qV zA
 have jH:=qV xH
 clear hs qZ xC ht xQ zA xH
 have N:=Fresh.nil w.heap.size
 refine zcr (sp (Bv false) (zjc (sp (pp bs os) (sw (oq (l02Ok_ok _ s (qJ (H.get 0 rfl) 0 3) (H.get 1 rfl).1 (H.get 2 rfl).1) H fun w1 H=>sp (Bv (dec (zQ s))) ?_)))))
 cases h3:(dec (zQ s))
 ·skip
  replace h3:=ve h3
  refine xW [8,9,10] (sps [Bv false,Bv false] (zjr (ret1 (Bv false) rfl rfl ⟨_,rfl,?_,H.base⟩)))
  rw [xy (fun h=>‹¬ zQ s› h.1)]
 replace h3:=Qq h3
 refine qR 7 rfl rfl (sp (pp bs os) (qR 7 rfl rfl (sp (pp bt ot) (qR 7 rfl rfl (sw (oq (l02State_ok _ s t (qJ (H.get 0 rfl) 0 3) (H.get 1 rfl).1 (H.get 2 rfl).1 (qJ (H.get 3 rfl) 0 3) (H.get 4 rfl).1 (H.get 5 rfl).1 (H.get 6 rfl).1 (by first | assumption | exact (And.left (by assumption:zQ _)))) H fun w4 H=>sps [Bv (dec (xI s t)),Bv (dec (xI s t))] (zjr (ret1 (Bv (dec (xI s t))) rfl rfl ⟨_,rfl,(congrArg Value.bool (dec_eq ?_)),H.base⟩))))))))
 first | exact ⟨fun h=>⟨‹_›,Qq h⟩,fun h=>yh h.2⟩ | (simp_all;done)

theorem l03Enabled_ok (w:World) (s:qI) (t:qP) (r:jL) {qE:yOA} {xe:yLN} {qO:yOA} {xE:yLN} {qU:yOA} {xO:yLN} {xf:yOA} {zo:yLN} {qM:yOA} {xB:yLN} {jW:yOA} {XF:yLN} {jY:yOA} {XI:yLN} {jX:yOA} {XG:yLN} {jO:yOA} {XH:yLN} {Qs:yOA} {FrOut:yLN} {jE:yOA} {VJ:yLN} (hs:jk w bs os (yS s qE qC qO qK)) (qZ:qX.rep w xe [Sv qE s.qA.length qC] s.qA) (xC:qX.rep w xE [Sv qO s.qB.length qK] s.qB) (ht:jk w bt ot (yT t qU qQ xf qY qM qL)) (xQ:qX.rep w xO [Sv qU t.qG.length qQ] t.qG) (zA:qX.rep w zo [Sv xf t.qH.length qY] t.qH) (xH:qX.rep w xB [Sv qM t.qF.length qL] t.qF) (hr:jk w br or [yI r.qN,yI r.vP,Sv jW r.xR.length jT,Sv jY r.zM.length jV,Sv jX r.zK.length jU,Sv jO r.zH.length jM,Sv Qs r.jC.length Qr,Sv jE r.qW.length jD,Bv r.vF]) (hrNeed:qX.rep w XF [Sv jW r.xR.length jT] r.xR) (hrHave:qX.rep w XI [Sv jY r.zM.length jV] r.zM) (hrLack:qX.rep w XG [Sv jX r.zK.length jU] r.zK) (hrHere:qX.rep w XH [Sv jO r.zH.length jM] r.zH) (hrOut:qX.rep w FrOut [Sv Qs r.jC.length Qr] r.jC) (hrInto:qX.rep w VJ [Sv jE r.qW.length jD] r.qW) (p0:zQ s) (p1:xI s t) (p2:RuleOk s r):Calls Tryz.prog 174 #[pp bs os,pp bt ot,pp br or] w (Ret (fun v w' =>v=Bv (dec (EnOk s t r))) w):=by
 refine en func174 ntmps174 ?_
 have H:=((((((((((((((St.start w).arg hrInto).arg hrOut).arg hrHere).arg hrLack).arg hrHave).arg hrNeed).Vf hr).arg xH).arg zA).arg xQ).Vf ht).arg xC).arg qZ).Vf hs
 have zX:=qV qZ
 have jo:=qV xC
 have yC:=qV xQ
 have Qm:=qV zA
 have jH:=qV xH
 have nhrNeed:=qV hrNeed
 have nhrHave:=qV hrHave
 have nhrLack:=qV hrLack
 have nhrHere:=qV hrHere
 have nhrOut:=qV hrOut
 have nhrInto:=qV hrInto
 clear hs qZ xC ht xQ zA xH hr hrNeed hrHave hrLack hrHere hrOut hrInto
 have N:=Fresh.nil w.heap.size
 have p3:=p2.1
 have p4:=p1.1
 have p5:=p1.2.1
 have p6:=(p1.bagLen (k:=r.qN.toNat) qf).len
 have p7:=p2.2.2.2.2.1.len
 have p8:=p2.2.2.2.2.2.1.len
 have p9:=p2.2.2.2.2.2.2.1.len
 have p10:=vz p2.2.2.2.2.2.2.1
 have p11:=p0.1
 have p12:=p2.2.2.2.2.2.2.2.2.2.2
 refine zcr (sp (Bv false) (zjn (zf (zf ?_))))
 refine yl rfl H fun H=>rtp 0 (pp bt ot) H ?_
 refine rtp 1 (pp bt ot) H ?_
 refine tF 2 rfl rfl H ?_
 refine tL 3 rfl rfl (fun _ h=>h.x9 3 rfl 0 rfl) H ?_
 refine rtp 4 (pp br or) H ?_
 refine rtp 5 (pp br or) H ?_
 refine tF 6 rfl rfl H ?_
 refine tL 7 rfl rfl (fun _ h=>h.x9 7 rfl 0 rfl) H ?_
 obtain ⟨b2,o3,rfl⟩:=H.addr 4 rfl qf
 refine tI 8 rfl rfl rfl H ?_
 refine tL 9 rfl rfl (fun _ h=>h.Vx 4 rfl r.qN qf qf) H ?_
 refine rtp 10 (Bv (!(t.qG[r.qN.toNat]!))) H ?_
 refine xJ qh (t_n (xK (!(t.qG[r.qN.toNat]!)) rfl (fun h5=>?_) (fun h5=>?_)))
 ·skip
  replace h5:=xM h5
  refine zcr (sp (Bv false) (zjr (t_r (ret1 (Bv false) rfl rfl ⟨_,rfl,?_,H.base⟩))))
  rw [xy (fun h=>by obtain ⟨h1,h2,h3,h4,h5⟩:=h;first | exact ft h1 ‹_› | exact ft h2 ‹_› | exact ft h3 ‹_› | exact h4 ⟨‹_›,‹_›⟩ | (obtain ⟨q1,q2⟩:=h5 i qf;first | exact ft q1 ‹_› | exact absurd q2 ‹_›))]
 replace h5:=xG h5
 refine xk (t_n (zf ?_))
 refine yl rfl H fun H=>rtp 0 (pp bt ot) H ?_
 refine rtp 1 (pp bt ot) H ?_
 refine tF 2 rfl rfl H ?_
 refine tL 3 rfl rfl (fun _ h=>h.x9 3 rfl 1 rfl) H ?_
 refine rtp 4 (pp br or) H ?_
 refine rtp 5 (pp br or) H ?_
 refine tF 6 rfl rfl H ?_
 refine tL 7 rfl rfl (fun _ h=>h.x9 7 rfl 0 rfl) H ?_
 obtain ⟨b7,o8,rfl⟩:=H.addr 5 rfl qf
 obtain ⟨ae10,ce10,Fe10,H⟩:=H.jq 5 rfl r.qN r.qN.toNat qf qf qf
 refine tI 8 rfl rfl rfl (H.pick [] [2,3,4,5,6,7,8,9,10,11,12,13,14,15]) ?_
 refine ro 9 rfl (zF (Sv ae10 ((t.qH[r.qN.toNat]!).length) ce10) isAgg24 rfl (H.x9 1 rfl 0 rfl) (⟨H.pick [] [2,3,4,5,6,7,8,9,10,11,12,13,14,15],(rtp 10 (Sv ae10 ((t.qH[r.qN.toNat]!).length) ce10) (H.pick [] [2,3,4,5,6,7,8,9,10,11,12,13,14,15]) ?_)⟩))
 refine xJ qh (t_n (zcc (sps [pp br or,pp br or] (oF rfl (oL rfl (H.x9 9 rfl 2 rfl) (sp (Sv ae10 ((t.qH[r.qN.toNat]!).length) ce10) (sw (oq (l01Within_ok _ r.xR (t.qH[r.qN.toNat]!) (H.get 10 rfl).1 (H.get 0 rfl).1 qg) H fun w12 H=>sps [Bv (!(within r.xR (t.qH[r.qN.toNat]!))),Bv (!(within r.xR (t.qH[r.qN.toNat]!)))] ?_))))))))
 cases h14:(!(within r.xR (t.qH[r.qN.toNat]!)))
 ·skip
  replace h14:=xG h14
  refine qR 38 rfl rfl (sp (pp br or) (qR 38 rfl rfl (sp (pp br or) (qR 38 rfl rfl (oF rfl (qR 38 rfl rfl (oL rfl (H.x9 9 rfl 3 rfl) (qR 38 rfl rfl (sp (Sv ae10 ((t.qH[r.qN.toNat]!).length) ce10) (qR 38 rfl rfl (sw (oq (l01Within_ok _ r.zM (t.qH[r.qN.toNat]!) (H.get 11 rfl).1 (H.get 0 rfl).1 qg) H fun w16 H=>qR 38 rfl rfl (sps [Bv (!(within r.zM (t.qH[r.qN.toNat]!))),Bv (!(within r.zM (t.qH[r.qN.toNat]!))),Bv (!(within r.zM (t.qH[r.qN.toNat]!)))] ?_)))))))))))))
  cases h18:(!(within r.zM (t.qH[r.qN.toNat]!)))
  ·skip
   replace h18:=xG h18
   refine qR 47 rfl rfl (sp (pp br or) (qR 47 rfl rfl (sp (pp br or) (qR 47 rfl rfl (oF rfl (qR 47 rfl rfl (oL rfl (H.x9 9 rfl 4 rfl) (qR 47 rfl rfl (sw (oq (X3 _ r.zK (H.get 12 rfl).1 (by first | assumption | exact vz ql | exact Qa ql)) H fun w19 H=>qR 47 rfl rfl (sp (Bv (decide ((Xh r.zK:Int) > 0))) (qR 47 rfl rfl (sp (Bv (decide ((Xh r.zK:Int) > 0))) ?_)))))))))))))
   cases h21:(decide ((Xh r.zK:Int) > 0))
   ·skip
    replace h21:=of_decide_eq_false h21
    refine xW [55,56,57,58,59,60] (qR 47 rfl rfl (sps [Bv false,Bv false] (zjn (xK false rfl (fun h=>absurd h qj) (fun _=>xk (t_n (zcc (sp (yI 0) (zjn (xg ?_))))))))))
    refine zJ (fun m' ρ w22=>∃ (xY:Env) (i:Nat),ρ=upd (upd (upd (upd xY 0 (pp bs os)) 1 (pp bt ot)) 2 (pp br or)) 8 (yI i)∧((i:Int)≤r.qW.length)∧(IntoUp s t r i)∧m' =(r.qW.length - (i:Int)).toNat∧Fresh w.heap.size []∧St w w22 [] [sF false Fe10 ae10 ce10 (t.qH[r.qN.toNat]!),atF b7 (o8+(r.qN:Int).toNat * 1) [Sv ae10 ((t.qH[r.qN.toNat]!).length) ce10],atF bs os (yS s qE qC qO qK),sF false xe qE qC s.qA,sF false xE qO qK s.qB,atF bt ot [Sv (aa b2 o3) t.qG.length qQ,Sv (aa b7 o8) t.qH.length qY,Sv qM t.qF.length qL],sF false xO (aa b2 o3) qQ t.qG,sF false zo (aa b7 o8) qY t.qH,sF false xB qM qL t.qF,atF br or [yI r.qN,yI r.vP,Sv jW r.xR.length jT,Sv jY r.zM.length jV,Sv jX r.zK.length jU,Sv jO r.zH.length jM,Sv Qs r.jC.length Qr,Sv jE r.qW.length jD,Bv r.vF],sF false XF jW jT r.xR,sF false XI jY jV r.zM,sF false XG jX jU r.zK,sF false XH jO jM r.zH,sF false FrOut Qs Qr r.jC,sF false VJ jE jD r.qW]) ((r.qW.length - (0:Int)).toNat) ⟨_,0,uE4,qf,qx,rfl,N,H⟩ ?_
    clear H N
    rintro m' ρ w23 ⟨xY,i,rfl,i0,i1,rfl,N,H⟩
    refine zcc (sps [yI i,pp br or,pp br or] (oF rfl (oL rfl (H.x9 9 rfl 7 rfl) (oN rfl (sp (Bv (decide ((i:Int) < r.qW.length))) (zjn (cD rfl (fun h24=>?_) (fun h24=>?_))))))))
    ·skip
     have q:=(p12 i qf).1
     have q1:=q.1
     have q2:=q.2
     refine xk (t_n (zf (xg (zcr (sps [pp br or,pp br or] (oF rfl (oL rfl (H.x9 9 rfl 7 rfl) (sp (yI i) ?_))))))))
     obtain ⟨b25,o26,rfl⟩:=H.addr 15 rfl qf
     obtain ⟨ae28Bag,ce28Bag,Fe28Bag,H⟩:=H.Qd 15 rfl i i qf qf qf
     refine oI rfl rfl (oF rfl (oL rfl (H.x9 1 rfl 0 rfl) (sp (yI ((r.qW[i]!).qN)) (zjn (zf ?_)))))
     refine yl rfl H fun H=>rtp 0 (pp bt ot) H ?_
     refine rtp 1 (pp bt ot) H ?_
     refine tF 2 rfl rfl H ?_
     refine tL 3 rfl rfl (fun _ h=>h.x9 7 rfl 0 rfl) H ?_
     refine rtp 4 (yI ((r.qW[i]!).qN)) H ?_
     refine tI 5 rfl rfl rfl H ?_
     refine tL 6 rfl rfl (fun _ h=>h.Vx 8 rfl ((r.qW[i]!).qN) qf qf) H ?_
     refine rtp 7 (Bv (!(t.qG[((r.qW[i]!).qN).toNat]!))) H ?_
     refine rtp 8 (Bv (!(t.qG[((r.qW[i]!).qN).toNat]!))) H ?_
     cases h30:(!(t.qG[((r.qW[i]!).qN).toNat]!))
     ·skip
      replace h30:=xG h30
      refine rgp 9 (pp bs os) 88 H ?_
      refine rgp 10 (pp bt ot) 88 H ?_
      refine rgp 11 (yI ((r.qW[i]!).qN)) 88 H ?_
      refine rgp 13 (pp br or) 88 H ?_
      refine rgp 14 (pp br or) 88 H ?_
      refine gF 15 rfl rfl H ?_
      refine gL 16 rfl rfl (fun _ h=>h.x9 11 rfl 0 rfl) H ?_
      refine jb [12] qh qm (Vh rfl (e:=88) rfl rfl (oq (l02Parent_ok _ s t ((r.qW[i]!).qN) (qJ (H.get 4 rfl) 0 3) (H.get 5 rfl).1 (H.get 6 rfl).1 (qJ (H.get 7 rfl) 0 3) (H.get 8 rfl).1 (H.get 9 rfl).1 (H.get 10 rfl).1 ql ql ql) H fun w31 H=>⟨H,(rgp 17 (Bv ((xm s t ((r.qW[i]!).qN):Int) != r.qN)) 88 H ?_)⟩) jd)
      refine rtp 18 (Bv ((xm s t ((r.qW[i]!).qN):Int) != r.qN)) H ?_
      refine xJ qh (t_n (xK ((xm s t ((r.qW[i]!).qN):Int) != r.qN) rfl (fun h33=>?_) (fun h33=>?_)))
      ·skip
       replace h33:=bne_iff_ne.1 h33
       refine zcr (sp (Bv false) (zjr (zr5 (ret1 (Bv false) rfl rfl ⟨_,rfl,?_,H.base⟩))))
       rw [xy (fun h=>by obtain ⟨h1,h2,h3,h4,h5⟩:=h;first | exact ft h1 ‹_› | exact ft h2 ‹_› | exact ft h3 ‹_› | exact h4 ⟨‹_›,‹_›⟩ | (obtain ⟨q1,q2⟩:=h5 i qf;first | exact ft q1 ‹_› | exact absurd q2 ‹_›))]
      replace h33:=xF h33
      refine xk (b_n (t_n (zg (sp (yI i) (sw (zL i 1 rfl rfl qf (sp (yI (i+1)) (zi (xq (m' :=(r.qW.length - ((i+1):Int)).toNat) qf ⟨_,i+1,uE4,?_,?_,rfl,N,H.pick [] [2,3,4,5,6,7,8,9,10,11,12,13,14,15,16,17]⟩)))))))))
      · omega
      · exact i1.succ ‹_› ‹_›
     replace h30:=xM h30
     refine zV [9,10,11,12,13,14,15,16,17] 9 (H) (rtp 18 (Bv true) H ?_)
     refine xJ qh (t_n (xK true rfl (fun _=>zcr (sp (Bv false) (zjr (zr5 (ret1 (Bv false) rfl rfl ⟨_,rfl,?_,H.base⟩))))) (fun h=>absurd h qj)))
     rw [xy (fun h=>by obtain ⟨h1,h2,h3,h4,h5⟩:=h;first | exact ft h1 ‹_› | exact ft h2 ‹_› | exact ft h3 ‹_› | exact h4 ⟨‹_›,‹_›⟩ | (obtain ⟨q1,q2⟩:=h5 i qf;first | exact ft q1 ‹_› | exact absurd q2 ‹_›))]
    refine zx4 (zcr (sp (Bv true) (zjr (ret1 (Bv true) rfl rfl ⟨_,rfl,?_,H.base⟩))))
    rw [yh ⟨by assumption,by assumption,by assumption,fun ⟨u,v⟩=>by first | omega | exact ft v ‹_›,(show i=r.qW.length by omega)▸i1⟩]
   replace h21:=of_decide_eq_true h21
   refine qR 54 rfl rfl (sp (pp br or) (qR 54 rfl rfl (sp (pp br or) (qR 54 rfl rfl (oF rfl (qR 54 rfl rfl (oL rfl (H.x9 9 rfl 4 rfl) (qR 54 rfl rfl (sp (Sv ae10 ((t.qH[r.qN.toNat]!).length) ce10) (qR 54 rfl rfl (sw (oq (l01Within_ok _ r.zK (t.qH[r.qN.toNat]!) (H.get 12 rfl).1 (H.get 0 rfl).1 qg) H fun w35 H=>qR 47 rfl rfl (sps [Bv (within r.zK (t.qH[r.qN.toNat]!)),Bv (within r.zK (t.qH[r.qN.toNat]!))] (zjn (xK (within r.zK (t.qH[r.qN.toNat]!)) rfl (fun h37=>?_) (fun h37=>?_))))))))))))))))
   ·skip
    refine zcr (sp (Bv false) (zjr (t_r (ret1 (Bv false) rfl rfl ⟨_,rfl,?_,H.base⟩))))
    rw [xy (fun h=>by obtain ⟨h1,h2,h3,h4,h5⟩:=h;first | exact ft h1 ‹_› | exact ft h2 ‹_› | exact ft h3 ‹_› | exact h4 ⟨‹_›,‹_›⟩ | (obtain ⟨q1,q2⟩:=h5 i qf;first | exact ft q1 ‹_› | exact absurd q2 ‹_›))]
   refine xk (t_n (zcc (sp (yI 0) (zjn (xg ?_)))))
   refine zJ (fun m' ρ w38=>∃ (xY:Env) (i:Nat),ρ=upd (upd (upd (upd xY 0 (pp bs os)) 1 (pp bt ot)) 2 (pp br or)) 8 (yI i)∧((i:Int)≤r.qW.length)∧(IntoUp s t r i)∧m' =(r.qW.length - (i:Int)).toNat∧Fresh w.heap.size []∧St w w38 [] [sF false Fe10 ae10 ce10 (t.qH[r.qN.toNat]!),atF b7 (o8+(r.qN:Int).toNat * 1) [Sv ae10 ((t.qH[r.qN.toNat]!).length) ce10],atF bs os (yS s qE qC qO qK),sF false xe qE qC s.qA,sF false xE qO qK s.qB,atF bt ot [Sv (aa b2 o3) t.qG.length qQ,Sv (aa b7 o8) t.qH.length qY,Sv qM t.qF.length qL],sF false xO (aa b2 o3) qQ t.qG,sF false zo (aa b7 o8) qY t.qH,sF false xB qM qL t.qF,atF br or [yI r.qN,yI r.vP,Sv jW r.xR.length jT,Sv jY r.zM.length jV,Sv jX r.zK.length jU,Sv jO r.zH.length jM,Sv Qs r.jC.length Qr,Sv jE r.qW.length jD,Bv r.vF],sF false XF jW jT r.xR,sF false XI jY jV r.zM,sF false XG jX jU r.zK,sF false XH jO jM r.zH,sF false FrOut Qs Qr r.jC,sF false VJ jE jD r.qW]) ((r.qW.length - (0:Int)).toNat) ⟨_,0,uE4,qf,qx,rfl,N,H⟩ ?_
   clear H N
   rintro m' ρ w39 ⟨xY,i,rfl,i0,i1,rfl,N,H⟩
   refine zcc (sps [yI i,pp br or,pp br or] (oF rfl (oL rfl (H.x9 9 rfl 7 rfl) (oN rfl (sp (Bv (decide ((i:Int) < r.qW.length))) (zjn (cD rfl (fun h40=>?_) (fun h40=>?_))))))))
   ·skip
    have q:=(p12 i qf).1
    have q1:=q.1
    have q2:=q.2
    refine xk (t_n (zf (xg (zcr (sps [pp br or,pp br or] (oF rfl (oL rfl (H.x9 9 rfl 7 rfl) (sp (yI i) ?_))))))))
    obtain ⟨b41,o42,rfl⟩:=H.addr 15 rfl qf
    obtain ⟨ae44Bag,ce44Bag,Fe44Bag,H⟩:=H.Qd 15 rfl i i qf qf qf
    refine oI rfl rfl (oF rfl (oL rfl (H.x9 1 rfl 0 rfl) (sp (yI ((r.qW[i]!).qN)) (zjn (zf ?_)))))
    refine yl rfl H fun H=>rtp 0 (pp bt ot) H ?_
    refine rtp 1 (pp bt ot) H ?_
    refine tF 2 rfl rfl H ?_
    refine tL 3 rfl rfl (fun _ h=>h.x9 7 rfl 0 rfl) H ?_
    refine rtp 4 (yI ((r.qW[i]!).qN)) H ?_
    refine tI 5 rfl rfl rfl H ?_
    refine tL 6 rfl rfl (fun _ h=>h.Vx 8 rfl ((r.qW[i]!).qN) qf qf) H ?_
    refine rtp 7 (Bv (!(t.qG[((r.qW[i]!).qN).toNat]!))) H ?_
    refine rtp 8 (Bv (!(t.qG[((r.qW[i]!).qN).toNat]!))) H ?_
    cases h46:(!(t.qG[((r.qW[i]!).qN).toNat]!))
    ·skip
     replace h46:=xG h46
     refine rgp 9 (pp bs os) 88 H ?_
     refine rgp 10 (pp bt ot) 88 H ?_
     refine rgp 11 (yI ((r.qW[i]!).qN)) 88 H ?_
     refine rgp 13 (pp br or) 88 H ?_
     refine rgp 14 (pp br or) 88 H ?_
     refine gF 15 rfl rfl H ?_
     refine gL 16 rfl rfl (fun _ h=>h.x9 11 rfl 0 rfl) H ?_
     refine jb [12] qh qm (Vh rfl (e:=88) rfl rfl (oq (l02Parent_ok _ s t ((r.qW[i]!).qN) (qJ (H.get 4 rfl) 0 3) (H.get 5 rfl).1 (H.get 6 rfl).1 (qJ (H.get 7 rfl) 0 3) (H.get 8 rfl).1 (H.get 9 rfl).1 (H.get 10 rfl).1 ql ql ql) H fun w47 H=>⟨H,(rgp 17 (Bv ((xm s t ((r.qW[i]!).qN):Int) != r.qN)) 88 H ?_)⟩) jd)
     refine rtp 18 (Bv ((xm s t ((r.qW[i]!).qN):Int) != r.qN)) H ?_
     refine xJ qh (t_n (xK ((xm s t ((r.qW[i]!).qN):Int) != r.qN) rfl (fun h49=>?_) (fun h49=>?_)))
     ·skip
      replace h49:=bne_iff_ne.1 h49
      refine zcr (sp (Bv false) (zjr (zr5 (ret1 (Bv false) rfl rfl ⟨_,rfl,?_,H.base⟩))))
      rw [xy (fun h=>by obtain ⟨h1,h2,h3,h4,h5⟩:=h;first | exact ft h1 ‹_› | exact ft h2 ‹_› | exact ft h3 ‹_› | exact h4 ⟨‹_›,‹_›⟩ | (obtain ⟨q1,q2⟩:=h5 i qf;first | exact ft q1 ‹_› | exact absurd q2 ‹_›))]
     replace h49:=xF h49
     refine xk (b_n (t_n (zg (sp (yI i) (sw (zL i 1 rfl rfl qf (sp (yI (i+1)) (zi (xq (m' :=(r.qW.length - ((i+1):Int)).toNat) qf ⟨_,i+1,uE4,?_,?_,rfl,N,H.pick [] [2,3,4,5,6,7,8,9,10,11,12,13,14,15,16,17]⟩)))))))))
     · omega
     · exact i1.succ ‹_› ‹_›
    replace h46:=xM h46
    refine zV [9,10,11,12,13,14,15,16,17] 9 (H) (rtp 18 (Bv true) H ?_)
    refine xJ qh (t_n (xK true rfl (fun _=>zcr (sp (Bv false) (zjr (zr5 (ret1 (Bv false) rfl rfl ⟨_,rfl,?_,H.base⟩))))) (fun h=>absurd h qj)))
    rw [xy (fun h=>by obtain ⟨h1,h2,h3,h4,h5⟩:=h;first | exact ft h1 ‹_› | exact ft h2 ‹_› | exact ft h3 ‹_› | exact h4 ⟨‹_›,‹_›⟩ | (obtain ⟨q1,q2⟩:=h5 i qf;first | exact ft q1 ‹_› | exact absurd q2 ‹_›))]
   refine zx4 (zcr (sp (Bv true) (zjr (ret1 (Bv true) rfl rfl ⟨_,rfl,?_,H.base⟩))))
   rw [yh ⟨by assumption,by assumption,by assumption,fun ⟨u,v⟩=>by first | omega | exact ft v ‹_›,(show i=r.qW.length by omega)▸i1⟩]
  replace h18:=xM h18
  refine xW [48,49,50,51,52,53,54,55,56,57,58,59,60,61] (sp (Bv true) (zjn (xK true rfl (fun _=>zcr (sp (Bv false) (zjr (t_r (ret1 (Bv false) rfl rfl ⟨_,rfl,?_,H.base⟩))))) (fun h=>absurd h qj))))
  rw [xy (fun h=>by obtain ⟨h1,h2,h3,h4,h5⟩:=h;first | exact ft h1 ‹_› | exact ft h2 ‹_› | exact ft h3 ‹_› | exact h4 ⟨‹_›,‹_›⟩ | (obtain ⟨q1,q2⟩:=h5 i qf;first | exact ft q1 ‹_› | exact absurd q2 ‹_›))]
 replace h14:=xM h14
 refine xW [39,40,41,42,43,44,45] (sps [Bv true,Bv true] (xW [48,49,50,51,52,53,54,55,56,57,58,59,60,61] (sp (Bv true) (zjn (xK true rfl (fun _=>zcr (sp (Bv false) (zjr (t_r (ret1 (Bv false) rfl rfl ⟨_,rfl,?_,H.base⟩))))) (fun h=>absurd h qj))))))
 rw [xy (fun h=>by obtain ⟨h1,h2,h3,h4,h5⟩:=h;first | exact ft h1 ‹_› | exact ft h2 ‹_› | exact ft h3 ‹_› | exact h4 ⟨‹_›,‹_›⟩ | (obtain ⟨q1,q2⟩:=h5 i qf;first | exact ft q1 ‹_› | exact absurd q2 ‹_›))]

theorem VU (w:World) (s:qI) (t:qP) {qE:yOA} {xe:yLN} {qO:yOA} {xE:yLN} {qU:yOA} {xO:yLN} {xf:yOA} {zo:yLN} {qM:yOA} {xB:yLN} (hs:jk w bs os (yS s qE qC qO qK)) (qZ:qX.rep w xe [Sv qE s.qA.length qC] s.qA) (xC:qX.rep w xE [Sv qO s.qB.length qK] s.qB) (ht:jk w bt ot (yT t qU qQ xf qY qM qL)) (xQ:qX.rep w xO [Sv qU t.qG.length qQ] t.qG) (zA:qX.rep w zo [Sv xf t.qH.length qY] t.qH) (xH:qX.rep w xB [Sv qM t.qF.length qL] t.qF) (p0:zQ s) (p1:xI s t):Calls Tryz.prog 110 #[pp bs os,pp bt ot] w (Ret (fun v w' =>∃ (ra:yOA) (rn:Nat) (rc:Nat),v=Sv ra rn rc∧Fresh w.heap.size []∧St w w' [rr ra rn rc 4 1 ((appl s t).map (Value.bool))] []) w):=by
 refine en func110 ntmps110 ?_
 have H:=(((((((St.start w).arg xH).arg zA).arg xQ).Vf ht).arg xC).arg qZ).Vf hs
 have zX:=qV qZ
 have jo:=qV xC
 have yC:=qV xQ
 have Qm:=qV zA
 have jH:=qV xH
 clear hs qZ xC ht xQ zA xH
 have N:=Fresh.nil w.heap.size
 have p2:=p0.2.1
 have p3:=p0.1.2.1
 refine zcr (sp yN (zjc (sps [pp bs os,pp bs os] (oF rfl (oL rfl (H.x9 0 rfl 1 rfl) (oN rfl (sw (ji H underlying24 ti2 s.qA.length rfl rfl qf qf qf fun b1 w2 H=>sp (Sv (aa b1 0) s.qA.length s.qA.length) (zjc (sw (je H underlying28 ti4 fun b3 w4 H=>sp (Sv (aa b3 0) 0 0) (zjcc (sp (yI 0) (zjn (xg ?_)))))))))))))))
 replace H:=H.boxRowB 0 [] 0
 refine zJ (fun m' ρ w5=>∃ (xY:Env) (vY:yOA) (zG:Nat) (vG:Nat) (out:List Bool) (i:Nat) (best:yLI),ρ=upd (upd (upd (upd (upd xY 0 (pp bs os)) 1 (pp bt ot)) 5 (Sv (aa b1 0) s.qA.length s.qA.length)) 6 (Sv vY zG vG)) 7 (yI i)∧out=applB s t 0 i∧best=bests s t 0 s.qA.length i∧((i:Int)≤s.qB.length)∧m' =(s.qB.length - (i:Int)).toNat∧Fresh w.heap.size []∧St w w5 [rr vY zG vG 4 1 (out.map (Value.bool)),rr (aa b1 0) s.qA.length s.qA.length 2 1 (best.map (Value.int .i64))] [atF bs os (yS s qE qC qO qK),sF false xe qE qC s.qA,sF false xE qO qK s.qB,atF bt ot (yT t qU qQ xf qY qM qL),sF false xO qU qQ t.qG,sF false zo xf qY t.qH,sF false xB qM qL t.qF]) ((s.qB.length - (0:Int)).toNat) ⟨_,(aa b3 0),0,0,([]:List Bool),0,(List.replicate s.qA.length (0:Int)),uE5,(by rfl),(by exact bests_zero s t 0 _),qf,rfl,N,H⟩ ?_
 clear H N
 rintro m' ρ w6 ⟨xY,vY,zG,vG,out,i,best,rfl,rfl,rfl,i0,rfl,N,H⟩
 have hn_out:=H.rowNB 0 rfl
 have hn_best:=H.yx 1 rfl
 have bl:=XY s t 0 s.qA.length i
 have al:=applB_len s t 0 i
 refine zcc (sps [yI i,pp bs os,pp bs os] (oF rfl (oL rfl (H.x9 0 rfl 2 rfl) (oN rfl (sp (Bv (decide ((i:Int) < s.qB.length))) (zjn (cD rfl (fun h7=>?_) (fun h7=>?_))))))))
 ·skip
  have q:=p0.rule (i:=i) qf
  have qc:=q.1
  have qk:=q.cell
  have qr:=q.2.1
  refine xk (t_n (zf (xg (zcr (sps [pp bs os,pp bs os] (oF rfl (oL rfl (H.x9 0 rfl 2 rfl) (sp (yI i) ?_))))))))
  obtain ⟨b8,o9,rfl⟩:=H.addr 2 rfl qf
  obtain ⟨ae11Need,ce11Need,Fe11Need,ae11Have,ce11Have,Fe11Have,ae11Lack,ce11Lack,Fe11Lack,ae11Here,ce11Here,Fe11Here,ae11Out,ce11Out,Fe11Out,ae11Into,ce11Into,Fe11Into,H⟩:=H.yH 2 rfl i i qf qf qf
  refine oI rfl rfl (sp (pp b8 (o9+(i:Int).toNat * 9)) (zjc (sps [pp bs os,pp bt ot,pp b8 (o9+(i:Int).toNat * 9)] (sw (oq (l03Enabled_ok _ s t (s.qB[i]!) (qJ (H.get 7 rfl) 0 3) (H.get 8 rfl).1 (H.get 9 rfl).1 (qJ (H.get 10 rfl) 0 3) (H.get 11 rfl).1 (H.get 12 rfl).1 (H.get 13 rfl).1 (qJ (H.get 6 rfl) 0 9) (H.get 0 rfl).1 (H.get 1 rfl).1 (H.get 2 rfl).1 (H.get 3 rfl).1 (H.get 4 rfl).1 (H.get 5 rfl).1 qg qg qg) H fun w13 H=>?_)))))
  refine sp (Bv (dec (EnOk s t (s.qB[i]!)))) (zjc (sps [Sv vY zG vG,Bv (dec (EnOk s t (s.qB[i]!)))] (sw (zy H underlying28 ti4 [Bv (dec (EnOk s t (s.qB[i]!)))] fun b15 w16 H=>sw (zC H 1 rfl 0 rfl underlying28 ti4 rfl qj rfl rfl rfl qw qp qf fun a17 c18 w19 H=>?_)))))
  rw [snocB] at H
  refine sp (Sv a17 (zG+1) c18) (zjc (sp (Bv (dec (EnOk s t (s.qB[i]!)))) (zjn (cP rfl (fun h20=>?_) (fun h20=>?_)))))
  ·skip
   refine yR rfl H [0,1] fun H=>?_
   have S:=H.yj [0,1] [0,1,2,3,4,5,6,7,8,9,10,11,12,13]
   refine rtp 0 (Sv (aa b1 0) s.qA.length s.qA.length) S ?_
   refine rtp 1 (pp b8 (o9+(i:Int).toNat * 9)) S ?_
   refine rtp 2 (pp b8 (o9+(i:Int).toNat * 9)) S ?_
   refine tF 3 rfl rfl S ?_
   refine tL 4 rfl rfl (fun _ h=>h.x9 6 rfl 0 rfl) S ?_
   refine rtp 5 (Sv (aa b1 0) s.qA.length s.qA.length) S ?_
   refine rtp 6 (pp b8 (o9+(i:Int).toNat * 9)) S ?_
   refine rtp 7 (pp b8 (o9+(i:Int).toNat * 9)) S ?_
   refine tF 8 rfl rfl S ?_
   refine tL 9 rfl rfl (fun _ h=>h.x9 6 rfl 0 rfl) S ?_
   refine tI 10 rfl rfl rfl S ?_
   refine rtp 12 (pp b8 (o9+(i:Int).toNat * 9)) S ?_
   refine rtp 13 (pp b8 (o9+(i:Int).toNat * 9)) S ?_
   refine tF 14 rfl rfl S ?_
   refine tL 15 rfl rfl (fun _ h=>h.x9 6 rfl 1 rfl) S ?_
   refine ro 11 rfl (zF (yI ((bests s t 0 s.qA.length i)[((s.qB[i]!).qN).toNat]!)) isAgg2 rfl (H.rowInt 2 rfl (iv:=(s.qB[i]!).qN) (i:=(((s.qB[i]!).qN).toNat)) qf qf) (⟨H.pick [0,1] [0,1,2,3,4,5,6,7,8,9,10,11,12,13],(ro 16 rfl (oq (l00Max_ok w19.drew ((bests s t 0 s.qA.length i)[((s.qB[i]!).qN).toNat]!) ((s.qB[i]!).vP)) H fun w23 H=>⟨H.pick [0,1] [0,1,2,3,4,5,6,7,8,9,10,11,12,13],(tI 17 rfl rfl rfl (H.pick [0,1] [0,1,2,3,4,5,6,7,8,9,10,11,12,13]) ?_)⟩))⟩))
   refine ro 18 rfl (X0 H 2 rfl (max ((bests s t 0 s.qA.length i)[((s.qB[i]!).qN).toNat]!) ((s.qB[i]!).vP)) sizeOf2 rfl rfl (i:=(((s.qB[i]!).qN).toNat)) qf qf fun w25 H=>⟨H.pick [0,1] [0,1,2,3,4,5,6,7,8,9,10,11,12,13],(xJ qh (b_n (t_n (zg (sp (yI i) (sw (zL i 1 rfl rfl qf (sp (yI (i+1)) (zi ?_)))))))))⟩)
   refine xq (m' :=(s.qB.length - ((i+1):Int)).toNat) qf ⟨_,a17,zG+1,c18,((applB s t 0 i)++[dec (EnOk s t (s.qB[i]!))]),i+1,((bests s t 0 s.qA.length i).set (((s.qB[i]!).qN).toNat) (max ((bests s t 0 s.qA.length i)[((s.qB[i]!).qN).toNat]!) ((s.qB[i]!).vP))),uE5,?_,?_,?_,rfl,N,H.pick [1,2] [7,8,9,10,11,12,13]⟩
   · exact applB_snoc s t i
   · first | exact bests_set ‹_› qf | exact bests_skip ‹_›
   · omega
  refine xk (b_n (t_n (zg (sp (yI i) (sw (zL i 1 rfl rfl qf (sp (yI (i+1)) (zi (xq (m' :=(s.qB.length - ((i+1):Int)).toNat) qf ⟨_,a17,zG+1,c18,((applB s t 0 i)++[dec (EnOk s t (s.qB[i]!))]),i+1,(bests s t 0 s.qA.length i),uE5,?_,?_,?_,rfl,N,H.pick [1,2] [7,8,9,10,11,12,13]⟩)))))))))
  · exact applB_snoc s t i
  · first | exact bests_set ‹_› qf | exact bests_skip ‹_›
  · omega
 refine zx4 (zcc (sp (yI 0) (zjn (xg ?_))))
 refine zJ (fun m' ρ w26=>∃ (xY:Env) (i_1:Nat) (out_1:List Bool),ρ=upd (upd (upd (upd xY 0 (pp bs os)) 5 (Sv (aa b1 0) s.qA.length s.qA.length)) 6 (Sv vY zG vG)) 10 (yI i_1)∧out_1=applB s t i_1 s.qB.length∧((i_1:Int)≤s.qB.length)∧m' =(s.qB.length - (i_1:Int)).toNat∧Fresh w.heap.size []∧St w w26 [rr vY zG vG 4 1 (out_1.map (Value.bool)),rr (aa b1 0) s.qA.length s.qA.length 2 1 ((bests s t 0 s.qA.length i).map (Value.int .i64))] [atF bs os (yS s qE qC qO qK),sF false xe qE qC s.qA,sF false xE qO qK s.qB]) ((s.qB.length - (0:Int)).toNat) ⟨_,0,(applB s t 0 i),uE4,(by rw [show i=s.qB.length by omega]),qf,rfl,N,H.pick [0,1] [0,1,2]⟩ ?_
 clear H N
 rintro m' ρ w27 ⟨xY,i_1,out_1,rfl,rfl,i0,rfl,N,H⟩
 have hn_out:=H.rowNB 0 rfl
 have bl:=XY s t 0 s.qA.length i
 have al:=applB_len s t i_1 s.qB.length
 refine zcc (sps [yI i_1,pp bs os,pp bs os] (oF rfl (oL rfl (H.x9 0 rfl 2 rfl) (oN rfl (sp (Bv (decide ((i_1:Int) < s.qB.length))) (zjn (cD rfl (fun h28=>?_) (fun h28=>?_))))))))
 ·skip
  have q:=p0.rule (i:=i_1) qf
  have qc:=q.1
  have qk:=q.cell
  have qr:=q.2.1
  refine xk (t_n (zf (xg ?_)))
  refine yR rfl H [1] fun H=>?_
  have S:=H.yj [1] [0,1,2]
  refine rtp 0 (Sv vY zG vG) S ?_
  refine rtp 1 (yI i_1) S ?_
  refine rtp 2 (Sv vY zG vG) S ?_
  refine rtp 3 (yI i_1) S ?_
  obtain ⟨b30,rfl⟩:=H.Qe 0 rfl qf
  refine tI 4 rfl rfl rfl (H.pick [1] [0,1,2]) ?_
  refine ro 5 rfl (zF (Bv ((applB s t i_1 s.qB.length)[i_1]!)) isAgg4 rfl (H.rowBool 0 rfl (iv:=i_1) (i:=i_1) qf qf) (⟨H.pick [1] [0,1,2],(rtp 6 (Bv ((applB s t i_1 s.qB.length)[i_1]!)) (H.pick [1] [0,1,2]) ?_)⟩))
  cases h31:((applB s t i_1 s.qB.length)[i_1]!)
  ·skip
   refine zV [7,8,9,10,11,12,13,14,15,16,17,18,19,20,21,22,23,24,25,26] 20 (H.pick [1] [0,1,2]) ?_
   have S:=H.yj [1] [0,1,2]
   refine rtp 27 (Bv false) S ?_
   refine tI 28 rfl rfl rfl S ?_
   refine ro 29 rfl (Q9 H 0 rfl false sizeOf4 rfl rfl (i:=i_1) qf qf fun w32 H=>⟨H.pick [1] [0,1,2],(xJ qh (b_n (t_n (zg (sp (yI i_1) (sw (zL i_1 1 rfl rfl qf (sp (yI (i_1+1)) (zi (xq (m' :=(s.qB.length - ((i_1+1):Int)).toNat) qf ⟨_,i_1+1,((applB s t i_1 s.qB.length).set i_1 false),uE4,?_,?_,rfl,N,H⟩))))))))))⟩)
   · first | exact applB_set qf (applB_step0 (m:=s.qB.length) qf ‹_›) | exact applB_set qf (applB_step1 (m:=s.qB.length) (n:=s.qA.length) (z:=0) (i:=i) qf ‹_› rfl qf qf qf)
   · omega
  have S:=H.yj [1] [0,1,2]
  refine rgp 7 (pp bs os) 75 S ?_
  refine rgp 8 (pp bs os) 75 S ?_
  refine gF 9 rfl rfl S ?_
  refine gL 10 rfl rfl (fun _ h=>h.x9 0 rfl 2 rfl) S ?_
  refine rgp 11 (yI i_1) 75 S ?_
  obtain ⟨b33,o34,rfl⟩:=H.addr 2 rfl qf
  obtain ⟨ae36Need,ce36Need,Fe36Need,ae36Have,ce36Have,Fe36Have,ae36Lack,ce36Lack,Fe36Lack,ae36Here,ce36Here,Fe36Here,ae36Out,ce36Out,Fe36Out,ae36Into,ce36Into,Fe36Into,H⟩:=H.yH 2 rfl i_1 i_1 qf qf qf
  have S:=H.yj [1] [7,8,9]
  refine gI 12 rfl rfl rfl S ?_
  refine gF 13 rfl rfl S ?_
  refine rgp 15 (Sv (aa b1 0) s.qA.length s.qA.length) 75 S ?_
  refine rgp 16 (pp bs os) 75 S ?_
  refine rgp 17 (pp bs os) 75 S ?_
  refine gF 18 rfl rfl S ?_
  refine gL 19 rfl rfl (fun _ h=>h.x9 0 rfl 2 rfl) S ?_
  refine rgp 20 (yI i_1) 75 S ?_
  refine gI 21 rfl rfl rfl S ?_
  refine gF 22 rfl rfl S ?_
  refine jb [14,23] qh qm (Vh rfl (e:=75) rfl rfl ?_ (Vh rfl (e:=75) rfl rfl ?_ jd))
  ·skip
   refine zF (yI ((s.qB[i_1]!).vP)) isAgg2 rfl (H.x9 6 rfl 1 rfl) (⟨H.pick [1] [7,8,9],(jb [23] qh qm (Vh rfl (e:=75) rfl rfl (zF (yI ((s.qB[i_1]!).qN)) isAgg2 rfl (H.x9 6 rfl 0 rfl) (⟨H.pick [1] [7,8,9],?_⟩)) jd))⟩)
   have S:=H.yj [1] [7,8,9]
   refine gI 24 rfl rfl rfl S ?_
   refine gL 25 rfl rfl (fun _ h=>h.rowInt 0 rfl (iv:=(s.qB[i_1]!).qN) (i:=(((s.qB[i_1]!).qN).toNat)) qf qf) S ?_
   refine rgp 26 (Bv (((s.qB[i_1]!).vP:Int) == ((bests s t 0 s.qA.length i)[((s.qB[i_1]!).qN).toNat]!))) 75 S ?_
   refine rtp 27 (Bv (((s.qB[i_1]!).vP:Int) == ((bests s t 0 s.qA.length i)[((s.qB[i_1]!).qN).toNat]!))) S ?_
   refine tI 28 rfl rfl rfl S ?_
   refine ro 29 rfl (Q9 H 0 rfl (((s.qB[i_1]!).vP:Int) == ((bests s t 0 s.qA.length i)[((s.qB[i_1]!).qN).toNat]!)) sizeOf4 rfl rfl (i:=i_1) qf qf fun w37 H=>⟨H.pick [1] [7,8,9],(xJ qh (b_n (t_n (zg (sp (yI i_1) (sw (zL i_1 1 rfl rfl qf (sp (yI (i_1+1)) (zi (xq (m' :=(s.qB.length - ((i_1+1):Int)).toNat) qf ⟨_,i_1+1,((applB s t i_1 s.qB.length).set i_1 (((s.qB[i_1]!).vP:Int) == ((bests s t 0 s.qA.length i)[((s.qB[i_1]!).qN).toNat]!))),uE4,?_,?_,rfl,N,H.pick [0,1] [7,8,9]⟩))))))))))⟩)
   · first | exact applB_set qf (applB_step0 (m:=s.qB.length) qf ‹_›) | exact applB_set qf (applB_step1 (m:=s.qB.length) (n:=s.qA.length) (z:=0) (i:=i) qf ‹_› rfl qf qf qf)
   · omega
  refine zF (yI ((s.qB[i_1]!).qN)) isAgg2 rfl (H.x9 6 rfl 0 rfl) (⟨H.pick [1] [7,8,9],?_⟩)
  have S:=H.yj [1] [7,8,9]
  refine gI 24 rfl rfl rfl S ?_
  refine gL 25 rfl rfl (fun _ h=>h.rowInt 0 rfl (iv:=(s.qB[i_1]!).qN) (i:=(((s.qB[i_1]!).qN).toNat)) qf qf) S ?_
  refine jb [14] qh qm (Vh rfl (e:=75) rfl rfl (zF (yI ((s.qB[i_1]!).vP)) isAgg2 rfl (H.x9 6 rfl 1 rfl) (⟨H.pick [1] [7,8,9],?_⟩)) jd)
  have S:=H.yj [1] [7,8,9]
  refine rgp 26 (Bv (((s.qB[i_1]!).vP:Int) == ((bests s t 0 s.qA.length i)[((s.qB[i_1]!).qN).toNat]!))) 75 S ?_
  refine rtp 27 (Bv (((s.qB[i_1]!).vP:Int) == ((bests s t 0 s.qA.length i)[((s.qB[i_1]!).qN).toNat]!))) S ?_
  refine tI 28 rfl rfl rfl S ?_
  refine ro 29 rfl (Q9 H 0 rfl (((s.qB[i_1]!).vP:Int) == ((bests s t 0 s.qA.length i)[((s.qB[i_1]!).qN).toNat]!)) sizeOf4 rfl rfl (i:=i_1) qf qf fun w38 H=>⟨H.pick [1] [7,8,9],(xJ qh (b_n (t_n (zg (sp (yI i_1) (sw (zL i_1 1 rfl rfl qf (sp (yI (i_1+1)) (zi (xq (m' :=(s.qB.length - ((i_1+1):Int)).toNat) qf ⟨_,i_1+1,((applB s t i_1 s.qB.length).set i_1 (((s.qB[i_1]!).vP:Int) == ((bests s t 0 s.qA.length i)[((s.qB[i_1]!).qN).toNat]!))),uE4,?_,?_,rfl,N,H.pick [0,1] [7,8,9]⟩))))))))))⟩)
  · first | exact applB_set qf (applB_step0 (m:=s.qB.length) qf ‹_›) | exact applB_set qf (applB_step1 (m:=s.qB.length) (n:=s.qA.length) (z:=0) (i:=i) qf ‹_› rfl qf qf qf)
  · omega
 refine zx4 (zcr (sps [Sv vY zG vG,Sv vY zG vG] (zjr (ret1 (Sv vY zG vG) rfl rfl ⟨_,rfl,?_,H.base⟩))))
 obtain rfl:i_1=s.qB.length:=by omega
 exact ⟨vY,zG,vG,rfl,N,H.pick [0] []⟩

theorem l03Halted_ok (w:World) (s:qI) (t:qP) {qE:yOA} {xe:yLN} {qO:yOA} {xE:yLN} {qU:yOA} {xO:yLN} {xf:yOA} {zo:yLN} {qM:yOA} {xB:yLN} (hs:jk w bs os (yS s qE qC qO qK)) (qZ:qX.rep w xe [Sv qE s.qA.length qC] s.qA) (xC:qX.rep w xE [Sv qO s.qB.length qK] s.qB) (ht:jk w bt ot (yT t qU qQ xf qY qM qL)) (xQ:qX.rep w xO [Sv qU t.qG.length qQ] t.qG) (zA:qX.rep w zo [Sv xf t.qH.length qY] t.qH) (xH:qX.rep w xB [Sv qM t.qF.length qL] t.qF) (p0:zQ s) (p1:xI s t):Calls Tryz.prog 56 #[pp bs os,pp bt ot] w (Ret (fun v w' =>v=Bv (dec (Halted s t))) w):=by
 refine en func56 ntmps56 ?_
 have H:=(((((((St.start w).arg xH).arg zA).arg xQ).Vf ht).arg xC).arg qZ).Vf hs
 have zX:=qV qZ
 have jo:=qV xC
 have yC:=qV xQ
 have Qm:=qV zA
 have jH:=qV xH
 clear hs qZ xC ht xQ zA xH
 have N:=Fresh.nil w.heap.size
 have p2:=p0.2.1
 refine zcr (sp (Bv false) (zjc (sps [pp bs os,pp bt ot] ?_)))
 have sz4:=H.base.size
 refine sw (oc (VU _ s t (qJ (H.get 0 rfl) 0 3) (H.get 1 rfl).1 (H.get 2 rfl).1 (qJ (H.get 3 rfl) 0 3) (H.get 4 rfl).1 (H.get 5 rfl).1 (H.get 6 rfl).1 qg qg) ?_)
 rintro _ w2 ⟨ra1,rn1,rc1,rfl,M,K⟩ _
 replace H:=H.merge K M
 obtain rfl:=H.rowNB 0 rfl
 have al:=appl_len s t
 refine sp (Sv ra1 ((appl s t).length) rc1) (zjcc (sp (yI 0) (zjn (xg ?_))))
 refine zJ (fun m' ρ w7=>∃ (xY:Env) (i:Nat),ρ=upd (upd xY 5 (Sv ra1 ((appl s t).length) rc1)) 6 (yI i)∧((i:Int)≤((appl s t).length))∧(HaltTo s t i)∧m' =(((appl s t).length) - (i:Int)).toNat∧Fresh w.heap.size []∧St w w7 [rr ra1 ((appl s t).length) rc1 4 1 ((appl s t).map (Value.bool))] []) ((((appl s t).length) - (0:Int)).toNat) ⟨_,0,uE2,qf,qx,rfl,N,H.pick [0] []⟩ ?_
 clear H N
 rintro m' ρ w8 ⟨xY,i,rfl,i0,i1,rfl,N,H⟩
 refine zcc (sps [yI i,Sv ra1 ((appl s t).length) rc1] (oN rfl (sp (Bv (decide ((i:Int) < ((appl s t).length)))) (zjn (cD rfl (fun h9=>?_) (fun h9=>?_))))))
 ·skip
  refine xk (t_n (zf (xg (zcr (sps [Sv ra1 ((appl s t).length) rc1,yI i] ?_)))))
  obtain ⟨b10,rfl⟩:=H.Qe 0 rfl qf
  refine oI rfl rfl (oL rfl (H.rowBool 0 rfl (iv:=i) (i:=i) qf qf) (zjn (xK ((appl s t)[i]!) rfl (fun h11=>?_) (fun h11=>?_))))
  ·skip
   refine zcr (sp (Bv false) (zjr (zr5 (ret1 (Bv false) rfl rfl ⟨_,rfl,?_,H.base⟩))))
   rw [xy (fun h=>h i qf (yu qf ‹_›))]
  refine xk (b_n (t_n (zg (sp (yI i) (sw (zL i 1 rfl rfl qf (sp (yI (i+1)) (zi (xq (m' :=(((appl s t).length) - ((i+1):Int)).toNat) qf ⟨_,i+1,uE2,?_,?_,rfl,N,H⟩)))))))))
  · omega
  · exact i1.succ (jB qf ‹_›)
 refine zx4 (zcr (sp (Bv true) (zjr (ret1 (Bv true) rfl rfl ⟨_,rfl,?_,H.base⟩))))
 obtain rfl:i=s.qB.length:=by omega
 rw [yh i1]

theorem l03Rest_ok (w:World) (s:qI) (t:qP) (counts:yLI) {qE:yOA} {xe:yLN} {qO:yOA} {xE:yLN} {qU:yOA} {xO:yLN} {xf:yOA} {zo:yLN} {qM:yOA} {xB:yLN} {acounts:yOA} {ccounts:Nat} {Fcounts:yLN} (hs:jk w bs os (yS s qE qC qO qK)) (qZ:qX.rep w xe [Sv qE s.qA.length qC] s.qA) (xC:qX.rep w xE [Sv qO s.qB.length qK] s.qB) (ht:jk w bt ot (yT t qU qQ xf qY qM qL)) (xQ:qX.rep w xO [Sv qU t.qG.length qQ] t.qG) (zA:qX.rep w zo [Sv xf t.qH.length qY] t.qH) (xH:qX.rep w xB [Sv qM t.qF.length qL] t.qF) (hcounts:qX.rep w Fcounts [Sv acounts counts.length ccounts] counts) (p0:zQ s) (p1:xI s t) (p2:XZ s counts):Calls Tryz.prog 111 #[pp bs os,pp bt ot,Sv acounts counts.length ccounts] w (Ret (fun v w' =>∃ (ra0:yOA) (rn0:Nat) (rc0:Nat) (rx0:List Value) (rF0:yLN),v=.tuple #[Sv ra0 rn0 rc0,Bv (dec (IsCh s t counts))]∧Fresh w.heap.size [rF0]∧St w w' [rr ra0 rn0 rc0 24 1 rx0] [xN true rF0 rx0 (yP s t counts (QV (Yh s t counts) counts.length))]) w):=by
 refine en func111 ntmps111 ?_
 have H:=((((((((St.start w).arg hcounts).arg xH).arg zA).arg xQ).Vf ht).arg xC).arg qZ).Vf hs
 have zX:=qV qZ
 have jo:=qV xC
 have yC:=qV xQ
 have Qm:=qV zA
 have jH:=qV xH
 have nhcounts:=qV hcounts
 clear hs qZ xC ht xQ zA xH hcounts
 have N:=Fresh.nil w.heap.size
 have p3:=p0.2.1
 have p6:=p2.1
 have p7:=p1.2.1
 have p8:=kinds_le p0
 have p9:=p0.1.2.1
 have p11:xP s=s.qA.length:=rfl
 refine zcr (sps [yN,Bv false] (zjc (sps [pp bs os,pp bt ot] ?_)))
 have sz4:=H.base.size
 refine sw (oc (VU _ s t (qJ (H.get 0 rfl) 0 3) (H.get 1 rfl).1 (H.get 2 rfl).1 (qJ (H.get 3 rfl) 0 3) (H.get 4 rfl).1 (H.get 5 rfl).1 (H.get 6 rfl).1 qg qg) ?_)
 rintro _ w2 ⟨ra1,rn1,rc1,rfl,M,K⟩ _
 replace H:=H.merge K M
 obtain rfl:=H.rowNB 0 rfl
 have al:=appl_len s t
 refine sp (Sv ra1 ((appl s t).length) rc1) (zjc (sw (je H underlying29 ti24 fun b7 w8 H=>sp (Sv (aa b7 0) 0 0) (zjcc (sp (yI 0) (zjn (xg ?_)))))))
 replace H:=H.boxRow 0 rfl 1 0 rfl qj
 replace H:=H.vT (α:=yLI)
 refine zJ (fun m' ρ w9=>∃ (xY:Env) (Va:yOA) (QL:Nat) (Xo:Nat) (rest:yLL) (x_rest:List Value) (F_rest:yLN) (c:Nat),ρ=upd (upd (upd (upd (upd (upd xY 0 (pp bs os)) 1 (pp bt ot)) 2 (Sv acounts counts.length ccounts)) 8 (Sv ra1 ((appl s t).length) rc1)) 9 (Sv Va QL Xo)) 10 (yI c)∧rest=t.qH.take c∧((c:Int)≤t.qH.length)∧m' =(t.qH.length - (c:Int)).toNat∧Fresh w.heap.size [F_rest]∧St w w9 [rr Va QL Xo 24 1 x_rest,rr ra1 ((appl s t).length) rc1 4 1 ((appl s t).map (Value.bool))] [xN true F_rest x_rest rest,atF bs os (yS s qE qC qO qK),sF false xe qE qC s.qA,sF false xE qO qK s.qB,atF bt ot (yT t qU qQ xf qY qM qL),sF false xO qU qQ t.qG,sF false zo xf qY t.qH,sF false xB qM qL t.qF,sF false Fcounts acounts ccounts counts]) ((t.qH.length - (0:Int)).toNat) ⟨_,(aa b7 0),0,0,([]:yLL),[],[],0,uE6,(by rfl),qf,rfl,N.emp,H⟩ ?_
 clear H N
 rintro m' ρ w10 ⟨xY,Va,QL,Xo,rest,x_rest,F_rest,c,rfl,rfl,i0,rfl,N,H⟩
 have hn_rest:=H.x8 (α:=yLI) 0 rfl 0 rfl qj
 have p4:=(p1.bagLen (k:=c))
 rw [List.length_take_of_le qf] at hn_rest
 refine zcc (sps [yI c,pp bt ot,pp bt ot] (oF rfl (oL rfl (H.x9 4 rfl 1 rfl) (oN rfl (sp (Bv (decide ((c:Int) < t.qH.length))) (zjn (cD rfl (fun h11=>?_) (fun h11=>?_))))))))
 ·skip
  refine xk (t_n (zf (xg (zg (sps [Sv Va QL Xo,pp bt ot,pp bt ot] (oF rfl (oL rfl (H.x9 4 rfl 1 rfl) (sp (yI c) ?_))))))))
  obtain ⟨b12,o13,rfl⟩:=H.addr 6 rfl qf
  obtain ⟨ae15,ce15,Fe15,H⟩:=H.jq 6 rfl c c qf qf qf
  refine oI rfl rfl (oL rfl (H.x9 1 rfl 0 rfl) ?_)
  have p5:=(p1.bagLen (k:=c) qf).len
  have sz16:=H.base.size
  have lt17:=H.ltN (L:=[F_rest]) [2]
  refine sw (oc (XW _ (t.qH[c]!) (H.get 0 rfl).1 qg) ?_)
  rintro v21 w19 r21 x20
  replace H:=H.zB x20 r21
  obtain ⟨a22,c23,rfl,hc24,hm25⟩:=H.jG 0 rfl
  refine sw (zy H underlying29 ti24 [Sv a22 ((t.qH[c]!).length) c23] fun b26 w27 H=>?_)
  obtain ⟨G31,N,hn32,H⟩:=H.zT 1 rfl N (H.jR [2])
  refine sw (zC H 2 rfl 0 rfl underlying29 ti24 rfl qj rfl rfl rfl qw qp qf fun a28 c29 w30 H=>?_)
  replace H:=H.yt 3 rfl 0 rfl
  replace N:Fresh w.heap.size [(F_rest++G31)]:=(N.pick [1,0]).join
  refine sp (Sv a28 (QL+1) c29) (zi (b_n (t_n (zg (sp (yI c) (sw (zL c 1 rfl rfl qf (sp (yI (c+1)) (zi (xq (m' :=(t.qH.length - ((c+1):Int)).toNat) qf ⟨_,a28,QL+1,c29,((t.qH.take c)++[(t.qH[c]!)]),x_rest++[Sv a22 ((t.qH[c]!).length) c23],(F_rest++G31),c+1,uE6,?_,?_,rfl,N,H.pick [2,3] [0,5,6,7,8,9,10,11,12]⟩))))))))))
  · exact take_snoc qf
  · omega
 refine zx4 (zcc (sp (yI 0) (zjn (xg ?_))))
 refine zJ (fun m' ρ w33=>∃ (xY:Env) (i:Nat) (rest_1:yLL) (x_rest_1:List Value) (VW:yLN),ρ=upd (upd (upd (upd (upd xY 0 (pp bs os)) 2 (Sv acounts counts.length ccounts)) 8 (Sv ra1 ((appl s t).length) rc1)) 9 (Sv Va QL Xo)) 11 (yI i)∧rest_1=yP s t counts i∧((i:Int)≤counts.length)∧(GoodTo s t counts i)∧m' =(counts.length - (i:Int)).toNat∧Fresh w.heap.size [VW]∧St w w33 [rr Va QL Xo 24 1 x_rest_1,rr ra1 ((appl s t).length) rc1 4 1 ((appl s t).map (Value.bool))] [xN true VW x_rest_1 rest_1,atF bs os (yS s qE qC qO qK),sF false xe qE qC s.qA,sF false xE qO qK s.qB,sF false Fcounts acounts ccounts counts]) ((counts.length - (0:Int)).toNat) ⟨_,0,(t.qH.take c),x_rest,F_rest,uE5,(by rw [List.take_of_length_le qf];rfl),qf,qx,rfl,N,H.pick [0,1] [0,1,2,3,8]⟩ ?_
 clear H N
 rintro m' ρ w34 ⟨xY,i,rest_1,x_rest_1,VW,rfl,rfl,i0,i1,rfl,N,H⟩
 have hn_rest:=H.x8 (α:=yLI) 0 rfl 0 rfl qj
 have rl:=restR_len (s:=s) (t:=t) (counts:=counts) i
 refine zcc (sps [yI i,Sv acounts counts.length ccounts] (oN rfl (sp (Bv (decide ((i:Int) < counts.length))) (zjn (cD rfl (fun h35=>?_) (fun h35=>?_))))))
 ·skip
  have q:=p0.rule (i:=i) qf
  have qc:=q.1
  have qk:=q.cell
  have qr:=q.2.1
  have b1:=q.2.2.2.2.1
  have p10:=p2.bd (i:=i) qf
  refine xk (t_n (zf (xg (zcc (sps [Sv acounts counts.length ccounts,yI i] ?_)))))
  obtain ⟨b36,o37,rfl⟩:=H.addr 4 rfl qf
  refine oI rfl rfl (oL rfl (H.yF 4 rfl i qf qf) (sps [Bv (decide ((counts[i]! :Int) > 0)),Bv (decide ((counts[i]! :Int) > 0))] ?_))
  cases h39:(decide ((counts[i]! :Int) > 0))
  ·skip
   replace h39:=of_decide_eq_false h39
   refine xW [51,52,53,54,55] (sp (Bv false) (zjn (xK false rfl (fun h=>absurd h qj) (fun _=>xk (t_n (zcr (sps [pp bs os,pp bs os] (oF rfl (oL rfl (H.x9 1 rfl 2 rfl) (sp (yI i) ?_))))))))))
   obtain ⟨b40,o41,rfl⟩:=H.addr 3 rfl qf
   obtain ⟨ae43Need,ce43Need,Fe43Need,ae43Have,ce43Have,Fe43Have,ae43Lack,ce43Lack,Fe43Lack,ae43Here,ce43Here,Fe43Here,ae43Out,ce43Out,Fe43Out,ae43Into,ce43Into,Fe43Into,H⟩:=H.yH 3 rfl i i qf qf qf
   refine oI rfl rfl (oF rfl (oL rfl (H.x9 6 rfl 0 rfl) (sp (yI ((s.qB[i]!).qN)) (zjn ?_))))
   refine yR rfl H [1] fun H=>?_
   have S:=H.yj [1] [0,1,2,3,4,5,6,7,8,9,10,11]
   refine rtp 0 (Sv Va QL Xo) S ?_
   refine rtp 1 (yI ((s.qB[i]!).qN)) S ?_
   refine rtp 2 (Sv Va QL Xo) S ?_
   refine rtp 3 (yI ((s.qB[i]!).qN)) S ?_
   obtain ⟨b45,rfl⟩:=H.Qe 0 rfl qf
   have S:=H.yj [1] [0,1,2,3,4,5,6,7,8,9,10,11]
   refine tI 4 rfl rfl rfl S ?_
   refine rtp 6 (pp bs os) S ?_
   refine rtp 7 (pp bs os) S ?_
   refine tF 8 rfl rfl S ?_
   refine tL 9 rfl rfl (fun _ h=>h.x9 8 rfl 2 rfl) S ?_
   refine rtp 10 (yI i) S ?_
   refine tI 11 rfl rfl rfl S ?_
   refine tF 12 rfl rfl S ?_
   refine tL 13 rfl rfl (fun _ h=>h.x9 6 rfl 2 rfl) S ?_
   refine rtp 14 (Sv (aa b36 o37) counts.length ccounts) S ?_
   refine rtp 15 (yI i) S ?_
   refine tI 16 rfl rfl rfl S ?_
   refine tL 17 rfl rfl (fun _ h=>h.yV 11 rfl i qf) S ?_
   refine rt 18 (yI (-(counts[i]!))) (y_neg (counts[i]!) rfl qf) S ?_
   refine ro 5 rfl ?_
   obtain ⟨a46,c47,G48,s49,h50,H⟩:=H.jP 0 rfl 7 rfl (iv:=(s.qB[i]!).qN) (((s.qB[i]!).qN).toNat) qf qf
   refine zF (Sv a46 (((yP s t counts i)[((s.qB[i]!).qN).toNat]!).length) c47) isAgg24 rfl (h50) (⟨H.pick [1] [1,2,3,4,5,6,7,8,9,10,11,12],(ro 19 rfl ?_)⟩)
   obtain ⟨u1,u2⟩:=restR_row (c:=(s.qB[i]!).qN.toNat) p0 p1 p2 (show i≤_ by omega) qk
   have u3:=b1.len
   have u4:=b1.jA (t:= -(counts[i]!)) qf
   have sz51:=H.base.size
   have lt52:=H.ltN (L:=[VW]) [8]
   refine oc (X4 _ ((yP s t counts i)[((s.qB[i]!).qN).toNat]!) ((s.qB[i]!).xR) (-(counts[i]!)) (H.get 0 rfl).1 (H.get 1 rfl).1 qg qg qg) ?_
   rintro v56 w54 r56 x55
   replace H:=H.zB x55 r56
   obtain ⟨a57,c58,rfl,hc59,hm60⟩:=H.jG 0 rfl
   refine ⟨H.pick [2] [1,2,3,4,5,6,7,8,9,10,11,12],(tI 20 rfl rfl rfl (H.pick [2] [1,2,3,4,5,6,7,8,9,10,11,12]) ?_)⟩
   refine ro 21 rfl ?_
   obtain ⟨G62,N,hn63,H⟩:=H.zT 0 rfl N (H.jR [8])
   refine jy true H 1 rfl 9 rfl (Sv a57 ((vZ ((yP s t counts i)[((s.qB[i]!).qN).toNat]!) ((s.qB[i]!).xR) (-(counts[i]!))).length) c58) 0 rfl rfl sizeOf24 rfl rfl (i:=(((s.qB[i]!).qN).toNat)) qf qf qm fun w61 xs64 F65 hs66 H=>?_
   replace N:Fresh w.heap.size [F65]:=(N.pick [1,0]).repl hs66
   refine ⟨H.pick [2] [3,4,5,6,7,8,9,10,11,12,13,14],(xJ qh (b_n (t_n (zg (sp (yI i) (sw (zL i 1 rfl rfl qf (sp (yI (i+1)) (zi (xq (m' :=(counts.length - ((i+1):Int)).toNat) qf ⟨_,i+1,((yP s t counts i).set (((s.qB[i]!).qN).toNat) (vZ ((yP s t counts i)[((s.qB[i]!).qN).toNat]!) ((s.qB[i]!).xR) (-(counts[i]!)))),xs64,F65,uE5,?_,?_,?_,rfl,N,H.pick [1,2] [0,11,12,13,14]⟩))))))))))⟩
   · rfl
   · omega
   · exact i1.succ (fun h=>by obtain ⟨u,v⟩:=h;first | omega | exact v (yu qf ‹_›))
  replace h39:=of_decide_eq_true h39
  refine qR 50 rfl rfl (sp (Sv ra1 ((appl s t).length) rc1) (qR 50 rfl rfl (sp (yI i) (qR 50 rfl rfl ?_))))
  obtain ⟨b67,rfl⟩:=H.Qe 1 rfl qf
  refine oI rfl rfl (qR 50 rfl rfl (oL rfl (H.rowBool 1 rfl (iv:=i) (i:=i) qf qf) (qR 50 rfl rfl (sps [Bv (!((appl s t)[i]!)),Bv (!((appl s t)[i]!))] (zjn (xK (!((appl s t)[i]!)) rfl (fun h68=>?_) (fun h68=>?_)))))))
  ·skip
   replace h68:=xM h68
   refine zcr (sps [Sv Va QL Xo,Sv Va QL Xo,Bv false] (zjr (t_r (zr5 (ret2 (Sv Va QL Xo) (Bv false) rfl rfl rfl ⟨_,rfl,?_,H.base⟩)))))
   rw [stop_first (k:=i) i1 qf ⟨by omega,jB qf ‹_›⟩,xy (fun h=>h.1 i qf ⟨by omega,jB qf ‹_›⟩)]
   exact ⟨Va,QL,Xo,x_rest_1,VW,rfl,N,H.pick [0] [0]⟩
  replace h68:=xG h68
  refine xk (t_n (zcr (sps [pp bs os,pp bs os] (oF rfl (oL rfl (H.x9 1 rfl 2 rfl) (sp (yI i) ?_))))))
  obtain ⟨b69,o70,rfl⟩:=H.addr 3 rfl qf
  obtain ⟨ae72Need,ce72Need,Fe72Need,ae72Have,ce72Have,Fe72Have,ae72Lack,ce72Lack,Fe72Lack,ae72Here,ce72Here,Fe72Here,ae72Out,ce72Out,Fe72Out,ae72Into,ce72Into,Fe72Into,H⟩:=H.yH 3 rfl i i qf qf qf
  refine oI rfl rfl (oF rfl (oL rfl (H.x9 6 rfl 0 rfl) (sp (yI ((s.qB[i]!).qN)) (zjn ?_))))
  refine yR rfl H [1] fun H=>?_
  have S:=H.yj [1] [0,1,2,3,4,5,6,7,8,9,10,11]
  refine rtp 0 (Sv Va QL Xo) S ?_
  refine rtp 1 (yI ((s.qB[i]!).qN)) S ?_
  refine rtp 2 (Sv Va QL Xo) S ?_
  refine rtp 3 (yI ((s.qB[i]!).qN)) S ?_
  obtain ⟨b74,rfl⟩:=H.Qe 0 rfl qf
  have S:=H.yj [1] [0,1,2,3,4,5,6,7,8,9,10,11]
  refine tI 4 rfl rfl rfl S ?_
  refine rtp 6 (pp bs os) S ?_
  refine rtp 7 (pp bs os) S ?_
  refine tF 8 rfl rfl S ?_
  refine tL 9 rfl rfl (fun _ h=>h.x9 8 rfl 2 rfl) S ?_
  refine rtp 10 (yI i) S ?_
  refine tI 11 rfl rfl rfl S ?_
  refine tF 12 rfl rfl S ?_
  refine tL 13 rfl rfl (fun _ h=>h.x9 6 rfl 2 rfl) S ?_
  refine rtp 14 (Sv (aa b36 o37) counts.length ccounts) S ?_
  refine rtp 15 (yI i) S ?_
  refine tI 16 rfl rfl rfl S ?_
  refine tL 17 rfl rfl (fun _ h=>h.yV 11 rfl i qf) S ?_
  refine rt 18 (yI (-(counts[i]!))) (y_neg (counts[i]!) rfl qf) S ?_
  refine ro 5 rfl ?_
  obtain ⟨a75,c76,G77,s78,h79,H⟩:=H.jP 0 rfl 7 rfl (iv:=(s.qB[i]!).qN) (((s.qB[i]!).qN).toNat) qf qf
  refine zF (Sv a75 (((yP s t counts i)[((s.qB[i]!).qN).toNat]!).length) c76) isAgg24 rfl (h79) (⟨H.pick [1] [1,2,3,4,5,6,7,8,9,10,11,12],(ro 19 rfl ?_)⟩)
  obtain ⟨u1,u2⟩:=restR_row (c:=(s.qB[i]!).qN.toNat) p0 p1 p2 (show i≤_ by omega) qk
  have u3:=b1.len
  have u4:=b1.jA (t:= -(counts[i]!)) qf
  have sz80:=H.base.size
  have lt81:=H.ltN (L:=[VW]) [8]
  refine oc (X4 _ ((yP s t counts i)[((s.qB[i]!).qN).toNat]!) ((s.qB[i]!).xR) (-(counts[i]!)) (H.get 0 rfl).1 (H.get 1 rfl).1 qg qg qg) ?_
  rintro v85 w83 r85 x84
  replace H:=H.zB x84 r85
  obtain ⟨a86,c87,rfl,hc88,hm89⟩:=H.jG 0 rfl
  refine ⟨H.pick [2] [1,2,3,4,5,6,7,8,9,10,11,12],(tI 20 rfl rfl rfl (H.pick [2] [1,2,3,4,5,6,7,8,9,10,11,12]) ?_)⟩
  refine ro 21 rfl ?_
  obtain ⟨G91,N,hn92,H⟩:=H.zT 0 rfl N (H.jR [8])
  refine jy true H 1 rfl 9 rfl (Sv a86 ((vZ ((yP s t counts i)[((s.qB[i]!).qN).toNat]!) ((s.qB[i]!).xR) (-(counts[i]!))).length) c87) 0 rfl rfl sizeOf24 rfl rfl (i:=(((s.qB[i]!).qN).toNat)) qf qf qm fun w90 xs93 F94 hs95 H=>?_
  replace N:Fresh w.heap.size [F94]:=(N.pick [1,0]).repl hs95
  refine ⟨H.pick [2] [3,4,5,6,7,8,9,10,11,12,13,14],(xJ qh (b_n (t_n (zg (sp (yI i) (sw (zL i 1 rfl rfl qf (sp (yI (i+1)) (zi (xq (m' :=(counts.length - ((i+1):Int)).toNat) qf ⟨_,i+1,((yP s t counts i).set (((s.qB[i]!).qN).toNat) (vZ ((yP s t counts i)[((s.qB[i]!).qN).toNat]!) ((s.qB[i]!).xR) (-(counts[i]!)))),xs93,F94,uE5,?_,?_,?_,rfl,N,H.pick [1,2] [0,11,12,13,14]⟩))))))))))⟩
  · rfl
  · omega
  · exact i1.succ (fun h=>by obtain ⟨u,v⟩:=h;first | omega | exact v (yu qf ‹_›))
 refine zx4 (zcc (sp (yI 0) (zjn (xg ?_))))
 refine zJ (fun m' ρ w96=>∃ (xY:Env) (c_1:Nat),ρ=upd (upd xY 9 (Sv Va QL Xo)) 13 (yI c_1)∧((c_1:Int)≤QL)∧(NonNeg (yP s t counts i) c_1)∧m' =(QL - (c_1:Int)).toNat∧Fresh w.heap.size [VW]∧St w w96 [rr Va QL Xo 24 1 x_rest_1,rr ra1 ((appl s t).length) rc1 4 1 ((appl s t).map (Value.bool))] [xN true VW x_rest_1 (yP s t counts i)]) ((QL - (0:Int)).toNat) ⟨_,0,uE2,qf,qx,rfl,N,H.pick [0,1] [0]⟩ ?_
 clear H N
 rintro m' ρ w97 ⟨xY,c_1,rfl,i0,i2,rfl,N,H⟩
 refine zcc (sps [yI c_1,Sv Va QL Xo] (oN rfl (sp (Bv (decide ((c_1:Int) < QL))) (zjn (cD rfl (fun h98=>?_) (fun h98=>?_))))))
 ·skip
  have r1:=(restR_row (c:=c_1) p0 p1 p2 (show i≤_ by omega) (show c_1 < xP s by omega)).1
  refine xk (t_n (zf (xg (zcr (sp (yI 0) (zjn (xg ?_)))))))
  refine zJ (fun m' ρ w99=>∃ (xY:Env) (k:Nat),ρ=upd (upd (upd xY 9 (Sv Va QL Xo)) 13 (yI c_1)) 14 (yI k)∧((k:Int)≤(((yP s t counts i)[c_1]!).length))∧(∀ j,j < k→0≤((yP s t counts i)[c_1]!)[j]!)∧m' =((((yP s t counts i)[c_1]!).length) - (k:Int)).toNat∧Fresh w.heap.size [VW]∧St w w99 [rr Va QL Xo 24 1 x_rest_1,rr ra1 ((appl s t).length) rc1 4 1 ((appl s t).map (Value.bool))] [xN true VW x_rest_1 (yP s t counts i)]) (((((yP s t counts i)[c_1]!).length) - (0:Int)).toNat) ⟨_,0,uE3,qf,qx,rfl,N,H⟩ ?_
  clear H N
  rintro m' ρ w100 ⟨xY,k,rfl,i0,i3,rfl,N,H⟩
  refine zcc (sps [yI k,Sv Va QL Xo,yI c_1] ?_)
  obtain ⟨b101,rfl⟩:=H.Qe 0 rfl qf
  refine oI rfl rfl ?_
  obtain ⟨a102,c103,G104,s105,h106,H⟩:=H.jP 0 rfl 0 rfl (iv:=c_1) c_1 qf qf
  refine oL rfl (h106) (oN rfl (sp (Bv (decide ((k:Int) < (((yP s t counts i)[c_1]!).length)))) (zjn (cD rfl (fun h107=>?_) (fun h107=>?_)))))
  ·skip
   refine xk (t_n (zf (xg (zcr (sps [Sv (aa b101 0) QL Xo,yI c_1] (oI rfl rfl ?_))))))
   obtain ⟨a108,c109,G110,s111,h112,H⟩:=H.jP 0 rfl 1 rfl (iv:=c_1) c_1 qf qf
   refine oL rfl (h112) (sp (yI k) ?_)
   obtain ⟨b113,o114,rfl⟩:=H.addr 0 rfl qf
   refine oI rfl rfl (oL rfl (H.yF 0 rfl k qf qf) (sp (Bv (decide ((((yP s t counts i)[c_1]!)[k]! :Int) < 0))) (zjn (cD rfl (fun h116=>?_) (fun h116=>?_)))))
   ·skip
    refine zcr (sps [Sv (aa b101 0) QL Xo,Sv (aa b101 0) QL Xo,Bv false] (zjr (b_r (t_r (t_r (b_r (zr5 (ret2 (Sv (aa b101 0) QL Xo) (Bv false) rfl rfl rfl ⟨_,rfl,?_,H.base⟩))))))))
    obtain rfl:i=counts.length:=by omega
    rw [stop_none (n:=counts.length) i1,xy (fun h=>by have:=h.2 c_1 qf k qf;omega)]
    exact ⟨(aa b101 0),QL,Xo,x_rest_1,VW,rfl,N,H.pick [0] [2]⟩
   refine xk (b_n (t_n (zg (sp (yI k) (sw (zL k 1 rfl rfl qf (sp (yI (k+1)) (zi (xq (m' :=((((yP s t counts i)[c_1]!).length) - ((k+1):Int)).toNat) qf ⟨_,k+1,uE3,?_,?_,rfl,N,H.pick [0,1] [2]⟩)))))))))
   · omega
   · exact fun j hj=>by (by_cases e:j=k;(subst e;omega);exact i3 j qf)
  refine c_exit (t_x (t_x (b_x (b_n (t_n (zg (sp (yI c_1) (sw (zL c_1 1 rfl rfl qf (sp (yI (c_1+1)) (zi (xq (m' :=(QL - ((c_1+1):Int)).toNat) qf ⟨_,c_1+1,uE2,?_,?_,rfl,N,H.pick [0,1] [1]⟩))))))))))))
  · omega
  · exact i2.succ (fun j hj=>i3 j qf)
 refine zx4 (zcr (sps [Sv Va QL Xo,Sv Va QL Xo,Bv true] (zjr (ret2 (Sv Va QL Xo) (Bv true) rfl rfl rfl ⟨_,rfl,?_,H.base⟩))))
 obtain rfl:i=counts.length:=by omega
 rw [stop_none (n:=counts.length) i1,yh ⟨i1,(show c_1=t.qH.length by omega)▸i2⟩]
 exact ⟨Va,QL,Xo,x_rest_1,VW,rfl,N,H.pick [0] [0]⟩
end
end Go.Proofs.YtcpnclokildllaaGreat
