/- Walks and laws, printed by program and by hand: what each function comes to, for all arguments, part 3. -/
import Derived.Test.YtjfmcaiombkobaaGreatA2
namespace Go.Proofs.YtjfmcaiombkobaaGreat
open Go.Proofs.Tryz
set_option linter.unusedVariables false
set_option linter.unusedSimpArgs false
set_option maxRecDepth 100000
set_option maxHeartbeats 4000000
open Go.RowKit
open Go.Proofs.Tryz
open Go.Proofs.YtjfmcaiombkobaaGreat.Tot (tot)
open Go.Proofs.YtjfmcaiombkobaaGreat.Mark (cnt mrk mkd mkd_mark cnt_mark)
variable {F Fl FpOrders Fregs:yLN} {L l:yLI} {Ns:List yLN} {W0 w:World} {a al apOrders aregs:yOA} {a0 a1 a2 a3 b0 b1 b2 b3:Int} {b c c2 cregs i id m nn off sz:Nat} {d:Option Nat} {e t ty u:TypeId} {fr:Bool} {listed:Array Bool} {pos:String} {ps:List Prv} {x y:Operand} {xs:List Value} {Γ:List Fact}
section
section
variable {α : Type} [qK α] [Inhabited α] {q : Nat}
variable {P : Program} {Q : Exit -> Act -> World -> Prop} {n : Nat} {ρ : Env} {W0 w : World} {ps : List Prv} {Γ : List Fact}
 {d:Nat} {ty:TypeId} {pos:String} {af:Array Edge} {K:Env->World->Prop}
theorem o_putInt [Dfr] {get:α->Int} {put:α->Int->α} (S:Xg α Int q get put) {l' :List α} (H:St W0 w ps Γ) (k:Nat) (hp:ps[k]? =some (.row (Sv (some ⟨b,0,none⟩) nn c) e sz nn xs))
 (j:Nat) {F:yLN} {l:List α} (hf:Γ[j]? =some (xN true F xs l)) {z:Int} (hs:∀ w,(Go.sizeOf t).run P w=.ok 1 w) (hx:ev n ρ x=.pointer (some ⟨b,off,none⟩)) (hy:ev n ρ y=.int .i64 z) (hsz:qK.size α=sz) (i:Nat) (h1:i < nn) (ho:off=i * sz+q) (hl' :l' =l.set i (put (l[i]!) z))
 (kk:∀ w' xs' F',((∀ b∈F',b∈F\/b∈([]:yLN))/\(F.Nodup->([]:yLN).Nodup->(∀ b∈F,b∉([]:yLN))->F'.Nodup))->St W0 w' (ps.set k (.row (Sv (some ⟨b,0,none⟩) nn c) e sz nn xs')) (xN true F' xs' l'::Γ)->K ρ w') (hz:0 < sz:=by decide):
 OW P Q ⟨none,.store t x y,ty,pos,af,none⟩ n ρ w K:=
 putPart (us:=[.int .i64 z]) (G:=[]) (v:=.int .i64 z) S H k hp j hf ⟨⟨rfl,rfl⟩,ve.nil _⟩ (fun b hb=>by simp at hb) rfl hs hx hy hsz hz i h1 ho hl' rfl (fun _=>rfl) kk
theorem o_pokeInt [Dfr] {get:α->yLI} {put:α->yLI->α} (S:Xg α yLI q get put) {l l' :List α} (H:St W0 w ps Γ)
 (j:Nat) (hf:Γ[j]? =some (xN true F xs l)) {L:List yLN} {z:Int} (N:Fresh W0.heap.size (F::L))
 (Γ' :List Fact) (hΓ:∀ f∈Γ',f∈Γ/\∀ x∈f.F,x∉F) (i:Nat) (h1:i < l.length) {g o m c sz:Nat} (hsz:qK.size α=sz) (h2:xs[i * sz+q]? =some (Sv (some ⟨g,o,none⟩) m c)) (p:Nat) (h3:p < (get (l[i]!)).length)
 (hs:∀ w,(Go.sizeOf t).run P w=.ok 1 w) {iv:Int} (hx:ev n ρ x=.pointer (some ⟨g,o+iv.toNat * 1,none⟩)) (ho:iv.toNat=p) (hy:ev n ρ y=.int .i64 z)
 (hl' :l' =l.set i (put (l[i]!) ((get (l[i]!)).set p z))) (kk:∀ w' F',Fresh W0.heap.size (F'::L)->St W0 w' ps (xN true F' xs l'::Γ')->K ρ w'):
 OW P Q ⟨none,.store t x y,ty,pos,af,none⟩ n ρ w K:=
 pokePart (γ:=Int) (v:=.int .i64 z) S H j hf (Fresh.swap N.emp) (show qK.rep w [] [.int .i64 z] z from ⟨rfl,rfl⟩) (ve.nil _) (fun b hb=>by simp at hb) Γ' hΓ i h1 hsz h2 p h3 (show 0 < 1 from Nat.one_pos) rfl hs hx (by rw [ho];rfl) hy hl' kk
end
section
variable {P : Program} {Q : Exit -> Act -> World -> Prop} {n : Nat} {ρ : Env} {W0 w : World} {ps : List Prv} {Γ : List Fact}
 {d:Nat} {ty:TypeId} {pos:String} {af:Array Edge} {K:Env->World->Prop}
theorem i4_eq (h:(!(a0 == b0 && (a1 == b1 && (a2 == b2 && a3 == b3))))=false):a0=b0/\a1=b1/\a2=b2/\a3=b3:=by simpa using h
theorem i4_ne (h:(!(a0 == b0 && (a1 == b1 && (a2 == b2 && a3 == b3))))=true):¬ (a0=b0/\a1=b1/\a2=b2/\a3=b3):=fun ⟨e0,e1,e2,e3⟩=>by subst e0 e1 e2 e3;simp at h
theorem take_at {α:Type} [Inhabited α] {l:List α} {n:Nat} (h:i < (l.take n).length):(l.take n)[i]! =l[i]! :=by
 have h2:i < l.length:=by rw [List.length_take] at h;omega
 rw [getElem!_pos _ i h,getElem!_pos _ i h2,List.getElem_take]
theorem run_part1 (ha:∀ w,(isAgg e).run P w=.ok false w) {xs:Array Value} {v:Value} (hx:xs[off]? =some v) (w:World):(part e xs off).run P w=.ok v w:=by
 simp [part,ha,hx]
theorem o_neI4 [Dfr] {it:TypeId} {f0 f1 f2 f3:Field} (hu:P.underlying t=some (.struct #[f0,f1,f2,f3])) (hp:P.stoodInHeld t=false) (hm:P.eqGuardType P.depth t=false)
 (hn : (f0.name ≠ "_" /\ f1.name ≠ "_") /\ (f2.name ≠ "_" /\ f3.name ≠ "_")) (ht : (f0.type = it /\ f1.type = it) /\ (f2.type = it /\ f3.type = it)) (ho : (f0.offset = 0 /\ f1.offset = 1) /\ (f2.offset = 2 /\ f3.offset = 3)) (hi : P.underlying it = some (.int .i64)) (ha : ∀ w, (isAgg it).run P w = .ok false w)
 (hx:ev n ρ x=.agg #[.int .i64 a0,.int .i64 a1,.int .i64 a2,.int .i64 a3]) (hy:ev n ρ y=.agg #[.int .i64 b0,.int .i64 b1,.int .i64 b2,.int .i64 b3])
 (k:K (upd ρ d (Bv (!(a0 == b0 && (a1 == b1 && (a2 == b2 && a3 == b3)))))) w):OW P Q ⟨some d,.binOp .neq t x y u,ty,pos,af,none⟩ n ρ w K:=by
 refine XU _ ?_ k
 have hf:P.fieldsOf t=#[f0,f1,f2,f3]:=by unfold Program.fieldsOf;rw [hu]
 obtain ⟨⟨n0,n1⟩,n2,n3⟩:=hn
 obtain ⟨⟨t0,t1⟩,t2,t3⟩:=ht
 obtain ⟨⟨o0,o1⟩,o2,o3⟩:=ho
 have h:=run_equalIn_struct (P:=P) w 9999 t #[.int .i64 a0,.int .i64 a1,.int .i64 a2,.int .i64 a3] #[.int .i64 b0,.int .i64 b1,.int .i64 b2,.int .i64 b3] (hf▸hu) hp
 have q0:∀ (z0 z1 z2 z3:Value) w,(part it #[z0,z1,z2,z3] 0).run P w=.ok z0 w:=fun _ _ _ _ w=>run_part1 ha rfl w
 have q1:∀ (z0 z1 z2 z3:Value) w,(part it #[z0,z1,z2,z3] 1).run P w=.ok z1 w:=fun _ _ _ _ w=>run_part1 ha rfl w
 have q2:∀ (z0 z1 z2 z3:Value) w,(part it #[z0,z1,z2,z3] 2).run P w=.ok z2 w:=fun _ _ _ _ w=>run_part1 ha rfl w
 have q3:∀ (z0 z1 z2 z3:Value) w,(part it #[z0,z1,z2,z3] 3).run P w=.ok z3 w:=fun _ _ _ _ w=>run_part1 ha rfl w
 have qe:∀ (a b:Int) w,(Op.equalIn 9999 it (.int .i64 a) (.int .i64 b)).run P w=.ok (a == b) w:=fun a b w=>run_equalIn_int w 9998 it .i64 .i64 a b hi
 rw [hf] at h
 have h2:(Op.equalIn 10000 t (.agg #[.int .i64 a0,.int .i64 a1,.int .i64 a2,.int .i64 a3]) (.agg #[.int .i64 b0,.int .i64 b1,.int .i64 b2,.int .i64 b3])).run P w=.ok (a0 == b0 && (a1 == b1 && (a2 == b2 && a3 == b3))) w:=by
  rw [h]
  cases e0:(a0 == b0) <;> cases e1:(a1 == b1) <;> cases e2:(a2 == b2) <;> cases e3:(a3 == b3) <;>
   simp [Op.eqFields,n0,n1,n2,n3,t0,t1,t2,t3,o0,o1,o2,o3,q0,q1,q2,q3,qe,e0,e1,e2,e3]
 simp [execOp,hx,hy,run_eqGuard_agg w .neq t x y _ _ hm,run_neq_struct,h2]
theorem copy_row (H:St W0 w ps Γ) (k:Nat) {e':TypeId} (hp:ps[k]? =some (.row (Sv (some ⟨b,0,none⟩) nn c) e 1 nn (L.map (Value.int .i64)))) (j:Nat) (hf:Γ[j]? =some (isF fr F (Sv a m c2) l)) (hm:m<=nn):
 m=l.length/\(Builtin.firstCells 1 m (Sv a m c2)).run P w=.ok (l.map (Value.int .i64)).toArray w/\∃ w',(storeCells ⟨b,0,none⟩ (l.map (Value.int .i64))).run P w=.ok () w' /\St W0 w' (ps.set k (.row (Sv (some ⟨b,0,none⟩) nn c) e 1 nn ((l++L.drop l.length).map (Value.int .i64)))) Γ:=by
 have hL:=H.rowLen k hp
 simp only [List.length_map,Nat.mul_one] at hL
 obtain ⟨⟨a',cap,hc,hl,h⟩,hfr⟩:=H.get j hf
 simp only [List.cons.injEq,Value.slice.injEq,and_true] at hc
 obtain ⟨rfl,rfl,rfl⟩:=hc
 obtain ⟨w',hr,H'⟩:=H.rowSet k hp 0 (l.map (Value.int .i64)) qy (by simp;intro a _;rfl) (P:=P)
 refine ⟨rfl,?_,w',hr,?_⟩
 ·rcases h with ⟨rfl,ha⟩ | ⟨b',off',F',vs,rfl,rfl,hbl,hr',hcells⟩
  ·cases a with
   | none=>simp [Builtin.firstCells]
   | some A=>exact run_firstCells_some (P:=P) w 1 _ A _ _ [] qm qm
  ·obtain ⟨_,rfl⟩:=reps_ints hr'
   exact run_firstCells_some (P:=P) w 1 _ _ _ _ _ qm fun j v hj=>by rw [Addr.add_mid];exact hcells j v hj
 ·simpa [List.map_append,List.map_drop] using H'
theorem o_copyI [Dfr] {z:Value} {by':Nat} (H:St W0 w ps Γ) (k:Nat) (hp:ps[k]? =some (.row (Sv (some ⟨b,0,none⟩) nn c) e 1 nn (L.map (Value.int .i64)))) (j:Nat) (hf:Γ[j]? =some (isF fr F (Sv a m c2) l))
 (hu:P.underlying t=some (.slice e)) (he:TI P e z 1 by') (hx:ev n ρ x=Sv (some ⟨b,0,none⟩) nn c) (hy:ev n ρ y=Sv a m c2) (hm:m<=nn)
 (kk:∀ w',St W0 w' (ps.set k (.row (Sv (some ⟨b,0,none⟩) nn c) e 1 nn ((l++L.drop l.length).map (Value.int .i64)))) Γ->K (upd ρ d (.int .i64 m)) w'):
 OW P Q ⟨some d,.call ⟨.builtin .copy,#[x,y],#[t,u]⟩,ty,pos,af,none⟩ n ρ w K:=by
 obtain ⟨i',hi,hz1,hz2,hz3⟩:=info_parts he
 have hz:i'.size=1:=by first | exact hz1 | exact hz2 | exact hz3
 obtain ⟨hml,hfc,w',hr,H'⟩:=copy_row (P:=P) (e' :=e) H k hp j hf hm
 have hmin:Nat.min m nn=m:=Nat.min_eq_left hm
 refine XU (.int .i64 m) ?_ (kk w' H')
 simp [execOp,resolve,invoke,builtin,hx,hy,Builtin.copy_,run_underlying hu,sizeOf,typeInfo,hi,hz,Builtin.lenOf,hmin,hfc,hr,goInt]
end
end
section
@[irreducible] def LQ (P : Program) (o : Oper) (Q : Exit -> Act -> World -> Prop) (a : Act) (w : World) : Prop := o.wp P a w (fun a w => Q .normal a w) Q
def lateQ (P:Program) (o:Oper) (Q:Exit->Act->World->Prop):Exit->Act->World->Prop
 | .normal,a,w=>LQ P o Q a w
 | e,a,w=>Q e a w
def aft (l:List Oper) (i:Nat):List Edge:=match l[i]? with | some o=>o.after.toList | none=>[]
def lateOk (l:List Oper) (o:Oper):Bool:=
 o.guard.isNone && ((List.range (l.length+1)).all fun i=>(aft (l++[o]) i).all fun e=> !Region.binds .any e || Nat.blt e.on i) &&
 ((List.range l.length).all fun i=>(List.range (l.length+1)).any fun j=>Nat.blt i j && (aft (l++[o]) j).any fun e=>Region.binds .any e && Nat.beq e.on i)
section
variable {P : Program} {Q : Exit -> Act -> World -> Prop} {l : List Oper} {o : Oper}
structure LateP (l:List Oper) (o:Oper):Prop where
 gd:o.guard=none
 back:∀ i e,i<=l.length->e∈aft (l++[o]) i->Region.binds .any e=true->e.on < i
 wait:∀ i,i < l.length->∃ j e,i < j/\j<=l.length/\e∈aft (l++[o]) j/\Region.binds .any e=true/\e.on=i
theorem lateP (h:lateOk l o=true):LateP l o:=by
 simp only [lateOk,Bool.and_eq_true,List.all_eq_true,List.any_eq_true,List.mem_range,Bool.or_eq_true,Bool.not_eq_true'] at h
 obtain ⟨⟨h1,h2⟩,h3⟩:=h
 refine ⟨Option.isNone_iff_eq_none.1 h1,fun i e hi he hb=>?_,fun i hi=>?_⟩
 ·rcases h2 i qf e he with h | h
  ·rw [hb] at h;cases h
  ·exact Nat.le_of_ble_eq_true h
 ·obtain ⟨j,hj,hij,e,he,hb,ho⟩:=h3 i hi
  exact ⟨j,e,Nat.le_of_ble_eq_true hij,by omega,he,hb,Nat.eq_of_beq_eq_true ho⟩
theorem Q3 {ops:Array Oper}:i∈Region.ready .any ops listed<->listed.getD i true=false/\∃ o,ops[i]? =some o/\∀ e∈o.after,Region.binds .any e=true->listed.getD e.on false=true:=mem_ready
def Closed (l:List Oper) (listed:Array Bool):Prop:=∀ i,i < l.length->listed.getD i false=true->∀ e∈aft l i,Region.binds .any e=true->listed.getD e.on false=true
theorem aft_left (h:i < l.length):aft (l++[o]) i=aft l i:=by unfold aft;rw [List.getElem?_append_left h]
theorem aft_last:aft (l++[o]) l.length=o.after.toList:=by unfold aft;simp
theorem late_all (p:LateP l o) (hc:Closed l listed) (hr:∀ e∈o.after,Region.binds .any e=true->listed.getD e.on false=true):∀ k i,l.length - i=k->i < l.length->listed.getD i false=true:=by
 intro k
 induction k using Nat.strongRecOn with
 | _ k ih=>
  intro i hk hi
  obtain ⟨j,e,hij,hj,he,hb,rfl⟩:=p.wait i hi
  by_cases hjl:j=l.length
  ·subst hjl
   rw [aft_last] at he
   exact hr e (by simpa using he) hb
  ·have hjl:j < l.length:=by omega
   rw [aft_left hjl] at he
   exact hc j hjl (ih (l.length - j) qf j rfl hjl) e he hb
theorem none_all (p:LateP l o) (hs:listed.size=l.length) (hr:Region.ready .any l.toArray listed=[]):∀ i,i < l.length->listed.getD i false=true:=by
 intro i
 induction i using Nat.strongRecOn with
 | _ i ih=>
  intro hi
  by_cases h:listed.getD i false=true
  ·exact h
  ·exfalso
   have hm:i∈Region.ready .any l.toArray listed:=Q3.2 ⟨by
    simp only [Array.getD_eq_getD_getElem?] at h ⊢
    rw [Array.getElem?_eq_getElem qf] at h ⊢
    simpa using h,l[i],by simp [hi],fun e he hb=>by
     have h1:=p.back i e qf (by rw [aft_left hi];unfold aft;rw [List.getElem?_eq_getElem hi];simpa using he) hb
     exact ih e.on h1 qf⟩
   rw [hr] at hm;cases hm
theorem getD_push {a:Array Bool} (d:Bool) (h:i < a.size):(a.push false).getD i d=a.getD i d:=by
 simp [Array.getD_eq_getD_getElem?,Array.getElem?_push_lt h,Array.getElem?_eq_getElem h]
theorem ready_push (hs:listed.size=l.length) (p:LateP l o) (hi:i < l.length):i∈Region.ready .any (l++[o]).toArray (listed.push false)<->i∈Region.ready .any l.toArray listed:=by
 rw [Q3,Q3,getD_push true qf]
 have e1:(l++[o]).toArray[i]? =l.toArray[i]? :=by simp [List.getElem?_append_left hi]
 rw [e1]
 refine and_congr Iff.rfl (exists_congr fun q=>and_congr_right fun hq=>forall_congr' fun e=>forall_congr' fun he=>forall_congr' fun hb=>?_)
 have h1:=p.back i e qf (by rw [aft_left hi];unfold aft;rw [show l[i]? =some q by simpa using hq];simpa using he) hb
 rw [getD_push false qf]
theorem yield_push {tmps:Array Value} {j:Nat} (hj:j < l.length):yielded (l++[o]).toArray tmps j=yielded l.toArray tmps j:=by
 unfold yielded
 rw [show (l++[o]).toArray[j]? =l.toArray[j]? by simp [List.getElem?_append_left hj]]
theorem lets_late:LetsOut (lateQ P o Q)->LetsOut Q:=fun ⟨a,w,h⟩=>⟨a,w,h⟩
theorem wp_Q {Q' :Exit->Act->World->Prop} (hq:∀ c a w,Q' (.panic c) a w->Q (.panic c) a w) (ho:∀ a w,Q' .outgrown a w->Q .outgrown a w) {q:Oper} {a:Act} {K:Act->World->Prop} (h:q.wp P a w K Q'):q.wp P a w K Q:=by
 have hl:LetsOut Q' ->LetsOut Q:=fun ⟨a,w,h⟩=>⟨a,w,ho a w h⟩
 unfold Oper.wp at *
 generalize (execOp a.eval q).run P w=r at *
 cases r with
 | ok n w' =>
  cases n <;> simp only [Oper.upon] at h ⊢ <;>
   first
    | exact h
    | exact Calls.mono h (fun e w'' he=>by cases e <;> first | exact he | exact hq _ _ _ he | exact hl he)
 | halt x w' =>cases x <;> simp only [Oper.upon] at h ⊢ <;> first | exact h | exact hq _ _ _ h
theorem wp_late {q:Oper} {a:Act} {K:Act->World->Prop} (h:q.wp P a w K (lateQ P o Q)):q.wp P a w K Q:=wp_Q (fun _ _ _ h=>h) (fun _ _ h=>h) h
theorem wpAny_late (p:LateP l o) (hg:∀ (i:Nat) (q:Oper) (j:Nat) (b:Bool),l[i]? =some q->q.guard=some (j,b)->j < l.length):∀ (fuel:Nat) (listed:Array Bool) (a:Act) (w:World),listed.size=l.length->Closed l listed→
 wpAny P .any l.toArray (lateQ P o Q) fuel listed a w->wpAny P .any (l++[o]).toArray Q (fuel+1) (listed.push false) a w:=by
 have last:∀ (fuel:Nat) (listed:Array Bool) (a:Act) (w:World),listed.size=l.length->(∀ i,i < l.length->listed.getD i false=true)->lateQ P o Q .normal a w->wpAny P .any (l++[o]).toArray Q (fuel+1) (listed.push false) a w:=by
  intro fuel listed a w hs hall hq
  have hm:l.length∈Region.ready .any (l++[o]).toArray (listed.push false):=Q3.2 ⟨by rw [← hs];simp [Array.getD_eq_getD_getElem?],o,by simp,fun e he hb=>by
   have h1:=p.back l.length e (Nat.le_refl _) (by rw [aft_last];simpa using he) hb
   rw [getD_push false qf];exact hall _ h1⟩
  have honly:∀ i∈Region.ready .any (l++[o]).toArray (listed.push false),i=l.length:=fun i hi=>by
   obtain ⟨h1,q,h2,_⟩:=Q3.1 hi
   have hlt:i < (l++[o]).length:=by have:=(Array.getElem?_eq_some_iff.1 h2).1;simpa using this
   rw [List.length_append,List.length_singleton] at hlt
   by_cases e:i=l.length
   ·exact e
   ·rw [getD_push true qf] at h1
    have h3:=hall i qf
    simp only [Array.getD_eq_getD_getElem?] at h1 h3
    rw [Array.getElem?_eq_getElem qf] at h1 h3
    simp only [Option.getD_some] at h1 h3
    rw [h1] at h3;cases h3
  refine ⟨fun h=>(by rw [h] at hm;cases hm),fun i hi=>?_⟩
  obtain rfl:=honly i hi
  have hdone:Region.ready .any (l++[o]).toArray ((listed.push false).setIfInBounds l.length true)=[]:=List.eq_nil_iff_forall_not_mem.2 fun i hi=>by
   obtain ⟨h1,q,h2,_⟩:=Q3.1 hi
   have hlt:i < (l++[o]).length:=by have:=(Array.getElem?_eq_some_iff.1 h2).1;simpa using this
   rw [List.length_append,List.length_singleton] at hlt
   by_cases e:i=l.length
   ·subst e
    simp [Array.getD_eq_getD_getElem?,hs] at h1
   ·have h3:=hall i qf
    simp only [Array.getD_eq_getD_getElem?] at h1 h3
    rw [Array.getElem?_setIfInBounds_ne (Ne.symm e),Array.getElem?_push_lt qf] at h1
    rw [Array.getElem?_eq_getElem qf] at h3
    simp only [Option.getD_some] at h1 h3
    rw [h1] at h3;cases h3
  unfold wpOp
  rw [show (l++[o]).toArray[l.length]? =some o by simp]
  simp only [Region.wanted,p.gd,if_true]
  have hq:LQ P o Q a w:=hq
  unfold LQ at hq
  refine .inl (Oper.wp_mono (fun a' w' h=>?_) hq)
  cases fuel with
  | zero=>exact ⟨hdone,h⟩
  | succ f=>exact ⟨fun _=>h,by rw [hdone];exact fun i hi=>by cases hi⟩
 intro fuel
 induction fuel with
 | zero=>intro listed a w hs hc h;exact last 0 listed a w hs (none_all p hs h.1) h.2
 | succ fuel ih=>
  intro listed a w hs hc h
  by_cases hr:Region.ready .any l.toArray listed=[]
  ·exact last (fuel+1) listed a w hs (none_all p hs hr) (h.1 hr)
  ·have hnl:l.length∉Region.ready .any (l++[o]).toArray (listed.push false):=fun hm=>by
    obtain ⟨_,q,h2,h3⟩:=Q3.1 hm
    obtain rfl:o=q:=by simpa using h2
    have hall:=late_all p hc (fun e he hb=>by
     have h1:=p.back l.length e (Nat.le_refl _) (by rw [aft_last];simpa using he) hb
     have h4:=h3 e he hb
     rwa [getD_push false qf] at h4)
    apply hr
    refine List.eq_nil_iff_forall_not_mem.2 fun i hi=>?_
    obtain ⟨h5,q,h6,_⟩:=Q3.1 hi
    have hlt:i < l.length:=by have:=(Array.getElem?_eq_some_iff.1 h6).1;simpa using this
    have h7:=hall (l.length - i) i rfl hlt
    simp only [Array.getD_eq_getD_getElem?] at h5 h7
    rw [Array.getElem?_eq_getElem qf] at h5 h7
    simp only [Option.getD_some] at h5 h7
    rw [h5] at h7;cases h7
   have hin:∀ i∈Region.ready .any (l++[o]).toArray (listed.push false),i < l.length:=fun i hi=>by
    obtain ⟨_,q,h2,_⟩:=Q3.1 hi
    have hlt:i < (l++[o]).length:=by have:=(Array.getElem?_eq_some_iff.1 h2).1;simpa using this
    rw [List.length_append,List.length_singleton] at hlt
    by_cases e:i=l.length
    ·subst e;exact absurd hi hnl
    ·omega
   refine ⟨fun h0=>absurd (List.eq_nil_iff_forall_not_mem.2 fun i hi=>?_) hr,fun i hi=>?_⟩
   ·have hlt:i < l.length:=by
     obtain ⟨_,q,h2,_⟩:=Q3.1 hi
     have:=(Array.getElem?_eq_some_iff.1 h2).1;simpa using this
    have:=(ready_push hs p hlt).2 hi
    rw [h0] at this;cases this
   ·have hlt:=hin i hi
    have hi0:=(ready_push hs p hlt).1 hi
    have h2:=h.2 i hi0
    obtain ⟨_,q,h3,h4⟩:=Q3.1 hi0
    have h3' :l[i]? =some q:=by simpa using h3
    unfold wpOp at h2 ⊢
    rw [show (l++[o]).toArray[i]? =some q by simp [List.getElem?_append_left hlt,h3']]
    rw [h3] at h2
    simp only at h2 ⊢
    have hw:Region.wanted q (yielded (l++[o]).toArray a.tmps)=Region.wanted q (yielded l.toArray a.tmps):=by
     unfold Region.wanted
     split
     ·rfl
     ·rename_i j b hgd
      rw [yield_push (hg i q j b h3' hgd)]
    have hc' :Closed l (listed.setIfInBounds i true):=fun j hj hlj e he hb=>by
     have hset:∀ x,listed.getD x false=true->(listed.setIfInBounds i true).getD x false=true:=fun x hx=>by
      simp only [Array.getD_eq_getD_getElem?,Array.getElem?_setIfInBounds] at hx ⊢
      split
      ·rename_i e;subst e;split <;> simp_all
      ·exact hx
     by_cases hji:j=i
     ·subst hji
      exact hset _ (h4 e (by have he' :=he;unfold aft at he';rw [h3'] at he';simpa using he') hb)
     ·refine hset _ (hc j hj ?_ e he hb)
      simp only [Array.getD_eq_getD_getElem?,Array.getElem?_setIfInBounds_ne (Ne.symm hji)] at hlj ⊢
      exact hlj
    have step:∀ a' w',wpAny P .any l.toArray (lateQ P o Q) fuel (listed.setIfInBounds i true) a' w' ->wpAny P .any (l++[o]).toArray Q (fuel+1) ((listed.push false).setIfInBounds i true) a' w' :=fun a' w' h5=>by
     have h6:=ih (listed.setIfInBounds i true) a' w' (by simp [hs]) hc' h5
     have e1:(listed.push false).setIfInBounds i true=(listed.setIfInBounds i true).push false:=by
      apply Array.ext_getElem?
      intro x
      simp only [Array.getElem?_setIfInBounds,Array.getElem?_push,Array.size_push,Array.size_setIfInBounds]
      by_cases hx:i=x
      ·subst hx
       have:i < listed.size:=by omega
       simp [show i < listed.size+1 by omega,this,Nat.ne_of_lt this]
      ·simp [hx]
     rw [e1];exact h6
    rw [hw]
    split
    ·rename_i hwt
     rw [if_pos hwt] at h2
     rcases h2 with h2 | ⟨h2,h5⟩
     ·exact .inl (Oper.wp_mono step (wp_late h2))
     ·exact .inr ⟨h2,lets_late h5⟩
    ·rename_i hwt
     rw [if_neg hwt] at h2
     exact step _ _ h2
end
theorem wpAnyH_Q {P:Program} {Q Q' :Exit->Act->World->Prop} {S:World->Prop} (hq:∀ e a w,Q' e a w->Q e a w) {ops:Array Oper}:∀ (fuel:Nat) (listed:Array Bool) (a:Act) (w:World),wpAnyH P .any ops Q' S fuel listed a w->wpAnyH P .any ops Q S fuel listed a w
 | 0,_,_,_,h=>⟨h.1,hq _ _ _ h.2⟩
 | fuel+1,listed,a,w,h=>⟨fun h0=>hq _ _ _ (h.1 h0),fun i hi=>by
  have h2:=h.2 i hi
  have h3:=wpOp_mono (fun a' w' (h' :S w' /\_)=>(⟨h'.1,wpAnyH_Q hq fuel (listed.setIfInBounds i true) a' w' h'.2⟩:S w' /\wpAnyH P .any ops Q S fuel (listed.setIfInBounds i true) a' w')) h2
  unfold wpOp at h3 ⊢
  split
  ·simp_all
  ·rename_i q hq2
   rw [hq2] at h3
   simp only at h3
   split
   ·rename_i hw
    rw [if_pos hw] at h3
    rcases h3 with h3 | ⟨h3,a',w',h4⟩
    ·exact .inl (wp_Q (fun _ _ _=>hq _ _ _) (fun _ _=>hq _ _ _) h3)
    ·exact .inr ⟨h3,a',w',hq _ _ _ h4⟩
   ·rename_i hw
    rw [if_neg hw] at h3
    exact h3⟩
def gdOk (l:List Oper):Bool:=l.all fun q=>match q.guard with | some (j,_)=>Nat.blt j l.length | none=>true
section
variable {P : Program} {Q : Exit -> Act -> World -> Prop} {n : Nat} {ρ : Env} {W0 w : World} {ps : List Prv} {Γ : List Fact} {l : List Oper}
def Xw {α:Type}:List α->List α
 | []=>[]
 | [_]=>[]
 | a::b::l=>a::Xw (b::l)
theorem c_late [Dfr] {L:List Oper} {o:Oper} (S:World->Prop) (hm:P.follows .mixedOrders=true) (hS:S w.drew)
 (h:RW P (Xw L) (lateQ P o Q) S n (Xw L).toArray.size (Array.replicate (Xw L).toArray.size false) ρ w.drew) (hL:L=Xw L++[o]) (hk:lateOk (Xw L) o=true) (hg:gdOk (Xw L)=true):(Code.region id L.toArray true).wp P Q (mk n ρ) w:=by
 refine wp_region_any hm ?_
 unfold RW at h
 have h1:=wpAny_late (lateP hk) (fun i q j b hi hgd=>by
  have:=List.all_eq_true.1 hg q (List.mem_of_getElem? hi)
  rw [hgd] at this
  exact Nat.le_of_ble_eq_true this) _ (Array.replicate (Xw L).toArray.size false) _ _ qm (fun i hi hl=>by simp [Array.getD_eq_getD_getElem?,hi] at hl) (wpAny_of_held _ _ _ _ h)
 have e1:(Array.replicate (Xw L).toArray.size false).push false=Array.replicate (Xw L++[o]).toArray.size false:=by simp [Array.replicate_succ]
 have e2:L.toArray.size=(Xw L).toArray.size+1:=by
  have:=congrArg List.length hL
  simpa using this
 rw [e1,← hL] at h1
 rw [e2] at h1 ⊢
 exact h1
theorem c_lateK [Dfr] {id:Nat} {L:List Oper} {o:Oper} (hm:P.follows .mixedOrders=true) (H:St W0 w ps Γ) (is js:yLN)
 (k:St W0 w.drew ps Γ->RW P (Xw L) (lateQ P o Q) (fun w=>St W0 w (is.filterMap fun i=>ps[i]?) (js.filterMap fun i=>Γ[i]?)) n (Xw L).toArray.size (Array.replicate (Xw L).toArray.size false) ρ w.drew)
 (hL:L=Xw L++[o]:=by exact rfl) (hk:lateOk (Xw L) o=true:=by kernel_rfl) (hg:gdOk (Xw L)=true:=by kernel_rfl)
 (hi:is.all (fun i=>Nat.blt i ps.length)=true:=by simp) (hj:js.all (fun i=>Nat.blt i Γ.length)=true:=by simp) (hd:is.Nodup:=by decide):(Code.region id L.toArray true).wp P Q (mk n ρ) w:=by
 have H' :=H.ext (ext_drew _)
 exact c_late (fun w=>St W0 w (is.filterMap fun i=>ps[i]?) (js.filterMap fun i=>Γ[i]?)) hm (H'.pick is js (Xr ps is hi) (Xr Γ js hj) hd) (k H') hL hk hg
theorem c_lateC [Dfr] {id:Nat} {L:List Oper} {op:Op} {af:Array Edge} (A:Env->World->Prop) (hm:P.follows .mixedOrders=true) (H:St W0 w ps Γ) (is js:yLN)
 (k:St W0 w.drew ps Γ->RW P (Xw L) (Meet A n) (fun w=>St W0 w (is.filterMap fun i=>ps[i]?) (js.filterMap fun i=>Γ[i]?)) n (Xw L).toArray.size (Array.replicate (Xw L).toArray.size false) ρ w.drew)
 (h2:∀ ρ w,A ρ w->OW P Q ⟨d,op,ty,pos,af,none⟩ n ρ w fun ρ w=>Q .normal (mk n ρ) w)
 (hL:L=Xw L++[⟨d,op,ty,pos,af,none⟩]:=by exact rfl) (hk:lateOk (Xw L) ⟨d,op,ty,pos,af,none⟩=true:=by kernel_rfl) (hg:gdOk (Xw L)=true:=by kernel_rfl)
 (hi:is.all (fun i=>Nat.blt i ps.length)=true:=by simp) (hj:js.all (fun i=>Nat.blt i Γ.length)=true:=by simp) (hd:is.Nodup:=by decide):(Code.region id L.toArray true).wp P Q (mk n ρ) w:=by
 have H' :=H.ext (ext_drew _)
 have h:=k H'
 refine c_late (fun w=>St W0 w (is.filterMap fun i=>ps[i]?) (js.filterMap fun i=>Γ[i]?)) hm (H'.pick is js (Xr ps is hi) (Xr Γ js hj) hd) ?_ hL hk hg
 unfold RW at h ⊢
 refine wpAnyH_Q (fun e a w h=>?_) _ _ _ _ h
 cases e with
 | normal=>
  obtain ⟨ρ,rfl,hA⟩:=h
  have:=h2 ρ w hA
  show LQ _ _ _ _ _
  unfold OW at this
  unfold LQ
  exact this (fun a w=>Q .normal a w) fun _ _ h=>h
 | exit _=>exact h.elim
 | goto _=>exact h.elim
 | ret=>exact h.elim
 | panic _=>exact h.elim
 | outgrown=>exact h.elim
theorem late_end [Dfr] {op:Op} {af:Array Edge} (h:OW P Q ⟨d,op,ty,pos,af,none⟩ n ρ w fun ρ w=>Q .normal (mk n ρ) w):lateQ P ⟨d,op,ty,pos,af,none⟩ Q .normal (mk n ρ) w:=by
 show LQ _ _ _ _ _
 unfold OW at h
 unfold LQ
 exact h (fun a w=>Q .normal a w) fun _ _ h=>h
end
end
section
variable {bp op cpOrders : Nat}
theorem l05Ok_ok (w:World) (p:zF) (hp:vg w bp op [yI p.qA,Sv apOrders p.qB.length cpOrders]) (hpOrders:zP w FpOrders apOrders cpOrders p.qB):Calls Tryz.prog 47 #[pp bp op] w (Ret (fun v w' =>v=Bv (dec (yw p))) w):=by
 refine en func47 ntmps47 ?_
 have H:=((St.start w).arg hpOrders).Q7 hp
 have nhpOrders:=qO hpOrders
 clear hp hpOrders
 have N:=Fresh.nil w.heap.size
 refine zcr (sp (Bv false) (zjc (sq 2 (oF rfl (oL rfl (H.xW 0 rfl 1 rfl) (oN rfl (sq 1 (zjcc (sq 2 (oF rfl (oL rfl (H.xW 0 rfl 0 rfl) (sw (oq (QN w p.qA 1 3) H fun w1 H=>sp (Bv (!(inR p.qA 1 3))) (sp (Bv (!(inR p.qA 1 3))) ?_))))))))))))))
 cases h3:(!(inR p.qA 1 3))
 ·replace h3:=qY h3
  replace h3:=jL.1 h3
  refine qJ 17 rfl rfl (sq 1 (qJ 17 rfl rfl (sw (oq (QN w1 p.qB.length 1 6) H fun w4 H=>qJ 17 rfl rfl (sq 2 (zjn (zT _ rfl (fun h6=>?_) (fun h6=>?_))))))))
  ·replace h6:=xm h6
   replace h6:=yu h6
   refine zcr (sp (Bv false) (zjr (t_r (rH1 (Bv false) H ?_))))
   rw [xh (fun h=>by obtain ⟨h1,h2,h3⟩:=h;first | omega | (obtain ⟨q1,q2,q3,q4,q5⟩:=h3 i qf;first | contradiction | omega | (have:=q5 qf;omega)))]
  replace h6:=qY h6
  replace h6:=jL.1 h6
  refine qU (t_n (zcc (sp (yI 0) (zjn (qV ?_)))))
  refine zA ((fun Z0 Z1=>fun m' ρ w7=>∃ (xQ:Env) (i:Nat),ρ=upd (upd (upd xQ 0 (pp bp op)) 3 (yI p.qB.length)) 4 (yI i)/\((i:Int)<=p.qB.length)/\(OrdersTo p i)/\m' =(p.qB.length - (i:Int)).toNat/\Fresh w.heap.size []/\St w w7 [] [Z0,Z1]) _ _) ((p.qB.length - (0:Int)).toNat) ⟨_,0,uE3,qf,qx,rfl,N,H⟩ ?_
  clear H N
  rintro m' ρ w8 ⟨xQ,i,rfl,i0,i1,rfl,N,H⟩
  refine zcc (sp (yI i) (sq 2 (zjn (cD rfl (fun h9=>?_) (fun h9=>?_)))))
  ·refine qU (t_n (xU (qV (zcr (sq 2 (oF rfl (oL rfl (H.xW 0 rfl 1 rfl) (sp (yI i) ?_))))))))
   obtain ⟨b10,o11,rfl⟩:=H.addr 1 rfl qf
   obtain ⟨_,H⟩:=H.Xb 1 rfl i i qf qf qf
   refine oI rfl rfl (sw (x8 [yI ((p.qB[i]!).fOp),yI ((p.qB[i]!).zn),yI ((p.qB[i]!).fTo),yI ((p.qB[i]!).zf)] isAgg109 sizeOf109 rfl (qF (H.get 0 rfl) 0 4) (sw (xH H ti109 [yI 0,yI 0,yI 0,yI 0] fun b14 w15 H=>sw (xY H 0 [yI ((p.qB[i]!).fOp),yI ((p.qB[i]!).zn),yI ((p.qB[i]!).fTo),yI ((p.qB[i]!).zf)] sizeOf109 fun w16 H=>zjn (xU (xU ?_)))))))
   refine jw rfl H fun H=>tF 0 rfl rfl H ?_
   refine tL 1 rfl rfl (fun _ h=>h.cell 0 rfl rfl) H ?_
   refine ro 2 rfl (oq (QN w16.drew ((p.qB[i]!).fOp) 1 3) H fun w18 H=>⟨H,(rtp 3 (Bv (!(inR ((p.qB[i]!).fOp) 1 3))) H ?_)⟩)
   refine rtp 4 (Bv (!(inR ((p.qB[i]!).fOp) 1 3))) H ?_
   cases h20:(!(inR ((p.qB[i]!).fOp) 1 3))
   ·replace h20:=qY h20
    replace h20:=jL.1 h20
    refine gF 5 rfl rfl H ?_
    refine gL 6 rfl rfl (fun _ h=>h.cell 0 rfl rfl) H ?_
    refine rgl 7 38 H ?_
    refine rgl 8 38 H ?_
    refine gF 9 rfl rfl H ?_
    refine gL 10 rfl rfl (fun _ h=>h.xW 1 rfl 0 rfl) H ?_
    refine rg 11 _ 38 (y_sub p.qA 1 rfl rfl qf) H ?_
    refine jb [12] qh qm (XI rfl (e:=38) rfl rfl (oq (QN w18 ((p.qB[i]!).zn) 0 (p.qA - 1)) H fun w21 H=>⟨H,(rgp 13 (Bv (!(inR ((p.qB[i]!).zn) 0 (p.qA - 1)))) 38 H ?_)⟩) jd)
    refine rtp 14 (Bv (!(inR ((p.qB[i]!).zn) 0 (p.qA - 1)))) H ?_
    refine rtp 15 (Bv (!(inR ((p.qB[i]!).zn) 0 (p.qA - 1)))) H ?_
    cases h23:(!(inR ((p.qB[i]!).zn) 0 (p.qA - 1)))
    ·replace h23:=qY h23
     replace h23:=jL.1 h23
     refine gF 16 rfl rfl H ?_
     refine gL 17 rfl rfl (fun _ h=>h.cell 0 rfl rfl) H ?_
     refine rgl 18 49 H ?_
     refine jb [19] qh qm (XI rfl (e:=49) rfl rfl (oq (QN w21 ((p.qB[i]!).fTo) 0 p.qB.length) H fun w24 H=>⟨H,(rgp 20 (Bv (!(inR ((p.qB[i]!).fTo) 0 p.qB.length))) 49 H ?_)⟩) jd)
     refine rtp 21 (Bv (!(inR ((p.qB[i]!).fTo) 0 p.qB.length))) H ?_
     refine rtp 22 (Bv (!(inR ((p.qB[i]!).fTo) 0 p.qB.length))) H ?_
     cases h26:(!(inR ((p.qB[i]!).fTo) 0 p.qB.length))
     ·replace h26:=qY h26
      replace h26:=jL.1 h26
      refine gF 23 rfl rfl H ?_
      refine gL 24 rfl rfl (fun _ h=>h.cell 0 rfl rfl) H ?_
      refine rgl 25 56 H ?_
      refine jb [26] qh qm (XI rfl (e:=56) rfl rfl (oq (QN w24 ((p.qB[i]!).zf) 0 p.qB.length) H fun w27 H=>⟨H,(rgl 27 56 H ?_)⟩) jd)
      refine rtl 28 H ?_
      refine xA qh (t_n (zT _ rfl (fun h29=>?_) (fun h29=>?_)))
      ·replace h29:=xm h29
       replace h29:=yu h29
       refine zcr (sp (Bv false) (zjr (t_r (zr5 (rH1 (Bv false) H ?_)))))
       rw [xh (fun h=>by obtain ⟨h1,h2,h3⟩:=h;first | omega | (obtain ⟨q1,q2,q3,q4,q5⟩:=h3 i qf;first | contradiction | omega | (have:=q5 qf;omega)))]
      replace h29:=qY h29
      replace h29:=jL.1 h29
      refine qU (t_n (zcr (oF rfl (oL rfl (H.cell 0 rfl rfl) (sp (Bv (((p.qB[i]!).fOp:Int) == 3)) (sp (Bv (((p.qB[i]!).fOp:Int) == 3)) ?_))))))
      cases h30:(((p.qB[i]!).fOp:Int) == 3)
      ·replace h30:=ne_of_beq_false h30
       refine xR (zR 67 13) (sp (Bv false) (zjn (cFr rfl (qU (b_n (t_n (xK (sp (yI i) (sw (zi i 1 rfl rfl qf (sq 1 (xP (qW (m' :=(p.qB.length - ((i+1):Int)).toNat) qf ⟨_,i+1,uE3,?_,?_,rfl,N,H.pick [] [1,2]⟩)))))))))))))
       ·omega
       ·exact i1.succ ⟨by assumption,by assumption,by assumption,by assumption,by omega⟩
      replace h30:=eq_of_beq h30
      refine qJ 66 rfl rfl (oF rfl (qJ 66 rfl rfl (oL rfl (H.cell 0 rfl rfl) (qJ 66 rfl rfl (sp (Bv (((p.qB[i]!).zn:Int) != 0)) (qJ 66 rfl rfl (sp (Bv (((p.qB[i]!).zn:Int) != 0)) ?_)))))))
      cases h31:(((p.qB[i]!).zn:Int) != 0)
      ·replace h31:=xu h31
       refine qJ 70 rfl rfl (oF rfl (qJ 70 rfl rfl (oL rfl (H.cell 0 rfl rfl) (qJ 70 rfl rfl (sp (Bv (((p.qB[i]!).fTo:Int) != 0)) (qJ 66 rfl rfl (sp (Bv (((p.qB[i]!).fTo:Int) != 0)) (qJ 66 rfl rfl (sp (Bv (((p.qB[i]!).fTo:Int) != 0)) ?_)))))))))
       cases h32:(((p.qB[i]!).fTo:Int) != 0)
       ·replace h32:=xu h32
        refine qJ 75 rfl rfl (oF rfl (qJ 75 rfl rfl (oL rfl (H.cell 0 rfl rfl) (qJ 75 rfl rfl (sp (Bv (((p.qB[i]!).zf:Int) != 0)) (qJ 66 rfl rfl (sp (Bv (((p.qB[i]!).zf:Int) != 0)) (sp (Bv (((p.qB[i]!).zf:Int) != 0)) (zjn (zT (((p.qB[i]!).zf:Int) != 0) rfl (fun h33=>?_) (fun h33=>?_)))))))))))
        ·replace h33:=bne_iff_ne.1 h33
         refine zcr (sp (Bv false) (zjr (zr5 (rH1 (Bv false) H ?_))))
         rw [xh (fun h=>by obtain ⟨h1,h2,h3⟩:=h;first | omega | (obtain ⟨q1,q2,q3,q4,q5⟩:=h3 i qf;first | contradiction | omega | (have:=q5 qf;omega)))]
        replace h33:=xu h33
        refine qU (b_n (t_n (xK (sp (yI i) (sw (zi i 1 rfl rfl qf (sq 1 (xP (qW (m' :=(p.qB.length - ((i+1):Int)).toNat) qf ⟨_,i+1,uE3,?_,?_,rfl,N,H.pick [] [1,2]⟩)))))))))
        ·omega
        ·exact i1.succ ⟨by assumption,by assumption,by assumption,by assumption,by omega⟩
       replace h32:=bne_iff_ne.1 h32
       refine xR [76,77,78] (qJ 66 rfl rfl (sp (Bv true) (sp (Bv true) (zjn (cTr rfl (zcr (sp (Bv false) (zjr (zr5 (rH1 (Bv false) H ?_))))))))))
       rw [xh (fun h=>by obtain ⟨h1,h2,h3⟩:=h;first | omega | (obtain ⟨q1,q2,q3,q4,q5⟩:=h3 i qf;first | contradiction | omega | (have:=q5 qf;omega)))]
      replace h31:=bne_iff_ne.1 h31
      refine xR [71,72,73] (qJ 66 rfl rfl (sp (Bv true) (qJ 66 rfl rfl (sp (Bv true) (xR [76,77,78] (qJ 66 rfl rfl (sp (Bv true) (sp (Bv true) (zjn (cTr rfl (zcr (sp (Bv false) (zjr (zr5 (rH1 (Bv false) H ?_)))))))))))))))
      rw [xh (fun h=>by obtain ⟨h1,h2,h3⟩:=h;first | omega | (obtain ⟨q1,q2,q3,q4,q5⟩:=h3 i qf;first | contradiction | omega | (have:=q5 qf;omega)))]
     replace h26:=xm h26
     replace h26:=yu h26
     refine zS (zR 23 5) 5 (H) (rtp 28 (Bv true) H ?_)
     refine xA qh (t_n (cTr rfl (zcr (sp (Bv false) (zjr (t_r (zr5 (rH1 (Bv false) H ?_))))))))
     rw [xh (fun h=>by obtain ⟨h1,h2,h3⟩:=h;first | omega | (obtain ⟨q1,q2,q3,q4,q5⟩:=h3 i qf;first | contradiction | omega | (have:=q5 qf;omega)))]
    replace h23:=xm h23
    replace h23:=yu h23
    refine zS (zR 16 5) 5 (H) (rtp 21 (Bv true) H ?_)
    refine rtp 22 (Bv true) H ?_
    refine zS (zR 23 5) 5 (H) (rtp 28 (Bv true) H ?_)
    refine xA qh (t_n (cTr rfl (zcr (sp (Bv false) (zjr (t_r (zr5 (rH1 (Bv false) H ?_))))))))
    rw [xh (fun h=>by obtain ⟨h1,h2,h3⟩:=h;first | omega | (obtain ⟨q1,q2,q3,q4,q5⟩:=h3 i qf;first | contradiction | omega | (have:=q5 qf;omega)))]
   replace h20:=xm h20
   replace h20:=yu h20
   refine zS (zR 5 9) 9 (H) (rtp 14 (Bv true) H ?_)
   refine rtp 15 (Bv true) H ?_
   refine zS (zR 16 5) 5 (H) (rtp 21 (Bv true) H ?_)
   refine rtp 22 (Bv true) H ?_
   refine zS (zR 23 5) 5 (H) (rtp 28 (Bv true) H ?_)
   refine xA qh (t_n (cTr rfl (zcr (sp (Bv false) (zjr (t_r (zr5 (rH1 (Bv false) H ?_))))))))
   rw [xh (fun h=>by obtain ⟨h1,h2,h3⟩:=h;first | omega | (obtain ⟨q1,q2,q3,q4,q5⟩:=h3 i qf;first | contradiction | omega | (have:=q5 qf;omega)))]
  refine zx4 (zcr (sp (Bv true) (zjr (rH1 (Bv true) H ?_))))
  rw [jS ⟨by omega,by omega,(show p.qB.length=i by omega)▸i1⟩]
 replace h3:=xm h3
 replace h3:=yu h3
 refine xR [18,19,20] (sp (Bv true) (zjn (cTr rfl (zcr (sp (Bv false) (zjr (t_r (rH1 (Bv false) H ?_))))))))
 rw [xh (fun h=>by obtain ⟨h1,h2,h3⟩:=h;first | omega | (obtain ⟨q1,q2,q3,q4,q5⟩:=h3 i qf;first | contradiction | omega | (have:=q5 qf;omega)))]
theorem l06Bag_ok (w:World) (kinds:Int) (l:yLI) {cl:Nat} (hl:zP w Fl al cl l) (p0:1<=kinds/\kinds<=8):Calls Tryz.prog 107 #[yI kinds,Sv al l.length cl] w (Ret (fun v w' =>v=Bv (dec (vk kinds l))) w):=by
 refine en func107 ntmps107 ?_
 have H:=(St.start w).arg hl
 have nhl:=qO hl
 clear hl
 have N:=Fresh.nil w.heap.size
 refine zcr (sp (Bv false) (zjcc (sp (yI 0) (zjn (qV ?_)))))
 refine zA ((fun Z0=>fun m' ρ w1=>∃ (xQ:Env) (i:Nat),ρ=upd (upd (upd xQ 0 (yI kinds)) 1 (Sv al l.length cl)) 5 (yI i)/\((i:Int)<=l.length)/\(Counts l i)/\m' =(l.length - (i:Int)).toNat/\Fresh w.heap.size []/\St w w1 [] [Z0]) _) ((l.length - (0:Int)).toNat) ⟨_,0,uE3,qf,(by exact Counts.zero l),rfl,N,H⟩ ?_
 clear H N
 rintro m' ρ w2 ⟨xQ,i,rfl,i0,i1,rfl,N,H⟩
 refine zcc (sp (yI i) (sq 1 (oN rfl (sq 1 (zjn (cD rfl (fun h3=>?_) (fun h3=>?_)))))))
 ·refine qU (t_n (xU (qV (zcr (sq 1 (sp (yI i) ?_))))))
  obtain ⟨b4,o5,rfl⟩:=H.addr 0 rfl qf
  refine oI rfl rfl (oL rfl (H.zB 0 rfl i qf) (sw (oq (QN w2 (l[i]!) 0 1000) H fun w7 H=>sq 1 (zjn (zT _ rfl (fun h9=>?_) (fun h9=>?_))))))
  ·replace h9:=xm h9
   replace h9:=yu h9
   refine zcr (sp (Bv false) (zjr (zr5 (rH1 (Bv false) H ?_))))
   rw [xh (fun h=>‹¬ (0<=l[i]! /\l[i]! <=1000)› (h.1.1 i qf))]
  replace h9:=qY h9
  replace h9:=jL.1 h9
  refine qU (b_n (t_n (xK (sp (yI i) (sw (zi i 1 rfl rfl qf (sq 1 (xP (qW (m' :=(l.length - ((i+1):Int)).toNat) qf ⟨_,i+1,uE3,?_,?_,rfl,N,H⟩)))))))))
  ·omega
  ·exact i1.succ ‹_›
 refine zx4 (zcr (sq 1 (oN rfl (sq 3 (zjr (rH1 (Bv ((l.length:Int) == kinds)) H ?_))))))
 obtain rfl:i=l.length:=by omega
 refine congrArg Value.bool (dec_eq ?_)
 rw [beq_iff_eq]
 exact ⟨fun h=>⟨⟨i1,by omega,by omega⟩,h⟩,fun h=>h.2⟩
theorem l05Regs_ok (w:World) (p:zF) (regs:yLI) (hp:vg w bp op [yI p.qA,Sv apOrders p.qB.length cpOrders]) (hpOrders:zP w FpOrders apOrders cpOrders p.qB) (hregs:zP w Fregs aregs cregs regs) (p0:yw p):Calls Tryz.prog 48 #[pp bp op,Sv aregs regs.length cregs] w (Ret (fun v w' =>v=Bv (dec (vk p.qA regs))) w):=by
 refine en func48 ntmps48 ?_
 have H:=(((St.start w).arg hregs).arg hpOrders).Q7 hp
 have nhpOrders:=qO hpOrders
 have nhregs:=qO hregs
 clear hp hpOrders hregs
 have N:=Fresh.nil w.heap.size
 have p1:=p0.1
 refine zcr (sp (Bv false) (zjc (sq 2 (oF rfl (oL rfl (H.xW 0 rfl 0 rfl) (sq 1 (sw (oq (l06Bag_ok _ p.qA regs (H.get 2 rfl).1 qf) H fun w2 H=>sq 1 (zjr (rH1 (Bv (dec (vk p.qA regs))) H ?_))))))))))
 rfl
theorem l05Mode_ok (w:World) (m:Int):Calls Tryz.prog 105 #[yI m] w (Ret (fun v w' =>v=Bv (dec (PMode m))) w):=by
 refine en func105 ntmps105 ?_
 have H:=St.start w
 have N:=Fresh.nil w.heap.size
 refine zcr (sp (Bv false) (zjc (sp (yI m) (sw (oq (QN w m 1 3) H fun w1 H=>sq 1 (zjr (rH1 (Bv (inR m 1 3)) H (congrArg Value.bool (dec_eq ?_)))))))))
 rw [jL]
 rfl
theorem l05Waits_ok (w:World) (p:zF) (at_:Int) (hp:vg w bp op [yI p.qA,Sv apOrders p.qB.length cpOrders]) (hpOrders:zP w FpOrders apOrders cpOrders p.qB) (p0:0<=at_/\at_<=(p.qB.length:Int)):Calls Tryz.prog 149 #[pp bp op,yI at_] w (Ret (fun v w' =>v=yI (zg p (at_:Int).toNat)) w):=by
 refine en func149 ntmps149 ?_
 have H:=((St.start w).arg hpOrders).Q7 hp
 have nhpOrders:=qO hpOrders
 clear hp hpOrders
 have N:=Fresh.nil w.heap.size
 refine zcr (sp (yI 0) (zjc (sp (yI 0) (zjcc (sp (yI 0) (zjn (qV ?_)))))))
 refine zA ((fun Z0 Z1=>fun m' ρ w1=>∃ (xQ:Env) (n:Int) (i:Nat),ρ=upd (upd (upd (upd xQ 0 (pp bp op)) 1 (yI at_)) 5 (yI n)) 6 (yI i)/\n=zg p i/\((i:Int)<=at_)/\m' =(at_ - (i:Int)).toNat/\Fresh w.heap.size []/\St w w1 [] [Z0,Z1]) _ _) ((at_ - (0:Int)).toNat) ⟨_,0,0,uE4,(by rfl),qf,rfl,N,H⟩ ?_
 clear H N
 rintro m' ρ w2 ⟨xQ,n,i,rfl,rfl,i0,rfl,N,H⟩
 have hs:=subsTo_le p i
 refine zcc (sp (yI i) (sq 2 (zjn (cD rfl (fun h3=>?_) (fun h3=>?_)))))
 ·refine qU (t_n (xU (qV (zcr (sq 2 (oF rfl (oL rfl (H.xW 0 rfl 1 rfl) (sp (yI i) ?_))))))))
  obtain ⟨b4,o5,rfl⟩:=H.addr 1 rfl qf
  obtain ⟨_,H⟩:=H.Xb 1 rfl i i qf qf qf
  refine oI rfl rfl (oF rfl (oL rfl (H.xW 0 rfl 0 rfl) (sp (Bv (((p.qB[i]!).fOp:Int) == 2)) (zjn (cE rfl (fun h8=>?_) (fun h8=>?_))))))
  ·refine xK (sq 1 (sw (zi (zg p i) 1 rfl rfl qf (sq 1 (xP (b_n (t_n (xK (sp (yI i) (sw (zi i 1 rfl rfl qf (sq 1 (xP (qW (m' :=(at_ - ((i+1):Int)).toNat) qf ⟨_,_,i+1,uE4,?_,?_,rfl,N,H.pick [] [1,2]⟩))))))))))))))
   ·first | exact subs_yes ql | exact subs_no ql
   ·omega
  refine qU (b_n (t_n (xK (sp (yI i) (sw (zi i 1 rfl rfl qf (sq 1 (xP (qW (m' :=(at_ - ((i+1):Int)).toNat) qf ⟨_,_,i+1,uE4,?_,?_,rfl,N,H.pick [] [1,2]⟩)))))))))
  ·first | exact subs_yes ql | exact subs_no ql
  ·omega
 refine zx4 (zcr (sq 2 (zjr (rH1 (yI (zg p i)) H ?_))))
 rw [show (at_:Int).toNat=i by omega]
theorem l05Kinds_ok (w:World) (p:zF) (mode:Int) (hp:vg w bp op [yI p.qA,Sv apOrders p.qB.length cpOrders]) (hpOrders:zP w FpOrders apOrders cpOrders p.qB) (p0:yw p):Calls Tryz.prog 147 #[pp bp op,yI mode] w (Ret (fun v w' =>v=yI (qQ p mode)) w):=by
 refine en func147 ntmps147 ?_
 have H:=((St.start w).arg hpOrders).Q7 hp
 have nhpOrders:=qO hpOrders
 clear hp hpOrders
 have N:=Fresh.nil w.heap.size
 have p1:=p0.1
 have p2:=p0.2.1
 have p3:=subsTo_le p (p.qB.length:Int).toNat
 refine zcr (sp (yI 0) (zjc (sq 2 (oF rfl (oL rfl (H.xW 0 rfl 1 rfl) (oN rfl (sq 1 (zjc (sq 2 (oF rfl (oL rfl (H.xW 0 rfl 0 rfl) (sq 1 (sw (zi p.qA p.qB.length rfl rfl qf (sw (zi (p.qA+p.qB.length) 1 rfl rfl qf (sq 1 (zjcc (sq 1 (sp (Bv ((mode:Int) == 3)) (zjn ?_)))))))))))))))))))))
 refine cE rfl (fun h1=>?_) (fun h1=>?_)
 ·refine xK (sq 3 (sw (oq (l05Waits_ok _ p p.qB.length (qF (H.get 0 rfl) 0 2) (H.get 1 rfl).1 qf) H fun w3 H=>sw (zi (zg p (p.qB.length:Int).toNat) 1 rfl rfl qf (sw (zi ((p.qA+p.qB.length)+1) ((zg p (p.qB.length:Int).toNat)+1) rfl rfl qf (sq 1 (zjc ?_))))))))
  refine sq 2 (zjr (rH1 (yI (((p.qA+p.qB.length)+1)+((zg p (p.qB.length:Int).toNat)+1))) H ?_))
  first | rw [← kinds_trap ql,Int.toNat_natCast] | rw [← kinds_else ql]
 refine qU (t_n (zcr (sq 2 (zjr (rH1 (yI ((p.qA+p.qB.length)+1)) H ?_)))))
 first | rw [← kinds_trap ql,Int.toNat_natCast] | rw [← kinds_else ql]
theorem mkBag_ok (K:Int) (lr:List zZ) (bk:Nat) (raR:yOA) (rnR:Nat) (rcR:Nat) (rxR:List Value) (rFR:yLN) (ks:yLI) (aks:yOA) (cks:Nat) (Fks:yLN) (H:St W0 w ((.box bk [yI K,Sv raR rnR rcR] 187)::(rr raR rnR rcR 120 9 rxR)::ps) ((sF false Fks aks cks ks)::(xN true rFR rxR lr)::Γ)) (N:Fresh W0.heap.size (rFR::Ns)) (K0:Kept Ns Γ) (q0:1<=K/\K<=30) (q1:vZ K ks):Calls Tryz.prog 188 #[pp bk 0,Sv aks ks.length cks] w (fun e w' =>∃ v,e=.returned v/\∃ (rao:yOA) (rno:Nat) (rco:Nat),v=Sv rao rno rco/\Fresh W0.heap.size (rFR::Ns)/\St W0 w' ((.box bk [yI K,Sv raR rnR rcR] 187)::(rr raR rnR rcR 120 9 rxR)::(rr rao rno rco 2 1 ((je K.toNat ks).map (Value.int .i64)))::ps) ((sF false Fks aks cks ks)::(xN true rFR rxR lr)::Γ)):=by
 refine en func188 ntmps188 ?_
 have nks:=qO (H.get 0 rfl).1
 obtain rfl:=H.xB (α:=zZ) 1 rfl 1 rfl qj
 refine zcr (sq 1 (zjc (sq 2 (oF rfl (oL rfl (H.cell 0 rfl rfl) (sw (Qr H underlying27 ti2 K.toNat rfl rfl qf qf qf fun b1 w2 H=>sq 1 (zjcc (sp (yI 0) (zjn (qV ?_)))))))))))
 refine zA ((fun Z0 Z1 Z2 Z3=>fun m' ρ w3=>∃ (xQ:Env) (i:Nat) (out:yLI),ρ=upd (upd (upd xQ 1 (Sv aks ks.length cks)) 5 (Sv (aa b1 0) K.toNat K.toNat)) 6 (yI i)/\out=bagTo K.toNat ks i/\((i:Int)<=ks.length)/\m' =(ks.length - (i:Int)).toNat/\Fresh W0.heap.size (rFR::Ns)/\St W0 w3 ((rr (aa b1 0) K.toNat K.toNat 2 1 (out.map (Value.int .i64)))::Z0::Z1::ps) (Z2::Z3::Γ)) _ _ _ _) ((ks.length - (0:Int)).toNat) ⟨_,0,(List.replicate K.toNat (0:Int)),uE3,(by rw [bagTo_zero]),qf,rfl,N,H⟩ ?_
 clear H N
 rintro m' ρ w4 ⟨xQ,i,out,rfl,rfl,i0,rfl,N,H⟩
 have hn_out:=H.yt 0 rfl
 have hk:=q1.at (i:=i)
 have hg:=bagTo_ge (n:=K.toNat) (ks:=ks) (i:=i) (ks[i]!).toNat
 have hl:=bagTo_len K.toNat ks i
 refine zcc (sp (yI i) (sq 1 (oN rfl (sq 1 (zjn (cD rfl (fun h5=>?_) (fun h5=>?_)))))))
 ·refine qU (t_n (xU (qV (xK (sq 2 (sp (yI i) ?_))))))
  obtain ⟨b6,o7,rfl⟩:=H.addr 0 rfl qf
  refine oI rfl rfl (oL rfl (H.zB 0 rfl i qf) (oI rfl rfl (oL rfl (H.rowInt 0 rfl (iv:=ks[i]!) (i:=((ks[i]! :Int).toNat)) qf qf) (sw (zi ((bagTo K.toNat ks i)[(ks[i]! :Int).toNat]!) 1 rfl rfl qf (oI rfl rfl (sw (XB H 0 rfl (((bagTo K.toNat ks i)[(ks[i]! :Int).toNat]!)+1) sizeOf2 rfl rfl (i:=((ks[i]! :Int).toNat)) qf qf fun w9 H=>?_))))))))
  try dsimp only [List.set] at H
  refine xP (b_n (t_n (xK (sp (yI i) (sw (zi i 1 rfl rfl qf (sq 1 (xP (qW (m' :=(ks.length - ((i+1):Int)).toNat) qf ⟨_,i+1,_,uE3,?_,?_,rfl,N,H⟩)))))))))
  ·exact bagTo_succ qf
  ·omega
 refine zx4 (zcr (sq 2 (zjr (ret1 (Sv (aa b1 0) K.toNat K.toNat) rfl rfl ⟨_,rfl,?_⟩))))
 rw [show i=ks.length by omega] at H
 exact ⟨(aa b1 0),K.toNat,K.toNat,rfl,N,H.vW 3 2 [1,2,0] [0,1] qo qo⟩
theorem Xv (K:Int) (lr:List zZ) (bk:Nat) (raR:yOA) (rnR:Nat) (rcR:Nat) (rxR:List Value) (rFR:yLN) (rank:Int) (need:yLI) (aneed:yOA) (cneed:Nat) (Fneed:yLN) (have_:yLI) (ahave_:yOA) (chave_:Nat) (Fhave_:yLN) (lack:yLI) (alack:yOA) (clack:Nat) (Flack:yLN) (here:yLI) (ahere:yOA) (chere:Nat) (Fhere:yLN) (H:St W0 w ((.box bk [yI K,Sv raR rnR rcR] 187)::(rr raR rnR rcR 120 9 rxR)::ps) ((sF false Fneed aneed cneed need)::(sF false Fhave_ ahave_ chave_ have_)::(sF false Flack alack clack lack)::(sF false Fhere ahere chere here)::(xN true rFR rxR lr)::Γ)) (N:Fresh W0.heap.size (rFR::Ns)) (K0:Kept Ns Γ) (q0:1<=K/\K<=30) (q1:vZ K need/\vZ K have_/\vZ K lack/\vZ K here) (q2:lr.length<=100):Calls Tryz.prog 148 #[pp bk 0,yI rank,Sv aneed need.length cneed,Sv ahave_ have_.length chave_,Sv alack lack.length clack,Sv ahere here.length chere] w (fun e w' =>∃ v,e=.returned v/\∃ (raR_:yOA) (rnR_:Nat) (rcR_:Nat) (rxR_:List Value) (rFR_:yLN),v=.tuple #[]/\Fresh W0.heap.size (rFR_::Ns)/\St W0 w' ((.box bk [yI K,Sv raR_ rnR_ rcR_] 187)::(rr raR_ rnR_ rcR_ 120 9 rxR_)::ps) ((sF false Fneed aneed cneed need)::(sF false Fhave_ ahave_ chave_ have_)::(sF false Flack alack clack lack)::(sF false Fhere ahere chere here)::(xN true rFR_ rxR_ (lr++[zM K.toNat rank need have_ lack here]))::Γ)):=by
 refine en func148 ntmps148 ?_
 have nneed:=qO (H.get 0 rfl).1
 have nhave_:=qO (H.get 1 rfl).1
 have nlack:=qO (H.get 2 rfl).1
 have nhere:=qO (H.get 3 rfl).1
 obtain rfl:=H.xB (α:=zZ) 1 rfl 4 rfl qj
 obtain ⟨q3,q4,q5,q6⟩:=q1
 refine c_lateC (fun ρ w18=>∃ (xQ:Env) (a1:yOA) (c2:Nat) (ra3:yOA) (rc4:Nat) (ra5:yOA) (rc6:Nat) (ra7:yOA) (rc8:Nat) (ra9:yOA) (rc10:Nat) (ra11:yOA) (rc12:Nat) (G13:yLN) (G14:yLN) (G15:yLN) (G16:yLN) (G17:yLN),ρ=upd (upd xQ 35 (Sv a1 (lr.length+1) c2)) 37 (pp bk (0+1))/\Fresh W0.heap.size ((rFR++(G13++G14++G15++G16++G17++[]))::Ns)/\St W0 w18 ((.box bk [yI K,Sv raR lr.length rcR] 187)::(rr a1 (lr.length+1) c2 120 9 (rxR++[yI 0,yI rank,Sv ra3 ((je K.toNat need).length) rc4,Sv ra5 ((je K.toNat have_).length) rc6,Sv ra7 ((je K.toNat lack).length) rc8,Sv ra9 ((je K.toNat here).length) rc10,Sv ra11 ((je K.toNat ([]:yLI)).length) rc12,yN,Bv false]))::ps) ((xN true (rFR++(G13++G14++G15++G16++G17++[])) (rxR++[yI 0,yI rank,Sv ra3 ((je K.toNat need).length) rc4,Sv ra5 ((je K.toNat have_).length) rc6,Sv ra7 ((je K.toNat lack).length) rc8,Sv ra9 ((je K.toNat here).length) rc10,Sv ra11 ((je K.toNat ([]:yLI)).length) rc12,yN,Bv false]) (lr++[(⟨0,rank,je K.toNat need,je K.toNat have_,je K.toNat lack,je K.toNat here,je K.toNat ([]:yLI),([]:List IntoD),false⟩:zZ)]))::(sF true G17 ra11 rc12 (je K.toNat ([]:yLI)))::(sF true G16 ra9 rc10 (je K.toNat here))::(sF true G15 ra7 rc8 (je K.toNat lack))::(sF true G14 ra5 rc6 (je K.toNat have_))::(sF true G13 ra3 rc4 (je K.toNat need))::(sF false Fhere ahere chere here)::(sF false Flack alack clack lack)::(sF false Fhave_ ahave_ chave_ have_)::(sF false Fneed aneed cneed need)::Γ)) rfl H [0] [0,1,2,3,4] (fun H=>?_) ?_
 ·dsimp only [Xw]
  refine Xm (fun ρ w30=>∃ (xQ:Env) (ra20:yOA) (rc21:Nat) (ra22:yOA) (rc23:Nat) (ra24:yOA) (rc25:Nat) (ra26:yOA) (rc27:Nat) (b28:Nat),ρ=upd (upd (upd (upd (upd (upd (upd (upd (upd xQ 12 (pp bk 0)) 16 (Sv raR lr.length rcR)) 17 (yI rank)) 20 (Sv ra20 ((je K.toNat need).length) rc21)) 23 (Sv ra22 ((je K.toNat have_).length) rc23)) 26 (Sv ra24 ((je K.toNat lack).length) rc25)) 29 (Sv ra26 ((je K.toNat here).length) rc27)) 30 (pp bk 0)) 31 (Sv (aa b28 0) 0 0)/\Fresh W0.heap.size (rFR::Ns)/\St W0 w30 ((.box b28 [] 2)::(.box bk [yI K,Sv raR lr.length rcR] 187)::(rr raR lr.length rcR 120 9 rxR)::(rr ra26 ((je K.toNat here).length) rc27 2 1 ((je K.toNat here).map (Value.int .i64)))::(rr ra24 ((je K.toNat lack).length) rc25 2 1 ((je K.toNat lack).map (Value.int .i64)))::(rr ra22 ((je K.toNat have_).length) rc23 2 1 ((je K.toNat have_).map (Value.int .i64)))::(rr ra20 ((je K.toNat need).length) rc21 2 1 ((je K.toNat need).map (Value.int .i64)))::ps) ((sF false Fhere ahere chere here)::(xN true rFR rxR lr)::(sF false Flack alack clack lack)::(sF false Fhave_ ahave_ chave_ have_)::(sF false Fneed aneed cneed need)::Γ)) 6 #[true,true,true,true,true,true,true,true,true,true,true,true,true,true,true,true,true,true,true,true,false,false,false,false,false,false] ?_ fun L29=>?_
  ·rintro ρ w31 ⟨xQ,ra20,rc21,ra22,rc23,ra24,rc25,ra26,rc27,b28,rfl,N,H⟩
   refine ro 20 rfl ?_
   replace H:=H.vI 0 [] 0
   try dsimp only [List.set] at H
   obtain ⟨G32,N,hn33,H⟩:=H.zh 0 rfl N (fun F hF b hb=>(List.mem_append.1 (show F∈[rFR]++Ns from hF)).elim (fun h=>(H.vz (L:=[rFR]) [1]) F h b hb) fun h=>H.XM (K0.behind 5 rfl) F h b hb)
   try dsimp only [List.set] at H
   replace H:=H.ja 0 rfl
   have hn34:=H.isLen 0 rfl
   have H1:St W0 w31 ((.box bk [yI K,Sv raR lr.length rcR] 187)::(.row (Sv raR lr.length rcR) 120 9 lr.length rxR)::(.row yN 0 1 0 [])::(.row (Sv ra26 ((je K.toNat here).length) rc27) 2 1 ((je K.toNat here).length) ((je K.toNat here).map (Value.int .i64)))::(.row (Sv ra24 ((je K.toNat lack).length) rc25) 2 1 ((je K.toNat lack).length) ((je K.toNat lack).map (Value.int .i64)))::(.row (Sv ra22 ((je K.toNat have_).length) rc23) 2 1 ((je K.toNat have_).length) ((je K.toNat have_).map (Value.int .i64)))::(.row (Sv ra20 ((je K.toNat need).length) rc21) 2 1 ((je K.toNat need).length) ((je K.toNat need).map (Value.int .i64)))::ps) ((isF false G32 (Sv (aa b28 0) (([]:yLI).length) 0) ([]:yLI))::(xN true rFR rxR lr)::(isF false G32 (Sv (aa b28 0) 0 0) ([]:yLI))::(isF true G32 (Sv (aa b28 0) 0 0) ([]:yLI))::(isF false Fhere (Sv ahere here.length chere) here)::(isF false Flack (Sv alack lack.length clack) lack)::(isF false Fhave_ (Sv ahave_ have_.length chave_) have_)::(isF false Fneed (Sv aneed need.length cneed) need)::Γ):=by (try rw [← hn34]);exact H.vW 7 7 [1,2,0,3,4,5,6] [0,3,0,1,2,4,5,6] qo qo
   have N1:Fresh _ (rFR::G32::Ns):=(N.vW 2 [1,0] qo)
   have K1:Kept (Ns) ((isF false G32 (Sv (aa b28 0) 0 0) ([]:yLI))::(isF true G32 (Sv (aa b28 0) 0 0) ([]:yLI))::(sF false Fhere ahere chere here)::(sF false Flack alack clack lack)::(sF false Fhave_ ahave_ chave_ have_)::(sF false Fneed aneed cneed need)::Γ):=K0.behind 6 rfl
   replace K1:=K1.cons (F:=G32) 0 rfl rfl
   refine jg #[pp bk 0,Sv (aa b28 0) 0 0] rfl rfl call188 (jo (by first | rfl | rw [hn34]) (mkBag_ok K lr bk raR lr.length rcR rxR rFR ([]:yLI) (aa b28 0) 0 G32 H1 N1 K1 qf (by first | assumption | exact vZ.nil _))) ?_
   clear H H1 N1 K1
   rintro _ w35 ⟨ra37,rn38,rc39,rfl,N,H⟩
   obtain rfl:=H.yt 2 rfl
   refine ⟨H.pick [0] [7,6,5,4,1],(ro 21 rfl (vG [yI 0,yI rank,Sv ra20 ((je K.toNat need).length) rc21,Sv ra22 ((je K.toNat have_).length) rc23,Sv ra24 ((je K.toNat lack).length) rc25,Sv ra26 ((je K.toNat here).length) rc27,Sv ra37 ((je K.toNat ([]:yLI)).length) rc39,yN,Bv false] [(1,yI rank),(2,Sv ra20 ((je K.toNat need).length) rc21),(3,Sv ra22 ((je K.toNat have_).length) rc23),(4,Sv ra24 ((je K.toNat lack).length) rc25),(5,Sv ra26 ((je K.toNat here).length) rc27),(6,Sv ra37 ((je K.toNat ([]:yLI)).length) rc39)] (⟨H.pick [0] [7,6,5,4,1],?_⟩)))⟩
   refine ro 22 rfl (xx H underlying35 ti120 [yI 0,yI rank,Sv ra20 ((je K.toNat need).length) rc21,Sv ra22 ((je K.toNat have_).length) rc23,Sv ra24 ((je K.toNat lack).length) rc25,Sv ra26 ((je K.toNat here).length) rc27,Sv ra37 ((je K.toNat ([]:yLI)).length) rc39,yN,Bv false] fun b40 w41 H=>⟨H.pick [1] [7,6,5,4,1],(ro 23 rfl ?_)⟩)
   obtain ⟨G45,N,hn46,H⟩:=H.zh 8 rfl N (fun F hF b hb=>(List.mem_append.1 (show F∈[rFR,G32]++Ns from hF)).elim (fun h=>(H.vz (L:=[rFR,G32]) [1,0]) F h b hb) fun h=>H.XM (K0.behind 8 rfl) F h b hb)
   try dsimp only [List.set] at H
   obtain ⟨G47,N,hn48,H⟩:=H.zh 7 rfl N (fun F hF b hb=>(List.mem_append.1 (show F∈[G45,rFR,G32]++Ns from hF)).elim (fun h=>(H.vz (L:=[G45,rFR,G32]) [0,2,1]) F h b hb) fun h=>H.XM (K0.behind 9 rfl) F h b hb)
   try dsimp only [List.set] at H
   obtain ⟨G49,N,hn50,H⟩:=H.zh 6 rfl N (fun F hF b hb=>(List.mem_append.1 (show F∈[G47,G45,rFR,G32]++Ns from hF)).elim (fun h=>(H.vz (L:=[G47,G45,rFR,G32]) [0,1,3,2]) F h b hb) fun h=>H.XM (K0.behind 10 rfl) F h b hb)
   try dsimp only [List.set] at H
   obtain ⟨G51,N,hn52,H⟩:=H.zh 5 rfl N (fun F hF b hb=>(List.mem_append.1 (show F∈[G49,G47,G45,rFR,G32]++Ns from hF)).elim (fun h=>(H.vz (L:=[G49,G47,G45,rFR,G32]) [0,1,2,4,3]) F h b hb) fun h=>H.XM (K0.behind 11 rfl) F h b hb)
   try dsimp only [List.set] at H
   obtain ⟨G53,N,hn54,H⟩:=H.zh 3 rfl N (fun F hF b hb=>(List.mem_append.1 (show F∈[G51,G49,G47,G45,rFR,G32]++Ns from hF)).elim (fun h=>(H.vz (L:=[G51,G49,G47,G45,rFR,G32]) [0,1,2,3,5,4]) F h b hb) fun h=>H.XM (K0.behind 12 rfl) F h b hb)
   try dsimp only [List.set] at H
   replace H:=H.addNil (α:=IntoD)
   refine zG H 2 rfl 0 rfl underlying35 ti120 rfl qj rfl rfl rfl qw qp qf fun a42 c43 w44 H=>?_
   try dsimp only [List.set] at H
   replace H:=H.snoc_RuleD 7 rfl 0 rank 5 rfl 4 rfl 3 rfl 2 rfl 1 rfl 0 rfl false
   replace N:Fresh W0.heap.size ((rFR++(G45++G47++G49++G51++G53++[]))::G32::Ns):=(N.emp.vW 8 [5,4,3,2,1,0,6,7] qo).join.join.join.join.join.swap.join
   refine ⟨H.pick [1] [14,13,12,11,8],?_⟩
   have S:=H.jr [1] [14,13,12,11,8]
   refine rtl 24 S ?_
   refine tF 25 rfl rfl S ?_
   refine xA qh ((meet ⟨_,a42,c43,ra20,rc21,ra22,rc23,ra24,rc25,ra26,rc27,ra37,rc39,G45,G47,G49,G51,G53,uE2,(N.vW 2 [0] qo),H.vW 9 15 [1,2] [0,2,3,4,5,6,11,12,13,14] qo qo⟩))
  refine Xm (fun ρ w63=>∃ (xQ:Env) (ra55:yOA) (rc56:Nat) (ra57:yOA) (rc58:Nat) (ra59:yOA) (rc60:Nat) (b61:Nat),ρ=upd (upd (upd (upd (upd (upd (upd (upd (upd (upd xQ 12 (pp bk 0)) 16 (Sv raR lr.length rcR)) 17 (yI rank)) 20 (Sv ra55 ((je K.toNat need).length) rc56)) 23 (Sv ra57 ((je K.toNat have_).length) rc58)) 26 (Sv ra59 ((je K.toNat lack).length) rc60)) 27 (pp bk 0)) 28 (Sv ahere here.length chere)) 30 (pp bk 0)) 31 (Sv (aa b61 0) 0 0)/\Fresh W0.heap.size (rFR::Ns)/\St W0 w63 ((.box b61 [] 2)::(.box bk [yI K,Sv raR lr.length rcR] 187)::(rr raR lr.length rcR 120 9 rxR)::(rr ra59 ((je K.toNat lack).length) rc60 2 1 ((je K.toNat lack).map (Value.int .i64)))::(rr ra57 ((je K.toNat have_).length) rc58 2 1 ((je K.toNat have_).map (Value.int .i64)))::(rr ra55 ((je K.toNat need).length) rc56 2 1 ((je K.toNat need).map (Value.int .i64)))::ps) ((sF false Flack alack clack lack)::(xN true rFR rxR lr)::(sF false Fhave_ ahave_ chave_ have_)::(sF false Fneed aneed cneed need)::(sF false Fhere ahere chere here)::Γ)) 7 #[true,true,true,true,true,true,true,true,true,true,true,true,true,true,true,true,true,false,true,true,false,false,false,false,false,false] ?_ fun L62=>?_
  ·rintro ρ w64 ⟨xQ,ra55,rc56,ra57,rc58,ra59,rc60,b61,rfl,N,H⟩
   refine ro 17 rfl ?_
   have H1:=H.pickE 6 5 [1,2,0,3,4,5] [4,1,0,2,3] qo qo
   have N1:Fresh _ (rFR::Ns):=N
   have K1:Kept (Ns) ((sF false Flack alack clack lack)::(sF false Fhave_ ahave_ chave_ have_)::(sF false Fneed aneed cneed need)::Γ):=K0.behind 3 rfl
   refine jg #[pp bk 0,Sv ahere here.length chere] rfl rfl call188 (mkBag_ok K lr bk raR lr.length rcR rxR rFR here ahere chere Fhere H1 N1 K1 qf (by first | assumption | exact vZ.nil _)) ?_
   clear H H1 N1 K1
   rintro _ w65 ⟨ra67,rn68,rc69,rfl,N,H⟩
   obtain rfl:=H.yt 2 rfl
   refine ⟨H.pick [0] [4,3,2,0,1],(Qo L29 ⟨_,ra55,rc56,ra57,rc58,ra59,rc60,ra67,rc69,b61,uE9,N,H.vW 7 5 [3,0,1,2,4,5,6] (zR 0 5) qo qo⟩)⟩
  refine Xm (fun ρ w76=>∃ (xQ:Env) (ra70:yOA) (rc71:Nat) (ra72:yOA) (rc73:Nat) (b74:Nat),ρ=upd (upd (upd (upd (upd (upd (upd (upd (upd (upd (upd xQ 12 (pp bk 0)) 16 (Sv raR lr.length rcR)) 17 (yI rank)) 20 (Sv ra70 ((je K.toNat need).length) rc71)) 23 (Sv ra72 ((je K.toNat have_).length) rc73)) 24 (pp bk 0)) 25 (Sv alack lack.length clack)) 27 (pp bk 0)) 28 (Sv ahere here.length chere)) 30 (pp bk 0)) 31 (Sv (aa b74 0) 0 0)/\Fresh W0.heap.size (rFR::Ns)/\St W0 w76 ((.box b74 [] 2)::(.box bk [yI K,Sv raR lr.length rcR] 187)::(rr raR lr.length rcR 120 9 rxR)::(rr ra72 ((je K.toNat have_).length) rc73 2 1 ((je K.toNat have_).map (Value.int .i64)))::(rr ra70 ((je K.toNat need).length) rc71 2 1 ((je K.toNat need).map (Value.int .i64)))::ps) ((sF false Fhave_ ahave_ chave_ have_)::(xN true rFR rxR lr)::(sF false Fneed aneed cneed need)::(sF false Flack alack clack lack)::(sF false Fhere ahere chere here)::Γ)) 8 #[true,true,true,true,true,true,true,true,true,true,true,true,true,true,false,true,true,false,true,true,false,false,false,false,false,false] ?_ fun L75=>?_
  ·rintro ρ w77 ⟨xQ,ra70,rc71,ra72,rc73,b74,rfl,N,H⟩
   refine ro 14 rfl ?_
   have H1:=H.pickE 5 5 [1,2,0,3,4] [3,1,0,2,4] qo qo
   have N1:Fresh _ (rFR::Ns):=N
   have K1:Kept (Ns) ((sF false Fhave_ ahave_ chave_ have_)::(sF false Fneed aneed cneed need)::(sF false Fhere ahere chere here)::Γ):=K0.behind 3 rfl
   refine jg #[pp bk 0,Sv alack lack.length clack] rfl rfl call188 (mkBag_ok K lr bk raR lr.length rcR rxR rFR lack alack clack Flack H1 N1 K1 qf (by first | assumption | exact vZ.nil _)) ?_
   clear H H1 N1 K1
   rintro _ w78 ⟨ra80,rn81,rc82,rfl,N,H⟩
   obtain rfl:=H.yt 2 rfl
   refine ⟨H.pick [0] [3,2,0,4,1],(Qo L62 ⟨_,ra70,rc71,ra72,rc73,ra80,rc82,b74,uE10,N,H.vW 6 5 [3,0,1,2,4,5] (zR 0 5) qo qo⟩)⟩
  refine Xm (fun ρ w87=>∃ (xQ:Env) (ra83:yOA) (rc84:Nat) (b85:Nat),ρ=upd (upd (upd (upd (upd (upd (upd (upd (upd (upd (upd (upd xQ 12 (pp bk 0)) 16 (Sv raR lr.length rcR)) 17 (yI rank)) 20 (Sv ra83 ((je K.toNat need).length) rc84)) 21 (pp bk 0)) 22 (Sv ahave_ have_.length chave_)) 24 (pp bk 0)) 25 (Sv alack lack.length clack)) 27 (pp bk 0)) 28 (Sv ahere here.length chere)) 30 (pp bk 0)) 31 (Sv (aa b85 0) 0 0)/\Fresh W0.heap.size (rFR::Ns)/\St W0 w87 ((.box b85 [] 2)::(.box bk [yI K,Sv raR lr.length rcR] 187)::(rr raR lr.length rcR 120 9 rxR)::(rr ra83 ((je K.toNat need).length) rc84 2 1 ((je K.toNat need).map (Value.int .i64)))::ps) ((sF false Fneed aneed cneed need)::(xN true rFR rxR lr)::(sF false Fhave_ ahave_ chave_ have_)::(sF false Flack alack clack lack)::(sF false Fhere ahere chere here)::Γ)) 9 #[true,true,true,true,true,true,true,true,true,true,true,false,true,true,false,true,true,false,true,true,false,false,false,false,false,false] ?_ fun L86=>?_
  ·rintro ρ w88 ⟨xQ,ra83,rc84,b85,rfl,N,H⟩
   refine ro 11 rfl ?_
   have H1:=H.pickE 4 5 [1,2,0,3] [2,1,0,3,4] qo qo
   have N1:Fresh _ (rFR::Ns):=N
   have K1:Kept (Ns) ((sF false Fneed aneed cneed need)::(sF false Flack alack clack lack)::(sF false Fhere ahere chere here)::Γ):=K0.behind 3 rfl
   refine jg #[pp bk 0,Sv ahave_ have_.length chave_] rfl rfl call188 (mkBag_ok K lr bk raR lr.length rcR rxR rFR have_ ahave_ chave_ Fhave_ H1 N1 K1 qf (by first | assumption | exact vZ.nil _)) ?_
   clear H H1 N1 K1
   rintro _ w89 ⟨ra91,rn92,rc93,rfl,N,H⟩
   obtain rfl:=H.yt 2 rfl
   refine ⟨H.pick [0] [2,0,3,4,1],(Qo L75 ⟨_,ra83,rc84,ra91,rc93,b85,uE11,N,H.vW 5 5 [3,0,1,2,4] (zR 0 5) qo qo⟩)⟩
  have S:=H.jr [0] (zR 0 5)
  refine rtl 0 S ?_
  refine rtl 1 S ?_
  refine rtl 2 S ?_
  refine tF 3 rfl rfl S ?_
  refine tL 4 rfl rfl (fun _ h=>h.cell 0 rfl rfl) S ?_
  refine rtl 5 S ?_
  refine rtl 6 S ?_
  refine rtl 7 S ?_
  refine rtl 9 S ?_
  refine rtl 10 S ?_
  refine rtl 12 S ?_
  refine rtl 13 S ?_
  refine rtl 15 S ?_
  refine rtl 16 S ?_
  refine rtl 18 S ?_
  refine jb [8,19] qh qm (jM rfl ?_ (jM rfl ?_ jd))
  ·have H1:=H.pickE 2 5 [0,1] [0,4,1,2,3] qo qo
   have N1:Fresh _ (rFR::Ns):=N
   have K1:Kept (Ns) ((sF false Fhave_ ahave_ chave_ have_)::(sF false Flack alack clack lack)::(sF false Fhere ahere chere here)::Γ):=K0.behind 3 rfl
   refine jg #[pp bk 0,Sv aneed need.length cneed] rfl rfl call188 (mkBag_ok K lr bk raR lr.length rcR rxR rFR need aneed cneed Fneed H1 N1 K1 qf (by first | assumption | exact vZ.nil _)) ?_
   clear H H1 N1 K1
   rintro _ w94 ⟨ra96,rn97,rc98,rfl,N,H⟩
   obtain rfl:=H.yt 2 rfl
   refine ⟨H.pick [0] [0,2,3,4,1],(jb [11,19] qh qm (jM rfl ?_ (jM rfl ?_ jd)))⟩
   ·have H1:=H.pickE 3 5 [0,1,2] [2,1,0,3,4] qo qo
    have N1:Fresh _ (rFR::Ns):=N
    have K1:Kept (Ns) ((sF false Fneed aneed cneed need)::(sF false Flack alack clack lack)::(sF false Fhere ahere chere here)::Γ):=K0.behind 3 rfl
    refine jg #[pp bk 0,Sv ahave_ have_.length chave_] rfl rfl call188 (mkBag_ok K lr bk raR lr.length rcR rxR rFR have_ ahave_ chave_ Fhave_ H1 N1 K1 qf (by first | assumption | exact vZ.nil _)) ?_
    clear H H1 N1 K1
    rintro _ w99 ⟨ra101,rn102,rc103,rfl,N,H⟩
    obtain rfl:=H.yt 2 rfl
    refine ⟨H.pick [0] [2,0,3,4,1],(jb [14,19] qh qm (jM rfl ?_ (jM rfl ?_ jd)))⟩
    ·have H1:=H.pickE 4 5 [0,1,2,3] [3,1,0,2,4] qo qo
     have N1:Fresh _ (rFR::Ns):=N
     have K1:Kept (Ns) ((sF false Fhave_ ahave_ chave_ have_)::(sF false Fneed aneed cneed need)::(sF false Fhere ahere chere here)::Γ):=K0.behind 3 rfl
     refine jg #[pp bk 0,Sv alack lack.length clack] rfl rfl call188 (mkBag_ok K lr bk raR lr.length rcR rxR rFR lack alack clack Flack H1 N1 K1 qf (by first | assumption | exact vZ.nil _)) ?_
     clear H H1 N1 K1
     rintro _ w104 ⟨ra106,rn107,rc108,rfl,N,H⟩
     obtain rfl:=H.yt 2 rfl
     refine ⟨H.pick [0] [3,2,0,4,1],(jb [17,19] qh qm (jM rfl ?_ (jM rfl ?_ jd)))⟩
     ·have H1:=H.pickE 5 5 [0,1,2,3,4] [4,1,0,2,3] qo qo
      have N1:Fresh _ (rFR::Ns):=N
      have K1:Kept (Ns) ((sF false Flack alack clack lack)::(sF false Fhave_ ahave_ chave_ have_)::(sF false Fneed aneed cneed need)::Γ):=K0.behind 3 rfl
      refine jg #[pp bk 0,Sv ahere here.length chere] rfl rfl call188 (mkBag_ok K lr bk raR lr.length rcR rxR rFR here ahere chere Fhere H1 N1 K1 qf (by first | assumption | exact vZ.nil _)) ?_
      clear H H1 N1 K1
      rintro _ w109 ⟨ra111,rn112,rc113,rfl,N,H⟩
      obtain rfl:=H.yt 2 rfl
      refine ⟨H.pick [0] [4,3,2,0,1],(ro 19 rfl (zW H underlying27 ti2 fun b114 w115 H=>⟨H.pick [1] [4,3,2,0,1],(Qo L29 ⟨_,ra96,rc98,ra101,rc103,ra106,rc108,ra111,rc113,b114,uE9,N,H⟩)⟩))⟩
     refine zW H underlying27 ti2 fun b116 w117 H=>⟨H.pick [1] [3,2,0,4,1],(Qo L62 ⟨_,ra96,rc98,ra101,rc103,ra106,rc108,b116,uE10,N,H⟩)⟩
    refine zW H underlying27 ti2 fun b118 w119 H=>⟨H.pick [1] [2,0,3,4,1],(Qo L75 ⟨_,ra96,rc98,ra101,rc103,b118,uE11,N,H⟩)⟩
   refine zW H underlying27 ti2 fun b120 w121 H=>⟨H.pick [1] [0,2,3,4,1],(Qo L86 ⟨_,ra96,rc98,b120,uE12,N,H⟩)⟩
  refine zW H underlying27 ti2 fun b122 w123 H=>⟨H.pick [1] (zR 0 5),(ro 8 rfl ?_)⟩
  have H1:=H.pickE 3 5 [1,2,0] [0,4,1,2,3] qo qo
  have N1:Fresh _ (rFR::Ns):=N
  have K1:Kept (Ns) ((sF false Fhave_ ahave_ chave_ have_)::(sF false Flack alack clack lack)::(sF false Fhere ahere chere here)::Γ):=K0.behind 3 rfl
  refine jg #[pp bk 0,Sv aneed need.length cneed] rfl rfl call188 (mkBag_ok K lr bk raR lr.length rcR rxR rFR need aneed cneed Fneed H1 N1 K1 qf (by first | assumption | exact vZ.nil _)) ?_
  clear H H1 N1 K1
  rintro _ w124 ⟨ra126,rn127,rc128,rfl,N,H⟩
  obtain rfl:=H.yt 2 rfl
  refine ⟨H.pick [0] [0,2,3,4,1],(Qo L86 ⟨_,ra126,rc128,b122,uE12,N,H.vW 4 5 [3,0,1,2] (zR 0 5) qo qo⟩)⟩
 clear H N
 rintro ρ w129 ⟨xQ,a1,c2,ra3,rc4,ra5,rc6,ra7,rc8,ra9,rc10,ra11,rc12,G13,G14,G15,G16,G17,rfl,N,H⟩
 refine zI H 0 [yI K,Sv a1 (lr.length+1) c2] sizeOf35 fun w130 H=>?_
 try dsimp only [List.set] at H
 refine ret0 rfl ⟨_,rfl,(⟨a1,lr.length+1,c2,rxR++[Value.int .i64 0,Value.int .i64 rank,Value.slice ra3 ((je K.toNat need).length) rc4,Value.slice ra5 ((je K.toNat have_).length) rc6,Value.slice ra7 ((je K.toNat lack).length) rc8,Value.slice ra9 ((je K.toNat here).length) rc10,Value.slice ra11 ((je K.toNat ([]:yLI)).length) rc12,Value.slice none 0 0,Value.bool false],(rFR++(G13++G14++G15++G16++G17++[])),rfl,N,H.vW 2 10 [0,1] [9,8,7,6,0] qo qo⟩)⟩
theorem l05Made_ok (w:World) (p:zF) (mode:Int) (hp:vg w bp op [yI p.qA,Sv apOrders p.qB.length cpOrders]) (hpOrders:zP w FpOrders apOrders cpOrders p.qB) (p0:yw p) (q0:PMode mode):Calls Tryz.prog 106 #[pp bp op,yI mode] w (Ret (fun v w' =>∃ (raParents:yOA) (rnParents:Nat) (rcParents:Nat) (raRules:yOA) (rnRules:Nat) (rcRules:Nat) (rxRules:List Value) (rFRules:yLN),v=.agg #[yI ((zC p mode).xO),Sv raParents rnParents rcParents,Sv raRules rnRules rcRules]/\Fresh w.heap.size [rFRules]/\St w w' [rr raParents rnParents rcParents 2 1 (((zC p mode).qC).map (Value.int .i64)),rr raRules rnRules rcRules 120 9 rxRules] [xN true rFRules rxRules ((zC p mode).qE)]) w):=by
 refine en func106 ntmps106 ?_
 have H:=((St.start w).arg hpOrders).Q7 hp
 have nhpOrders:=qO hpOrders
 clear hp hpOrders
 have N:=Fresh.nil w.heap.size
 have p1:=p0.1
 have p2:=p0.2.1
 have kg:=Qg p mode
 have kl:=yF p0 mode
 have q1:1<=mode/\mode<=3:=q0
 refine zcr (sw (xH H ti37 [yI 0,yN,yN] fun b1 w2 H=>zjc (sq 2 (sw (oq (l05Kinds_ok _ p mode (qF (H.get 0 rfl) 0 2) (H.get 1 rfl).1 ql) H fun w4 H=>sw (vG [yI (qQ p mode),yN] [(0,yI (qQ p mode))] (sw (zY H [yI (qQ p mode),yN] fun b6 w7 H=>sq 1 (zjc (sw (zW H underlying27 ti2 fun b8 w9 H=>sq 1 (zjcc (sp (yI 0) ?_)))))))))))))
 refine zjn (qV ?_)
 replace H:=H.vI 0 [] 0
 obtain ⟨G10,N,hn11,H⟩:=H.zh 0 rfl N (H.vz [])
 replace H:=H.nilRow 120 9
 replace H:=H.vV (α:=zZ)
 refine zA ((fun Z0 Z1 Z2 Z3=>fun m' ρ w12=>∃ (xQ:Env) (i:Nat) (jU:yOA) (jv:Nat) (jT:Nat) (x_rules:List zZ) (yz:List Value) (yB:yLN),ρ=upd (upd (upd (upd (upd (upd xQ 0 (pp bp op)) 1 (yI mode)) 4 (pp b1 0)) 5 (pp b6 0)) 6 (Sv (aa b8 0) 0 0)) 7 (yI i)/\x_rules=xk p mode i/\((i:Int)<=p.qB.length)/\m' =(p.qB.length - (i:Int)).toNat/\Fresh w.heap.size [G10,yB]/\St w w12 [rr jU jv jT 120 9 yz,.box b6 [yI (qQ p mode),Sv jU jv jT] 187,Z0] [xN true yB yz x_rules,Z1,Z2,Z3]) _ _ _ _) ((p.qB.length - (0:Int)).toNat) ⟨_,0,none,0,0,([]:List zZ),[],[],uE6,(by rfl),qf,rfl,(N.emp.pick [1,0]),H.pick [0,2,3] (zR 0 4)⟩ ?_
 clear H N
 rintro m' ρ w13 ⟨xQ,i,jU,jv,jT,x_rules,yz,yB,rfl,rfl,i0,rfl,N,H⟩
 have hn_x_rules:=H.xB (α:=zZ) 0 rfl 0 rfl qj
 have rl:=rulesTo_len p mode i
 have sl:=subsTo_le p i
 have ss:=subsTo_mono p (k:=i) (n:=p.qB.length)
 have po:=p0.2.2 i
 refine zcc (sp (yI i) (sq 2 (oF rfl (oL rfl (H.xW 2 rfl 1 rfl) (oN rfl (sq 1 (zjn (cD rfl (fun h14=>?_) (fun h14=>?_)))))))))
 ·obtain ⟨o1,o2,o3,o4,o5⟩:=po qf
  refine qU (t_n (xU (qV (zcr (sq 2 (oF rfl (oL rfl (H.xW 2 rfl 1 rfl) (sp (yI i) ?_))))))))
  obtain ⟨b15,o16,rfl⟩:=H.addr 3 rfl qf
  obtain ⟨_,H⟩:=H.Xb 3 rfl i i qf qf qf
  refine oI rfl rfl (sw (x8 [yI ((p.qB[i]!).fOp),yI ((p.qB[i]!).zn),yI ((p.qB[i]!).fTo),yI ((p.qB[i]!).zf)] isAgg109 sizeOf109 rfl (qF (H.get 0 rfl) 0 4) (sw (xH H ti109 [yI 0,yI 0,yI 0,yI 0] fun b19 w20 H=>sw (xY H 0 [yI ((p.qB[i]!).fOp),yI ((p.qB[i]!).zn),yI ((p.qB[i]!).fTo),yI ((p.qB[i]!).zf)] sizeOf109 fun w21 H=>zjc (sq 1 (sp (yI i) (sw (zN #[pp bp op,yI i] rfl rfl call110 ?_)))))))))
  refine en func110 ntmps110 ?_
  refine zcr (sp (yI 0) (zjc (sq 2 (oF rfl (oL rfl (H.xW 3 rfl 0 rfl) (sp (yI i) (sw (zi p.qA i rfl rfl qf (sq 1 (zjr (ret1 (yI (p.qA+i)) rfl rfl ⟨_,rfl,(sq 1 (zjc (sq 1 (oF rfl (oL rfl (H.cell 0 rfl rfl) (sw (zN #[pp bp op,yI ((p.qB[i]!).fTo)] rfl rfl call110 (en func110 ntmps110 ?_))))))))⟩)))))))))))
  refine zcr (sp (yI 0) (zjc (sq 2 (oF rfl (oL rfl (H.xW 3 rfl 0 rfl) (sq 1 (sw (zi p.qA ((p.qB[i]!).fTo) rfl rfl qf (sq 1 (zjr (ret1 (yI (p.qA+((p.qB[i]!).fTo))) rfl rfl ⟨_,rfl,(sq 1 (zjc (sq 1 (oF rfl (oL rfl (H.cell 0 rfl rfl) ?_)))))⟩)))))))))))
  refine sw (zN #[pp bp op,yI ((p.qB[i]!).zf)] rfl rfl call110 (en func110 ntmps110 ?_))
  refine zcr (sp (yI 0) (zjc (sq 2 (oF rfl (oL rfl (H.xW 3 rfl 0 rfl) (sq 1 (sw (zi p.qA ((p.qB[i]!).zf) rfl rfl qf (sq 1 (zjr (ret1 (yI (p.qA+((p.qB[i]!).zf))) rfl rfl ⟨_,rfl,(sq 1 (zjn (qV (zcr (oF rfl (oL rfl (H.cell 0 rfl rfl) (sp (Bv (((p.qB[i]!).fOp:Int) == 1)) (sp (Bv (((p.qB[i]!).fOp:Int) == 1)) (zjn ?_)))))))))⟩)))))))))))
  refine cE rfl (fun h22=>?_) (fun h22=>?_)
  ·refine zcr (sq 2 (sw (xx H underlying27 ti2 [yI (p.qA+i)] fun b23 w24 H=>sq 2 (oF rfl (oL rfl (H.cell 1 rfl rfl) (sq 1 (sw (o_buildF H underlying27 ti2 [yI ((p.qB[i]!).zn),yI (p.qA+((p.qB[i]!).fTo))] rfl (by simp [Value.cells]) rfl qj qj fun b25 w26 H=>?_))))))))
   replace H:=H.vI 1 [p.qA+i] 1
   obtain ⟨G27,N,hn28,H⟩:=H.zh 1 rfl N (H.vz [2,1])
   replace H:=H.ja 0 rfl
   have hn29:=H.isLen 0 rfl
   replace H:=H.ja 4 rfl
   have hn30:=H.isLen 0 rfl
   have hn31:=H.isLen 0 rfl
   replace H:=H.vI 0 [(p.qB[i]!).zn,p.qA+((p.qB[i]!).fTo)] 2
   obtain ⟨G32,N,hn33,H⟩:=H.zh 0 rfl N (H.vz [1,0,4])
   replace H:=H.ja 0 rfl
   have hn34:=H.isLen 0 rfl
   have H1:St w w26 [.box b6 [yI (qQ p mode),Sv jU jv jT] 187,.row (Sv jU jv jT) 120 9 jv yz,.row yN 0 1 0 [],.row yN 0 1 0 [],.box b19 [yI ((p.qB[i]!).fOp),yI ((p.qB[i]!).zn),yI ((p.qB[i]!).fTo),yI ((p.qB[i]!).zf)] 109,.box b1 [yI 0,yN,yN] 37] [isF false G27 (Sv (aa b23 0) ([p.qA+i].length) 1) [p.qA+i],isF false G10 (Sv (aa b8 0) (([]:yLI).length) 0) ([]:yLI),isF false G10 (Sv (aa b8 0) (([]:yLI).length) 0) ([]:yLI),isF false G32 (Sv (aa b25 0) (([(p.qB[i]!).zn,p.qA+((p.qB[i]!).fTo)]).length) 2) ([(p.qB[i]!).zn,p.qA+((p.qB[i]!).fTo)]),xN true yB yz (xk p mode i),isF false G32 (Sv (aa b25 0) 2 2) ([(p.qB[i]!).zn,p.qA+((p.qB[i]!).fTo)]),isF true G32 (Sv (aa b25 0) 2 2) ([(p.qB[i]!).zn,p.qA+((p.qB[i]!).fTo)]),isF false G10 (Sv (aa b8 0) 0 0) ([]:yLI),isF false G27 (Sv (aa b23 0) 1 1) [p.qA+i],isF true G27 (Sv (aa b23 0) 1 1) [p.qA+i],atF b15 (o16+(i:Int).toNat * 4) [yI ((p.qB[i]!).fOp),yI ((p.qB[i]!).zn),yI ((p.qB[i]!).fTo),yI ((p.qB[i]!).zf)],isF true G10 (Sv (aa b8 0) 0 0) ([]:yLI),atF bp op [yI p.qA,Sv (aa b15 o16) p.qB.length cpOrders],isF false FpOrders (Sv (aa b15 o16) p.qB.length cpOrders) p.qB]:=by (try rw [← hn29,← hn30,← hn31,← hn34]);exact H.pick [4,3,0,1,2,5] [3,2,2,0,6,0,1,2,3,4,5,7,8,9]
   have N1:Fresh _ [yB,G32,G27,G10]:=(N.pick [3,0,1,2])
   have K1:Kept [] [isF false G32 (Sv (aa b25 0) 2 2) ([(p.qB[i]!).zn,p.qA+((p.qB[i]!).fTo)]),isF true G32 (Sv (aa b25 0) 2 2) ([(p.qB[i]!).zn,p.qA+((p.qB[i]!).fTo)]),isF false G10 (Sv (aa b8 0) 0 0) ([]:yLI),isF false G27 (Sv (aa b23 0) 1 1) [p.qA+i],isF true G27 (Sv (aa b23 0) 1 1) [p.qA+i],atF b15 (o16+(i:Int).toNat * 4) [yI ((p.qB[i]!).fOp),yI ((p.qB[i]!).zn),yI ((p.qB[i]!).fTo),yI ((p.qB[i]!).zf)],isF true G10 (Sv (aa b8 0) 0 0) ([]:yLI),atF bp op [yI p.qA,Sv (aa b15 o16) p.qB.length cpOrders],sF false FpOrders (aa b15 o16) cpOrders p.qB]:=Kept.nil _
   replace K1:=K1.cons (F:=G10) 2 rfl rfl
   replace K1:=K1.cons (F:=G27) 3 rfl rfl
   replace K1:=K1.cons (F:=G32) 0 rfl rfl
   refine sw (jg #[pp b6 0,yI 0,Sv (aa b23 0) 1 1,Sv (aa b8 0) 0 0,Sv (aa b8 0) 0 0,Sv (aa b25 0) 2 2] rfl rfl call148 (jo (by first | rfl | rw [hn29,hn30,hn31,hn34]) (Xv (qQ p mode) (xk p mode i) b6 jU jv jT yz yB (0:Int) [p.qA+i] (aa b23 0) 1 G27 ([]:yLI) (aa b8 0) 0 G10 ([]:yLI) (aa b8 0) 0 G10 ([(p.qB[i]!).zn,p.qA+((p.qB[i]!).fTo)]) (aa b25 0) 2 G32 H1 N1 K1 qf (by exact ⟨by first | exact vZ.nil _ | exact vZ.one qf | exact vZ.two qf qf,by first | exact vZ.nil _ | exact vZ.one qf | exact vZ.two qf qf,by first | exact vZ.nil _ | exact vZ.one qf | exact vZ.two qf qf,by first | exact vZ.nil _ | exact vZ.one qf | exact vZ.two qf qf⟩) (by first | omega | (simp only [List.length_append,List.length_cons,List.length_nil];omega)))) ?_)
   clear H H1 N1 K1
   rintro _ w35 ⟨ra37,rn38,rc39,rx40,rF41,rfl,N,H⟩
   obtain rfl:=H.xB (α:=zZ) 1 rfl 4 rfl qj
   refine zjc (oF rfl (oL rfl (H.cell 4 rfl rfl) (oF rfl (oL rfl (H.cell 4 rfl rfl) (sq 1 (zjn (zT _ rfl (fun h42=>?_) (fun h42=>?_))))))))
   ·replace h42:=bne_iff_ne.1 h42
    refine xK (sq 2 (sw (xx H underlying27 ti2 [yI (p.qA+i)] fun b43 w44 H=>sq 2 (oF rfl (oL rfl (H.cell 5 rfl rfl) (sq 1 (sw (o_buildF H underlying27 ti2 [yI ((p.qB[i]!).zn),yI (p.qA+((p.qB[i]!).zf))] rfl (by simp [Value.cells]) rfl qj qj fun b45 w46 H=>?_))))))))
    replace H:=H.vI 1 [p.qA+i] 1
    obtain ⟨G47,N,hn48,H⟩:=H.zh 1 rfl N (H.vz [4,3,0,1])
    replace H:=H.ja 0 rfl
    have hn49:=H.isLen 0 rfl
    have hn50:=H.isLen 3 rfl
    have hn51:=H.isLen 3 rfl
    replace H:=H.vI 0 [(p.qB[i]!).zn,p.qA+((p.qB[i]!).zf)] 2
    obtain ⟨G52,N,hn53,H⟩:=H.zh 0 rfl N (H.vz [0,6,5,2,3])
    replace H:=H.ja 0 rfl
    have hn54:=H.isLen 0 rfl
    have H1:St w w46 [.box b6 [yI (qQ p mode),Sv ra37 (((xk p mode i)++[zM (qQ p mode).toNat (0:Int) [p.qA+i] ([]:yLI) ([]:yLI) ([(p.qB[i]!).zn,p.qA+((p.qB[i]!).fTo)])]).length) rc39] 187,.row (Sv ra37 (((xk p mode i)++[zM (qQ p mode).toNat (0:Int) [p.qA+i] ([]:yLI) ([]:yLI) ([(p.qB[i]!).zn,p.qA+((p.qB[i]!).fTo)])]).length) rc39) 120 9 (((xk p mode i)++[zM (qQ p mode).toNat (0:Int) [p.qA+i] ([]:yLI) ([]:yLI) ([(p.qB[i]!).zn,p.qA+((p.qB[i]!).fTo)])]).length) rx40,.row yN 0 1 0 [],.row yN 0 1 0 [],.row yN 0 1 0 [],.row yN 0 1 0 [],.box b19 [yI ((p.qB[i]!).fOp),yI ((p.qB[i]!).zn),yI ((p.qB[i]!).fTo),yI ((p.qB[i]!).zf)] 109,.box b1 [yI 0,yN,yN] 37] [isF false G47 (Sv (aa b43 0) ([p.qA+i].length) 1) [p.qA+i],isF false G10 (Sv (aa b8 0) (([]:yLI).length) 0) ([]:yLI),isF false G10 (Sv (aa b8 0) (([]:yLI).length) 0) ([]:yLI),isF false G52 (Sv (aa b45 0) (([(p.qB[i]!).zn,p.qA+((p.qB[i]!).zf)]).length) 2) ([(p.qB[i]!).zn,p.qA+((p.qB[i]!).zf)]),xN true rF41 rx40 ((xk p mode i)++[zM (qQ p mode).toNat (0:Int) [p.qA+i] ([]:yLI) ([]:yLI) ([(p.qB[i]!).zn,p.qA+((p.qB[i]!).fTo)])]),isF false G52 (Sv (aa b45 0) 2 2) ([(p.qB[i]!).zn,p.qA+((p.qB[i]!).zf)]),isF true G52 (Sv (aa b45 0) 2 2) ([(p.qB[i]!).zn,p.qA+((p.qB[i]!).zf)]),isF false G47 (Sv (aa b43 0) 1 1) [p.qA+i],isF true G47 (Sv (aa b43 0) 1 1) [p.qA+i],isF false G27 (Sv (aa b23 0) ([p.qA+i].length) 1) [p.qA+i],isF false G10 (Sv (aa b8 0) (([]:yLI).length) 0) ([]:yLI),isF false G10 (Sv (aa b8 0) (([]:yLI).length) 0) ([]:yLI),isF false G32 (Sv (aa b25 0) (([(p.qB[i]!).zn,p.qA+((p.qB[i]!).fTo)]).length) 2) ([(p.qB[i]!).zn,p.qA+((p.qB[i]!).fTo)]),isF false G32 (Sv (aa b25 0) 2 2) ([(p.qB[i]!).zn,p.qA+((p.qB[i]!).fTo)]),isF true G32 (Sv (aa b25 0) 2 2) ([(p.qB[i]!).zn,p.qA+((p.qB[i]!).fTo)]),isF false G10 (Sv (aa b8 0) 0 0) ([]:yLI),isF false G27 (Sv (aa b23 0) 1 1) [p.qA+i],isF true G27 (Sv (aa b23 0) 1 1) [p.qA+i],atF b15 (o16+(i:Int).toNat * 4) [yI ((p.qB[i]!).fOp),yI ((p.qB[i]!).zn),yI ((p.qB[i]!).fTo),yI ((p.qB[i]!).zf)],isF true G10 (Sv (aa b8 0) 0 0) ([]:yLI),atF bp op [yI p.qA,Sv (aa b15 o16) p.qB.length cpOrders],isF false FpOrders (Sv (aa b15 o16) p.qB.length cpOrders) p.qB]:=by (try rw [← hn49,← hn50,← hn51,← hn54]);exact H.pick [2,3,0,1,4,5,6,7] (2::5::5::0::8::0::1::2::3::4::5::6::7::zR 9 9)
    have N1:Fresh _ [rF41,G52,G47,G32,G27,G10]:=(N.pick [2,0,1,3,4,5])
    have K1:Kept [] [isF false G52 (Sv (aa b45 0) 2 2) ([(p.qB[i]!).zn,p.qA+((p.qB[i]!).zf)]),isF true G52 (Sv (aa b45 0) 2 2) ([(p.qB[i]!).zn,p.qA+((p.qB[i]!).zf)]),isF false G47 (Sv (aa b43 0) 1 1) [p.qA+i],isF true G47 (Sv (aa b43 0) 1 1) [p.qA+i],sF false G27 (aa b23 0) 1 [p.qA+i],sF false G10 (aa b8 0) 0 ([]:yLI),sF false G10 (aa b8 0) 0 ([]:yLI),sF false G32 (aa b25 0) 2 ([(p.qB[i]!).zn,p.qA+((p.qB[i]!).fTo)]),isF false G32 (Sv (aa b25 0) 2 2) ([(p.qB[i]!).zn,p.qA+((p.qB[i]!).fTo)]),isF true G32 (Sv (aa b25 0) 2 2) ([(p.qB[i]!).zn,p.qA+((p.qB[i]!).fTo)]),isF false G10 (Sv (aa b8 0) 0 0) ([]:yLI),isF false G27 (Sv (aa b23 0) 1 1) [p.qA+i],isF true G27 (Sv (aa b23 0) 1 1) [p.qA+i],atF b15 (o16+(i:Int).toNat * 4) [yI ((p.qB[i]!).fOp),yI ((p.qB[i]!).zn),yI ((p.qB[i]!).fTo),yI ((p.qB[i]!).zf)],isF true G10 (Sv (aa b8 0) 0 0) ([]:yLI),atF bp op [yI p.qA,Sv (aa b15 o16) p.qB.length cpOrders],sF false FpOrders (aa b15 o16) cpOrders p.qB]:=Kept.nil _
    replace K1:=K1.cons (F:=G10) 5 rfl rfl
    replace K1:=K1.cons (F:=G27) 4 rfl rfl
    replace K1:=K1.cons (F:=G32) 7 rfl rfl
    replace K1:=K1.cons (F:=G47) 2 rfl rfl
    replace K1:=K1.cons (F:=G52) 0 rfl rfl
    refine sw (jg #[pp b6 0,yI 0,Sv (aa b43 0) 1 1,Sv (aa b8 0) 0 0,Sv (aa b8 0) 0 0,Sv (aa b45 0) 2 2] rfl rfl call148 (jo (by first | rfl | rw [hn49,hn50,hn51,hn54]) (Xv (qQ p mode) ((xk p mode i)++[zM (qQ p mode).toNat (0:Int) [p.qA+i] ([]:yLI) ([]:yLI) ([(p.qB[i]!).zn,p.qA+((p.qB[i]!).fTo)])]) b6 ra37 (((xk p mode i)++[zM (qQ p mode).toNat (0:Int) [p.qA+i] ([]:yLI) ([]:yLI) ([(p.qB[i]!).zn,p.qA+((p.qB[i]!).fTo)])]).length) rc39 rx40 rF41 (0:Int) [p.qA+i] (aa b43 0) 1 G47 ([]:yLI) (aa b8 0) 0 G10 ([]:yLI) (aa b8 0) 0 G10 ([(p.qB[i]!).zn,p.qA+((p.qB[i]!).zf)]) (aa b45 0) 2 G52 H1 N1 K1 qf (by exact ⟨by first | exact vZ.nil _ | exact vZ.one qf | exact vZ.two qf qf,by first | exact vZ.nil _ | exact vZ.one qf | exact vZ.two qf qf,by first | exact vZ.nil _ | exact vZ.one qf | exact vZ.two qf qf,by first | exact vZ.nil _ | exact vZ.one qf | exact vZ.two qf qf⟩) (by first | omega | (simp only [List.length_append,List.length_cons,List.length_nil];omega)))) ?_)
    clear H H1 N1 K1
    rintro _ w55 ⟨ra57,rn58,rc59,rx60,rF61,rfl,N,H⟩
    obtain rfl:=H.xB (α:=zZ) 1 rfl 4 rfl qj
    refine xP (b_n (b_n (t_n (xK (sp (yI i) (sw (zi i 1 rfl rfl qf (sq 1 (xP (qW (m' :=(p.qB.length - ((i+1):Int)).toNat) qf ⟨_,i+1,_,_,_,_,_,_,uE6,?_,?_,rfl,(N.pick [5,0]),H.pick [1,0,7] [4,19,20,21]⟩))))))))))
    ·first | exact QD qf qf | exact QU qf qf | exact QT qf qf | exact QB qf qf | exact QC qf qf | exact QA qf qf qf | (exfalso;omega)
    ·omega
   replace h42:=xu h42
   refine qU (b_n (b_n (t_n (xK (sp (yI i) (sw (zi i 1 rfl rfl qf (sq 1 (xP (qW (m' :=(p.qB.length - ((i+1):Int)).toNat) qf ⟨_,i+1,_,_,_,_,_,_,uE6,?_,?_,rfl,(N.pick [3,0]),H.pick [1,0,5] [4,11,12,13]⟩))))))))))
   ·first | exact QD qf qf | exact QU qf qf | exact QT qf qf | exact QB qf qf | exact QC qf qf | exact QA qf qf qf | (exfalso;omega)
   ·omega
  refine zcr (oF rfl (oL rfl (H.cell 0 rfl rfl) (sp (Bv (((p.qB[i]!).fOp:Int) == 3)) (sp (Bv (((p.qB[i]!).fOp:Int) == 3)) (zjn (cE rfl (fun h62=>?_) (fun h62=>?_)))))))
  ·refine qU (b_n (b_n (t_n (xK (sp (yI i) (sw (zi i 1 rfl rfl qf (sq 1 (xP (qW (m' :=(p.qB.length - ((i+1):Int)).toNat) qf ⟨_,i+1,_,_,_,_,_,_,uE6,?_,?_,rfl,N,H.pick [1,2,3] (zR 1 4)⟩))))))))))
   ·first | exact QD qf qf | exact QU qf qf | exact QT qf qf | exact QB qf qf | exact QC qf qf | exact QA qf qf qf | (exfalso;omega)
   ·omega
  refine zcr (sq 1 (sp (Bv ((mode:Int) == 1)) (sp (Bv ((mode:Int) == 1)) (zjn (cE rfl (fun h63=>?_) (fun h63=>?_))))))
  ·refine zcr (sq 2 (oF rfl (oL rfl (H.cell 0 rfl rfl) (sw (o_buildF H underlying27 ti2 [yI (p.qA+i),yI ((p.qB[i]!).zn)] rfl (by simp [Value.cells]) rfl qj qj fun b64 w65 H=>sq 3 (sw (xx H underlying27 ti2 [yI (p.qA+((p.qB[i]!).fTo))] fun b66 w67 H=>?_)))))))
   replace H:=H.vI 1 [p.qA+i,(p.qB[i]!).zn] 2
   obtain ⟨G68,N,hn69,H⟩:=H.zh 1 rfl N (H.vz [2,1])
   replace H:=H.ja 0 rfl
   have hn70:=H.isLen 0 rfl
   replace H:=H.ja 4 rfl
   have hn71:=H.isLen 0 rfl
   have hn72:=H.isLen 0 rfl
   replace H:=H.vI 0 [p.qA+((p.qB[i]!).fTo)] 1
   obtain ⟨G73,N,hn74,H⟩:=H.zh 0 rfl N (H.vz [1,0,4])
   replace H:=H.ja 0 rfl
   have hn75:=H.isLen 0 rfl
   have H1:St w w67 [.box b6 [yI (qQ p mode),Sv jU jv jT] 187,.row (Sv jU jv jT) 120 9 jv yz,.row yN 0 1 0 [],.row yN 0 1 0 [],.box b19 [yI ((p.qB[i]!).fOp),yI ((p.qB[i]!).zn),yI ((p.qB[i]!).fTo),yI ((p.qB[i]!).zf)] 109,.box b1 [yI 0,yN,yN] 37] [isF false G68 (Sv (aa b64 0) (([p.qA+i,(p.qB[i]!).zn]).length) 2) ([p.qA+i,(p.qB[i]!).zn]),isF false G10 (Sv (aa b8 0) (([]:yLI).length) 0) ([]:yLI),isF false G10 (Sv (aa b8 0) (([]:yLI).length) 0) ([]:yLI),isF false G73 (Sv (aa b66 0) (([p.qA+((p.qB[i]!).fTo)]).length) 1) ([p.qA+((p.qB[i]!).fTo)]),xN true yB yz (xk p mode i),isF false G73 (Sv (aa b66 0) 1 1) ([p.qA+((p.qB[i]!).fTo)]),isF true G73 (Sv (aa b66 0) 1 1) ([p.qA+((p.qB[i]!).fTo)]),isF false G10 (Sv (aa b8 0) 0 0) ([]:yLI),isF false G68 (Sv (aa b64 0) 2 2) ([p.qA+i,(p.qB[i]!).zn]),isF true G68 (Sv (aa b64 0) 2 2) ([p.qA+i,(p.qB[i]!).zn]),atF b15 (o16+(i:Int).toNat * 4) [yI ((p.qB[i]!).fOp),yI ((p.qB[i]!).zn),yI ((p.qB[i]!).fTo),yI ((p.qB[i]!).zf)],isF true G10 (Sv (aa b8 0) 0 0) ([]:yLI),atF bp op [yI p.qA,Sv (aa b15 o16) p.qB.length cpOrders],isF false FpOrders (Sv (aa b15 o16) p.qB.length cpOrders) p.qB]:=by (try rw [← hn70,← hn71,← hn72,← hn75]);exact H.pick [4,3,0,1,2,5] [3,2,2,0,6,0,1,2,3,4,5,7,8,9]
   have N1:Fresh _ [yB,G73,G68,G10]:=(N.pick [3,0,1,2])
   have K1:Kept [] [isF false G73 (Sv (aa b66 0) 1 1) ([p.qA+((p.qB[i]!).fTo)]),isF true G73 (Sv (aa b66 0) 1 1) ([p.qA+((p.qB[i]!).fTo)]),isF false G10 (Sv (aa b8 0) 0 0) ([]:yLI),isF false G68 (Sv (aa b64 0) 2 2) ([p.qA+i,(p.qB[i]!).zn]),isF true G68 (Sv (aa b64 0) 2 2) ([p.qA+i,(p.qB[i]!).zn]),atF b15 (o16+(i:Int).toNat * 4) [yI ((p.qB[i]!).fOp),yI ((p.qB[i]!).zn),yI ((p.qB[i]!).fTo),yI ((p.qB[i]!).zf)],isF true G10 (Sv (aa b8 0) 0 0) ([]:yLI),atF bp op [yI p.qA,Sv (aa b15 o16) p.qB.length cpOrders],sF false FpOrders (aa b15 o16) cpOrders p.qB]:=Kept.nil _
   replace K1:=K1.cons (F:=G10) 2 rfl rfl
   replace K1:=K1.cons (F:=G68) 3 rfl rfl
   replace K1:=K1.cons (F:=G73) 0 rfl rfl
   refine sw (jg #[pp b6 0,yI 1,Sv (aa b64 0) 2 2,Sv (aa b8 0) 0 0,Sv (aa b8 0) 0 0,Sv (aa b66 0) 1 1] rfl rfl call148 (jo (by first | rfl | rw [hn70,hn71,hn72,hn75]) (Xv (qQ p mode) (xk p mode i) b6 jU jv jT yz yB (1:Int) ([p.qA+i,(p.qB[i]!).zn]) (aa b64 0) 2 G68 ([]:yLI) (aa b8 0) 0 G10 ([]:yLI) (aa b8 0) 0 G10 ([p.qA+((p.qB[i]!).fTo)]) (aa b66 0) 1 G73 H1 N1 K1 qf (by exact ⟨by first | exact vZ.nil _ | exact vZ.one qf | exact vZ.two qf qf,by first | exact vZ.nil _ | exact vZ.one qf | exact vZ.two qf qf,by first | exact vZ.nil _ | exact vZ.one qf | exact vZ.two qf qf,by first | exact vZ.nil _ | exact vZ.one qf | exact vZ.two qf qf⟩) (by first | omega | (simp only [List.length_append,List.length_cons,List.length_nil];omega)))) ?_)
   clear H H1 N1 K1
   rintro _ w76 ⟨ra78,rn79,rc80,rx81,rF82,rfl,N,H⟩
   obtain rfl:=H.xB (α:=zZ) 1 rfl 4 rfl qj
   refine zjn (xK (sq 2 (sw (xx H underlying27 ti2 [yI (p.qA+i)] fun b83 w84 H=>sq 3 (sw (xx H underlying27 ti2 [yI (p.qA+((p.qB[i]!).zf))] fun b85 w86 H=>?_))))))
   replace H:=H.vI 1 [p.qA+i] 1
   obtain ⟨G87,N,hn88,H⟩:=H.zh 1 rfl N (H.vz [4,3,0,1])
   replace H:=H.ja 0 rfl
   have hn89:=H.isLen 0 rfl
   have hn90:=H.isLen 3 rfl
   have hn91:=H.isLen 3 rfl
   replace H:=H.vI 0 [p.qA+((p.qB[i]!).zf)] 1
   obtain ⟨G92,N,hn93,H⟩:=H.zh 0 rfl N (H.vz [0,6,5,2,3])
   replace H:=H.ja 0 rfl
   have hn94:=H.isLen 0 rfl
   have H1:St w w86 [.box b6 [yI (qQ p mode),Sv ra78 (((xk p mode i)++[zM (qQ p mode).toNat (1:Int) ([p.qA+i,(p.qB[i]!).zn]) ([]:yLI) ([]:yLI) ([p.qA+((p.qB[i]!).fTo)])]).length) rc80] 187,.row (Sv ra78 (((xk p mode i)++[zM (qQ p mode).toNat (1:Int) ([p.qA+i,(p.qB[i]!).zn]) ([]:yLI) ([]:yLI) ([p.qA+((p.qB[i]!).fTo)])]).length) rc80) 120 9 (((xk p mode i)++[zM (qQ p mode).toNat (1:Int) ([p.qA+i,(p.qB[i]!).zn]) ([]:yLI) ([]:yLI) ([p.qA+((p.qB[i]!).fTo)])]).length) rx81,.row yN 0 1 0 [],.row yN 0 1 0 [],.row yN 0 1 0 [],.row yN 0 1 0 [],.box b19 [yI ((p.qB[i]!).fOp),yI ((p.qB[i]!).zn),yI ((p.qB[i]!).fTo),yI ((p.qB[i]!).zf)] 109,.box b1 [yI 0,yN,yN] 37] [isF false G87 (Sv (aa b83 0) ([p.qA+i].length) 1) [p.qA+i],isF false G10 (Sv (aa b8 0) (([]:yLI).length) 0) ([]:yLI),isF false G10 (Sv (aa b8 0) (([]:yLI).length) 0) ([]:yLI),isF false G92 (Sv (aa b85 0) (([p.qA+((p.qB[i]!).zf)]).length) 1) ([p.qA+((p.qB[i]!).zf)]),xN true rF82 rx81 ((xk p mode i)++[zM (qQ p mode).toNat (1:Int) ([p.qA+i,(p.qB[i]!).zn]) ([]:yLI) ([]:yLI) ([p.qA+((p.qB[i]!).fTo)])]),isF false G92 (Sv (aa b85 0) 1 1) ([p.qA+((p.qB[i]!).zf)]),isF true G92 (Sv (aa b85 0) 1 1) ([p.qA+((p.qB[i]!).zf)]),isF false G87 (Sv (aa b83 0) 1 1) [p.qA+i],isF true G87 (Sv (aa b83 0) 1 1) [p.qA+i],isF false G68 (Sv (aa b64 0) (([p.qA+i,(p.qB[i]!).zn]).length) 2) ([p.qA+i,(p.qB[i]!).zn]),isF false G10 (Sv (aa b8 0) (([]:yLI).length) 0) ([]:yLI),isF false G10 (Sv (aa b8 0) (([]:yLI).length) 0) ([]:yLI),isF false G73 (Sv (aa b66 0) (([p.qA+((p.qB[i]!).fTo)]).length) 1) ([p.qA+((p.qB[i]!).fTo)]),isF false G73 (Sv (aa b66 0) 1 1) ([p.qA+((p.qB[i]!).fTo)]),isF true G73 (Sv (aa b66 0) 1 1) ([p.qA+((p.qB[i]!).fTo)]),isF false G10 (Sv (aa b8 0) 0 0) ([]:yLI),isF false G68 (Sv (aa b64 0) 2 2) ([p.qA+i,(p.qB[i]!).zn]),isF true G68 (Sv (aa b64 0) 2 2) ([p.qA+i,(p.qB[i]!).zn]),atF b15 (o16+(i:Int).toNat * 4) [yI ((p.qB[i]!).fOp),yI ((p.qB[i]!).zn),yI ((p.qB[i]!).fTo),yI ((p.qB[i]!).zf)],isF true G10 (Sv (aa b8 0) 0 0) ([]:yLI),atF bp op [yI p.qA,Sv (aa b15 o16) p.qB.length cpOrders],isF false FpOrders (Sv (aa b15 o16) p.qB.length cpOrders) p.qB]:=by (try rw [← hn89,← hn90,← hn91,← hn94]);exact H.pick [2,3,0,1,4,5,6,7] (2::5::5::0::8::0::1::2::3::4::5::6::7::zR 9 9)
   have N1:Fresh _ [rF82,G92,G87,G73,G68,G10]:=(N.pick [2,0,1,3,4,5])
   have K1:Kept [] [isF false G92 (Sv (aa b85 0) 1 1) ([p.qA+((p.qB[i]!).zf)]),isF true G92 (Sv (aa b85 0) 1 1) ([p.qA+((p.qB[i]!).zf)]),isF false G87 (Sv (aa b83 0) 1 1) [p.qA+i],isF true G87 (Sv (aa b83 0) 1 1) [p.qA+i],sF false G68 (aa b64 0) 2 ([p.qA+i,(p.qB[i]!).zn]),sF false G10 (aa b8 0) 0 ([]:yLI),sF false G10 (aa b8 0) 0 ([]:yLI),sF false G73 (aa b66 0) 1 ([p.qA+((p.qB[i]!).fTo)]),isF false G73 (Sv (aa b66 0) 1 1) ([p.qA+((p.qB[i]!).fTo)]),isF true G73 (Sv (aa b66 0) 1 1) ([p.qA+((p.qB[i]!).fTo)]),isF false G10 (Sv (aa b8 0) 0 0) ([]:yLI),isF false G68 (Sv (aa b64 0) 2 2) ([p.qA+i,(p.qB[i]!).zn]),isF true G68 (Sv (aa b64 0) 2 2) ([p.qA+i,(p.qB[i]!).zn]),atF b15 (o16+(i:Int).toNat * 4) [yI ((p.qB[i]!).fOp),yI ((p.qB[i]!).zn),yI ((p.qB[i]!).fTo),yI ((p.qB[i]!).zf)],isF true G10 (Sv (aa b8 0) 0 0) ([]:yLI),atF bp op [yI p.qA,Sv (aa b15 o16) p.qB.length cpOrders],sF false FpOrders (aa b15 o16) cpOrders p.qB]:=Kept.nil _
   replace K1:=K1.cons (F:=G10) 5 rfl rfl
   replace K1:=K1.cons (F:=G68) 4 rfl rfl
   replace K1:=K1.cons (F:=G73) 7 rfl rfl
   replace K1:=K1.cons (F:=G87) 2 rfl rfl
   replace K1:=K1.cons (F:=G92) 0 rfl rfl
   refine sw (jg #[pp b6 0,yI 0,Sv (aa b83 0) 1 1,Sv (aa b8 0) 0 0,Sv (aa b8 0) 0 0,Sv (aa b85 0) 1 1] rfl rfl call148 (jo (by first | rfl | rw [hn89,hn90,hn91,hn94]) (Xv (qQ p mode) ((xk p mode i)++[zM (qQ p mode).toNat (1:Int) ([p.qA+i,(p.qB[i]!).zn]) ([]:yLI) ([]:yLI) ([p.qA+((p.qB[i]!).fTo)])]) b6 ra78 (((xk p mode i)++[zM (qQ p mode).toNat (1:Int) ([p.qA+i,(p.qB[i]!).zn]) ([]:yLI) ([]:yLI) ([p.qA+((p.qB[i]!).fTo)])]).length) rc80 rx81 rF82 (0:Int) [p.qA+i] (aa b83 0) 1 G87 ([]:yLI) (aa b8 0) 0 G10 ([]:yLI) (aa b8 0) 0 G10 ([p.qA+((p.qB[i]!).zf)]) (aa b85 0) 1 G92 H1 N1 K1 qf (by exact ⟨by first | exact vZ.nil _ | exact vZ.one qf | exact vZ.two qf qf,by first | exact vZ.nil _ | exact vZ.one qf | exact vZ.two qf qf,by first | exact vZ.nil _ | exact vZ.one qf | exact vZ.two qf qf,by first | exact vZ.nil _ | exact vZ.one qf | exact vZ.two qf qf⟩) (by first | omega | (simp only [List.length_append,List.length_cons,List.length_nil];omega)))) ?_)
   clear H H1 N1 K1
   rintro _ w95 ⟨ra97,rn98,rc99,rx100,rF101,rfl,N,H⟩
   obtain rfl:=H.xB (α:=zZ) 1 rfl 4 rfl qj
   refine xP (b_n (b_n (t_n (xK (sp (yI i) (sw (zi i 1 rfl rfl qf (sq 1 (xP (qW (m' :=(p.qB.length - ((i+1):Int)).toNat) qf ⟨_,i+1,_,_,_,_,_,_,uE6,?_,?_,rfl,(N.pick [5,0]),H.pick [1,0,7] [4,19,20,21]⟩))))))))))
   ·first | exact QD qf qf | exact QU qf qf | exact QT qf qf | exact QB qf qf | exact QC qf qf | exact QA qf qf qf | (exfalso;omega)
   ·omega
  refine zcr (sq 1 (sp (Bv ((mode:Int) == 2)) (sp (Bv ((mode:Int) == 2)) (zjn (cE rfl (fun h102=>?_) (fun h102=>?_))))))
  ·refine zcr (sq 2 (oF rfl (oL rfl (H.cell 0 rfl rfl) (sw (o_buildF H underlying27 ti2 [yI (p.qA+i),yI ((p.qB[i]!).zn)] rfl (by simp [Value.cells]) rfl qj qj fun b103 w104 H=>sq 3 (sw (xx H underlying27 ti2 [yI (p.qA+((p.qB[i]!).fTo))] fun b105 w106 H=>?_)))))))
   replace H:=H.vI 1 [p.qA+i,(p.qB[i]!).zn] 2
   obtain ⟨G107,N,hn108,H⟩:=H.zh 1 rfl N (H.vz [2,1])
   replace H:=H.ja 0 rfl
   have hn109:=H.isLen 0 rfl
   replace H:=H.ja 4 rfl
   have hn110:=H.isLen 0 rfl
   have hn111:=H.isLen 0 rfl
   replace H:=H.vI 0 [p.qA+((p.qB[i]!).fTo)] 1
   obtain ⟨G112,N,hn113,H⟩:=H.zh 0 rfl N (H.vz [1,0,4])
   replace H:=H.ja 0 rfl
   have hn114:=H.isLen 0 rfl
   have H1:St w w106 [.box b6 [yI (qQ p mode),Sv jU jv jT] 187,.row (Sv jU jv jT) 120 9 jv yz,.row yN 0 1 0 [],.row yN 0 1 0 [],.box b19 [yI ((p.qB[i]!).fOp),yI ((p.qB[i]!).zn),yI ((p.qB[i]!).fTo),yI ((p.qB[i]!).zf)] 109,.box b1 [yI 0,yN,yN] 37] [isF false G107 (Sv (aa b103 0) (([p.qA+i,(p.qB[i]!).zn]).length) 2) ([p.qA+i,(p.qB[i]!).zn]),isF false G10 (Sv (aa b8 0) (([]:yLI).length) 0) ([]:yLI),isF false G10 (Sv (aa b8 0) (([]:yLI).length) 0) ([]:yLI),isF false G112 (Sv (aa b105 0) (([p.qA+((p.qB[i]!).fTo)]).length) 1) ([p.qA+((p.qB[i]!).fTo)]),xN true yB yz (xk p mode i),isF false G112 (Sv (aa b105 0) 1 1) ([p.qA+((p.qB[i]!).fTo)]),isF true G112 (Sv (aa b105 0) 1 1) ([p.qA+((p.qB[i]!).fTo)]),isF false G10 (Sv (aa b8 0) 0 0) ([]:yLI),isF false G107 (Sv (aa b103 0) 2 2) ([p.qA+i,(p.qB[i]!).zn]),isF true G107 (Sv (aa b103 0) 2 2) ([p.qA+i,(p.qB[i]!).zn]),atF b15 (o16+(i:Int).toNat * 4) [yI ((p.qB[i]!).fOp),yI ((p.qB[i]!).zn),yI ((p.qB[i]!).fTo),yI ((p.qB[i]!).zf)],isF true G10 (Sv (aa b8 0) 0 0) ([]:yLI),atF bp op [yI p.qA,Sv (aa b15 o16) p.qB.length cpOrders],isF false FpOrders (Sv (aa b15 o16) p.qB.length cpOrders) p.qB]:=by (try rw [← hn109,← hn110,← hn111,← hn114]);exact H.pick [4,3,0,1,2,5] [3,2,2,0,6,0,1,2,3,4,5,7,8,9]
   have N1:Fresh _ [yB,G112,G107,G10]:=(N.pick [3,0,1,2])
   have K1:Kept [] [isF false G112 (Sv (aa b105 0) 1 1) ([p.qA+((p.qB[i]!).fTo)]),isF true G112 (Sv (aa b105 0) 1 1) ([p.qA+((p.qB[i]!).fTo)]),isF false G10 (Sv (aa b8 0) 0 0) ([]:yLI),isF false G107 (Sv (aa b103 0) 2 2) ([p.qA+i,(p.qB[i]!).zn]),isF true G107 (Sv (aa b103 0) 2 2) ([p.qA+i,(p.qB[i]!).zn]),atF b15 (o16+(i:Int).toNat * 4) [yI ((p.qB[i]!).fOp),yI ((p.qB[i]!).zn),yI ((p.qB[i]!).fTo),yI ((p.qB[i]!).zf)],isF true G10 (Sv (aa b8 0) 0 0) ([]:yLI),atF bp op [yI p.qA,Sv (aa b15 o16) p.qB.length cpOrders],sF false FpOrders (aa b15 o16) cpOrders p.qB]:=Kept.nil _
   replace K1:=K1.cons (F:=G10) 2 rfl rfl
   replace K1:=K1.cons (F:=G107) 3 rfl rfl
   replace K1:=K1.cons (F:=G112) 0 rfl rfl
   refine sw (jg #[pp b6 0,yI 0,Sv (aa b103 0) 2 2,Sv (aa b8 0) 0 0,Sv (aa b8 0) 0 0,Sv (aa b105 0) 1 1] rfl rfl call148 (jo (by first | rfl | rw [hn109,hn110,hn111,hn114]) (Xv (qQ p mode) (xk p mode i) b6 jU jv jT yz yB (0:Int) ([p.qA+i,(p.qB[i]!).zn]) (aa b103 0) 2 G107 ([]:yLI) (aa b8 0) 0 G10 ([]:yLI) (aa b8 0) 0 G10 ([p.qA+((p.qB[i]!).fTo)]) (aa b105 0) 1 G112 H1 N1 K1 qf (by exact ⟨by first | exact vZ.nil _ | exact vZ.one qf | exact vZ.two qf qf,by first | exact vZ.nil _ | exact vZ.one qf | exact vZ.two qf qf,by first | exact vZ.nil _ | exact vZ.one qf | exact vZ.two qf qf,by first | exact vZ.nil _ | exact vZ.one qf | exact vZ.two qf qf⟩) (by first | omega | (simp only [List.length_append,List.length_cons,List.length_nil];omega)))) ?_)
   clear H H1 N1 K1
   rintro _ w115 ⟨ra117,rn118,rc119,rx120,rF121,rfl,N,H⟩
   obtain rfl:=H.xB (α:=zZ) 1 rfl 4 rfl qj
   refine zjn (xK (sq 2 (sw (xx H underlying27 ti2 [yI (p.qA+i)] fun b122 w123 H=>sq 1 (oF rfl (oL rfl (H.cell 5 rfl rfl) (sw (xx H underlying27 ti2 [yI ((p.qB[i]!).zn)] fun b124 w125 H=>sq 1 (sw (xx H underlying27 ti2 [yI (p.qA+((p.qB[i]!).zf))] fun b126 w127 H=>?_))))))))))
   replace H:=H.vI 2 [p.qA+i] 1
   obtain ⟨G128,N,hn129,H⟩:=H.zh 2 rfl N (H.vz [4,3,0,1])
   replace H:=H.ja 0 rfl
   have hn130:=H.isLen 0 rfl
   have hn131:=H.isLen 3 rfl
   replace H:=H.vI 1 [(p.qB[i]!).zn] 1
   obtain ⟨G132,N,hn133,H⟩:=H.zh 1 rfl N (H.vz [0,6,5,2,3])
   replace H:=H.ja 0 rfl
   have hn134:=H.isLen 0 rfl
   replace H:=H.vI 0 [p.qA+((p.qB[i]!).zf)] 1
   obtain ⟨G135,N,hn136,H⟩:=H.zh 0 rfl N (H.vz [0,2,8,7,4,5])
   replace H:=H.ja 0 rfl
   have hn137:=H.isLen 0 rfl
   have H1:St w w127 [.box b6 [yI (qQ p mode),Sv ra117 (((xk p mode i)++[zM (qQ p mode).toNat (0:Int) ([p.qA+i,(p.qB[i]!).zn]) ([]:yLI) ([]:yLI) ([p.qA+((p.qB[i]!).fTo)])]).length) rc119] 187,.row (Sv ra117 (((xk p mode i)++[zM (qQ p mode).toNat (0:Int) ([p.qA+i,(p.qB[i]!).zn]) ([]:yLI) ([]:yLI) ([p.qA+((p.qB[i]!).fTo)])]).length) rc119) 120 9 (((xk p mode i)++[zM (qQ p mode).toNat (0:Int) ([p.qA+i,(p.qB[i]!).zn]) ([]:yLI) ([]:yLI) ([p.qA+((p.qB[i]!).fTo)])]).length) rx120,.row yN 0 1 0 [],.row yN 0 1 0 [],.row yN 0 1 0 [],.row yN 0 1 0 [],.row yN 0 1 0 [],.box b19 [yI ((p.qB[i]!).fOp),yI ((p.qB[i]!).zn),yI ((p.qB[i]!).fTo),yI ((p.qB[i]!).zf)] 109,.box b1 [yI 0,yN,yN] 37] [isF false G128 (Sv (aa b122 0) ([p.qA+i].length) 1) [p.qA+i],isF false G10 (Sv (aa b8 0) (([]:yLI).length) 0) ([]:yLI),isF false G132 (Sv (aa b124 0) (([(p.qB[i]!).zn]).length) 1) ([(p.qB[i]!).zn]),isF false G135 (Sv (aa b126 0) (([p.qA+((p.qB[i]!).zf)]).length) 1) ([p.qA+((p.qB[i]!).zf)]),xN true rF121 rx120 ((xk p mode i)++[zM (qQ p mode).toNat (0:Int) ([p.qA+i,(p.qB[i]!).zn]) ([]:yLI) ([]:yLI) ([p.qA+((p.qB[i]!).fTo)])]),isF false G135 (Sv (aa b126 0) 1 1) ([p.qA+((p.qB[i]!).zf)]),isF true G135 (Sv (aa b126 0) 1 1) ([p.qA+((p.qB[i]!).zf)]),isF false G132 (Sv (aa b124 0) 1 1) ([(p.qB[i]!).zn]),isF true G132 (Sv (aa b124 0) 1 1) ([(p.qB[i]!).zn]),isF false G128 (Sv (aa b122 0) 1 1) [p.qA+i],isF true G128 (Sv (aa b122 0) 1 1) [p.qA+i],isF false G107 (Sv (aa b103 0) (([p.qA+i,(p.qB[i]!).zn]).length) 2) ([p.qA+i,(p.qB[i]!).zn]),isF false G10 (Sv (aa b8 0) (([]:yLI).length) 0) ([]:yLI),isF false G10 (Sv (aa b8 0) (([]:yLI).length) 0) ([]:yLI),isF false G112 (Sv (aa b105 0) (([p.qA+((p.qB[i]!).fTo)]).length) 1) ([p.qA+((p.qB[i]!).fTo)]),isF false G112 (Sv (aa b105 0) 1 1) ([p.qA+((p.qB[i]!).fTo)]),isF true G112 (Sv (aa b105 0) 1 1) ([p.qA+((p.qB[i]!).fTo)]),isF false G10 (Sv (aa b8 0) 0 0) ([]:yLI),isF false G107 (Sv (aa b103 0) 2 2) ([p.qA+i,(p.qB[i]!).zn]),isF true G107 (Sv (aa b103 0) 2 2) ([p.qA+i,(p.qB[i]!).zn]),atF b15 (o16+(i:Int).toNat * 4) [yI ((p.qB[i]!).fOp),yI ((p.qB[i]!).zn),yI ((p.qB[i]!).fTo),yI ((p.qB[i]!).zf)],isF true G10 (Sv (aa b8 0) 0 0) ([]:yLI),atF bp op [yI p.qA,Sv (aa b15 o16) p.qB.length cpOrders],isF false FpOrders (Sv (aa b15 o16) p.qB.length cpOrders) p.qB]:=by (try rw [← hn130,← hn131,← hn134,← hn137]);exact H.pick [3,4,0,1,2,5,6,7,8] (4::7::2::0::10::0::1::2::3::4::5::6::7::8::9::zR 11 9)
   have N1:Fresh _ [rF121,G135,G132,G128,G112,G107,G10]:=(N.pick [3,0,1,2,4,5,6])
   have K1:Kept [] [isF false G135 (Sv (aa b126 0) 1 1) ([p.qA+((p.qB[i]!).zf)]),isF true G135 (Sv (aa b126 0) 1 1) ([p.qA+((p.qB[i]!).zf)]),isF false G132 (Sv (aa b124 0) 1 1) ([(p.qB[i]!).zn]),isF true G132 (Sv (aa b124 0) 1 1) ([(p.qB[i]!).zn]),isF false G128 (Sv (aa b122 0) 1 1) [p.qA+i],isF true G128 (Sv (aa b122 0) 1 1) [p.qA+i],sF false G107 (aa b103 0) 2 ([p.qA+i,(p.qB[i]!).zn]),sF false G10 (aa b8 0) 0 ([]:yLI),sF false G10 (aa b8 0) 0 ([]:yLI),sF false G112 (aa b105 0) 1 ([p.qA+((p.qB[i]!).fTo)]),isF false G112 (Sv (aa b105 0) 1 1) ([p.qA+((p.qB[i]!).fTo)]),isF true G112 (Sv (aa b105 0) 1 1) ([p.qA+((p.qB[i]!).fTo)]),isF false G10 (Sv (aa b8 0) 0 0) ([]:yLI),isF false G107 (Sv (aa b103 0) 2 2) ([p.qA+i,(p.qB[i]!).zn]),isF true G107 (Sv (aa b103 0) 2 2) ([p.qA+i,(p.qB[i]!).zn]),atF b15 (o16+(i:Int).toNat * 4) [yI ((p.qB[i]!).fOp),yI ((p.qB[i]!).zn),yI ((p.qB[i]!).fTo),yI ((p.qB[i]!).zf)],isF true G10 (Sv (aa b8 0) 0 0) ([]:yLI),atF bp op [yI p.qA,Sv (aa b15 o16) p.qB.length cpOrders],sF false FpOrders (aa b15 o16) cpOrders p.qB]:=Kept.nil _
   replace K1:=K1.cons (F:=G10) 7 rfl rfl
   replace K1:=K1.cons (F:=G107) 6 rfl rfl
   replace K1:=K1.cons (F:=G112) 9 rfl rfl
   replace K1:=K1.cons (F:=G128) 4 rfl rfl
   replace K1:=K1.cons (F:=G132) 2 rfl rfl
   replace K1:=K1.cons (F:=G135) 0 rfl rfl
   refine sw (jg #[pp b6 0,yI 0,Sv (aa b122 0) 1 1,Sv (aa b8 0) 0 0,Sv (aa b124 0) 1 1,Sv (aa b126 0) 1 1] rfl rfl call148 (jo (by first | rfl | rw [hn130,hn131,hn134,hn137]) (Xv (qQ p mode) ((xk p mode i)++[zM (qQ p mode).toNat (0:Int) ([p.qA+i,(p.qB[i]!).zn]) ([]:yLI) ([]:yLI) ([p.qA+((p.qB[i]!).fTo)])]) b6 ra117 (((xk p mode i)++[zM (qQ p mode).toNat (0:Int) ([p.qA+i,(p.qB[i]!).zn]) ([]:yLI) ([]:yLI) ([p.qA+((p.qB[i]!).fTo)])]).length) rc119 rx120 rF121 (0:Int) [p.qA+i] (aa b122 0) 1 G128 ([]:yLI) (aa b8 0) 0 G10 ([(p.qB[i]!).zn]) (aa b124 0) 1 G132 ([p.qA+((p.qB[i]!).zf)]) (aa b126 0) 1 G135 H1 N1 K1 qf (by exact ⟨by first | exact vZ.nil _ | exact vZ.one qf | exact vZ.two qf qf,by first | exact vZ.nil _ | exact vZ.one qf | exact vZ.two qf qf,by first | exact vZ.nil _ | exact vZ.one qf | exact vZ.two qf qf,by first | exact vZ.nil _ | exact vZ.one qf | exact vZ.two qf qf⟩) (by first | omega | (simp only [List.length_append,List.length_cons,List.length_nil];omega)))) ?_)
   clear H H1 N1 K1
   rintro _ w138 ⟨ra140,rn141,rc142,rx143,rF144,rfl,N,H⟩
   obtain rfl:=H.xB (α:=zZ) 1 rfl 4 rfl qj
   refine xP (b_n (b_n (t_n (xK (sp (yI i) (sw (zi i 1 rfl rfl qf (sq 1 (xP (qW (m' :=(p.qB.length - ((i+1):Int)).toNat) qf ⟨_,i+1,_,_,_,_,_,_,uE6,?_,?_,rfl,(N.pick [6,0]),H.pick [1,0,8] [4,21,22,23]⟩))))))))))
   ·first | exact QD qf qf | exact QU qf qf | exact QT qf qf | exact QB qf qf | exact QC qf qf | exact QA qf qf qf | (exfalso;omega)
   ·omega
  refine zcr (sq 1 (sp (Bv ((mode:Int) == 3)) (sp (Bv ((mode:Int) == 3)) (zjn (cE rfl (fun h145=>?_) (fun h145=>?_))))))
  ·have kt:=kinds_trap (p:=p) (mode:=mode) qf
   have s1:=subs_yes (p:=p) (k:=i) qf
   have s0:zg p (i:Int).toNat=zg p i:=by rw [Int.toNat_natCast]
   have s3:=subsTo_le p i
   have s2:=subsTo_mono p (k:=i+1) (n:=p.qB.length) qf
   refine zcr (sq 3 (oF rfl (oL rfl (H.xW 3 rfl 1 rfl) (oN rfl (sw (zN #[pp bp op,yI p.qB.length] rfl rfl call110 (en func110 ntmps110 ?_)))))))
   refine zcr (sp (yI 0) (zjc (sq 2 (oF rfl (oL rfl (H.xW 3 rfl 0 rfl) (sq 1 (sw (zi p.qA p.qB.length rfl rfl qf (sq 1 (zjr (ret1 (yI (p.qA+p.qB.length)) rfl rfl ⟨_,rfl,(sw (zi (p.qA+p.qB.length) 1 rfl rfl qf (sq 1 (sp (yI i) (sw (oq (l05Waits_ok _ p i (qF (H.get 3 rfl) 0 2) (H.get 4 rfl).1 qf) H fun w147 H=>?_))))))⟩)))))))))))
   refine sw (zi ((p.qA+p.qB.length)+1) (zg p (i:Int).toNat) rfl rfl qf (sq 1 (zjc (sq 2 (oF rfl (oL rfl (H.cell 0 rfl rfl) (sw (o_buildF H underlying27 ti2 [yI (p.qA+i),yI ((p.qB[i]!).zn)] rfl (by simp [Value.cells]) rfl qj qj fun b149 w150 H=>sq 3 ?_))))))))
   refine sw (xx H underlying27 ti2 [yI (p.qA+((p.qB[i]!).fTo))] fun b151 w152 H=>?_)
   replace H:=H.vI 1 [p.qA+i,(p.qB[i]!).zn] 2
   obtain ⟨G153,N,hn154,H⟩:=H.zh 1 rfl N (H.vz [2,1])
   replace H:=H.ja 0 rfl
   have hn155:=H.isLen 0 rfl
   replace H:=H.ja 4 rfl
   have hn156:=H.isLen 0 rfl
   have hn157:=H.isLen 0 rfl
   replace H:=H.vI 0 [p.qA+((p.qB[i]!).fTo)] 1
   obtain ⟨G158,N,hn159,H⟩:=H.zh 0 rfl N (H.vz [1,0,4])
   replace H:=H.ja 0 rfl
   have hn160:=H.isLen 0 rfl
   have H1:St w w152 [.box b6 [yI (qQ p mode),Sv jU jv jT] 187,.row (Sv jU jv jT) 120 9 jv yz,.row yN 0 1 0 [],.row yN 0 1 0 [],.box b19 [yI ((p.qB[i]!).fOp),yI ((p.qB[i]!).zn),yI ((p.qB[i]!).fTo),yI ((p.qB[i]!).zf)] 109,.box b1 [yI 0,yN,yN] 37] [isF false G153 (Sv (aa b149 0) (([p.qA+i,(p.qB[i]!).zn]).length) 2) ([p.qA+i,(p.qB[i]!).zn]),isF false G10 (Sv (aa b8 0) (([]:yLI).length) 0) ([]:yLI),isF false G10 (Sv (aa b8 0) (([]:yLI).length) 0) ([]:yLI),isF false G158 (Sv (aa b151 0) (([p.qA+((p.qB[i]!).fTo)]).length) 1) ([p.qA+((p.qB[i]!).fTo)]),xN true yB yz (xk p mode i),isF false G158 (Sv (aa b151 0) 1 1) ([p.qA+((p.qB[i]!).fTo)]),isF true G158 (Sv (aa b151 0) 1 1) ([p.qA+((p.qB[i]!).fTo)]),isF false G10 (Sv (aa b8 0) 0 0) ([]:yLI),isF false G153 (Sv (aa b149 0) 2 2) ([p.qA+i,(p.qB[i]!).zn]),isF true G153 (Sv (aa b149 0) 2 2) ([p.qA+i,(p.qB[i]!).zn]),atF b15 (o16+(i:Int).toNat * 4) [yI ((p.qB[i]!).fOp),yI ((p.qB[i]!).zn),yI ((p.qB[i]!).fTo),yI ((p.qB[i]!).zf)],isF true G10 (Sv (aa b8 0) 0 0) ([]:yLI),atF bp op [yI p.qA,Sv (aa b15 o16) p.qB.length cpOrders],isF false FpOrders (Sv (aa b15 o16) p.qB.length cpOrders) p.qB]:=by (try rw [← hn155,← hn156,← hn157,← hn160]);exact H.pick [4,3,0,1,2,5] [3,2,2,0,6,0,1,2,3,4,5,7,8,9]
   have N1:Fresh _ [yB,G158,G153,G10]:=(N.pick [3,0,1,2])
   have K1:Kept [] [isF false G158 (Sv (aa b151 0) 1 1) ([p.qA+((p.qB[i]!).fTo)]),isF true G158 (Sv (aa b151 0) 1 1) ([p.qA+((p.qB[i]!).fTo)]),isF false G10 (Sv (aa b8 0) 0 0) ([]:yLI),isF false G153 (Sv (aa b149 0) 2 2) ([p.qA+i,(p.qB[i]!).zn]),isF true G153 (Sv (aa b149 0) 2 2) ([p.qA+i,(p.qB[i]!).zn]),atF b15 (o16+(i:Int).toNat * 4) [yI ((p.qB[i]!).fOp),yI ((p.qB[i]!).zn),yI ((p.qB[i]!).fTo),yI ((p.qB[i]!).zf)],isF true G10 (Sv (aa b8 0) 0 0) ([]:yLI),atF bp op [yI p.qA,Sv (aa b15 o16) p.qB.length cpOrders],sF false FpOrders (aa b15 o16) cpOrders p.qB]:=Kept.nil _
   replace K1:=K1.cons (F:=G10) 2 rfl rfl
   replace K1:=K1.cons (F:=G153) 3 rfl rfl
   replace K1:=K1.cons (F:=G158) 0 rfl rfl
   refine sw (jg #[pp b6 0,yI 0,Sv (aa b149 0) 2 2,Sv (aa b8 0) 0 0,Sv (aa b8 0) 0 0,Sv (aa b151 0) 1 1] rfl rfl call148 (jo (by first | rfl | rw [hn155,hn156,hn157,hn160]) (Xv (qQ p mode) (xk p mode i) b6 jU jv jT yz yB (0:Int) ([p.qA+i,(p.qB[i]!).zn]) (aa b149 0) 2 G153 ([]:yLI) (aa b8 0) 0 G10 ([]:yLI) (aa b8 0) 0 G10 ([p.qA+((p.qB[i]!).fTo)]) (aa b151 0) 1 G158 H1 N1 K1 qf (by exact ⟨by first | exact vZ.nil _ | exact vZ.one qf | exact vZ.two qf qf,by first | exact vZ.nil _ | exact vZ.one qf | exact vZ.two qf qf,by first | exact vZ.nil _ | exact vZ.one qf | exact vZ.two qf qf,by first | exact vZ.nil _ | exact vZ.one qf | exact vZ.two qf qf⟩) (by first | omega | (simp only [List.length_append,List.length_cons,List.length_nil];omega)))) ?_)
   clear H H1 N1 K1
   rintro _ w161 ⟨ra163,rn164,rc165,rx166,rF167,rfl,N,H⟩
   obtain rfl:=H.xB (α:=zZ) 1 rfl 4 rfl qj
   refine zjc (sq 2 (sw (xx H underlying27 ti2 [yI (p.qA+i)] fun b168 w169 H=>sq 3 (sw (xx H underlying27 ti2 [yI (((p.qA+p.qB.length)+1)+(zg p (i:Int).toNat))] fun b170 w171 H=>?_)))))
   replace H:=H.vI 1 [p.qA+i] 1
   obtain ⟨G172,N,hn173,H⟩:=H.zh 1 rfl N (H.vz [4,3,0,1])
   replace H:=H.ja 0 rfl
   have hn174:=H.isLen 0 rfl
   have hn175:=H.isLen 3 rfl
   have hn176:=H.isLen 3 rfl
   replace H:=H.vI 0 [((p.qA+p.qB.length)+1)+(zg p (i:Int).toNat)] 1
   obtain ⟨G177,N,hn178,H⟩:=H.zh 0 rfl N (H.vz [0,6,5,2,3])
   replace H:=H.ja 0 rfl
   have hn179:=H.isLen 0 rfl
   have H1:St w w171 [.box b6 [yI (qQ p mode),Sv ra163 (((xk p mode i)++[zM (qQ p mode).toNat (0:Int) ([p.qA+i,(p.qB[i]!).zn]) ([]:yLI) ([]:yLI) ([p.qA+((p.qB[i]!).fTo)])]).length) rc165] 187,.row (Sv ra163 (((xk p mode i)++[zM (qQ p mode).toNat (0:Int) ([p.qA+i,(p.qB[i]!).zn]) ([]:yLI) ([]:yLI) ([p.qA+((p.qB[i]!).fTo)])]).length) rc165) 120 9 (((xk p mode i)++[zM (qQ p mode).toNat (0:Int) ([p.qA+i,(p.qB[i]!).zn]) ([]:yLI) ([]:yLI) ([p.qA+((p.qB[i]!).fTo)])]).length) rx166,.row yN 0 1 0 [],.row yN 0 1 0 [],.row yN 0 1 0 [],.row yN 0 1 0 [],.box b19 [yI ((p.qB[i]!).fOp),yI ((p.qB[i]!).zn),yI ((p.qB[i]!).fTo),yI ((p.qB[i]!).zf)] 109,.box b1 [yI 0,yN,yN] 37] [isF false G172 (Sv (aa b168 0) ([p.qA+i].length) 1) [p.qA+i],isF false G10 (Sv (aa b8 0) (([]:yLI).length) 0) ([]:yLI),isF false G10 (Sv (aa b8 0) (([]:yLI).length) 0) ([]:yLI),isF false G177 (Sv (aa b170 0) ([((p.qA+p.qB.length)+1)+(zg p (i:Int).toNat)].length) 1) [((p.qA+p.qB.length)+1)+(zg p (i:Int).toNat)],xN true rF167 rx166 ((xk p mode i)++[zM (qQ p mode).toNat (0:Int) ([p.qA+i,(p.qB[i]!).zn]) ([]:yLI) ([]:yLI) ([p.qA+((p.qB[i]!).fTo)])]),isF false G177 (Sv (aa b170 0) 1 1) [((p.qA+p.qB.length)+1)+(zg p (i:Int).toNat)],isF true G177 (Sv (aa b170 0) 1 1) [((p.qA+p.qB.length)+1)+(zg p (i:Int).toNat)],isF false G172 (Sv (aa b168 0) 1 1) [p.qA+i],isF true G172 (Sv (aa b168 0) 1 1) [p.qA+i],isF false G153 (Sv (aa b149 0) (([p.qA+i,(p.qB[i]!).zn]).length) 2) ([p.qA+i,(p.qB[i]!).zn]),isF false G10 (Sv (aa b8 0) (([]:yLI).length) 0) ([]:yLI),isF false G10 (Sv (aa b8 0) (([]:yLI).length) 0) ([]:yLI),isF false G158 (Sv (aa b151 0) (([p.qA+((p.qB[i]!).fTo)]).length) 1) ([p.qA+((p.qB[i]!).fTo)]),isF false G158 (Sv (aa b151 0) 1 1) ([p.qA+((p.qB[i]!).fTo)]),isF true G158 (Sv (aa b151 0) 1 1) ([p.qA+((p.qB[i]!).fTo)]),isF false G10 (Sv (aa b8 0) 0 0) ([]:yLI),isF false G153 (Sv (aa b149 0) 2 2) ([p.qA+i,(p.qB[i]!).zn]),isF true G153 (Sv (aa b149 0) 2 2) ([p.qA+i,(p.qB[i]!).zn]),atF b15 (o16+(i:Int).toNat * 4) [yI ((p.qB[i]!).fOp),yI ((p.qB[i]!).zn),yI ((p.qB[i]!).fTo),yI ((p.qB[i]!).zf)],isF true G10 (Sv (aa b8 0) 0 0) ([]:yLI),atF bp op [yI p.qA,Sv (aa b15 o16) p.qB.length cpOrders],isF false FpOrders (Sv (aa b15 o16) p.qB.length cpOrders) p.qB]:=by (try rw [← hn174,← hn175,← hn176,← hn179]);exact H.pick [2,3,0,1,4,5,6,7] (2::5::5::0::8::0::1::2::3::4::5::6::7::zR 9 9)
   have N1:Fresh _ [rF167,G177,G172,G158,G153,G10]:=(N.pick [2,0,1,3,4,5])
   have K1:Kept [] [isF false G177 (Sv (aa b170 0) 1 1) [((p.qA+p.qB.length)+1)+(zg p (i:Int).toNat)],isF true G177 (Sv (aa b170 0) 1 1) [((p.qA+p.qB.length)+1)+(zg p (i:Int).toNat)],isF false G172 (Sv (aa b168 0) 1 1) [p.qA+i],isF true G172 (Sv (aa b168 0) 1 1) [p.qA+i],sF false G153 (aa b149 0) 2 ([p.qA+i,(p.qB[i]!).zn]),sF false G10 (aa b8 0) 0 ([]:yLI),sF false G10 (aa b8 0) 0 ([]:yLI),sF false G158 (aa b151 0) 1 ([p.qA+((p.qB[i]!).fTo)]),isF false G158 (Sv (aa b151 0) 1 1) ([p.qA+((p.qB[i]!).fTo)]),isF true G158 (Sv (aa b151 0) 1 1) ([p.qA+((p.qB[i]!).fTo)]),isF false G10 (Sv (aa b8 0) 0 0) ([]:yLI),isF false G153 (Sv (aa b149 0) 2 2) ([p.qA+i,(p.qB[i]!).zn]),isF true G153 (Sv (aa b149 0) 2 2) ([p.qA+i,(p.qB[i]!).zn]),atF b15 (o16+(i:Int).toNat * 4) [yI ((p.qB[i]!).fOp),yI ((p.qB[i]!).zn),yI ((p.qB[i]!).fTo),yI ((p.qB[i]!).zf)],isF true G10 (Sv (aa b8 0) 0 0) ([]:yLI),atF bp op [yI p.qA,Sv (aa b15 o16) p.qB.length cpOrders],sF false FpOrders (aa b15 o16) cpOrders p.qB]:=Kept.nil _
   replace K1:=K1.cons (F:=G10) 5 rfl rfl
   replace K1:=K1.cons (F:=G153) 4 rfl rfl
   replace K1:=K1.cons (F:=G158) 7 rfl rfl
   replace K1:=K1.cons (F:=G172) 2 rfl rfl
   replace K1:=K1.cons (F:=G177) 0 rfl rfl
   refine sw (jg #[pp b6 0,yI 0,Sv (aa b168 0) 1 1,Sv (aa b8 0) 0 0,Sv (aa b8 0) 0 0,Sv (aa b170 0) 1 1] rfl rfl call148 (jo (by first | rfl | rw [hn174,hn175,hn176,hn179]) (Xv (qQ p mode) ((xk p mode i)++[zM (qQ p mode).toNat (0:Int) ([p.qA+i,(p.qB[i]!).zn]) ([]:yLI) ([]:yLI) ([p.qA+((p.qB[i]!).fTo)])]) b6 ra163 (((xk p mode i)++[zM (qQ p mode).toNat (0:Int) ([p.qA+i,(p.qB[i]!).zn]) ([]:yLI) ([]:yLI) ([p.qA+((p.qB[i]!).fTo)])]).length) rc165 rx166 rF167 (0:Int) [p.qA+i] (aa b168 0) 1 G172 ([]:yLI) (aa b8 0) 0 G10 ([]:yLI) (aa b8 0) 0 G10 [((p.qA+p.qB.length)+1)+(zg p (i:Int).toNat)] (aa b170 0) 1 G177 H1 N1 K1 qf (by exact ⟨by first | exact vZ.nil _ | exact vZ.one qf | exact vZ.two qf qf,by first | exact vZ.nil _ | exact vZ.one qf | exact vZ.two qf qf,by first | exact vZ.nil _ | exact vZ.one qf | exact vZ.two qf qf,by first | exact vZ.nil _ | exact vZ.one qf | exact vZ.two qf qf⟩) (by first | omega | (simp only [List.length_append,List.length_cons,List.length_nil];omega)))) ?_)
   clear H H1 N1 K1
   rintro _ w180 ⟨ra182,rn183,rc184,rx185,rF186,rfl,N,H⟩
   obtain rfl:=H.xB (α:=zZ) 1 rfl 4 rfl qj
   refine zjc (sq 2 (sw (xx H underlying27 ti2 [yI (((p.qA+p.qB.length)+1)+(zg p (i:Int).toNat))] fun b187 w188 H=>sq 3 (sw (xx H underlying27 ti2 [yI (p.qA+((p.qB[i]!).zf))] fun b189 w190 H=>?_)))))
   replace H:=H.vI 1 [((p.qA+p.qB.length)+1)+(zg p (i:Int).toNat)] 1
   obtain ⟨G191,N,hn192,H⟩:=H.zh 1 rfl N (H.vz [4,3,0,12,9,1])
   replace H:=H.ja 0 rfl
   have hn193:=H.isLen 0 rfl
   have hn194:=H.isLen 3 rfl
   have hn195:=H.isLen 3 rfl
   replace H:=H.vI 0 [p.qA+((p.qB[i]!).zf)] 1
   obtain ⟨G196,N,hn197,H⟩:=H.zh 0 rfl N (H.vz [0,6,5,2,14,11,3])
   replace H:=H.ja 0 rfl
   have hn198:=H.isLen 0 rfl
   have H1:St w w190 [.box b6 [yI (qQ p mode),Sv ra182 ((((xk p mode i)++[zM (qQ p mode).toNat (0:Int) ([p.qA+i,(p.qB[i]!).zn]) ([]:yLI) ([]:yLI) ([p.qA+((p.qB[i]!).fTo)])])++[zM (qQ p mode).toNat (0:Int) [p.qA+i] ([]:yLI) ([]:yLI) [((p.qA+p.qB.length)+1)+(zg p (i:Int).toNat)]]).length) rc184] 187,.row (Sv ra182 ((((xk p mode i)++[zM (qQ p mode).toNat (0:Int) ([p.qA+i,(p.qB[i]!).zn]) ([]:yLI) ([]:yLI) ([p.qA+((p.qB[i]!).fTo)])])++[zM (qQ p mode).toNat (0:Int) [p.qA+i] ([]:yLI) ([]:yLI) [((p.qA+p.qB.length)+1)+(zg p (i:Int).toNat)]]).length) rc184) 120 9 ((((xk p mode i)++[zM (qQ p mode).toNat (0:Int) ([p.qA+i,(p.qB[i]!).zn]) ([]:yLI) ([]:yLI) ([p.qA+((p.qB[i]!).fTo)])])++[zM (qQ p mode).toNat (0:Int) [p.qA+i] ([]:yLI) ([]:yLI) [((p.qA+p.qB.length)+1)+(zg p (i:Int).toNat)]]).length) rx185,.row yN 0 1 0 [],.row yN 0 1 0 [],.row yN 0 1 0 [],.row yN 0 1 0 [],.row yN 0 1 0 [],.row yN 0 1 0 [],.box b19 [yI ((p.qB[i]!).fOp),yI ((p.qB[i]!).zn),yI ((p.qB[i]!).fTo),yI ((p.qB[i]!).zf)] 109,.box b1 [yI 0,yN,yN] 37] [isF false G191 (Sv (aa b187 0) ([((p.qA+p.qB.length)+1)+(zg p (i:Int).toNat)].length) 1) [((p.qA+p.qB.length)+1)+(zg p (i:Int).toNat)],isF false G10 (Sv (aa b8 0) (([]:yLI).length) 0) ([]:yLI),isF false G10 (Sv (aa b8 0) (([]:yLI).length) 0) ([]:yLI),isF false G196 (Sv (aa b189 0) (([p.qA+((p.qB[i]!).zf)]).length) 1) ([p.qA+((p.qB[i]!).zf)]),xN true rF186 rx185 (((xk p mode i)++[zM (qQ p mode).toNat (0:Int) ([p.qA+i,(p.qB[i]!).zn]) ([]:yLI) ([]:yLI) ([p.qA+((p.qB[i]!).fTo)])])++[zM (qQ p mode).toNat (0:Int) [p.qA+i] ([]:yLI) ([]:yLI) [((p.qA+p.qB.length)+1)+(zg p (i:Int).toNat)]]),isF false G196 (Sv (aa b189 0) 1 1) ([p.qA+((p.qB[i]!).zf)]),isF true G196 (Sv (aa b189 0) 1 1) ([p.qA+((p.qB[i]!).zf)]),isF false G191 (Sv (aa b187 0) 1 1) [((p.qA+p.qB.length)+1)+(zg p (i:Int).toNat)],isF true G191 (Sv (aa b187 0) 1 1) [((p.qA+p.qB.length)+1)+(zg p (i:Int).toNat)],isF false G172 (Sv (aa b168 0) ([p.qA+i].length) 1) [p.qA+i],isF false G10 (Sv (aa b8 0) (([]:yLI).length) 0) ([]:yLI),isF false G10 (Sv (aa b8 0) (([]:yLI).length) 0) ([]:yLI),isF false G177 (Sv (aa b170 0) ([((p.qA+p.qB.length)+1)+(zg p (i:Int).toNat)].length) 1) [((p.qA+p.qB.length)+1)+(zg p (i:Int).toNat)],isF false G177 (Sv (aa b170 0) 1 1) [((p.qA+p.qB.length)+1)+(zg p (i:Int).toNat)],isF true G177 (Sv (aa b170 0) 1 1) [((p.qA+p.qB.length)+1)+(zg p (i:Int).toNat)],isF false G172 (Sv (aa b168 0) 1 1) [p.qA+i],isF true G172 (Sv (aa b168 0) 1 1) [p.qA+i],isF false G153 (Sv (aa b149 0) (([p.qA+i,(p.qB[i]!).zn]).length) 2) ([p.qA+i,(p.qB[i]!).zn]),isF false G10 (Sv (aa b8 0) (([]:yLI).length) 0) ([]:yLI),isF false G10 (Sv (aa b8 0) (([]:yLI).length) 0) ([]:yLI),isF false G158 (Sv (aa b151 0) (([p.qA+((p.qB[i]!).fTo)]).length) 1) ([p.qA+((p.qB[i]!).fTo)]),isF false G158 (Sv (aa b151 0) 1 1) ([p.qA+((p.qB[i]!).fTo)]),isF true G158 (Sv (aa b151 0) 1 1) ([p.qA+((p.qB[i]!).fTo)]),isF false G10 (Sv (aa b8 0) 0 0) ([]:yLI),isF false G153 (Sv (aa b149 0) 2 2) ([p.qA+i,(p.qB[i]!).zn]),isF true G153 (Sv (aa b149 0) 2 2) ([p.qA+i,(p.qB[i]!).zn]),atF b15 (o16+(i:Int).toNat * 4) [yI ((p.qB[i]!).fOp),yI ((p.qB[i]!).zn),yI ((p.qB[i]!).fTo),yI ((p.qB[i]!).zf)],isF true G10 (Sv (aa b8 0) 0 0) ([]:yLI),atF bp op [yI p.qA,Sv (aa b15 o16) p.qB.length cpOrders],isF false FpOrders (Sv (aa b15 o16) p.qB.length cpOrders) p.qB]:=by (try rw [← hn193,← hn194,← hn195,← hn198]);exact H.pick (2::3::0::1::zR 4 6) (2::5::5::0::8::0::1::2::3::4::5::6::7::zR 9 17)
   have N1:Fresh _ [rF186,G196,G191,G177,G172,G158,G153,G10]:=(N.pick [2,0,1,3,4,5,6,7])
   have K1:Kept [] [isF false G196 (Sv (aa b189 0) 1 1) ([p.qA+((p.qB[i]!).zf)]),isF true G196 (Sv (aa b189 0) 1 1) ([p.qA+((p.qB[i]!).zf)]),isF false G191 (Sv (aa b187 0) 1 1) [((p.qA+p.qB.length)+1)+(zg p (i:Int).toNat)],isF true G191 (Sv (aa b187 0) 1 1) [((p.qA+p.qB.length)+1)+(zg p (i:Int).toNat)],sF false G172 (aa b168 0) 1 [p.qA+i],sF false G10 (aa b8 0) 0 ([]:yLI),sF false G10 (aa b8 0) 0 ([]:yLI),sF false G177 (aa b170 0) 1 [((p.qA+p.qB.length)+1)+(zg p (i:Int).toNat)],isF false G177 (Sv (aa b170 0) 1 1) [((p.qA+p.qB.length)+1)+(zg p (i:Int).toNat)],isF true G177 (Sv (aa b170 0) 1 1) [((p.qA+p.qB.length)+1)+(zg p (i:Int).toNat)],isF false G172 (Sv (aa b168 0) 1 1) [p.qA+i],isF true G172 (Sv (aa b168 0) 1 1) [p.qA+i],sF false G153 (aa b149 0) 2 ([p.qA+i,(p.qB[i]!).zn]),sF false G10 (aa b8 0) 0 ([]:yLI),sF false G10 (aa b8 0) 0 ([]:yLI),sF false G158 (aa b151 0) 1 ([p.qA+((p.qB[i]!).fTo)]),isF false G158 (Sv (aa b151 0) 1 1) ([p.qA+((p.qB[i]!).fTo)]),isF true G158 (Sv (aa b151 0) 1 1) ([p.qA+((p.qB[i]!).fTo)]),isF false G10 (Sv (aa b8 0) 0 0) ([]:yLI),isF false G153 (Sv (aa b149 0) 2 2) ([p.qA+i,(p.qB[i]!).zn]),isF true G153 (Sv (aa b149 0) 2 2) ([p.qA+i,(p.qB[i]!).zn]),atF b15 (o16+(i:Int).toNat * 4) [yI ((p.qB[i]!).fOp),yI ((p.qB[i]!).zn),yI ((p.qB[i]!).fTo),yI ((p.qB[i]!).zf)],isF true G10 (Sv (aa b8 0) 0 0) ([]:yLI),atF bp op [yI p.qA,Sv (aa b15 o16) p.qB.length cpOrders],sF false FpOrders (aa b15 o16) cpOrders p.qB]:=Kept.nil _
   replace K1:=K1.cons (F:=G10) 5 rfl rfl
   replace K1:=K1.cons (F:=G153) 12 rfl rfl
   replace K1:=K1.cons (F:=G158) 15 rfl rfl
   replace K1:=K1.cons (F:=G172) 4 rfl rfl
   replace K1:=K1.cons (F:=G177) 7 rfl rfl
   replace K1:=K1.cons (F:=G191) 2 rfl rfl
   replace K1:=K1.cons (F:=G196) 0 rfl rfl
   refine sw (jg #[pp b6 0,yI 0,Sv (aa b187 0) 1 1,Sv (aa b8 0) 0 0,Sv (aa b8 0) 0 0,Sv (aa b189 0) 1 1] rfl rfl call148 (jo (by first | rfl | rw [hn193,hn194,hn195,hn198]) (Xv (qQ p mode) (((xk p mode i)++[zM (qQ p mode).toNat (0:Int) ([p.qA+i,(p.qB[i]!).zn]) ([]:yLI) ([]:yLI) ([p.qA+((p.qB[i]!).fTo)])])++[zM (qQ p mode).toNat (0:Int) [p.qA+i] ([]:yLI) ([]:yLI) [((p.qA+p.qB.length)+1)+(zg p (i:Int).toNat)]]) b6 ra182 ((((xk p mode i)++[zM (qQ p mode).toNat (0:Int) ([p.qA+i,(p.qB[i]!).zn]) ([]:yLI) ([]:yLI) ([p.qA+((p.qB[i]!).fTo)])])++[zM (qQ p mode).toNat (0:Int) [p.qA+i] ([]:yLI) ([]:yLI) [((p.qA+p.qB.length)+1)+(zg p (i:Int).toNat)]]).length) rc184 rx185 rF186 (0:Int) [((p.qA+p.qB.length)+1)+(zg p (i:Int).toNat)] (aa b187 0) 1 G191 ([]:yLI) (aa b8 0) 0 G10 ([]:yLI) (aa b8 0) 0 G10 ([p.qA+((p.qB[i]!).zf)]) (aa b189 0) 1 G196 H1 N1 K1 qf (by exact ⟨by first | exact vZ.nil _ | exact vZ.one qf | exact vZ.two qf qf,by first | exact vZ.nil _ | exact vZ.one qf | exact vZ.two qf qf,by first | exact vZ.nil _ | exact vZ.one qf | exact vZ.two qf qf,by first | exact vZ.nil _ | exact vZ.one qf | exact vZ.two qf qf⟩) (by first | omega | (simp only [List.length_append,List.length_cons,List.length_nil];omega)))) ?_)
   clear H H1 N1 K1
   rintro _ w199 ⟨ra201,rn202,rc203,rx204,rF205,rfl,N,H⟩
   obtain rfl:=H.xB (α:=zZ) 1 rfl 4 rfl qj
   refine zjn ?_
   refine c_lateC (fun ρ w209=>∃ (xQ:Env) (b206:Nat) (b207:Nat) (b208:Nat),ρ=upd (upd (upd (upd (upd (upd (upd (upd (upd (upd (upd xQ 0 (pp bp op)) 1 (yI mode)) 4 (pp b1 0)) 5 (pp b6 0)) 6 (Sv (aa b8 0) 0 0)) 7 (yI i)) 164 (pp b6 0)) 167 (Sv (aa b206 0) 1 1)) 169 (Sv (aa b207 0) 1 1)) 170 (Sv (aa b8 0) 0 0)) 176 (Sv (aa b208 0) 1 1)/\Fresh w.heap.size [rF205,G10]/\St w w209 [.box b208 [yI ((qQ p mode) - 1)] 2,.box b207 [yI (((p.qA+p.qB.length)+1)+(zg p (i:Int).toNat))] 2,.box b206 [yI ((p.qB[i]!).zn)] 2,.box b6 [yI (qQ p mode),Sv ra201 (((((xk p mode i)++[zM (qQ p mode).toNat (0:Int) ([p.qA+i,(p.qB[i]!).zn]) ([]:yLI) ([]:yLI) ([p.qA+((p.qB[i]!).fTo)])])++[zM (qQ p mode).toNat (0:Int) [p.qA+i] ([]:yLI) ([]:yLI) [((p.qA+p.qB.length)+1)+(zg p (i:Int).toNat)]])++[zM (qQ p mode).toNat (0:Int) [((p.qA+p.qB.length)+1)+(zg p (i:Int).toNat)] ([]:yLI) ([]:yLI) ([p.qA+((p.qB[i]!).zf)])]).length) rc203] 187,rr ra201 (((((xk p mode i)++[zM (qQ p mode).toNat (0:Int) ([p.qA+i,(p.qB[i]!).zn]) ([]:yLI) ([]:yLI) ([p.qA+((p.qB[i]!).fTo)])])++[zM (qQ p mode).toNat (0:Int) [p.qA+i] ([]:yLI) ([]:yLI) [((p.qA+p.qB.length)+1)+(zg p (i:Int).toNat)]])++[zM (qQ p mode).toNat (0:Int) [((p.qA+p.qB.length)+1)+(zg p (i:Int).toNat)] ([]:yLI) ([]:yLI) ([p.qA+((p.qB[i]!).zf)])]).length) rc203 120 9 rx204,rr none 0 0 0 1 [],rr none 0 0 0 1 [],rr none 0 0 0 1 [],rr none 0 0 0 1 [],rr none 0 0 0 1 [],rr none 0 0 0 1 [],.box b19 [yI ((p.qB[i]!).fOp),yI ((p.qB[i]!).zn),yI ((p.qB[i]!).fTo),yI ((p.qB[i]!).zf)] 109,.box b1 [yI 0,yN,yN] 37] [sF false G10 (aa b8 0) 0 ([]:yLI),sF false G10 (aa b8 0) 0 ([]:yLI),xN true rF205 rx204 ((((xk p mode i)++[zM (qQ p mode).toNat (0:Int) ([p.qA+i,(p.qB[i]!).zn]) ([]:yLI) ([]:yLI) ([p.qA+((p.qB[i]!).fTo)])])++[zM (qQ p mode).toNat (0:Int) [p.qA+i] ([]:yLI) ([]:yLI) [((p.qA+p.qB.length)+1)+(zg p (i:Int).toNat)]])++[zM (qQ p mode).toNat (0:Int) [((p.qA+p.qB.length)+1)+(zg p (i:Int).toNat)] ([]:yLI) ([]:yLI) ([p.qA+((p.qB[i]!).zf)])]),sF false G10 (aa b8 0) 0 ([]:yLI),sF false G10 (aa b8 0) 0 ([]:yLI),sF false G10 (aa b8 0) 0 ([]:yLI),sF false G10 (aa b8 0) 0 ([]:yLI),isF false G10 (Sv (aa b8 0) 0 0) ([]:yLI),atF b15 (o16+(i:Int).toNat * 4) [yI ((p.qB[i]!).fOp),yI ((p.qB[i]!).zn),yI ((p.qB[i]!).fTo),yI ((p.qB[i]!).zf)],isF true G10 (Sv (aa b8 0) 0 0) ([]:yLI),atF bp op [yI p.qA,Sv (aa b15 o16) p.qB.length cpOrders],sF false FpOrders (aa b15 o16) cpOrders p.qB]) rfl H [0,1,2,3,4,5,6,7,8,9] [0,1,2,3,4,5,6,7,8,9,10,11,12,13,14,15,16,17,18,19,20,21,22,23,24,25,26,27,28,29] (fun H=>?_) ?_
   ·dsimp only [Xw]
    refine rtl 0 H ?_
    refine tF 1 rfl rfl H ?_
    refine tL 2 rfl rfl (fun _ h=>h.cell 8 rfl rfl) H ?_
    refine rtl 4 H ?_
    refine rtl 6 H ?_
    refine rtl 7 H ?_
    refine rtl 8 H ?_
    refine tF 9 rfl rfl H ?_
    refine tL 10 rfl rfl (fun _ h=>h.cell 0 rfl rfl) H ?_
    refine rt 11 _ (y_sub (qQ p mode) 1 rfl rfl qf) H ?_
    refine jb [3,5,12] qh qm (jM rfl ?_ (jM rfl ?_ (jM rfl ?_ jd)))
    ·refine xx H underlying27 ti2 [yI ((p.qB[i]!).zn)] fun b211 w212 H=>⟨H.pick (zR 1 10) (zR 0 30),(jb [5,12] qh qm (jM rfl ?_ (jM rfl ?_ jd)))⟩
     ·refine xx H underlying27 ti2 [yI (((p.qA+p.qB.length)+1)+(zg p (i:Int).toNat))] fun b213 w214 H=>⟨H.pick (zR 2 10) (zR 0 30),(ro 12 rfl (xx H underlying27 ti2 [yI ((qQ p mode) - 1)] fun b215 w216 H=>⟨H.pick (zR 3 10) (zR 0 30),(xA qh (?_))⟩))⟩
      exact meet ⟨_,b211,b213,b215,uE11,(N.pick [0,7]),H.pick (zR 0 13) [1,2,4,10,11,18,19,23,26,27,28,29]⟩
     refine xx H underlying27 ti2 [yI ((qQ p mode) - 1)] fun b217 w218 H=>⟨H.pick (zR 2 10) (zR 0 30),(ro 5 rfl (xx H underlying27 ti2 [yI (((p.qA+p.qB.length)+1)+(zg p (i:Int).toNat))] fun b219 w220 H=>⟨H.pick (zR 3 10) (zR 0 30),(xA qh (?_))⟩))⟩
     exact meet ⟨_,b211,b219,b217,uE11,(N.pick [0,7]),H.pick (1::0::zR 2 11) [1,2,4,10,11,18,19,23,26,27,28,29]⟩
    ·refine xx H underlying27 ti2 [yI (((p.qA+p.qB.length)+1)+(zg p (i:Int).toNat))] fun b221 w222 H=>⟨H.pick (zR 1 10) (zR 0 30),(jb [3,12] qh qm (jM rfl ?_ (jM rfl ?_ jd)))⟩
     ·refine xx H underlying27 ti2 [yI ((p.qB[i]!).zn)] fun b223 w224 H=>⟨H.pick (zR 2 10) (zR 0 30),(ro 12 rfl (xx H underlying27 ti2 [yI ((qQ p mode) - 1)] fun b225 w226 H=>⟨H.pick (zR 3 10) (zR 0 30),(xA qh ((meet ⟨_,b223,b221,b225,uE11,(N.pick [0,7]),H.pick (0::2::1::zR 3 10) [1,2,4,10,11,18,19,23,26,27,28,29]⟩)))⟩))⟩
     refine xx H underlying27 ti2 [yI ((qQ p mode) - 1)] fun b227 w228 H=>⟨H.pick (zR 2 10) (zR 0 30),(ro 3 rfl (xx H underlying27 ti2 [yI ((p.qB[i]!).zn)] fun b229 w230 H=>⟨H.pick (zR 3 10) (zR 0 30),(xA qh ((meet ⟨_,b229,b221,b227,uE11,(N.pick [0,7]),H.pick (1::2::0::zR 3 10) [1,2,4,10,11,18,19,23,26,27,28,29]⟩)))⟩))⟩
    refine xx H underlying27 ti2 [yI ((qQ p mode) - 1)] fun b231 w232 H=>⟨H.pick (zR 1 10) (zR 0 30),(jb [3,5] qh qm (jM rfl ?_ (jM rfl ?_ jd)))⟩
    ·refine xx H underlying27 ti2 [yI ((p.qB[i]!).zn)] fun b233 w234 H=>⟨H.pick (zR 2 10) (zR 0 30),(ro 5 rfl (xx H underlying27 ti2 [yI (((p.qA+p.qB.length)+1)+(zg p (i:Int).toNat))] fun b235 w236 H=>⟨H.pick (zR 3 10) (zR 0 30),(xA qh (?_))⟩))⟩
     exact meet ⟨_,b233,b235,b231,uE11,(N.pick [0,7]),H.pick (2::0::1::zR 3 10) [1,2,4,10,11,18,19,23,26,27,28,29]⟩
    refine xx H underlying27 ti2 [yI (((p.qA+p.qB.length)+1)+(zg p (i:Int).toNat))] fun b237 w238 H=>⟨H.pick (zR 2 10) (zR 0 30),(ro 3 rfl (xx H underlying27 ti2 [yI ((p.qB[i]!).zn)] fun b239 w240 H=>⟨H.pick (zR 3 10) (zR 0 30),(xA qh (?_))⟩))⟩
    exact meet ⟨_,b239,b237,b231,uE11,(N.pick [0,7]),H.pick (2::1::0::zR 3 10) [1,2,4,10,11,18,19,23,26,27,28,29]⟩
   clear H N
   rintro ρ w241 ⟨xQ,b206,b207,b208,rfl,N,H⟩
   replace H:=H.vI 2 [(p.qB[i]!).zn] 1
   obtain ⟨G242,N,hn243,H⟩:=H.zh 2 rfl N (H.vz [2,0])
   replace H:=H.ja 0 rfl
   have hn244:=H.isLen 0 rfl
   replace H:=H.vI 1 [((p.qA+p.qB.length)+1)+(zg p (i:Int).toNat)] 1
   obtain ⟨G245,N,hn246,H⟩:=H.zh 1 rfl N (H.vz [0,4,2])
   replace H:=H.ja 0 rfl
   have hn247:=H.isLen 0 rfl
   have hn248:=H.isLen 4 rfl
   replace H:=H.vI 0 [(qQ p mode) - 1] 1
   obtain ⟨G249,N,hn250,H⟩:=H.zh 0 rfl N (H.vz [0,2,6,4])
   replace H:=H.ja 0 rfl
   have hn251:=H.isLen 0 rfl
   have H1:St w w241 [.box b6 [yI (qQ p mode),Sv ra201 (((((xk p mode i)++[zM (qQ p mode).toNat (0:Int) ([p.qA+i,(p.qB[i]!).zn]) ([]:yLI) ([]:yLI) ([p.qA+((p.qB[i]!).fTo)])])++[zM (qQ p mode).toNat (0:Int) [p.qA+i] ([]:yLI) ([]:yLI) [((p.qA+p.qB.length)+1)+(zg p (i:Int).toNat)]])++[zM (qQ p mode).toNat (0:Int) [((p.qA+p.qB.length)+1)+(zg p (i:Int).toNat)] ([]:yLI) ([]:yLI) ([p.qA+((p.qB[i]!).zf)])]).length) rc203] 187,.row (Sv ra201 (((((xk p mode i)++[zM (qQ p mode).toNat (0:Int) ([p.qA+i,(p.qB[i]!).zn]) ([]:yLI) ([]:yLI) ([p.qA+((p.qB[i]!).fTo)])])++[zM (qQ p mode).toNat (0:Int) [p.qA+i] ([]:yLI) ([]:yLI) [((p.qA+p.qB.length)+1)+(zg p (i:Int).toNat)]])++[zM (qQ p mode).toNat (0:Int) [((p.qA+p.qB.length)+1)+(zg p (i:Int).toNat)] ([]:yLI) ([]:yLI) ([p.qA+((p.qB[i]!).zf)])]).length) rc203) 120 9 (((((xk p mode i)++[zM (qQ p mode).toNat (0:Int) ([p.qA+i,(p.qB[i]!).zn]) ([]:yLI) ([]:yLI) ([p.qA+((p.qB[i]!).fTo)])])++[zM (qQ p mode).toNat (0:Int) [p.qA+i] ([]:yLI) ([]:yLI) [((p.qA+p.qB.length)+1)+(zg p (i:Int).toNat)]])++[zM (qQ p mode).toNat (0:Int) [((p.qA+p.qB.length)+1)+(zg p (i:Int).toNat)] ([]:yLI) ([]:yLI) ([p.qA+((p.qB[i]!).zf)])]).length) rx204,.row yN 0 1 0 [],.row yN 0 1 0 [],.row yN 0 1 0 [],.row yN 0 1 0 [],.row yN 0 1 0 [],.row yN 0 1 0 [],.row yN 0 1 0 [],.row yN 0 1 0 [],.row yN 0 1 0 [],.box b19 [yI ((p.qB[i]!).fOp),yI ((p.qB[i]!).zn),yI ((p.qB[i]!).fTo),yI ((p.qB[i]!).zf)] 109,.box b1 [yI 0,yN,yN] 37] [isF false G242 (Sv (aa b206 0) (([(p.qB[i]!).zn]).length) 1) ([(p.qB[i]!).zn]),isF false G245 (Sv (aa b207 0) ([((p.qA+p.qB.length)+1)+(zg p (i:Int).toNat)].length) 1) [((p.qA+p.qB.length)+1)+(zg p (i:Int).toNat)],isF false G10 (Sv (aa b8 0) (([]:yLI).length) 0) ([]:yLI),isF false G249 (Sv (aa b208 0) ([(qQ p mode) - 1].length) 1) [(qQ p mode) - 1],xN true rF205 rx204 ((((xk p mode i)++[zM (qQ p mode).toNat (0:Int) ([p.qA+i,(p.qB[i]!).zn]) ([]:yLI) ([]:yLI) ([p.qA+((p.qB[i]!).fTo)])])++[zM (qQ p mode).toNat (0:Int) [p.qA+i] ([]:yLI) ([]:yLI) [((p.qA+p.qB.length)+1)+(zg p (i:Int).toNat)]])++[zM (qQ p mode).toNat (0:Int) [((p.qA+p.qB.length)+1)+(zg p (i:Int).toNat)] ([]:yLI) ([]:yLI) ([p.qA+((p.qB[i]!).zf)])]),isF false G249 (Sv (aa b208 0) 1 1) [(qQ p mode) - 1],isF true G249 (Sv (aa b208 0) 1 1) [(qQ p mode) - 1],isF false G245 (Sv (aa b207 0) 1 1) [((p.qA+p.qB.length)+1)+(zg p (i:Int).toNat)],isF true G245 (Sv (aa b207 0) 1 1) [((p.qA+p.qB.length)+1)+(zg p (i:Int).toNat)],isF false G242 (Sv (aa b206 0) 1 1) ([(p.qB[i]!).zn]),isF true G242 (Sv (aa b206 0) 1 1) ([(p.qB[i]!).zn]),isF false G10 (Sv (aa b8 0) (([]:yLI).length) 0) ([]:yLI),isF false G10 (Sv (aa b8 0) (([]:yLI).length) 0) ([]:yLI),isF false G10 (Sv (aa b8 0) (([]:yLI).length) 0) ([]:yLI),isF false G10 (Sv (aa b8 0) (([]:yLI).length) 0) ([]:yLI),isF false G10 (Sv (aa b8 0) (([]:yLI).length) 0) ([]:yLI),isF false G10 (Sv (aa b8 0) (([]:yLI).length) 0) ([]:yLI),isF false G10 (Sv (aa b8 0) 0 0) ([]:yLI),atF b15 (o16+(i:Int).toNat * 4) [yI ((p.qB[i]!).fOp),yI ((p.qB[i]!).zn),yI ((p.qB[i]!).fTo),yI ((p.qB[i]!).zf)],isF true G10 (Sv (aa b8 0) 0 0) ([]:yLI),atF bp op [yI p.qA,Sv (aa b15 o16) p.qB.length cpOrders],isF false FpOrders (Sv (aa b15 o16) p.qB.length cpOrders) p.qB]:=by (try rw [← hn244,← hn247,← hn248,← hn251]);exact H.pick (3::4::0::1::2::zR 5 8) (4::2::6::0::8::0::1::2::3::4::5::6::7::zR 9 9)
   have N1:Fresh _ [rF205,G249,G245,G242,G10]:=(N.pick [3,0,1,2,4])
   have K1:Kept [] [isF false G249 (Sv (aa b208 0) 1 1) [(qQ p mode) - 1],isF true G249 (Sv (aa b208 0) 1 1) [(qQ p mode) - 1],isF false G245 (Sv (aa b207 0) 1 1) [((p.qA+p.qB.length)+1)+(zg p (i:Int).toNat)],isF true G245 (Sv (aa b207 0) 1 1) [((p.qA+p.qB.length)+1)+(zg p (i:Int).toNat)],isF false G242 (Sv (aa b206 0) 1 1) ([(p.qB[i]!).zn]),isF true G242 (Sv (aa b206 0) 1 1) ([(p.qB[i]!).zn]),sF false G10 (aa b8 0) 0 ([]:yLI),sF false G10 (aa b8 0) 0 ([]:yLI),sF false G10 (aa b8 0) 0 ([]:yLI),sF false G10 (aa b8 0) 0 ([]:yLI),sF false G10 (aa b8 0) 0 ([]:yLI),sF false G10 (aa b8 0) 0 ([]:yLI),isF false G10 (Sv (aa b8 0) 0 0) ([]:yLI),atF b15 (o16+(i:Int).toNat * 4) [yI ((p.qB[i]!).fOp),yI ((p.qB[i]!).zn),yI ((p.qB[i]!).fTo),yI ((p.qB[i]!).zf)],isF true G10 (Sv (aa b8 0) 0 0) ([]:yLI),atF bp op [yI p.qA,Sv (aa b15 o16) p.qB.length cpOrders],sF false FpOrders (aa b15 o16) cpOrders p.qB]:=Kept.nil _
   replace K1:=K1.cons (F:=G10) 6 rfl rfl
   replace K1:=K1.cons (F:=G242) 4 rfl rfl
   replace K1:=K1.cons (F:=G245) 2 rfl rfl
   replace K1:=K1.cons (F:=G249) 0 rfl rfl
   refine jg #[pp b6 0,yI 0,Sv (aa b206 0) 1 1,Sv (aa b207 0) 1 1,Sv (aa b8 0) 0 0,Sv (aa b208 0) 1 1] rfl rfl call148 (jo (by first | rfl | rw [hn244,hn247,hn248,hn251]) (Xv (qQ p mode) ((((xk p mode i)++[zM (qQ p mode).toNat (0:Int) ([p.qA+i,(p.qB[i]!).zn]) ([]:yLI) ([]:yLI) ([p.qA+((p.qB[i]!).fTo)])])++[zM (qQ p mode).toNat (0:Int) [p.qA+i] ([]:yLI) ([]:yLI) [((p.qA+p.qB.length)+1)+(zg p (i:Int).toNat)]])++[zM (qQ p mode).toNat (0:Int) [((p.qA+p.qB.length)+1)+(zg p (i:Int).toNat)] ([]:yLI) ([]:yLI) ([p.qA+((p.qB[i]!).zf)])]) b6 ra201 (((((xk p mode i)++[zM (qQ p mode).toNat (0:Int) ([p.qA+i,(p.qB[i]!).zn]) ([]:yLI) ([]:yLI) ([p.qA+((p.qB[i]!).fTo)])])++[zM (qQ p mode).toNat (0:Int) [p.qA+i] ([]:yLI) ([]:yLI) [((p.qA+p.qB.length)+1)+(zg p (i:Int).toNat)]])++[zM (qQ p mode).toNat (0:Int) [((p.qA+p.qB.length)+1)+(zg p (i:Int).toNat)] ([]:yLI) ([]:yLI) ([p.qA+((p.qB[i]!).zf)])]).length) rc203 rx204 rF205 (0:Int) ([(p.qB[i]!).zn]) (aa b206 0) 1 G242 [((p.qA+p.qB.length)+1)+(zg p (i:Int).toNat)] (aa b207 0) 1 G245 ([]:yLI) (aa b8 0) 0 G10 [(qQ p mode) - 1] (aa b208 0) 1 G249 H1 N1 K1 qf (by exact ⟨by first | exact vZ.nil _ | exact vZ.one qf | exact vZ.two qf qf,by first | exact vZ.nil _ | exact vZ.one qf | exact vZ.two qf qf,by first | exact vZ.nil _ | exact vZ.one qf | exact vZ.two qf qf,by first | exact vZ.nil _ | exact vZ.one qf | exact vZ.two qf qf⟩) (by first | omega | (simp only [List.length_append,List.length_cons,List.length_nil];omega)))) ?_
   clear H H1 N1 K1
   rintro _ w252 ⟨ra254,rn255,rc256,rx257,rF258,rfl,N,H⟩
   obtain rfl:=H.xB (α:=zZ) 1 rfl 4 rfl qj
   refine b_n (b_n (t_n (xK (sp (yI i) (sw (zi i 1 rfl rfl qf (sq 1 (xP (qW (m' :=(p.qB.length - ((i+1):Int)).toNat) qf ⟨_,i+1,_,_,_,_,_,_,uE6,?_,?_,rfl,(N.pick [4,0]),H.pick [1,0,12] [4,19,20,21]⟩)))))))))
   ·first | exact QD qf qf | exact QU qf qf | exact QT qf qf | exact QB qf qf | exact QC qf qf | exact QA qf qf qf | (exfalso;omega)
   ·omega
  refine qU (b_n (b_n (t_n (xK (sp (yI i) (sw (zi i 1 rfl rfl qf (sq 1 (xP (qW (m' :=(p.qB.length - ((i+1):Int)).toNat) qf ⟨_,i+1,_,_,_,_,_,_,uE6,?_,?_,rfl,N,H.pick [1,2,3] (zR 1 4)⟩))))))))))
  ·first | exact QD qf qf | exact QU qf qf | exact QT qf qf | exact QB qf qf | exact QC qf qf | exact QA qf qf qf | (exfalso;omega)
  ·omega
 refine zx4 (zcc (sq 1 (sp (Bv ((mode:Int) == 3)) (zjn (cE rfl (fun h259=>?_) (fun h259=>?_))))))
 ·refine c_lateC (fun ρ w262=>∃ (xQ:Env) (b260:Nat) (b261:Nat),ρ=upd (upd (upd (upd (upd (upd (upd xQ 4 (pp b1 0)) 5 (pp b6 0)) 180 (pp b6 0)) 186 (Sv (aa b260 0) 1 1)) 187 (Sv (aa b8 0) 0 0)) 188 (Sv (aa b8 0) 0 0)) 194 (Sv (aa b261 0) 1 1)/\Fresh w.heap.size [G10,yB]/\St w w262 [.box b261 [yI ((qQ p mode) - 1)] 2,.box b260 [yI ((qQ p mode) - 1)] 2,rr jU jv jT 120 9 yz,.box b6 [yI (qQ p mode),Sv jU jv jT] 187,.box b1 [yI 0,yN,yN] 37] [xN true yB yz (xk p mode i),isF true G10 (Sv (aa b8 0) 0 0) ([]:yLI)]) rfl H [0,1,2] [0,1,2,3] (fun H=>?_) ?_
  ·dsimp only [Xw]
   refine rtl 0 H ?_
   refine rtl 1 H ?_
   refine rtl 2 H ?_
   refine tF 3 rfl rfl H ?_
   refine tL 4 rfl rfl (fun _ h=>h.cell 1 rfl rfl) H ?_
   refine rt 5 _ (y_sub (qQ p mode) 1 rfl rfl qf) H ?_
   refine rtl 7 H ?_
   refine rtl 8 H ?_
   refine rtl 9 H ?_
   refine rtl 10 H ?_
   refine tF 11 rfl rfl H ?_
   refine tL 12 rfl rfl (fun _ h=>h.cell 1 rfl rfl) H ?_
   refine rt 13 _ (y_sub (qQ p mode) 1 rfl rfl qf) H ?_
   refine jb [6,14] qh qm (jM rfl ?_ (jM rfl ?_ jd))
   ·refine xx H underlying27 ti2 [yI ((qQ p mode) - 1)] fun b264 w265 H=>⟨H.pick [1,2,3] (zR 0 4),(ro 14 rfl (xx H underlying27 ti2 [yI ((qQ p mode) - 1)] fun b266 w267 H=>⟨H.pick [2,3,4] (zR 0 4),(xA qh ((meet ⟨_,b264,b266,uE7,N,H.pick (zR 0 5) [0,1]⟩)))⟩))⟩
   refine xx H underlying27 ti2 [yI ((qQ p mode) - 1)] fun b268 w269 H=>⟨H.pick [1,2,3] (zR 0 4),(ro 6 rfl (xx H underlying27 ti2 [yI ((qQ p mode) - 1)] fun b270 w271 H=>⟨H.pick [2,3,4] (zR 0 4),(xA qh ((meet ⟨_,b270,b268,uE7,N,H.pick [1,0,2,3,4] [0,1]⟩)))⟩))⟩
  clear H N
  rintro ρ w272 ⟨xQ,b260,b261,rfl,N,H⟩
  replace H:=H.vI 1 [(qQ p mode) - 1] 1
  obtain ⟨G273,N,hn274,H⟩:=H.zh 1 rfl N (H.vz [1,0])
  replace H:=H.ja 0 rfl
  have hn275:=H.isLen 0 rfl
  replace H:=H.ja 3 rfl
  have hn276:=H.isLen 0 rfl
  have hn277:=H.isLen 0 rfl
  replace H:=H.vI 0 [(qQ p mode) - 1] 1
  obtain ⟨G278,N,hn279,H⟩:=H.zh 0 rfl N (H.vz [1,0,3])
  replace H:=H.ja 0 rfl
  have hn280:=H.isLen 0 rfl
  have H1:St w w272 [.box b6 [yI (qQ p mode),Sv jU jv jT] 187,.row (Sv jU jv jT) 120 9 jv yz,.row yN 0 1 0 [],.row yN 0 1 0 [],.box b1 [yI 0,yN,yN] 37] [isF false G273 (Sv (aa b260 0) ([(qQ p mode) - 1].length) 1) [(qQ p mode) - 1],isF false G10 (Sv (aa b8 0) (([]:yLI).length) 0) ([]:yLI),isF false G10 (Sv (aa b8 0) (([]:yLI).length) 0) ([]:yLI),isF false G278 (Sv (aa b261 0) ([(qQ p mode) - 1].length) 1) [(qQ p mode) - 1],xN true yB yz (xk p mode i),isF false G278 (Sv (aa b261 0) 1 1) [(qQ p mode) - 1],isF true G278 (Sv (aa b261 0) 1 1) [(qQ p mode) - 1],isF false G10 (Sv (aa b8 0) 0 0) ([]:yLI),isF false G273 (Sv (aa b260 0) 1 1) [(qQ p mode) - 1],isF true G273 (Sv (aa b260 0) 1 1) [(qQ p mode) - 1],isF true G10 (Sv (aa b8 0) 0 0) ([]:yLI)]:=by (try rw [← hn275,← hn276,← hn277,← hn280]);exact H.pick [3,2,0,1,4] [3,2,2,0,5,0,1,2,3,4,6]
  have N1:Fresh _ [yB,G278,G273,G10]:=(N.pick [3,0,1,2])
  have K1:Kept [] [isF false G278 (Sv (aa b261 0) 1 1) [(qQ p mode) - 1],isF true G278 (Sv (aa b261 0) 1 1) [(qQ p mode) - 1],isF false G10 (Sv (aa b8 0) 0 0) ([]:yLI),isF false G273 (Sv (aa b260 0) 1 1) [(qQ p mode) - 1],isF true G273 (Sv (aa b260 0) 1 1) [(qQ p mode) - 1],isF true G10 (Sv (aa b8 0) 0 0) ([]:yLI)]:=Kept.nil _
  replace K1:=K1.cons (F:=G10) 2 rfl rfl
  replace K1:=K1.cons (F:=G273) 3 rfl rfl
  replace K1:=K1.cons (F:=G278) 0 rfl rfl
  refine jg #[pp b6 0,yI 0,Sv (aa b260 0) 1 1,Sv (aa b8 0) 0 0,Sv (aa b8 0) 0 0,Sv (aa b261 0) 1 1] rfl rfl call148 (jo (by first | rfl | rw [hn275,hn276,hn277,hn280]) (Xv (qQ p mode) (xk p mode i) b6 jU jv jT yz yB (0:Int) [(qQ p mode) - 1] (aa b260 0) 1 G273 ([]:yLI) (aa b8 0) 0 G10 ([]:yLI) (aa b8 0) 0 G10 [(qQ p mode) - 1] (aa b261 0) 1 G278 H1 N1 K1 qf (by exact ⟨by first | exact vZ.nil _ | exact vZ.one qf | exact vZ.two qf qf,by first | exact vZ.nil _ | exact vZ.one qf | exact vZ.two qf qf,by first | exact vZ.nil _ | exact vZ.one qf | exact vZ.two qf qf,by first | exact vZ.nil _ | exact vZ.one qf | exact vZ.two qf qf⟩) (by first | omega | (simp only [List.length_append,List.length_cons,List.length_nil];omega)))) ?_
  clear H H1 N1 K1
  rintro _ w281 ⟨ra283,rn284,rc285,rx286,rF287,rfl,N,H⟩
  obtain rfl:=H.xB (α:=zZ) 1 rfl 4 rfl qj
  refine t_n (xU (c_lateK rfl H [0,1,2,3,4] [0,1,2,3,4,5,6,7,8,9,10] fun H=>?_))
  dsimp only [Xw]
  refine rtl 0 H ?_
  refine rtl 1 H ?_
  refine tF 2 rfl rfl H ?_
  refine tL 3 rfl rfl (fun _ h=>h.cell 0 rfl rfl) H ?_
  refine rtl 5 H ?_
  refine rtl 6 H ?_
  refine tF 7 rfl rfl H ?_
  refine tL 8 rfl rfl (fun _ h=>h.cell 0 rfl rfl) H ?_
  refine ro 4 rfl (xx H underlying27 ti2 [yI (-1)] fun b289 w290 H=>⟨H.pick (zR 1 5) (zR 0 11),(ro 9 rfl (vG [yI (qQ p mode),Sv (aa b289 0) 1 1,Sv ra283 (((xk p mode i)++[zM (qQ p mode).toNat (0:Int) [(qQ p mode) - 1] ([]:yLI) ([]:yLI) [(qQ p mode) - 1]]).length) rc285] [(0,yI (qQ p mode)),(1,Sv (aa b289 0) 1 1),(2,Sv ra283 (((xk p mode i)++[zM (qQ p mode).toNat (0:Int) [(qQ p mode) - 1] ([]:yLI) ([]:yLI) [(qQ p mode) - 1]]).length) rc285)] ?_))⟩)
  refine ⟨H.pick (zR 1 5) (zR 0 11),(xA qh (late_end (xY H 5 [yI (qQ p mode),Sv (aa b289 0) 1 1,Sv ra283 (((xk p mode i)++[zM (qQ p mode).toNat (0:Int) [(qQ p mode) - 1] ([]:yLI) ([]:yLI) [(qQ p mode) - 1]]).length) rc285] sizeOf37 fun w291 H=>t_n (c_ret ?_))))⟩
  replace H:=H.vI 0 [(-1)] 1
  refine retC H 5 rfl rfl isAgg37 sizeOf37 rfl ⟨_,rfl,?_,H.base⟩
  rw [progSys_eq (p:=p) (mode:=mode) (R:=((xk p mode i)++[zM (qQ p mode).toNat (0:Int) [(qQ p mode) - 1] ([]:yLI) ([]:yLI) [(qQ p mode) - 1]])) (by rw [show i=p.qB.length by omega];first | exact prules_trap ql | exact prules_else ql)]
  exact ⟨(aa b289 0),1,1,ra283,((xk p mode i)++[zM (qQ p mode).toNat (0:Int) [(qQ p mode) - 1] ([]:yLI) ([]:yLI) [(qQ p mode) - 1]]).length,rc285,rx286,rF287,rfl,(N.pick [0]),H.pick [0,2] [4]⟩
 refine qU (t_n (xU (c_lateK rfl H [0,1,2] [0,1,2,3] fun H=>?_)))
 dsimp only [Xw]
 refine rtl 0 H ?_
 refine rtl 1 H ?_
 refine tF 2 rfl rfl H ?_
 refine tL 3 rfl rfl (fun _ h=>h.cell 1 rfl rfl) H ?_
 refine rtl 5 H ?_
 refine rtl 6 H ?_
 refine tF 7 rfl rfl H ?_
 refine tL 8 rfl rfl (fun _ h=>h.cell 1 rfl rfl) H ?_
 refine ro 4 rfl (xx H underlying27 ti2 [yI (-1)] fun b293 w294 H=>⟨H.pick [1,2,3] (zR 0 4),(ro 9 rfl (vG [yI (qQ p mode),Sv (aa b293 0) 1 1,Sv jU jv jT] [(0,yI (qQ p mode)),(1,Sv (aa b293 0) 1 1),(2,Sv jU jv jT)] (⟨H.pick [1,2,3] (zR 0 4),(xA qh (late_end (xY H 3 [yI (qQ p mode),Sv (aa b293 0) 1 1,Sv jU jv jT] sizeOf37 fun w295 H=>t_n (c_ret ?_))))⟩)))⟩)
 replace H:=H.vI 0 [(-1)] 1
 refine retC H 3 rfl rfl isAgg37 sizeOf37 rfl ⟨_,rfl,?_,H.base⟩
 rw [progSys_eq (p:=p) (mode:=mode) (R:=(xk p mode i)) (by rw [show i=p.qB.length by omega];first | exact prules_trap ql | exact prules_else ql)]
 exact ⟨(aa b293 0),1,1,jU,jv,jT,yz,yB,rfl,(N.pick [1]),H.pick [0,1] [0]⟩
theorem l05State_ok (w:World) (p:zF) (kinds:Int) (c:vS) {bc oc:Nat} {acRegs:yOA} {ccRegs:Nat} {FcRegs:yLN} (hp:vg w bp op [yI p.qA,Sv apOrders p.qB.length cpOrders]) (hpOrders:zP w FpOrders apOrders cpOrders p.qB) (hc:vg w bc oc [yI c.fAt,Sv acRegs c.XW.length ccRegs]) (hcRegs:zP w FcRegs acRegs ccRegs c.XW) (p0:yw p) (q0:vk p.qA c.XW) (q1:0<=c.fAt/\c.fAt<=(p.qB.length:Int)) (q2:p.qA+p.qB.length+1<=kinds/\kinds<=30):Calls Tryz.prog 50 #[pp bp op,yI kinds,pp bc oc] w (Ret (fun v w' =>∃ (raAlive:yOA) (rnAlive:Nat) (rcAlive:Nat) (raBags:yOA) (rnBags:Nat) (rcBags:Nat) (rxBags:List Value) (rFBags:yLN) (raAround:yOA) (rnAround:Nat) (rcAround:Nat),v=.agg #[Sv raAlive rnAlive rcAlive,Sv raBags rnBags rcBags,Sv raAround rnAround rcAround]/\Fresh w.heap.size [rFBags]/\St w w' [rr raAlive rnAlive rcAlive 4 1 (((stK p kinds.toNat c).qI).map (Value.bool)),rr raBags rnBags rcBags 27 1 rxBags,rr raAround rnAround rcAround 2 1 (((stK p kinds.toNat c).qN).map (Value.int .i64))] [xN true rFBags rxBags ((stK p kinds.toNat c).qP)]) w):=by
 refine en func50 ntmps50 ?_
 have H:=((((St.start w).arg hcRegs).Q7 hc).arg hpOrders).Q7 hp
 have nhpOrders:=qO hpOrders
 have nhcRegs:=qO hcRegs
 clear hp hpOrders hc hcRegs
 have N:=Fresh.nil w.heap.size
 have p1:=p0.1
 have p2:=p0.2.1
 have q3:=q0.2
 refine zcr (sw (xH H ti43 [yN,yN,yN] fun b1 w2 H=>zjc (sq 1 (sw (Qr H underlying27 ti2 kinds.toNat rfl rfl qf qf qf fun b3 w4 H=>sq 1 (zjcc (sp (yI 0) (zjn (qV ?_)))))))))
 refine zA ((fun Z0 Z1 Z2 Z3 Z4=>fun m' ρ w5=>∃ (xQ:Env) (i:Nat) (bag:yLI),ρ=upd (upd (upd (upd (upd (upd xQ 0 (pp bp op)) 1 (yI kinds)) 2 (pp bc oc)) 6 (pp b1 0)) 7 (Sv (aa b3 0) kinds.toNat kinds.toNat)) 8 (yI i)/\bag=putTo kinds.toNat c.XW i/\((i:Int)<=c.XW.length)/\m' =(c.XW.length - (i:Int)).toNat/\Fresh w.heap.size []/\St w w5 [rr (aa b3 0) kinds.toNat kinds.toNat 2 1 (bag.map (Value.int .i64)),Z0] [Z1,Z2,Z3,Z4]) _ _ _ _ _) ((c.XW.length - (0:Int)).toNat) ⟨_,0,(List.replicate kinds.toNat (0:Int)),uE6,(by rw [putTo_zero]),qf,rfl,N,H⟩ ?_
 clear H N
 rintro m' ρ w6 ⟨xQ,i,bag,rfl,rfl,i0,rfl,N,H⟩
 have hn_bag:=H.yt 0 rfl
 have hl:=putTo_len (n:=kinds.toNat) (l:=c.XW) (k:=i) qf qf
 refine zcc (sp (yI i) (sq 2 (oF rfl (oL rfl (H.xW 2 rfl 1 rfl) (oN rfl (sq 1 (zjn (cD rfl (fun h7=>?_) (fun h7=>?_)))))))))
 ·refine qU (t_n (xU (qV (xK (sq 1 (sp (yI i) (sq 2 (oF rfl (oL rfl (H.xW 2 rfl 1 rfl) (sp (yI i) ?_))))))))))
  obtain ⟨b8,o9,rfl⟩:=H.addr 3 rfl qf
  refine oI rfl rfl (oL rfl (H.zB 3 rfl i qf) (oI rfl rfl (sw (XB H 0 rfl (c.XW[i]!) sizeOf2 rfl rfl (i:=i) qf qf fun w11 H=>xP (b_n (t_n (xK (sp (yI i) (sw (zi i 1 rfl rfl qf (sq 1 (xP (qW (m' :=(c.XW.length - ((i+1):Int)).toNat) qf ⟨_,i+1,_,uE6,?_,?_,rfl,N,H⟩)))))))))))))
  ·exact putTo_succ qf qf
  ·omega
 have hz:(putTo kinds.toNat c.XW i)[(p.qA+c.fAt).toNat]! =0:=by rw [show i=c.XW.length by omega];exact put_zero qf
 refine zx4 (zcr (sq 4 (oF rfl (oL rfl (H.xW 2 rfl 0 rfl) (sw (zN #[pp bp op,yI c.fAt] rfl rfl call110 (en func110 ntmps110 ?_)))))))
 refine zcr (sp (yI 0) (zjc (sq 2 (oF rfl (oL rfl (H.xW 0 rfl 0 rfl) (sq 1 (sw (zi p.qA c.fAt rfl rfl qf (sq 1 (zjr (ret1 (yI (p.qA+c.fAt)) rfl rfl ⟨_,rfl,(oI rfl rfl (oL rfl (H.rowInt 0 rfl (iv:=p.qA+c.fAt) (i:=((p.qA+c.fAt).toNat)) qf qf) (sw (zi ((putTo kinds.toNat c.XW i)[(p.qA+c.fAt).toNat]!) 1 rfl rfl qf (oI rfl rfl ?_)))))⟩)))))))))))
 refine sw (XB H 0 rfl (((putTo kinds.toNat c.XW i)[(p.qA+c.fAt).toNat]!)+1) sizeOf2 rfl rfl (i:=((p.qA+c.fAt).toNat)) qf qf fun w12 H=>zjc (sw (xx H underlying40 ti4 [Bv true] fun b13 w14 H=>sq 1 (sw (xx H underlying41 ti27 [Sv (aa b3 0) kinds.toNat kinds.toNat] fun b15 w16 H=>sq 1 (sw (Qr H underlying27 ti2 kinds.toNat rfl rfl qf qf qf fun b17 w18 H=>?_)))))))
 refine sw (vG [Sv (aa b13 0) 1 1,Sv (aa b15 0) 1 1,Sv (aa b17 0) kinds.toNat kinds.toNat] [(0,Sv (aa b13 0) 1 1),(1,Sv (aa b15 0) 1 1),(2,Sv (aa b17 0) kinds.toNat kinds.toNat)] (sw (xY H 4 [Sv (aa b13 0) 1 1,Sv (aa b15 0) 1 1,Sv (aa b17 0) kinds.toNat kinds.toNat] sizeOf43 fun w19 H=>zjr ?_)))
 replace H:=H.boxRowB 2 [true] 1
 replace H:=H.boxRow 1 rfl 1 1 rfl qj
 replace H:=H.vV (α:=yLI)
 obtain ⟨G20,N,hn21,H⟩:=H.zh 3 rfl N (H.vz [])
 replace H:=H.Xl true 0 rfl 1 rfl qm
 replace N:Fresh w.heap.size [(G20++[])]:=(N.emp.pick [1,0]).join
 refine retC H 4 rfl rfl isAgg43 sizeOf43 rfl ⟨_,rfl,?_,H.base⟩
 rw [stK_eq (i:=i) qf qf]
 exact ⟨(aa b13 0),1,1,(aa b15 0),1,1,[Sv (aa b3 0) kinds.toNat kinds.toNat],(G20++[]),(aa b17 0),kinds.toNat,kinds.toNat,rfl,N,H.pick [2,1,0] [0]⟩
end
section
theorem part_Rule_Rank:Xg zZ Int 1 (fun x=>x.jR) (fun x y=>{ x with jR:=y }):=
 ⟨fun {w F cs x} h=>by
  obtain ⟨vNeed,vHave,vLack,vHere,vOut,vInto,FNeed,FHave,FLack,FHere,FOut,FInto,rfl,rfl,hNeed,hHave,hLack,hHere,hOut,hInto⟩:=h
  refine ⟨[yI x.qR],[yI x.jR],[vNeed,vHave,vLack,vHere,vOut,vInto,Bv x.jV],[],[],(FNeed++FHave++FLack++FHere++FOut++FInto),by simp,rfl,by simp,⟨rfl,rfl⟩,fun w' F' c' y hs hr=>?_⟩
  obtain ⟨rfl,rfl⟩:=hr
  exact ⟨vNeed,vHave,vLack,vHere,vOut,vInto,FNeed,FHave,FLack,FHere,FOut,FInto,by simp,by simp,qK.stay hNeed fun b hb=>hs b (by simp [hb]),qK.stay hHave fun b hb=>hs b (by simp [hb]),qK.stay hLack fun b hb=>hs b (by simp [hb]),qK.stay hHere fun b hb=>hs b (by simp [hb]),qK.stay hOut fun b hb=>hs b (by simp [hb]),qK.stay hInto fun b hb=>hs b (by simp [hb])⟩⟩
theorem part_Rule_Have:Xg zZ yLI 3 (fun x=>x.vJ) (fun x y=>{ x with vJ:=y }):=
 ⟨fun {w F cs x} h=>by
  obtain ⟨vNeed,vHave,vLack,vHere,vOut,vInto,FNeed,FHave,FLack,FHere,FOut,FInto,rfl,rfl,hNeed,hHave,hLack,hHere,hOut,hInto⟩:=h
  refine ⟨[yI x.qR,yI x.jR,vNeed],[vHave],[vLack,vHere,vOut,vInto,Bv x.jV],FNeed,FHave,(FLack++FHere++FOut++FInto),by simp,rfl,by simp,hHave,fun w' F' c' y hs hr=>?_⟩
  obtain ⟨a,c,rfl,_⟩:=id hr
  exact ⟨vNeed,_,vLack,vHere,vOut,vInto,FNeed,F',FLack,FHere,FOut,FInto,by simp,by simp,qK.stay hNeed fun b hb=>hs b (by simp [hb]),hr,qK.stay hLack fun b hb=>hs b (by simp [hb]),qK.stay hHere fun b hb=>hs b (by simp [hb]),qK.stay hOut fun b hb=>hs b (by simp [hb]),qK.stay hInto fun b hb=>hs b (by simp [hb])⟩⟩
theorem part_Rule_Lack:Xg zZ yLI 4 (fun x=>x.vY) (fun x y=>{ x with vY:=y }):=
 ⟨fun {w F cs x} h=>by
  obtain ⟨vNeed,vHave,vLack,vHere,vOut,vInto,FNeed,FHave,FLack,FHere,FOut,FInto,rfl,rfl,hNeed,hHave,hLack,hHere,hOut,hInto⟩:=h
  refine ⟨[yI x.qR,yI x.jR,vNeed,vHave],[vLack],[vHere,vOut,vInto,Bv x.jV],(FNeed++FHave),FLack,(FHere++FOut++FInto),by simp,rfl,by simp,hLack,fun w' F' c' y hs hr=>?_⟩
  obtain ⟨a,c,rfl,_⟩:=id hr
  exact ⟨vNeed,vHave,_,vHere,vOut,vInto,FNeed,FHave,F',FHere,FOut,FInto,by simp,by simp,qK.stay hNeed fun b hb=>hs b (by simp [hb]),qK.stay hHave fun b hb=>hs b (by simp [hb]),hr,qK.stay hHere fun b hb=>hs b (by simp [hb]),qK.stay hOut fun b hb=>hs b (by simp [hb]),qK.stay hInto fun b hb=>hs b (by simp [hb])⟩⟩
theorem part_Rule_Here:Xg zZ yLI 5 (fun x=>x.vw) (fun x y=>{ x with vw:=y }):=
 ⟨fun {w F cs x} h=>by
  obtain ⟨vNeed,vHave,vLack,vHere,vOut,vInto,FNeed,FHave,FLack,FHere,FOut,FInto,rfl,rfl,hNeed,hHave,hLack,hHere,hOut,hInto⟩:=h
  refine ⟨[yI x.qR,yI x.jR,vNeed,vHave,vLack],[vHere],[vOut,vInto,Bv x.jV],(FNeed++FHave++FLack),FHere,(FOut++FInto),by simp,rfl,by simp,hHere,fun w' F' c' y hs hr=>?_⟩
  obtain ⟨a,c,rfl,_⟩:=id hr
  exact ⟨vNeed,vHave,vLack,_,vOut,vInto,FNeed,FHave,FLack,F',FOut,FInto,by simp,by simp,qK.stay hNeed fun b hb=>hs b (by simp [hb]),qK.stay hHave fun b hb=>hs b (by simp [hb]),qK.stay hLack fun b hb=>hs b (by simp [hb]),hr,qK.stay hOut fun b hb=>hs b (by simp [hb]),qK.stay hInto fun b hb=>hs b (by simp [hb])⟩⟩
theorem St.part_RuleD {α:Type} [qK α] [Inhabited α] {q:Nat} {get:α->zZ} {put:α->zZ->α} (S:Xg α zZ q get put) (H:St W0 w ps Γ) (k:Nat) (hp:ps[k]? =some (.row (Sv (aa b 0) nn c) e sz nn xs)) (j:Nat) {l:List α}
 (hf:Γ[j]? =some (xN fr F xs l)) (hsz:qK.size α=sz) (i:Nat) (h1:i < nn) (hz:0 < sz:=by decide):
 ∃ (aNeed:yOA) (cNeed:Nat) (FNeed:yLN) (aHave:yOA) (cHave:Nat) (FHave:yLN) (aLack:yOA) (cLack:Nat) (FLack:yLN) (aHere:yOA) (cHere:Nat) (FHere:yLN) (aOut:yOA) (cOut:Nat) (FOut:yLN) (aInto:yOA) (cInto:Nat) (FInto:yLN),(∀ (r:Nat) (v:Value),([yI (get (l[i]!)).qR,yI (get (l[i]!)).jR,Sv aNeed (get (l[i]!)).vF.length cNeed,Sv aHave (get (l[i]!)).vJ.length cHave,Sv aLack (get (l[i]!)).vY.length cLack,Sv aHere (get (l[i]!)).vw.length cHere,Sv aOut (get (l[i]!)).QI.length cOut,Sv aInto (get (l[i]!)).xw.length cInto,Bv (get (l[i]!)).jV]:List Value)[r]? =some v->xs[i * sz+q+r]? =some v)/\St W0 w ps (isF fr FNeed (Sv aNeed (get (l[i]!)).vF.length cNeed) (get (l[i]!)).vF::isF fr FHave (Sv aHave (get (l[i]!)).vJ.length cHave) (get (l[i]!)).vJ::isF fr FLack (Sv aLack (get (l[i]!)).vY.length cLack) (get (l[i]!)).vY::isF fr FHere (Sv aHere (get (l[i]!)).vw.length cHere) (get (l[i]!)).vw::isF fr FOut (Sv aOut (get (l[i]!)).QI.length cOut) (get (l[i]!)).QI::isF fr FInto (Sv aInto (get (l[i]!)).xw.length cInto) (get (l[i]!)).xw::Γ):=by
 subst hsz
 have hn:nn=l.length:=H.xB (α:=α) k hp j hf hz
 obtain ⟨c1,cm,c2,F1,Fm,F2,hxs,hl,hF,hr,_⟩:=S.el (H.get j hf).1 i qf
 have hsub:∀ x∈Fm,x∈F:=fun x hx=>by rw [hF];simp [hx]
 have hfr:fr=true->ve w Fm:=fun e=>((H.get j hf).2 e).sub hsub
 obtain ⟨vNeed,vHave,vLack,vHere,vOut,vInto,FNeed,FHave,FLack,FHere,FOut,FInto,rfl,hFF,hNeed,hHave,hLack,hHere,hOut,hInto⟩:=id hr
 obtain ⟨aNeed,cNeed,rfl⟩:=slice_form hNeed
 obtain ⟨aHave,cHave,rfl⟩:=slice_form hHave
 obtain ⟨aLack,cLack,rfl⟩:=slice_form hLack
 obtain ⟨aHere,cHere,rfl⟩:=slice_form hHere
 obtain ⟨aOut,cOut,rfl⟩:=slice_form hOut
 obtain ⟨aInto,cInto,rfl⟩:=slice_form hInto
 refine ⟨aNeed,cNeed,FNeed,aHave,cHave,FHave,aLack,cLack,FLack,aHere,cHere,FHere,aOut,cOut,FOut,aInto,cInto,FInto,fun r v hv=>?_,?_⟩
 ·have hlt:=(List.getElem?_eq_some_iff.1 hv).1
  rw [hxs,← hl,List.append_assoc,List.getElem?_append_right qf,Nat.add_sub_cancel_left,List.getElem?_append_left hlt]
  exact hv
 ·exact ((((((H.jy (j+0) hf (isF fr FInto _ (get (l[i]!)).xw) ⟨hInto,fun e=>(hfr e).sub (by rw [hFF];intro x hx;simp [hx])⟩ (fun x hx=>hsub x (by rw [hFF];have hx:x∈FInto:=hx;simp [hx]))).jy (j+1) hf (isF fr FOut _ (get (l[i]!)).QI) ⟨hOut,fun e=>(hfr e).sub (by rw [hFF];intro x hx;simp [hx])⟩ (fun x hx=>hsub x (by rw [hFF];have hx:x∈FOut:=hx;simp [hx]))).jy (j+2) hf (isF fr FHere _ (get (l[i]!)).vw) ⟨hHere,fun e=>(hfr e).sub (by rw [hFF];intro x hx;simp [hx])⟩ (fun x hx=>hsub x (by rw [hFF];have hx:x∈FHere:=hx;simp [hx]))).jy (j+3) hf (isF fr FLack _ (get (l[i]!)).vY) ⟨hLack,fun e=>(hfr e).sub (by rw [hFF];intro x hx;simp [hx])⟩ (fun x hx=>hsub x (by rw [hFF];have hx:x∈FLack:=hx;simp [hx]))).jy (j+4) hf (isF fr FHave _ (get (l[i]!)).vJ) ⟨hHave,fun e=>(hfr e).sub (by rw [hFF];intro x hx;simp [hx])⟩ (fun x hx=>hsub x (by rw [hFF];have hx:x∈FHave:=hx;simp [hx]))).jy (j+5) hf (isF fr FNeed _ (get (l[i]!)).vF) ⟨hNeed,fun e=>(hfr e).sub (by rw [hFF];intro x hx;simp [hx])⟩ (fun x hx=>hsub x (by rw [hFF];have hx:x∈FNeed:=hx;simp [hx])))
end
section
variable {cl cpOrders : Nat}
theorem sizeO_ok (w:World) (l:List Q8) (hl:zP w Fl al cl l):Calls Tryz.prog 85 #[Sv al l.length cl] w (Ret (fun v w' =>v=yI (l.length:Int)) w):=by
 refine en func85 ntmps85 ?_
 have H:=(St.start w).arg hl
 have nhl:=qO hl
 clear hl
 have N:=Fresh.nil w.heap.size
 refine zcr (sp (yI 0) (zjc (sq 1 (oN rfl (sq 1 (zjr (rH1 (yI l.length) H ?_)))))))
 rfl
theorem sizeRu_ok (w:World) (l:List zZ) (hl:zP w Fl al cl l):Calls Tryz.prog 117 #[Sv al l.length cl] w (Ret (fun v w' =>v=yI (l.length:Int)) w):=by
 refine en func117 ntmps117 ?_
 have H:=(St.start w).arg hl
 have nhl:=qO hl
 clear hl
 have N:=Fresh.nil w.heap.size
 refine zcr (sp (yI 0) (zjc (sq 1 (oN rfl (sq 1 (zjr (rH1 (yI l.length) H ?_)))))))
 rfl
theorem Xn (w:World) (p:zF) (at_:Int) (hpOrders:zP w FpOrders apOrders cpOrders p.qB) (p0:0<=p.qA/\p.qA<=1000) (p1:0<=at_/\at_<=1000000):Calls Tryz.prog 84 #[.agg #[yI p.qA,Sv apOrders p.qB.length cpOrders],yI at_] w (Ret (fun v w' =>v=yI (p.qA+at_)) w):=by
 refine en func84 ntmps84 ?_
 have H:=(St.start w).arg hpOrders
 have nhpOrders:=qO hpOrders
 clear hpOrders
 have N:=Fresh.nil w.heap.size
 refine zcr (sw (zY H [yI p.qA,Sv apOrders p.qB.length cpOrders] fun b1 w2 H=>sp (yI 0) (zjc (oF rfl (oL rfl (H.cell 0 rfl rfl) (sq 1 (sw (zi p.qA at_ rfl rfl qf (sq 1 (zjr (rH1 (yI (p.qA+at_)) H ?_)))))))))))
 rfl
theorem areRegs1_ok (w:World) (n:Int):Calls Tryz.prog 102 #[yI n] w (Ret (fun v w' =>v=Bv (!isCnt n)) w):=by
 refine en func102 ntmps102 ?_
 have H:=St.start w
 have N:=Fresh.nil w.heap.size
 refine zcr (sp (Bv false) (zjc (sp (yI n) (sw (oq (yx w n 0 1000) H fun w1 H=>sq 2 (zjr (rH1 (Bv (!(inR n 0 1000))) H ?_)))))))
 rfl
theorem areRegs_ok (w:World) (p:zF) (regs:yLI) (hpOrders:zP w FpOrders apOrders cpOrders p.qB) (hregs:zP w Fregs aregs cregs regs) (p0:1<=p.qA/\p.qA<=3):Calls Tryz.prog 42 #[.agg #[yI p.qA,Sv apOrders p.qB.length cpOrders],Sv aregs regs.length cregs] w (Ret (fun v w' =>v=Bv (dec (vk p.qA regs))) w):=by
 refine en func42 ntmps42 ?_
 have H:=((St.start w).arg hregs).arg hpOrders
 have nhpOrders:=qO hpOrders
 have nhregs:=qO hregs
 clear hpOrders hregs
 have N:=Fresh.nil w.heap.size
 refine zcr (sw (zY H [yI p.qA,Sv apOrders p.qB.length cpOrders] fun b1 w2 H=>sp (Bv false) (zjn (xU ?_))))
 refine jw rfl H fun H=>rtl 0 H ?_
 refine tF 2 rfl rfl H ?_
 refine tL 3 rfl rfl (fun _ h=>h.cell 0 rfl rfl) H ?_
 refine ro 1 rfl (oq (sizeI_ok _ regs (H.get 1 rfl).1) H fun w4 H=>⟨H,(rtp 4 (Bv (((regs.length:Int):Int) == p.qA)) H ?_)⟩)
 refine rtp 5 (Bv (((regs.length:Int):Int) == p.qA)) H ?_
 cases h6:(((regs.length:Int):Int) == p.qA)
 ·replace h6:=ne_of_beq_false h6
  refine zS [6,7,8] 3 (H) (rtp 9 (Bv false) H ?_)
  refine rtp 10 (Bv false) H ?_
  refine xA qh (t_n (c_ret (rH1 (Bv false) H ?_)))
  rw [xh (fun h=>by have:=h.1.2;have:=h.2;omega)]
 replace h6:=eq_of_beq h6
 refine rgl 6 10 H ?_
 refine jb [7] qh qm (XI rfl (e:=10) rfl rfl (oq (containsFuncI_ok _ regs 102 #[] (fun k=> !isCnt (regs[k]!)) (H.get 1 rfl).1 call102 (fun k w' hk e=>areRegs1_ok w' _)) H fun w7 H=>⟨H,(rgl 8 10 H ?_)⟩) jd)
 refine rtl 9 H ?_
 refine rtl 10 H ?_
 refine xA qh (t_n (c_ret (rH1 (Bv (!(anyTo (fun k=> !isCnt (regs[k]!)) regs.length))) H (congrArg Value.bool (dec_eq ?_)))))
 rw [anyCnt_iff]
 exact ⟨fun h=>⟨⟨h,by omega,by omega⟩,by omega⟩,fun h=>h.1.1⟩
theorem validProgram_ok (w:World) (p:zF) (hpOrders:zP w FpOrders apOrders cpOrders p.qB):Calls Tryz.prog 89 #[.agg #[yI p.qA,Sv apOrders p.qB.length cpOrders]] w (Ret (fun v w' =>v=Bv (dec (yw p))) w):=by
 refine en func89 ntmps89 ?_
 have H:=(St.start w).arg hpOrders
 have nhpOrders:=qO hpOrders
 clear hpOrders
 have N:=Fresh.nil w.heap.size
 refine zcr (sw (zY H [yI p.qA,Sv apOrders p.qB.length cpOrders] fun b1 w2 H=>sp (Bv false) (zjc (oF rfl (oL rfl (H.cell 0 rfl rfl) (sw (oq (sizeO_ok _ p.qB (H.get 0 rfl).1) H fun w4 H=>sw (xH H ti2 [yI 0] fun b6 w7 H=>sw (zI H 0 [yI (p.qB.length:Int)] sizeOf2 fun w8 H=>zjcc (oF rfl (oL rfl (H.cell 1 rfl rfl) (sw (oq (yx w8 p.qA 1 3) H fun w9 H=>sp (Bv (!(inR p.qA 1 3))) (sp (Bv (!(inR p.qA 1 3))) ?_))))))))))))))
 cases h11:(!(inR p.qA 1 3))
 ·replace h11:=qY h11
  replace h11:=jL.1 h11
  refine qJ 11 rfl rfl (oL rfl (H.cell 0 rfl rfl) (qJ 11 rfl rfl (sw (oq (yx w9 (p.qB.length:Int) 1 6) H fun w12 H=>qJ 11 rfl rfl (sq 2 (zjn (zT _ rfl (fun h14=>?_) (fun h14=>?_))))))))
  ·replace h14:=xm h14
   replace h14:=yu h14
   refine zcr (sp (Bv false) (zjr (t_r (rH1 (Bv false) H ?_))))
   rw [xh (fun h=>by obtain ⟨h1,h2,h3⟩:=h;first | omega | (obtain ⟨q1,q2,q3,q4,q5⟩:=h3 i qf;first | contradiction | omega))]
  replace h14:=qY h14
  replace h14:=jL.1 h14
  refine qU (t_n (zcr (oF rfl (oL rfl (H.cell 1 rfl rfl) (sp (.func (.func 139) #[] #[pp b1 0,pp b6 0]) (sw (zN #[Sv apOrders p.qB.length cpOrders,.func (.func 139) #[] #[pp b1 0,pp b6 0]] rfl rfl call138 (en func138 ntmps138 ?_))))))))
  refine zcr (sp (Bv false) (zjc (sq 1 (sp (.func (.func 139) #[] #[pp b1 0,pp b6 0]) (sw (zN #[Sv apOrders p.qB.length cpOrders,.func (.func 139) #[] #[pp b1 0,pp b6 0]] rfl rfl call170 (en func170 ntmps170 ?_)))))))
  refine zcr (sp (yI 0) (zjcc (sq 1 (oN rfl (sp (yI 0) (zjn (qV ?_)))))))
  refine zA ((fun Z0 Z1 Z2=>fun m' ρ w15=>∃ (xQ:Env) (i:Nat),ρ=upd (upd (upd (upd xQ 0 (Sv apOrders p.qB.length cpOrders)) 1 (.func (.func 139) #[] #[pp b1 0,pp b6 0])) 7 (yI p.qB.length)) 8 (yI i)/\((i:Int)<=p.qB.length)/\(OrdersTo p i)/\m' =(p.qB.length - (i:Int)).toNat/\Fresh w.heap.size []/\St w w15 [Z0,Z1] [Z2]) _ _ _) ((p.qB.length - (0:Int)).toNat) ⟨_,0,uE4,qf,qx,rfl,N,H⟩ ?_
  clear H N
  rintro m' ρ w16 ⟨xQ,i,rfl,i0,i1,rfl,N,H⟩
  refine zcr (sq 1 (zjn (xU (cD rfl (fun h17=>?_) (fun h17=>?_)))))
  ·refine qU (t_n (xU (qV (zcr (sp (yI i) (sp (yI i) (zjc (sp (.func (.func 139) #[] #[pp b1 0,pp b6 0]) (sq 1 (sp (yI i) ?_))))))))))
   obtain ⟨b18,o19,rfl⟩:=H.addr 0 rfl qf
   obtain ⟨_,H⟩:=H.Xb 0 rfl i i qf qf qf
   refine oI rfl rfl (sw (x8 [yI ((p.qB[i]!).fOp),yI ((p.qB[i]!).zn),yI ((p.qB[i]!).fTo),yI ((p.qB[i]!).zf)] isAgg109 sizeOf109 rfl (qF (H.get 0 rfl) 0 4) (sw (zN #[.agg #[yI ((p.qB[i]!).fOp),yI ((p.qB[i]!).zn),yI ((p.qB[i]!).fTo),yI ((p.qB[i]!).zf)],pp b1 0,pp b6 0] rfl rfl call139 (en func139 ntmps139 ?_)))))
   refine zcr (sw (zY H [yI ((p.qB[i]!).fOp),yI ((p.qB[i]!).zn),yI ((p.qB[i]!).fTo),yI ((p.qB[i]!).zf)] fun b22 w23 H=>sp (Bv false) (zjcc (oF rfl (oL rfl (H.cell 0 rfl rfl) (zjn (qV (zcc (sp (Bv (((p.qB[i]!).fOp:Int) == 1)) (sp (Bv (((p.qB[i]!).fOp:Int) == 1)) (zjn (cE rfl (fun h24=>?_) (fun h24=>?_)))))))))))))
   ·refine qU (t_n (zT (((p.qB[i]!).fOp:Int) == 1) rfl (fun h25=>?_) (fun h=>absurd h24 (ne_of_beq_false h))))
    replace h25:=eq_of_beq h25
    refine zcr (oF rfl (oL rfl (H.cell 0 rfl rfl) (oF rfl (oL rfl (H.cell 2 rfl rfl) (sw (o_sub p.qA 1 rfl rfl qf (sw (oq (yx w23 ((p.qB[i]!).zn) 0 (p.qA - 1)) H fun w26 H=>sp (Bv (!(inR ((p.qB[i]!).zn) 0 (p.qA - 1)))) (sp (Bv (!(inR ((p.qB[i]!).zn) 0 (p.qA - 1)))) ?_)))))))))
    cases h28:(!(inR ((p.qB[i]!).zn) 0 (p.qA - 1)))
    ·replace h28:=qY h28
     replace h28:=jL.1 h28
     refine qJ 17 rfl rfl (oF rfl (qJ 17 rfl rfl (oL rfl (H.cell 0 rfl rfl) (qJ 17 rfl rfl (oL rfl (H.cell 1 rfl rfl) (qJ 17 rfl rfl (sw (oq (yx w26 ((p.qB[i]!).fTo) 0 (p.qB.length:Int)) H fun w29 H=>qJ 17 rfl rfl (sp (Bv (!(inR ((p.qB[i]!).fTo) 0 (p.qB.length:Int)))) (sp (Bv (!(inR ((p.qB[i]!).fTo) 0 (p.qB.length:Int)))) (sp (Bv (!(inR ((p.qB[i]!).fTo) 0 (p.qB.length:Int)))) ?_)))))))))))
     cases h31:(!(inR ((p.qB[i]!).fTo) 0 (p.qB.length:Int)))
     ·replace h31:=qY h31
      replace h31:=jL.1 h31
      refine qJ 24 rfl rfl (oF rfl (qJ 24 rfl rfl (oL rfl (H.cell 0 rfl rfl) (qJ 24 rfl rfl (oL rfl (H.cell 1 rfl rfl) (qJ 24 rfl rfl (sw (oq (yx w29 ((p.qB[i]!).zf) 0 (p.qB.length:Int)) H fun w32 H=>qJ 24 rfl rfl (sq 3 (zjr (b_r (t_r (ret1 (Bv (!(inR ((p.qB[i]!).zf) 0 (p.qB.length:Int)))) rfl rfl ⟨_,rfl,?_⟩)))))))))))))
      replace H:=H.erases [0]
      dsimp only [zU,List.eraseIdx] at H
      refine zjn (zT _ rfl (fun h34=>?_) (fun h34=>?_))
      ·replace h34:=xm h34
       replace h34:=yu h34
       refine zcr (sp (yI i) (sp (yI i) (zjr (zr5 (ret1 (yI i) rfl rfl ⟨_,rfl,(sw (o_pure (Bv true) (by show some (Value.bool (decide ((i:Int)>=0)))=some (Value.bool true);rw [decide_eq_true qf]) (sp (Bv true) (zjr (ret1 (Bv true) rfl rfl ⟨_,rfl,(sp (Bv false) (sp (Bv false) (zjr (rH1 (Bv false) H ?_))))⟩)))))⟩)))))
       rw [xh (fun h=>by obtain ⟨h1,h2,h3⟩:=h;first | omega | (obtain ⟨q1,q2,q3,q4,q5⟩:=h3 i qf;first | contradiction | omega))]
      replace h34:=qY h34
      replace h34:=jL.1 h34
      refine qU (b_n (t_n (xK (sw (zi i 1 rfl rfl qf (sq 1 (xP (qW (m' :=(p.qB.length - ((i+1):Int)).toNat) qf ⟨_,i+1,uE4,?_,?_,rfl,N,H.pick [0,1] [1]⟩))))))))
      ·omega
      ·exact i1.succ ⟨by omega,by omega,by omega,by omega,by omega⟩
     replace h31:=xm h31
     replace h31:=yu h31
     refine xR (zR 25 5) (sp (Bv true) (sp (Bv true) (zjr (b_r (t_r (ret1 (Bv true) rfl rfl ⟨_,rfl,?_⟩))))))
     replace H:=H.erases [0]
     dsimp only [zU,List.eraseIdx] at H
     refine zjn (cTr rfl (zcr (sp (yI i) (sp (yI i) (zjr (zr5 (ret1 (yI i) rfl rfl ⟨_,rfl,(sw (o_pure (Bv true) (by show some (Value.bool (decide ((i:Int)>=0)))=some (Value.bool true);rw [decide_eq_true qf]) (sp (Bv true) (zjr (ret1 (Bv true) rfl rfl ⟨_,rfl,(sp (Bv false) (sp (Bv false) (zjr (rH1 (Bv false) H ?_))))⟩)))))⟩)))))))
     rw [xh (fun h=>by obtain ⟨h1,h2,h3⟩:=h;first | omega | (obtain ⟨q1,q2,q3,q4,q5⟩:=h3 i qf;first | contradiction | omega))]
    replace h28:=xm h28
    replace h28:=yu h28
    refine xR (zR 18 5) (sp (Bv true) (sp (Bv true) (xR (zR 25 5) (sp (Bv true) (sp (Bv true) (zjr (b_r (t_r (ret1 (Bv true) rfl rfl ⟨_,rfl,?_⟩)))))))))
    replace H:=H.erases [0]
    dsimp only [zU,List.eraseIdx] at H
    refine zjn (cTr rfl (zcr (sp (yI i) (sp (yI i) (zjr (zr5 (ret1 (yI i) rfl rfl ⟨_,rfl,(sw (o_pure (Bv true) (by show some (Value.bool (decide ((i:Int)>=0)))=some (Value.bool true);rw [decide_eq_true qf]) (sp (Bv true) (zjr (ret1 (Bv true) rfl rfl ⟨_,rfl,(sp (Bv false) (sp (Bv false) (zjr (rH1 (Bv false) H ?_))))⟩)))))⟩)))))))
    rw [xh (fun h=>by obtain ⟨h1,h2,h3⟩:=h;first | omega | (obtain ⟨q1,q2,q3,q4,q5⟩:=h3 i qf;first | contradiction | omega))]
   refine xK (sp (Bv (((p.qB[i]!).fOp:Int) == 2)) (sp (Bv (((p.qB[i]!).fOp:Int) == 2)) (zjn (cE rfl (fun h35=>?_) (fun h35=>?_)))))
   ·refine zcr (oF rfl (oL rfl (H.cell 0 rfl rfl) (oF rfl (oL rfl (H.cell 2 rfl rfl) (sw (o_sub p.qA 1 rfl rfl qf (sw (oq (yx w23 ((p.qB[i]!).zn) 0 (p.qA - 1)) H fun w36 H=>sp (Bv (!(inR ((p.qB[i]!).zn) 0 (p.qA - 1)))) (sp (Bv (!(inR ((p.qB[i]!).zn) 0 (p.qA - 1)))) ?_)))))))))
    cases h38:(!(inR ((p.qB[i]!).zn) 0 (p.qA - 1)))
    ·replace h38:=qY h38
     replace h38:=jL.1 h38
     refine qJ 17 rfl rfl (oF rfl (qJ 17 rfl rfl (oL rfl (H.cell 0 rfl rfl) (qJ 17 rfl rfl (oL rfl (H.cell 1 rfl rfl) (qJ 17 rfl rfl (sw (oq (yx w36 ((p.qB[i]!).fTo) 0 (p.qB.length:Int)) H fun w39 H=>qJ 17 rfl rfl (sp (Bv (!(inR ((p.qB[i]!).fTo) 0 (p.qB.length:Int)))) (sp (Bv (!(inR ((p.qB[i]!).fTo) 0 (p.qB.length:Int)))) (sp (Bv (!(inR ((p.qB[i]!).fTo) 0 (p.qB.length:Int)))) ?_)))))))))))
     cases h41:(!(inR ((p.qB[i]!).fTo) 0 (p.qB.length:Int)))
     ·replace h41:=qY h41
      replace h41:=jL.1 h41
      refine qJ 24 rfl rfl (oF rfl (qJ 24 rfl rfl (oL rfl (H.cell 0 rfl rfl) (qJ 24 rfl rfl (oL rfl (H.cell 1 rfl rfl) (qJ 24 rfl rfl (sw (oq (yx w39 ((p.qB[i]!).zf) 0 (p.qB.length:Int)) H fun w42 H=>qJ 24 rfl rfl (sq 3 (zjr (b_r (t_r (ret1 (Bv (!(inR ((p.qB[i]!).zf) 0 (p.qB.length:Int)))) rfl rfl ⟨_,rfl,?_⟩)))))))))))))
      replace H:=H.erases [0]
      dsimp only [zU,List.eraseIdx] at H
      refine zjn (zT _ rfl (fun h44=>?_) (fun h44=>?_))
      ·replace h44:=xm h44
       replace h44:=yu h44
       refine zcr (sp (yI i) (sp (yI i) (zjr (zr5 (ret1 (yI i) rfl rfl ⟨_,rfl,(sw (o_pure (Bv true) (by show some (Value.bool (decide ((i:Int)>=0)))=some (Value.bool true);rw [decide_eq_true qf]) (sp (Bv true) (zjr (ret1 (Bv true) rfl rfl ⟨_,rfl,(sp (Bv false) (sp (Bv false) (zjr (rH1 (Bv false) H ?_))))⟩)))))⟩)))))
       rw [xh (fun h=>by obtain ⟨h1,h2,h3⟩:=h;first | omega | (obtain ⟨q1,q2,q3,q4,q5⟩:=h3 i qf;first | contradiction | omega))]
      replace h44:=qY h44
      replace h44:=jL.1 h44
      refine qU (b_n (t_n (xK (sw (zi i 1 rfl rfl qf (sq 1 (xP (qW (m' :=(p.qB.length - ((i+1):Int)).toNat) qf ⟨_,i+1,uE4,?_,?_,rfl,N,H.pick [0,1] [1]⟩))))))))
      ·omega
      ·exact i1.succ ⟨by omega,by omega,by omega,by omega,by omega⟩
     replace h41:=xm h41
     replace h41:=yu h41
     refine xR (zR 25 5) (sp (Bv true) (sp (Bv true) (zjr (b_r (t_r (ret1 (Bv true) rfl rfl ⟨_,rfl,?_⟩))))))
     replace H:=H.erases [0]
     dsimp only [zU,List.eraseIdx] at H
     refine zjn (cTr rfl (zcr (sp (yI i) (sp (yI i) (zjr (zr5 (ret1 (yI i) rfl rfl ⟨_,rfl,(sw (o_pure (Bv true) (by show some (Value.bool (decide ((i:Int)>=0)))=some (Value.bool true);rw [decide_eq_true qf]) (sp (Bv true) (zjr (ret1 (Bv true) rfl rfl ⟨_,rfl,(sp (Bv false) (sp (Bv false) (zjr (rH1 (Bv false) H ?_))))⟩)))))⟩)))))))
     rw [xh (fun h=>by obtain ⟨h1,h2,h3⟩:=h;first | omega | (obtain ⟨q1,q2,q3,q4,q5⟩:=h3 i qf;first | contradiction | omega))]
    replace h38:=xm h38
    replace h38:=yu h38
    refine xR (zR 18 5) (sp (Bv true) (sp (Bv true) (xR (zR 25 5) (sp (Bv true) (sp (Bv true) (zjr (b_r (t_r (ret1 (Bv true) rfl rfl ⟨_,rfl,?_⟩)))))))))
    replace H:=H.erases [0]
    dsimp only [zU,List.eraseIdx] at H
    refine zjn (cTr rfl (zcr (sp (yI i) (sp (yI i) (zjr (zr5 (ret1 (yI i) rfl rfl ⟨_,rfl,(sw (o_pure (Bv true) (by show some (Value.bool (decide ((i:Int)>=0)))=some (Value.bool true);rw [decide_eq_true qf]) (sp (Bv true) (zjr (ret1 (Bv true) rfl rfl ⟨_,rfl,(sp (Bv false) (sp (Bv false) (zjr (rH1 (Bv false) H ?_))))⟩)))))⟩)))))))
    rw [xh (fun h=>by obtain ⟨h1,h2,h3⟩:=h;first | omega | (obtain ⟨q1,q2,q3,q4,q5⟩:=h3 i qf;first | contradiction | omega))]
   refine qU (b_n (t_n (zcr (sw (x8 [yI ((p.qB[i]!).fOp),yI ((p.qB[i]!).zn),yI ((p.qB[i]!).fTo),yI ((p.qB[i]!).zf)] isAgg109 sizeOf109 rfl (qF (H.cells 0 rfl) 0 4) (sw (vG [yI 3,yI 0,yI 0,yI 0] [(0,yI 3)] (sw (o_neI4 underlying109 qh qh ⟨⟨by decide,by decide⟩,by decide,by decide⟩ ⟨⟨rfl,rfl⟩,rfl,rfl⟩ ⟨⟨rfl,rfl⟩,rfl,rfl⟩ underlying2 isAgg2 rfl rfl ?_)))))))))
   refine sp (Bv (!(((p.qB[i]!).fOp:Int) == 3 && (((p.qB[i]!).zn:Int) == 0 && (((p.qB[i]!).fTo:Int) == 0 && ((p.qB[i]!).zf:Int) == 0))))) (zjr (ret1 (Bv (!(((p.qB[i]!).fOp:Int) == 3 && (((p.qB[i]!).zn:Int) == 0 && (((p.qB[i]!).fTo:Int) == 0 && ((p.qB[i]!).zf:Int) == 0))))) rfl rfl ⟨_,rfl,?_⟩))
   replace H:=H.erases [0]
   dsimp only [zU,List.eraseIdx] at H
   refine zjn (zT (!(((p.qB[i]!).fOp:Int) == 3 && (((p.qB[i]!).zn:Int) == 0 && (((p.qB[i]!).fTo:Int) == 0 && ((p.qB[i]!).zf:Int) == 0)))) rfl (fun h45=>?_) (fun h45=>?_))
   ·replace h45:=i4_ne h45
    refine zcr (sp (yI i) (sp (yI i) (zjr (zr5 (ret1 (yI i) rfl rfl ⟨_,rfl,(sw (o_pure (Bv true) (by show some (Value.bool (decide ((i:Int)>=0)))=some (Value.bool true);rw [decide_eq_true qf]) (sp (Bv true) (zjr (ret1 (Bv true) rfl rfl ⟨_,rfl,(sp (Bv false) (sp (Bv false) (zjr (rH1 (Bv false) H ?_))))⟩)))))⟩)))))
    rw [xh (fun h=>by obtain ⟨h1,h2,h3⟩:=h;first | omega | (obtain ⟨q1,q2,q3,q4,q5⟩:=h3 i qf;first | contradiction | omega))]
   replace h45:=i4_eq h45
   refine qU (b_n (t_n (xK (sw (zi i 1 rfl rfl qf (sq 1 (xP (qW (m' :=(p.qB.length - ((i+1):Int)).toNat) qf ⟨_,i+1,uE4,?_,?_,rfl,N,H.pick [0,1] [1]⟩))))))))
   ·omega
   ·exact i1.succ ⟨by omega,by omega,by omega,by omega,by omega⟩
  refine zx4 (zcr (sq 1 (zjr (ret1 (yI (-1)) rfl rfl ⟨_,rfl,(sp (Bv false) (sp (Bv false) (zjr (ret1 (Bv false) rfl rfl ⟨_,rfl,(sp (Bv true) (sp (Bv true) (zjr (rH1 (Bv true) H ?_))))⟩))))⟩))))
  rw [jS ⟨by omega,by omega,(show p.qB.length=i by omega)▸i1⟩]
 replace h11:=xm h11
 replace h11:=yu h11
 refine xR [12,13,14] (sp (Bv true) (zjn (cTr rfl (zcr (sp (Bv false) (zjr (t_r (rH1 (Bv false) H ?_))))))))
 rw [xh (fun h=>by obtain ⟨h1,h2,h3⟩:=h;first | omega | (obtain ⟨q1,q2,q3,q4,q5⟩:=h3 i qf;first | contradiction | omega))]
theorem subs_ok (w:World) (p:zF) (before:Int) (hpOrders:zP w FpOrders apOrders cpOrders p.qB) (p0:0<=before/\before<=(p.qB.length:Int)):Calls Tryz.prog 123 #[.agg #[yI p.qA,Sv apOrders p.qB.length cpOrders],yI before] w (Ret (fun v w' =>v=yI (zg p (before:Int).toNat)) w):=by
 refine en func123 ntmps123 ?_
 have H:=(St.start w).arg hpOrders
 have nhpOrders:=qO hpOrders
 clear hpOrders
 have N:=Fresh.nil w.heap.size
 refine zcr (sw (zY H [yI p.qA,Sv apOrders p.qB.length cpOrders] fun b1 w2 H=>sp (yI 0) (zjc (sp (yI 0) (zjcc (oF rfl (oL rfl (H.cell 0 rfl rfl) (sq 1 (sw (o_head H 0 rfl before.toNat underlying24 ti109 rfl rfl qf qf fun a3 G4 hG5 H=>?_))))))))))
 have hl6:(p.qB.take before.toNat).length=before.toNat:=List.length_take_of_le qf
 refine oN rfl (sp (yI 0) (zjn (qV ?_)))
 refine zA ((fun Z0 Z1 Z2=>fun m' ρ w7=>∃ (xQ:Env) (n:Int) (k:Nat),ρ=upd (upd (upd (upd xQ 5 (yI n)) 11 (Sv a3 ((p.qB.take before.toNat).length) cpOrders)) 12 (yI ((p.qB.take before.toNat).length))) 13 (yI k)/\n=zg p k/\((k:Int)<=((p.qB.take before.toNat).length))/\m' =(((p.qB.take before.toNat).length) - (k:Int)).toNat/\Fresh w.heap.size []/\St w w7 [Z0] [Z1,Z2]) _ _ _) ((((p.qB.take before.toNat).length) - (0:Int)).toNat) ⟨_,0,0,uE4,(by rfl),qf,rfl,N,H⟩ ?_
 clear H N
 rintro m' ρ w8 ⟨xQ,n,k,rfl,rfl,i0,rfl,N,H⟩
 have hs:=subsTo_le p k
 refine zcr (sq 1 (zjn (xU (cD rfl (fun h9=>?_) (fun h9=>?_)))))
 ·refine qU (t_n (xU (qV (zcr ?_))))
  obtain ⟨b10,o11,rfl⟩:=H.addr 0 rfl qf
  obtain ⟨_,H⟩:=H.Xb 0 rfl k k qf qf qf
  refine oI rfl rfl (sw (x8 [yI (((p.qB.take before.toNat)[k]!).fOp),yI (((p.qB.take before.toNat)[k]!).zn),yI (((p.qB.take before.toNat)[k]!).fTo),yI (((p.qB.take before.toNat)[k]!).zf)] isAgg109 sizeOf109 rfl (qF (H.get 0 rfl) 0 4) (sw (xH H ti109 [yI 0,yI 0,yI 0,yI 0] fun b14 w15 H=>sw (xY H 0 [yI (((p.qB.take before.toNat)[k]!).fOp),yI (((p.qB.take before.toNat)[k]!).zn),yI (((p.qB.take before.toNat)[k]!).fTo),yI (((p.qB.take before.toNat)[k]!).zf)] sizeOf109 fun w16 H=>?_)))))
  refine zjc (oF rfl (oL rfl (H.cell 0 rfl rfl) (sp (Bv ((((p.qB.take before.toNat)[k]!).fOp:Int) == 2)) (zjn (cE rfl (fun h17=>?_) (fun h17=>?_))))))
  ·refine xK (sq 1 (sw (zi (zg p k) 1 rfl rfl qf (sq 1 (xP (b_n (t_n (xK (sw (zi k 1 rfl rfl qf (sq 1 (xP (qW (m' :=(((p.qB.take before.toNat).length) - ((k+1):Int)).toNat) qf ⟨_,_,k+1,uE4,?_,?_,rfl,N,H.pick [1] [1,2]⟩)))))))))))))
   ·first | exact subs_yes (by rw [← take_at (l:=p.qB) (n:=before.toNat) (i:=k) qf];assumption) | exact subs_no (by rw [← take_at (l:=p.qB) (n:=before.toNat) (i:=k) qf];assumption)
   ·omega
  refine qU (b_n (t_n (xK (sw (zi k 1 rfl rfl qf (sq 1 (xP (qW (m' :=(((p.qB.take before.toNat).length) - ((k+1):Int)).toNat) qf ⟨_,_,k+1,uE4,?_,?_,rfl,N,H.pick [1] [1,2]⟩))))))))
  ·first | exact subs_yes (by rw [← take_at (l:=p.qB) (n:=before.toNat) (i:=k) qf];assumption) | exact subs_no (by rw [← take_at (l:=p.qB) (n:=before.toNat) (i:=k) qf];assumption)
  ·omega
 refine zx4 (zcr (sq 2 (zjr (rH1 (yI (zg p k)) H ?_))))
 rw [show (before:Int).toNat=k by omega]
theorem kinds_ok (w:World) (p:zF) (mode:Int) (hpOrders:zP w FpOrders apOrders cpOrders p.qB) (p0:yw p):Calls Tryz.prog 76 #[.agg #[yI p.qA,Sv apOrders p.qB.length cpOrders],yI mode] w (Ret (fun v w' =>v=yI (qQ p mode)) w):=by
 refine en func76 ntmps76 ?_
 have H:=(St.start w).arg hpOrders
 have nhpOrders:=qO hpOrders
 clear hpOrders
 have N:=Fresh.nil w.heap.size
 have p1:=p0.1
 have p2:=p0.2.1
 have p3:=subsTo_le p (p.qB.length:Int).toNat
 refine zcr (sw (zY H [yI p.qA,Sv apOrders p.qB.length cpOrders] fun b1 w2 H=>sp (yI 0) (zjn (xU ?_))))
 refine jw rfl H fun H=>rt 0 _ (yl (cs:=[yI p.qA,Sv apOrders p.qB.length cpOrders]) isAgg26 sizeOf26 rfl (fun _ h=>qF (h.cells 0 rfl) 0 2)) H ?_
 refine tF 1 rfl rfl H ?_
 refine tL 2 rfl rfl (fun _ h=>h.cell 0 rfl rfl) H ?_
 refine ro 3 rfl (oq (sizeO_ok _ p.qB (H.get 0 rfl).1) H fun w5 H=>⟨H,(ro 4 rfl (oq (Xn _ p (p.qB.length:Int) (H.get 0 rfl).1 qg qg) H fun w8 H=>⟨H,(rt 5 _ (y_add (p.qA+(p.qB.length:Int)) 1 rfl rfl qf) H ?_)⟩))⟩)
 refine rtl 6 H ?_
 refine xA qh (t_n (zcc (sq 1 (sp (Bv ((mode:Int) == 3)) (zjn (cE rfl (fun h10=>?_) (fun h10=>?_)))))))
 ·refine xK (sq 1 (sw (x8 [yI p.qA,Sv apOrders p.qB.length cpOrders] isAgg26 sizeOf26 rfl (qF (H.cells 0 rfl) 0 2) (oF rfl (oL rfl (H.cell 0 rfl rfl) (oN rfl (sw (oq (subs_ok _ p p.qB.length (H.get 0 rfl).1 qg) H fun w12 H=>sw (zi (zg p (p.qB.length:Int).toNat) 1 rfl rfl qf (sw (zi ((p.qA+(p.qB.length:Int))+1) ((zg p (p.qB.length:Int).toNat)+1) rfl rfl qf (sq 1 ?_))))))))))))
  refine zjc (sq 2 (zjr (rH1 (yI (((p.qA+(p.qB.length:Int))+1)+((zg p (p.qB.length:Int).toNat)+1))) H ?_)))
  first | rw [← kinds_trap ql,Int.toNat_natCast] | rw [← kinds_else ql]
 refine qU (t_n (zcr (sq 2 (zjr (rH1 (yI ((p.qA+(p.qB.length:Int))+1)) H ?_)))))
 first | rw [← kinds_trap ql,Int.toNat_natCast] | rw [← kinds_else ql]
theorem wait_ok (w:World) (p:zF) (i:Int) (hpOrders:zP w FpOrders apOrders cpOrders p.qB) (p0:yw p) (p4:0<=i/\i<=(p.qB.length:Int)):Calls Tryz.prog 119 #[.agg #[yI p.qA,Sv apOrders p.qB.length cpOrders],yI i] w (Ret (fun v w' =>v=yI (p.qA+p.qB.length+1+zg p (i:Int).toNat)) w):=by
 refine en func119 ntmps119 ?_
 have H:=(St.start w).arg hpOrders
 have nhpOrders:=qO hpOrders
 clear hpOrders
 have N:=Fresh.nil w.heap.size
 have p1:=p0.1
 have p2:=p0.2.1
 have p3:=subsTo_le p (i:Int).toNat
 refine zcr (sw (zY H [yI p.qA,Sv apOrders p.qB.length cpOrders] fun b1 w2 H=>sp (yI 0) (zjn (xU ?_))))
 refine jw rfl H fun H=>rt 0 _ (yl (cs:=[yI p.qA,Sv apOrders p.qB.length cpOrders]) isAgg26 sizeOf26 rfl (fun _ h=>qF (h.cells 0 rfl) 0 2)) H ?_
 refine tF 1 rfl rfl H ?_
 refine tL 2 rfl rfl (fun _ h=>h.cell 0 rfl rfl) H ?_
 refine rt 6 _ (yl (cs:=[yI p.qA,Sv apOrders p.qB.length cpOrders]) isAgg26 sizeOf26 rfl (fun _ h=>qF (h.cells 0 rfl) 0 2)) H ?_
 refine rtp 7 (yI i) H ?_
 refine ro 3 rfl (oq (sizeO_ok _ p.qB (H.get 0 rfl).1) H fun w5 H=>⟨H,(ro 4 rfl (oq (Xn _ p (p.qB.length:Int) (H.get 0 rfl).1 qg qg) H fun w8 H=>⟨H,(rt 5 _ (y_add (p.qA+(p.qB.length:Int)) 1 rfl rfl qf) H ?_)⟩))⟩)
 refine ro 8 rfl (oq (subs_ok _ p i (H.get 0 rfl).1 qg) H fun w11 H=>⟨H,(rt 9 _ (y_add ((p.qA+(p.qB.length:Int))+1) (zg p (i:Int).toNat) rfl rfl qf) H ?_)⟩)
 refine rtl 10 H ?_
 refine xA qh (t_n (c_ret (rH1 (yI (((p.qA+(p.qB.length:Int))+1)+(zg p (i:Int).toNat))) H ?_)))
 rfl
theorem bBag_ok (K:Int) (bk:Nat) (raR:yOA) (rnR:Nat) (rcR:Nat) (raF:yOA) (rnF:Nat) (rcF:Nat) (ks:yLI) (aks:yOA) (cks:Nat) (Fks:yLN) (H:St W0 w ((.box bk [yI K,Sv raR rnR rcR,Sv raF rnF rcF] 111)::ps) ((sF false Fks aks cks ks)::Γ)) (N:Fresh W0.heap.size (Ns)) (K0:Kept Ns Γ) (q0:1<=K/\K<=30) (q1:vZ K ks):Calls Tryz.prog 157 #[pp bk 0,Sv aks ks.length cks] w (fun e w' =>∃ v,e=.returned v/\∃ (rao:yOA) (rno:Nat) (rco:Nat),v=Sv rao rno rco/\Fresh W0.heap.size (Ns)/\St W0 w' ((.box bk [yI K,Sv raR rnR rcR,Sv raF rnF rcF] 111)::(rr rao rno rco 2 1 ((je K.toNat ks).map (Value.int .i64)))::ps) ((sF false Fks aks cks ks)::Γ)):=by
 refine en func157 ntmps157 ?_
 have nks:=qO (H.get 0 rfl).1
 refine zcr (sq 1 (zjc (sq 2 (oF rfl (oL rfl (H.cell 0 rfl rfl) (sw (Qr H underlying27 ti2 K.toNat rfl rfl qf qf qf fun b1 w2 H=>sq 1 (zjcc (sq 1 (oN rfl (sp (yI 0) (zjn (qV ?_)))))))))))))
 refine zA ((fun Z0 Z1=>fun m' ρ w3=>∃ (xQ:Env) (k:Nat) (out:yLI),ρ=upd (upd (upd (upd xQ 5 (Sv (aa b1 0) K.toNat K.toNat)) 13 (Sv aks ks.length cks)) 14 (yI ks.length)) 15 (yI k)/\out=bagTo K.toNat ks k/\((k:Int)<=ks.length)/\m' =(ks.length - (k:Int)).toNat/\Fresh W0.heap.size (Ns)/\St W0 w3 ((rr (aa b1 0) K.toNat K.toNat 2 1 (out.map (Value.int .i64)))::Z0::ps) (Z1::Γ)) _ _) ((ks.length - (0:Int)).toNat) ⟨_,0,(List.replicate K.toNat (0:Int)),uE4,(by rw [bagTo_zero]),qf,rfl,N,H⟩ ?_
 clear H N
 rintro m' ρ w4 ⟨xQ,k,out,rfl,rfl,i0,rfl,N,H⟩
 have hn_out:=H.yt 0 rfl
 have hk:=q1.at (i:=k)
 have hg:=bagTo_ge (n:=K.toNat) (ks:=ks) (i:=k) (ks[k]!).toNat
 have hl:=bagTo_len K.toNat ks k
 refine zcr (sq 1 (zjn (xU (cD rfl (fun h5=>?_) (fun h5=>?_)))))
 ·refine qU (t_n (xU (qV (zcr ?_))))
  obtain ⟨b6,o7,rfl⟩:=H.addr 0 rfl qf
  refine oI rfl rfl (oL rfl (H.zB 0 rfl k qf) (sq 1 (zjn (xK (sq 2 (oI rfl rfl (oL rfl (H.rowInt 0 rfl (iv:=ks[k]!) (i:=((ks[k]! :Int).toNat)) qf qf) (sw (zi ((bagTo K.toNat ks k)[(ks[k]! :Int).toNat]!) 1 rfl rfl qf (oI rfl rfl (sw (XB H 0 rfl (((bagTo K.toNat ks k)[(ks[k]! :Int).toNat]!)+1) sizeOf2 rfl rfl (i:=((ks[k]! :Int).toNat)) qf qf fun w9 H=>?_))))))))))))
  try dsimp only [List.set] at H
  refine xP (b_n (t_n (xK (sw (zi k 1 rfl rfl qf (sq 1 (xP (qW (m' :=(ks.length - ((k+1):Int)).toNat) qf ⟨_,k+1,_,uE4,?_,?_,rfl,N,H⟩))))))))
  ·exact bagTo_succ qf
  ·omega
 refine zx4 (zcr (sq 2 (zjr (ret1 (Sv (aa b1 0) K.toNat K.toNat) rfl rfl ⟨_,rfl,?_⟩))))
 rw [show k=ks.length by omega] at H
 exact ⟨(aa b1 0),K.toNat,K.toNat,rfl,N,H.vW 2 1 [1,0] [0] qo qo⟩
theorem bRule_ok (K:Int) (lr:List zZ) (bk:Nat) (raR:yOA) (rnR:Nat) (rcR:Nat) (rxR:List Value) (rFR:yLN) (raF:yOA) (rnF:Nat) (rcF:Nat) (to_:Int) (frm:yLI) (afrm:yOA) (cfrm:Nat) (Ffrm:yLN) (H:St W0 w ((.box bk [yI K,Sv raR rnR rcR,Sv raF rnF rcF] 111)::(rr raR rnR rcR 120 9 rxR)::ps) ((sF false Ffrm afrm cfrm frm)::(xN true rFR rxR lr)::Γ)) (N:Fresh W0.heap.size (rFR::Ns)) (K0:Kept Ns Γ) (q0:1<=K/\K<=30) (q1:vZ K frm) (q2:0<=to_/\to_ < K) (q3:lr.length<=100):Calls Tryz.prog 118 #[pp bk 0,yI to_,Sv afrm frm.length cfrm] w (fun e w' =>∃ v,e=.returned v/\∃ (bs:Nat) (rnR_:Nat) (rcR_:Nat) (rxR_:List Value) (rFR_:yLN),v=pp bs (0+((lr.length:Int)+1 - 1).toNat * 9)/\Fresh W0.heap.size (rFR_::Ns)/\St W0 w' ((.box bk [yI K,Sv (aa bs 0) rnR_ rcR_,Sv raF rnF rcF] 111)::(rr (aa bs 0) rnR_ rcR_ 120 9 rxR_)::ps) ((sF false Ffrm afrm cfrm frm)::(xN true rFR_ rxR_ (lr++[zM K.toNat 0 frm [] [] [to_]]))::Γ)):=by
 refine en func118 ntmps118 ?_
 have nfrm:=qO (H.get 0 rfl).1
 obtain rfl:=H.xB (α:=zZ) 1 rfl 1 rfl qj
 refine zcr (sq 1 (zjn (xU ?_)))
 refine c_lateC (fun ρ w18=>∃ (xQ:Env) (a1:yOA) (c2:Nat) (ra3:yOA) (rc4:Nat) (ra5:yOA) (rc6:Nat) (ra7:yOA) (rc8:Nat) (ra9:yOA) (rc10:Nat) (ra11:yOA) (rc12:Nat) (G13:yLN) (G14:yLN) (G15:yLN) (G16:yLN) (G17:yLN),ρ=upd (upd (upd xQ 0 (pp bk 0)) 27 (Sv a1 (lr.length+1) c2)) 29 (pp bk (0+1))/\Fresh W0.heap.size ((rFR++(G13++G14++G15++G16++G17++[]))::Ns)/\St W0 w18 ((.box bk [yI K,Sv raR lr.length rcR,Sv raF rnF rcF] 111)::(rr a1 (lr.length+1) c2 120 9 (rxR++[yI 0,yI 0,Sv ra3 ((je K.toNat frm).length) rc4,Sv ra5 ((je K.toNat ([]:yLI)).length) rc6,Sv ra7 ((je K.toNat ([]:yLI)).length) rc8,Sv ra9 ((je K.toNat [to_]).length) rc10,Sv ra11 ((je K.toNat ([]:yLI)).length) rc12,yN,Bv false]))::ps) ((xN true (rFR++(G13++G14++G15++G16++G17++[])) (rxR++[yI 0,yI 0,Sv ra3 ((je K.toNat frm).length) rc4,Sv ra5 ((je K.toNat ([]:yLI)).length) rc6,Sv ra7 ((je K.toNat ([]:yLI)).length) rc8,Sv ra9 ((je K.toNat [to_]).length) rc10,Sv ra11 ((je K.toNat ([]:yLI)).length) rc12,yN,Bv false]) (lr++[(⟨0,0,je K.toNat frm,je K.toNat ([]:yLI),je K.toNat ([]:yLI),je K.toNat [to_],je K.toNat ([]:yLI),([]:List IntoD),false⟩:zZ)]))::(sF true G17 ra11 rc12 (je K.toNat ([]:yLI)))::(sF true G16 ra9 rc10 (je K.toNat [to_]))::(sF true G15 ra7 rc8 (je K.toNat ([]:yLI)))::(sF true G14 ra5 rc6 (je K.toNat ([]:yLI)))::(sF true G13 ra3 rc4 (je K.toNat frm))::(sF false Ffrm afrm cfrm frm)::Γ)) rfl H [0] [0,1] (fun H=>?_) ?_
 ·dsimp only [Xw]
  refine Xm (fun ρ w28=>∃ (xQ:Env) (ra20:yOA) (rc21:Nat) (ra22:yOA) (rc23:Nat) (ra24:yOA) (rc25:Nat) (b26:Nat),ρ=upd (upd (upd (upd (upd (upd (upd (upd (upd xQ 0 (pp bk 0)) 7 (pp bk 0)) 11 (Sv raR lr.length rcR)) 14 (Sv ra20 ((je K.toNat frm).length) rc21)) 16 (Sv ra22 ((je K.toNat ([]:yLI)).length) rc23)) 18 (Sv ra24 ((je K.toNat ([]:yLI)).length) rc25)) 19 (pp bk 0)) 21 (Sv (aa b26 0) 1 1)) 23 (pp bk 0)/\Fresh W0.heap.size (rFR::Ns)/\St W0 w28 ((.box b26 [yI to_] 2)::(.box bk [yI K,Sv raR lr.length rcR,Sv raF rnF rcF] 111)::(rr ra24 ((je K.toNat ([]:yLI)).length) rc25 2 1 ((je K.toNat ([]:yLI)).map (Value.int .i64)))::(rr ra22 ((je K.toNat ([]:yLI)).length) rc23 2 1 ((je K.toNat ([]:yLI)).map (Value.int .i64)))::(rr ra20 ((je K.toNat frm).length) rc21 2 1 ((je K.toNat frm).map (Value.int .i64)))::(rr raR lr.length rcR 120 9 rxR)::ps) ((sF false Ffrm afrm cfrm frm)::(xN true rFR rxR lr)::Γ)) 7 #[true,true,true,true,true,true,true,true,true,true,true,true,true,true,true,false,true,false,false,false,false,false,false] ?_ fun L27=>?_
  ·rintro ρ w29 ⟨xQ,ra20,rc21,ra22,rc23,ra24,rc25,b26,rfl,N,H⟩
   refine ro 15 rfl ?_
   replace H:=H.vI 0 [to_] 1
   try dsimp only [List.set] at H
   obtain ⟨G30,N,hn31,H⟩:=H.zh 0 rfl N (fun F hF b hb=>(List.mem_append.1 (show F∈[rFR]++Ns from hF)).elim (fun h=>(H.vz (L:=[rFR]) [1]) F h b hb) fun h=>H.XM (K0.behind 2 rfl) F h b hb)
   try dsimp only [List.set] at H
   replace H:=H.ja 0 rfl
   have hn32:=H.isLen 0 rfl
   have H1:St W0 w29 ((.box bk [yI K,Sv raR lr.length rcR,Sv raF rnF rcF] 111)::(.row yN 0 1 0 [])::(.row (Sv ra24 ((je K.toNat ([]:yLI)).length) rc25) 2 1 ((je K.toNat ([]:yLI)).length) ((je K.toNat ([]:yLI)).map (Value.int .i64)))::(.row (Sv ra22 ((je K.toNat ([]:yLI)).length) rc23) 2 1 ((je K.toNat ([]:yLI)).length) ((je K.toNat ([]:yLI)).map (Value.int .i64)))::(.row (Sv ra20 ((je K.toNat frm).length) rc21) 2 1 ((je K.toNat frm).length) ((je K.toNat frm).map (Value.int .i64)))::(.row (Sv raR lr.length rcR) 120 9 lr.length rxR)::ps) ((isF false G30 (Sv (aa b26 0) ([to_].length) 1) [to_])::(isF false G30 (Sv (aa b26 0) 1 1) [to_])::(isF true G30 (Sv (aa b26 0) 1 1) [to_])::(isF false Ffrm (Sv afrm frm.length cfrm) frm)::(xN true rFR rxR lr)::Γ):=by (try rw [← hn32]);exact H.vW 6 4 [1,0,2,3,4,5] [0,0,1,2,3] qo qo
   have N1:Fresh _ (G30::rFR::Ns):=N
   have K1:Kept (Ns) ((isF false G30 (Sv (aa b26 0) 1 1) [to_])::(isF true G30 (Sv (aa b26 0) 1 1) [to_])::(sF false Ffrm afrm cfrm frm)::(xN true rFR rxR lr)::Γ):=K0.behind 4 rfl
   replace K1:=K1.cons (F:=rFR) 3 rfl rfl
   replace K1:=K1.cons (F:=G30) 0 rfl rfl
   refine jg #[pp bk 0,Sv (aa b26 0) 1 1] rfl rfl call157 (jo (by first | rfl | rw [hn32]) (bBag_ok K bk raR lr.length rcR raF rnF rcF [to_] (aa b26 0) 1 G30 H1 N1 K1 qf (by first | assumption | exact vZ.nil _ | exact vZ.one qf))) ?_
   clear H H1 N1 K1
   rintro _ w33 ⟨ra35,rn36,rc37,rfl,N,H⟩
   obtain rfl:=H.yt 1 rfl
   refine ⟨H.pick [0] [3,4],(ro 17 rfl ?_)⟩
   replace H:=H.addNil (α:=Int)
   replace H:=H.ja 0 rfl
   have hn38:=H.isLen 0 rfl
   have H1:St W0 w33 ((.box bk [yI K,Sv raR lr.length rcR,Sv raF rnF rcF] 111)::(.row (Sv ra35 ((je K.toNat [to_]).length) rc37) 2 1 ((je K.toNat [to_]).length) ((je K.toNat [to_]).map (Value.int .i64)))::(.row yN 0 1 0 [])::(.row (Sv ra24 ((je K.toNat ([]:yLI)).length) rc25) 2 1 ((je K.toNat ([]:yLI)).length) ((je K.toNat ([]:yLI)).map (Value.int .i64)))::(.row (Sv ra22 ((je K.toNat ([]:yLI)).length) rc23) 2 1 ((je K.toNat ([]:yLI)).length) ((je K.toNat ([]:yLI)).map (Value.int .i64)))::(.row (Sv ra20 ((je K.toNat frm).length) rc21) 2 1 ((je K.toNat frm).length) ((je K.toNat frm).map (Value.int .i64)))::(.row (Sv raR lr.length rcR) 120 9 lr.length rxR)::ps) ((isF false [] yN ([]:yLI))::(isF true [] yN ([]:yLI))::(isF false G30 (Sv (aa b26 0) ([to_].length) 1) [to_])::(isF false G30 (Sv (aa b26 0) 1 1) [to_])::(isF true G30 (Sv (aa b26 0) 1 1) [to_])::(isF false Ffrm (Sv afrm frm.length cfrm) frm)::(xN true rFR rxR lr)::Γ):=by (try rw [← hn38]);exact H.vW 7 7 (zR 0 7) (zR 0 7) qo qo
   have N1:Fresh _ (G30::rFR::Ns):=N
   have K1:Kept (Ns) ((isF true [] yN ([]:yLI))::(sF false G30 (aa b26 0) 1 [to_])::(isF false G30 (Sv (aa b26 0) 1 1) [to_])::(isF true G30 (Sv (aa b26 0) 1 1) [to_])::(sF false Ffrm afrm cfrm frm)::(xN true rFR rxR lr)::Γ):=K0.behind 6 rfl
   replace K1:=K1.cons (F:=rFR) 5 rfl rfl
   replace K1:=K1.cons (F:=G30) 1 rfl rfl
   refine jg #[pp bk 0,yN] rfl rfl call157 (jo (by first | rfl | rw [hn38]) (bBag_ok K bk raR lr.length rcR raF rnF rcF ([]:yLI) none 0 [] H1 N1 K1 qf (by first | assumption | exact vZ.nil _ | exact vZ.one qf))) ?_
   clear H H1 N1 K1
   rintro _ w39 ⟨ra41,rn42,rc43,rfl,N,H⟩
   obtain rfl:=H.yt 1 rfl
   refine ⟨H.pick [0] [5,6],(ro 18 rfl (vG [yI 0,yI 0,Sv ra20 ((je K.toNat frm).length) rc21,Sv ra22 ((je K.toNat ([]:yLI)).length) rc23,Sv ra24 ((je K.toNat ([]:yLI)).length) rc25,Sv ra35 ((je K.toNat [to_]).length) rc37,Sv ra41 ((je K.toNat ([]:yLI)).length) rc43,yN,Bv false] [(2,Sv ra20 ((je K.toNat frm).length) rc21),(3,Sv ra22 ((je K.toNat ([]:yLI)).length) rc23),(4,Sv ra24 ((je K.toNat ([]:yLI)).length) rc25),(5,Sv ra35 ((je K.toNat [to_]).length) rc37),(6,Sv ra41 ((je K.toNat ([]:yLI)).length) rc43)] (⟨H.pick [0] [5,6],?_⟩)))⟩
   refine ro 19 rfl (xx H underlying35 ti120 [yI 0,yI 0,Sv ra20 ((je K.toNat frm).length) rc21,Sv ra22 ((je K.toNat ([]:yLI)).length) rc23,Sv ra24 ((je K.toNat ([]:yLI)).length) rc25,Sv ra35 ((je K.toNat [to_]).length) rc37,Sv ra41 ((je K.toNat ([]:yLI)).length) rc43,yN,Bv false] fun b44 w45 H=>⟨H.pick [1] [5,6],(ro 20 rfl ?_)⟩)
   obtain ⟨G49,N,hn50,H⟩:=H.zh 7 rfl N (fun F hF b hb=>(List.mem_append.1 (show F∈[G30,rFR]++Ns from hF)).elim (fun h=>(H.vz (L:=[G30,rFR]) [2,6]) F h b hb) fun h=>H.XM (K0.behind 7 rfl) F h b hb)
   try dsimp only [List.set] at H
   obtain ⟨G51,N,hn52,H⟩:=H.zh 6 rfl N (fun F hF b hb=>(List.mem_append.1 (show F∈[G49,G30,rFR]++Ns from hF)).elim (fun h=>(H.vz (L:=[G49,G30,rFR]) [0,3,7]) F h b hb) fun h=>H.XM (K0.behind 8 rfl) F h b hb)
   try dsimp only [List.set] at H
   obtain ⟨G53,N,hn54,H⟩:=H.zh 5 rfl N (fun F hF b hb=>(List.mem_append.1 (show F∈[G51,G49,G30,rFR]++Ns from hF)).elim (fun h=>(H.vz (L:=[G51,G49,G30,rFR]) [0,1,4,8]) F h b hb) fun h=>H.XM (K0.behind 9 rfl) F h b hb)
   try dsimp only [List.set] at H
   obtain ⟨G55,N,hn56,H⟩:=H.zh 3 rfl N (fun F hF b hb=>(List.mem_append.1 (show F∈[G53,G51,G49,G30,rFR]++Ns from hF)).elim (fun h=>(H.vz (L:=[G53,G51,G49,G30,rFR]) [0,1,2,5,9]) F h b hb) fun h=>H.XM (K0.behind 10 rfl) F h b hb)
   try dsimp only [List.set] at H
   obtain ⟨G57,N,hn58,H⟩:=H.zh 2 rfl N (fun F hF b hb=>(List.mem_append.1 (show F∈[G55,G53,G51,G49,G30,rFR]++Ns from hF)).elim (fun h=>(H.vz (L:=[G55,G53,G51,G49,G30,rFR]) [0,1,2,3,6,10]) F h b hb) fun h=>H.XM (K0.behind 11 rfl) F h b hb)
   try dsimp only [List.set] at H
   replace H:=H.addNil (α:=IntoD)
   refine zG H 8 rfl 0 rfl underlying35 ti120 rfl qj rfl rfl rfl qw qp qf fun a46 c47 w48 H=>?_
   try dsimp only [List.set] at H
   replace H:=H.snoc_RuleD 12 rfl 0 0 5 rfl 4 rfl 3 rfl 2 rfl 1 rfl 0 rfl false
   replace N:Fresh W0.heap.size ((rFR++(G49++G51++G53++G55++G57++[]))::G30::Ns):=(N.emp.vW 8 [5,4,3,2,1,0,7,6] qo).join.join.join.join.join.swap.join
   refine ⟨H.pick [1] [12,13],?_⟩
   have S:=H.jr [1] [12,13]
   refine rtl 21 S ?_
   refine tF 22 rfl rfl S ?_
   refine xA qh ((meet ⟨_,a46,c47,ra20,rc21,ra22,rc23,ra24,rc25,ra35,rc37,ra41,rc43,G49,G51,G53,G55,G57,uE3,(N.vW 2 [0] qo),H.vW 9 14 [1,8] [0,2,3,4,5,6,12] qo qo⟩))
  refine Xm (fun ρ w65=>∃ (xQ:Env) (ra59:yOA) (rc60:Nat) (ra61:yOA) (rc62:Nat) (b63:Nat),ρ=upd (upd (upd (upd (upd (upd (upd (upd (upd xQ 0 (pp bk 0)) 7 (pp bk 0)) 11 (Sv raR lr.length rcR)) 14 (Sv ra59 ((je K.toNat frm).length) rc60)) 16 (Sv ra61 ((je K.toNat ([]:yLI)).length) rc62)) 17 (pp bk 0)) 19 (pp bk 0)) 21 (Sv (aa b63 0) 1 1)) 23 (pp bk 0)/\Fresh W0.heap.size (rFR::Ns)/\St W0 w65 ((.box b63 [yI to_] 2)::(.box bk [yI K,Sv raR lr.length rcR,Sv raF rnF rcF] 111)::(rr ra61 ((je K.toNat ([]:yLI)).length) rc62 2 1 ((je K.toNat ([]:yLI)).map (Value.int .i64)))::(rr ra59 ((je K.toNat frm).length) rc60 2 1 ((je K.toNat frm).map (Value.int .i64)))::(rr raR lr.length rcR 120 9 rxR)::ps) ((sF false Ffrm afrm cfrm frm)::(xN true rFR rxR lr)::Γ)) 8 #[true,true,true,true,true,true,true,true,true,true,true,false,true,true,true,false,true,false,false,false,false,false,false] ?_ fun L64=>?_
  ·rintro ρ w66 ⟨xQ,ra59,rc60,ra61,rc62,b63,rfl,N,H⟩
   refine ro 11 rfl ?_
   replace H:=H.addNil (α:=Int)
   replace H:=H.ja 0 rfl
   have hn67:=H.isLen 0 rfl
   have H1:St W0 w66 ((.box bk [yI K,Sv raR lr.length rcR,Sv raF rnF rcF] 111)::(.box b63 [yI to_] 2)::(.row (Sv ra61 ((je K.toNat ([]:yLI)).length) rc62) 2 1 ((je K.toNat ([]:yLI)).length) ((je K.toNat ([]:yLI)).map (Value.int .i64)))::(.row (Sv ra59 ((je K.toNat frm).length) rc60) 2 1 ((je K.toNat frm).length) ((je K.toNat frm).map (Value.int .i64)))::(.row (Sv raR lr.length rcR) 120 9 lr.length rxR)::ps) ((isF false [] yN ([]:yLI))::(isF true [] yN ([]:yLI))::(isF false Ffrm (Sv afrm frm.length cfrm) frm)::(xN true rFR rxR lr)::Γ):=by (try rw [← hn67]);exact H.vW 5 4 [1,0,2,3,4] (zR 0 4) qo qo
   have N1:Fresh _ (rFR::Ns):=N
   have K1:Kept (Ns) ((isF true [] yN ([]:yLI))::(sF false Ffrm afrm cfrm frm)::(xN true rFR rxR lr)::Γ):=K0.behind 3 rfl
   replace K1:=K1.cons (F:=rFR) 2 rfl rfl
   refine jg #[pp bk 0,yN] rfl rfl call157 (jo (by first | rfl | rw [hn67]) (bBag_ok K bk raR lr.length rcR raF rnF rcF ([]:yLI) none 0 [] H1 N1 K1 qf (by first | assumption | exact vZ.nil _ | exact vZ.one qf))) ?_
   clear H H1 N1 K1
   rintro _ w68 ⟨ra70,rn71,rc72,rfl,N,H⟩
   obtain rfl:=H.yt 1 rfl
   refine ⟨H.pick [0] [2,3],(Qo L27 ⟨_,ra59,rc60,ra61,rc62,ra70,rc72,b63,uE9,N,H.vW 6 4 [2,0,1,3,4,5] [2,3] qo qo⟩)⟩
  refine Xm (fun ρ w77=>∃ (xQ:Env) (ra73:yOA) (rc74:Nat) (b75:Nat),ρ=upd (upd (upd (upd (upd (upd (upd (upd (upd xQ 0 (pp bk 0)) 7 (pp bk 0)) 11 (Sv raR lr.length rcR)) 14 (Sv ra73 ((je K.toNat frm).length) rc74)) 15 (pp bk 0)) 17 (pp bk 0)) 19 (pp bk 0)) 21 (Sv (aa b75 0) 1 1)) 23 (pp bk 0)/\Fresh W0.heap.size (rFR::Ns)/\St W0 w77 ((.box b75 [yI to_] 2)::(.box bk [yI K,Sv raR lr.length rcR,Sv raF rnF rcF] 111)::(rr ra73 ((je K.toNat frm).length) rc74 2 1 ((je K.toNat frm).map (Value.int .i64)))::(rr raR lr.length rcR 120 9 rxR)::ps) ((sF false Ffrm afrm cfrm frm)::(xN true rFR rxR lr)::Γ)) 9 #[true,true,true,true,true,true,true,true,true,false,true,false,true,true,true,false,true,false,false,false,false,false,false] ?_ fun L76=>?_
  ·rintro ρ w78 ⟨xQ,ra73,rc74,b75,rfl,N,H⟩
   refine ro 9 rfl ?_
   replace H:=H.addNil (α:=Int)
   replace H:=H.ja 0 rfl
   have hn79:=H.isLen 0 rfl
   have H1:St W0 w78 ((.box bk [yI K,Sv raR lr.length rcR,Sv raF rnF rcF] 111)::(.box b75 [yI to_] 2)::(.row (Sv ra73 ((je K.toNat frm).length) rc74) 2 1 ((je K.toNat frm).length) ((je K.toNat frm).map (Value.int .i64)))::(.row (Sv raR lr.length rcR) 120 9 lr.length rxR)::ps) ((isF false [] yN ([]:yLI))::(isF true [] yN ([]:yLI))::(isF false Ffrm (Sv afrm frm.length cfrm) frm)::(xN true rFR rxR lr)::Γ):=by (try rw [← hn79]);exact H.vW 4 4 [1,0,2,3] (zR 0 4) qo qo
   have N1:Fresh _ (rFR::Ns):=N
   have K1:Kept (Ns) ((isF true [] yN ([]:yLI))::(sF false Ffrm afrm cfrm frm)::(xN true rFR rxR lr)::Γ):=K0.behind 3 rfl
   replace K1:=K1.cons (F:=rFR) 2 rfl rfl
   refine jg #[pp bk 0,yN] rfl rfl call157 (jo (by first | rfl | rw [hn79]) (bBag_ok K bk raR lr.length rcR raF rnF rcF ([]:yLI) none 0 [] H1 N1 K1 qf (by first | assumption | exact vZ.nil _ | exact vZ.one qf))) ?_
   clear H H1 N1 K1
   rintro _ w80 ⟨ra82,rn83,rc84,rfl,N,H⟩
   obtain rfl:=H.yt 1 rfl
   refine ⟨H.pick [0] [2,3],(Qo L64 ⟨_,ra73,rc74,ra82,rc84,b75,uE9,N,H.vW 5 4 [2,0,1,3,4] [2,3] qo qo⟩)⟩
  have S:=H.jr [0] [0,1]
  refine rtl 0 S ?_
  refine rtl 1 S ?_
  refine rtl 2 S ?_
  refine tF 3 rfl rfl S ?_
  refine tL 4 rfl rfl (fun _ h=>h.cell 0 rfl rfl) S ?_
  refine rtl 5 S ?_
  refine rtl 6 S ?_
  refine rtl 8 S ?_
  refine rtl 10 S ?_
  refine rtl 12 S ?_
  refine rtl 13 S ?_
  refine rtl 16 S ?_
  refine jb [7,14] qh qm (jM rfl ?_ (jM rfl ?_ jd))
  ·have H1:=H.pickE 2 2 [0,1] [0,1] qo qo
   have N1:Fresh _ (rFR::Ns):=N
   have K1:Kept (Ns) ((xN true rFR rxR lr)::Γ):=K0.behind 1 rfl
   replace K1:=K1.cons (F:=rFR) 0 rfl rfl
   refine jg #[pp bk 0,Sv afrm frm.length cfrm] rfl rfl call157 (bBag_ok K bk raR lr.length rcR raF rnF rcF frm afrm cfrm Ffrm H1 N1 K1 qf (by first | assumption | exact vZ.nil _ | exact vZ.one qf)) ?_
   clear H H1 N1 K1
   rintro _ w85 ⟨ra87,rn88,rc89,rfl,N,H⟩
   obtain rfl:=H.yt 1 rfl
   refine ⟨H.pick [0] [0,1],(jb [9,14] qh qm (jM rfl ?_ (jM rfl ?_ jd)))⟩
   ·replace H:=H.addNil (α:=Int)
    replace H:=H.ja 0 rfl
    have hn90:=H.isLen 0 rfl
    have H1:St W0 w85 ((.box bk [yI K,Sv raR lr.length rcR,Sv raF rnF rcF] 111)::(.row (Sv ra87 ((je K.toNat frm).length) rc89) 2 1 ((je K.toNat frm).length) ((je K.toNat frm).map (Value.int .i64)))::(.row (Sv raR lr.length rcR) 120 9 lr.length rxR)::ps) ((isF false [] yN ([]:yLI))::(isF true [] yN ([]:yLI))::(isF false Ffrm (Sv afrm frm.length cfrm) frm)::(xN true rFR rxR lr)::Γ):=by (try rw [← hn90]);exact H.vW 3 4 [0,1,2] (zR 0 4) qo qo
    have N1:Fresh _ (rFR::Ns):=N
    have K1:Kept (Ns) ((isF true [] yN ([]:yLI))::(sF false Ffrm afrm cfrm frm)::(xN true rFR rxR lr)::Γ):=K0.behind 3 rfl
    replace K1:=K1.cons (F:=rFR) 2 rfl rfl
    refine jg #[pp bk 0,yN] rfl rfl call157 (jo (by first | rfl | rw [hn90]) (bBag_ok K bk raR lr.length rcR raF rnF rcF ([]:yLI) none 0 [] H1 N1 K1 qf (by first | assumption | exact vZ.nil _ | exact vZ.one qf))) ?_
    clear H H1 N1 K1
    rintro _ w91 ⟨ra93,rn94,rc95,rfl,N,H⟩
    obtain rfl:=H.yt 1 rfl
    refine ⟨H.pick [0] [2,3],(jb [11,14] qh qm (jM rfl ?_ (jM rfl ?_ jd)))⟩
    ·have hn96:=H.isLen 0 rfl
     have H1:St W0 w91 ((.box bk [yI K,Sv raR lr.length rcR,Sv raF rnF rcF] 111)::(.row (Sv ra93 ((je K.toNat ([]:yLI)).length) rc95) 2 1 ((je K.toNat ([]:yLI)).length) ((je K.toNat ([]:yLI)).map (Value.int .i64)))::(.row (Sv ra87 ((je K.toNat frm).length) rc89) 2 1 ((je K.toNat frm).length) ((je K.toNat frm).map (Value.int .i64)))::(.row (Sv raR lr.length rcR) 120 9 lr.length rxR)::ps) ((isF false [] yN ([]:yLI))::(isF true [] yN ([]:yLI))::(isF false Ffrm (Sv afrm frm.length cfrm) frm)::(xN true rFR rxR lr)::Γ):=by (try rw [← hn96]);exact H.vW 4 4 (zR 0 4) (zR 0 4) qo qo
     have N1:Fresh _ (rFR::Ns):=N
     have K1:Kept (Ns) ((isF true [] yN ([]:yLI))::(sF false Ffrm afrm cfrm frm)::(xN true rFR rxR lr)::Γ):=K0.behind 3 rfl
     replace K1:=K1.cons (F:=rFR) 2 rfl rfl
     refine jg #[pp bk 0,yN] rfl rfl call157 (jo (by first | rfl | rw [hn96]) (bBag_ok K bk raR lr.length rcR raF rnF rcF ([]:yLI) none 0 [] H1 N1 K1 qf (by first | assumption | exact vZ.nil _ | exact vZ.one qf))) ?_
     clear H H1 N1 K1
     rintro _ w97 ⟨ra99,rn100,rc101,rfl,N,H⟩
     obtain rfl:=H.yt 1 rfl
     refine ⟨H.pick [0] [2,3],(ro 14 rfl (xx H underlying27 ti2 [yI to_] fun b102 w103 H=>⟨H.pick [1] [2,3],(Qo L27 ⟨_,ra87,rc89,ra93,rc95,ra99,rc101,b102,uE9,N,H.vW 6 4 (zR 0 6) [2,3] qo qo⟩)⟩))⟩
    refine xx H underlying27 ti2 [yI to_] fun b104 w105 H=>⟨H.pick [1] [2,3],(Qo L64 ⟨_,ra87,rc89,ra93,rc95,b104,uE9,N,H.vW 5 4 (zR 0 5) [2,3] qo qo⟩)⟩
   refine xx H underlying27 ti2 [yI to_] fun b106 w107 H=>⟨H.pick [1] [0,1],(Qo L76 ⟨_,ra87,rc89,b106,uE9,N,H⟩)⟩
  refine xx H underlying27 ti2 [yI to_] fun b108 w109 H=>⟨H.pick [1] [0,1],(ro 7 rfl ?_)⟩
  have H1:=H.pickE 3 2 [1,0,2] [0,1] qo qo
  have N1:Fresh _ (rFR::Ns):=N
  have K1:Kept (Ns) ((xN true rFR rxR lr)::Γ):=K0.behind 1 rfl
  replace K1:=K1.cons (F:=rFR) 0 rfl rfl
  refine jg #[pp bk 0,Sv afrm frm.length cfrm] rfl rfl call157 (bBag_ok K bk raR lr.length rcR raF rnF rcF frm afrm cfrm Ffrm H1 N1 K1 qf (by first | assumption | exact vZ.nil _ | exact vZ.one qf)) ?_
  clear H H1 N1 K1
  rintro _ w110 ⟨ra112,rn113,rc114,rfl,N,H⟩
  obtain rfl:=H.yt 1 rfl
  refine ⟨H.pick [0] [0,1],(Qo L76 ⟨_,ra112,rc114,b108,uE9,N,H.vW 4 2 [2,0,1,3] [0,1] qo qo⟩)⟩
 clear H N
 rintro ρ w115 ⟨xQ,a1,c2,ra3,rc4,ra5,rc6,ra7,rc8,ra9,rc10,ra11,rc12,G13,G14,G15,G16,G17,rfl,N,H⟩
 refine zI H 0 [yI K,Sv a1 (lr.length+1) c2,Sv raF rnF rcF] sizeOf35 fun w116 H=>?_
 try dsimp only [List.set] at H
 refine t_n (xU ?_)
 refine c_drawK2 rfl H [0,1] [0,1,2,3,4,5,6] fun H=>?_
 have S:=H.jr [0,1] (zR 0 7)
 refine rtl 0 S ?_
 refine rtl 1 S ?_
 refine tF 2 rfl rfl S ?_
 refine tL 3 rfl rfl (fun _ h=>h.cell 0 rfl rfl) S ?_
 refine rtl 4 S ?_
 refine rtl 5 S ?_
 refine tF 6 rfl rfl S ?_
 refine tL 7 rfl rfl (fun _ h=>h.cell 0 rfl rfl) S ?_
 refine tN 8 rfl rfl S ?_
 refine rt 9 _ (y_sub (lr.length+1) 1 rfl rfl qf) S ?_
 obtain ⟨b118,rfl⟩:=H.y5 1 rfl qf
 have S:=H.jr [0,1] (zR 0 7)
 refine tI 10 rfl rfl rfl S ?_
 refine rtl 11 S ?_
 refine xA qh (t_n (c_ret (ret1 (pp b118 (0+((lr.length+1) - 1:Int).toNat * 9)) rfl rfl ⟨_,rfl,?_⟩)))
 exact ⟨b118,lr.length+1,c2,rxR++[Value.int .i64 0,Value.int .i64 0,Value.slice ra3 ((je K.toNat frm).length) rc4,Value.slice ra5 ((je K.toNat ([]:yLI)).length) rc6,Value.slice ra7 ((je K.toNat ([]:yLI)).length) rc8,Value.slice ra9 ((je K.toNat [to_]).length) rc10,Value.slice ra11 ((je K.toNat ([]:yLI)).length) rc12,Value.slice none 0 0,Value.bool false],(rFR++(G13++G14++G15++G16++G17++[])),rfl,N,H.vW 2 7 [0,1] [6,0] qo qo⟩
end
end Go.Proofs.YtjfmcaiombkobaaGreat
