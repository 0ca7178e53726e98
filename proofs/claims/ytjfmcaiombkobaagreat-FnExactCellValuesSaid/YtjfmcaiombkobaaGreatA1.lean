/- Walks and laws, printed by program and by hand: what each function comes to, for all arguments, part 1. -/
import Derived.WalkKit
import Derived.Deep.RegionHeld
import Derived.Deep.LoopGhost
import Derived.Deep.MidRow
import Derived.Great.BuildSlice
import Derived.Laws.MakeOwn
import Derived.Great.FillDense
import Derived.Maps.AppendAt
import Derived.Lib.SliceRun
import Derived.Laws.Small
import Derived.Laws.Tables
import Derived.Test.YtjfmcaiombkobaaGreatRows
namespace Go.Proofs.YtjfmcaiombkobaaGreat
variable {B T b by' c d d1 d10 d11 d12 d13 d2 d3 d4 d5 d6 d7 d8 d9 i i' id j k m n nn o off sz:Nat} {P p:Prop} {W W0 w w' w0:World} {args c0 caps fst:Array Value} {bb fr fr':Bool} {cs vs xs xs1 xs2 ys zs:List Value} {dst:Option Nat} {e e' t tb ty u:TypeId} {hi iv lo:Int} {pos:String} {s x y:Operand} {ts:Array TypeId} {v v1 v10 v11 v12 v13 v2 v3 v4 v5 v6 v7 v8 v9 z:Value}
def zR (a n : Nat) : List Nat := List.range' a n
set_option linter.unusedVariables false
set_option linter.unusedSimpArgs false
set_option maxRecDepth 100000
set_option maxHeartbeats 4000000
open Go.RowKit
open Go.Proofs.Tryz
section
abbrev yLL:=List (List Int)
abbrev yLI:=List Int
abbrev yLN:=List Nat
abbrev yOA:=Option Addr
abbrev yI (x:Int):Value:=.int .i64 x
@[match_pattern]abbrev Sv(a:Option Addr)(n c:Nat):Value:=.slice a n c
@[match_pattern]abbrev Bv(b:Bool):Value:=.bool b
abbrev yN:Value:=.slice none 0 0
theorem qf (h:P:=by omega):P:=h
theorem qg (h:P:=by first | assumption | omega):P:=h
theorem qh (h:P:=by kernel_rfl):P:=h
theorem qj (h:P:=by decide):P:=h
theorem ql (h:P:=by assumption):P:=h
theorem qm (h:P:=by simp):P:=h
theorem qo (h:P:=by simp only [List.length_cons];omega):P:=h
theorem qp (h:P:=by unfold maxLen;omega):P:=h
theorem qw (h:P:=by simp [Value.oneCell',Value.cells]):P:=h
theorem qx (h:P:=by exact fun j hj=>by omega):P:=h
theorem qy (h:P:=by simp;omega):P:=h
def vg (w:World) (b off:Nat) (vs:List Value):Prop:=∀ i v,vs[i]? =some v->w.cell? ⟨b,off+i,none⟩=some v
class qK (α:Type) where
 size:Nat
 rep:World->yLN->List Value->α->Prop
 len:∀ {w F cs x},rep w F cs x->cs.length=size
 stay:∀ {w w' F cs x},rep w F cs x->(∀ b∈F,w'.heap[b]? =w.heap[b]?)->rep w' F cs x
 lt:∀ {w F cs x},rep w F cs x->∀ b∈F,b < w.heap.size
 one:∀ {w F cs x},rep w F cs x->∀ u∈cs,u.oneCell' =true
abbrev zP {α : Type} [qK (List α)] (w : World) (F : List Nat) (a : Option Addr) (c : Nat) (l : List α) : Prop := qK.rep w F [.slice a l.length c] l
section
variable {α : Type} [qK α]
open qK
def reps (w:World):yLN->List Value->List α->Prop
 | F,vs,[]=>F=[]/\vs=[]
 | F,vs,x::l=>∃ F1 F2 c1 c2,F=F1++F2/\vs=c1++c2/\rep w F1 c1 x/\reps w F2 c2 l
theorem XA {w:World}:∀ {F:yLN} {vs:List Value} {l:List α},reps w F vs l->vs.length=l.length * size α
 | _,_,[],⟨_,h⟩=>by simp [h]
 | _,_,x::l,⟨_,_,_,_,_,hv,h1,h2⟩=>by
  rw [hv,List.length_append,qK.len h1,XA h2,List.length_cons,Nat.add_mul,Nat.one_mul,Nat.add_comm]
theorem XJ {w w' :World}:∀ {F:yLN} {vs:List Value} {l:List α},reps w F vs l->(∀ b∈F,w'.heap[b]? =w.heap[b]?)->reps w' F vs l
 | _,_,[],h,_=>h
 | _,_,x::l,⟨F1,F2,c1,c2,hF,hv,h1,h2⟩,hs=>by
  subst hF
  exact ⟨F1,F2,c1,c2,rfl,hv,qK.stay h1 (fun b hb=>hs b (List.mem_append_left _ hb)),XJ h2 (fun b hb=>hs b (List.mem_append_right _ hb))⟩
theorem reps_lt {w:World}:∀ {F:yLN} {vs:List Value} {l:List α},reps w F vs l->∀ b∈F,b < w.heap.size
 | _,_,[],⟨hF,_⟩,b,hb=>by simp [hF] at hb
 | _,_,x::l,⟨F1,F2,c1,c2,hF,hv,h1,h2⟩,b,hb=>by
  subst hF
  rcases List.mem_append.1 hb with h | h
  ·exact qK.lt h1 b h
  ·exact reps_lt h2 b h
theorem reps_cells {w:World}:∀ {F:yLN} {vs:List Value} {l:List α},reps w F vs l->∀ u∈vs,u.oneCell' =true
 | _,_,[],⟨_,hv⟩,u,hu=>by simp [hv] at hu
 | _,_,x::l,⟨F1,F2,c1,c2,hF,hv,h1,h2⟩,u,hu=>by
  rw [hv] at hu
  rcases List.mem_append.1 hu with h | h
  ·exact qK.one h1 u h
  ·exact reps_cells h2 u h
theorem jJ {w:World}:∀ {F G:yLN} {vs us:List Value} {l m:List α},reps w F vs l->reps w G us m->reps w (F++G) (vs++us) (l++m)
 | _,_,_,_,[],_,⟨hF,hv⟩,h=>by simpa [hF,hv] using h
 | _,G,_,us,x::l,m,⟨F1,F2,c1,c2,hF,hv,h1,h2⟩,h=>
  ⟨F1,F2++G,c1,c2++us,by rw [hF,List.append_assoc],by rw [hv,List.append_assoc],h1,jJ h2 h⟩
theorem reps_split {w:World}:∀ {F:yLN} {vs:List Value} (l:List α) {m:List α},reps w F vs (l++m)→
 ∃ F1 F2 v1 v2,F=F1++F2/\vs=v1++v2/\reps w F1 v1 l/\reps w F2 v2 m
 | F,vs,[],m,h=>⟨[],F,[],vs,rfl,rfl,⟨rfl,rfl⟩,h⟩
 | _,_,x::l,m,⟨F1,F2,c1,c2,hF,hv,h1,h2⟩=>by
  obtain ⟨G1,G2,v1,v2,hG,hw,k1,k2⟩:=reps_split l h2
  exact ⟨F1++G1,G2,c1++v1,v2,by rw [hF,hG,List.append_assoc],by rw [hv,hw,List.append_assoc],⟨F1,G1,c1,v1,rfl,rfl,h1,k1⟩,k2⟩
theorem reps_one {F:yLN} {x:α} (h:rep w F cs x):reps w F cs [x]:=
 ⟨F,[],cs,[],by simp,by simp,h,rfl,rfl⟩
theorem reps_get {F:yLN} {l:List α} (h:reps w F vs l) (k:Nat) (hk:k < l.length):
 ∃ F1 Fk F2 v1 cs v2,F=F1++Fk++F2/\vs=v1++cs++v2/\v1.length=k * size α/\cs.length=size α/\rep w Fk cs l[k]/\reps w F1 v1 (l.take k)/\reps w F2 v2 (l.drop (k+1)):=by
 have e:l=l.take k++(l[k]::l.drop (k+1)):=by rw [← List.drop_eq_getElem_cons hk,List.take_append_drop]
 rw [e] at h
 obtain ⟨F1,F2,v1,v2,hF,hv,h1,Fk,F3,cs,v3,hF',hv',h2,h3⟩:=reps_split _ h
 refine ⟨F1,Fk,F3,v1,cs,v3,by rw [hF,hF',List.append_assoc],by rw [hv,hv',List.append_assoc],?_,qK.len h2,h2,h1,h3⟩
 rw [XA h1,List.length_take_of_le qf]
theorem cells_mid {v1 v2:List Value} (h:vg w b off (v1++cs++v2)):vg w b (off+v1.length) cs:=by
 intro i v hv
 have hi:i < cs.length:=by
  rcases Nat.lt_or_ge i cs.length with h | h
  ·exact h
  ·simp [h] at hv
 have:=h (v1.length+i) v (by rw [List.append_assoc,List.getElem?_append_right qf,Nat.add_sub_cancel_left,List.getElem?_append_left hi,hv])
 rwa [← Nat.add_assoc] at this
theorem cellsAt_stay (h:vg w b off vs) (hb:w'.heap[b]? =w.heap[b]?):vg w' b off vs:=
 fun i v hv=>(World.cell?_of_block (a:=⟨b,off+i,none⟩) hb).trans (h i v hv)
def RepSlice (w:World) (F:yLN) (cs:List Value) (l:List α):Prop:=
 ∃ a cap,cs=[Sv a l.length cap]/\(l.length<=9223372036854775807/\l.length<=cap)/\((l=[]/\F=[])\/∃ b off F' vs,a=some ⟨b,off,none⟩/\F=b::F' /\b < w.heap.size/\reps w F' vs l/\vg w b off vs)
instance:qK (List α) where
 size:=1
 rep:=RepSlice
 len:=by rintro w F cs x ⟨a,cap,rfl,_,_⟩;rfl
 one:=by rintro w F cs x ⟨a,cap,rfl,_,_⟩ u hu;simp only [List.mem_singleton] at hu;subst hu;rfl
 stay:=by
  rintro w w' F cs x ⟨a,cap,hc,hl,h⟩ hs
  refine ⟨a,cap,hc,hl,?_⟩
  rcases h with h | ⟨b,off,F',vs,ha,hF,hb,hr,hcells⟩
  ·exact Or.inl h
  ·subst hF
   have hbb:=hs b (List.mem_cons_self ..)
   refine Or.inr ⟨b,off,F',vs,ha,rfl,?_,XJ hr (fun c hc=>hs c (List.mem_cons_of_mem _ hc)),cellsAt_stay hcells hbb⟩
   rcases Nat.lt_or_ge b w'.heap.size with h | h
   ·exact h
   ·rw [Array.getElem?_eq_none h] at hbb
    have:=Array.getElem?_eq_some_iff.2 ⟨hb,rfl⟩
    rw [this] at hbb
    cases hbb
 lt:=by
  rintro w F cs x ⟨a,cap,hc,hl,h⟩ c hcF
  rcases h with ⟨_,h⟩ | ⟨b,off,F',vs,ha,hF,hb,hr,hcells⟩
  ·simp [h] at hcF
  ·subst hF
   rcases List.mem_cons.1 hcF with rfl | h
   ·exact hb
   ·exact reps_lt hr c h
end
instance:qK Int where
 size:=1
 rep:=fun _ F cs x=>F=[]/\cs=[.int .i64 x]
 len:=by rintro w F cs x ⟨_,rfl⟩;rfl
 one:=by rintro w F cs x ⟨_,rfl⟩ u hu;simp only [List.mem_singleton] at hu;subst hu;rfl
 stay:=by rintro w w' F cs x h _;exact h
 lt:=by rintro w F cs x ⟨rfl,_⟩ b hb;simp at hb
instance:qK Bool where
 size:=1
 rep:=fun _ F cs x=>F=[]/\cs=[Bv x]
 len:=by rintro w F cs x ⟨_,rfl⟩;rfl
 one:=by rintro w F cs x ⟨_,rfl⟩ u hu;simp only [List.mem_singleton] at hu;subst hu;rfl
 stay:=by rintro w w' F cs x h _;exact h
 lt:=by rintro w F cs x ⟨rfl,_⟩ b hb;simp at hb
theorem reps_ints {w:World}:∀ {F:yLN} {vs:List Value} {l:yLI},reps w F vs l->F=[]/\vs=l.map (Value.int .i64)
 | _,_,[],⟨hF,hv⟩=>⟨hF,hv⟩
 | _,_,x::l,⟨F1,F2,c1,c2,hF,hv,h1,h2⟩=>by
  obtain ⟨e1,e2⟩:=reps_ints h2
  obtain ⟨k1,k2⟩:F1=[]/\c1=[.int .i64 x]:=h1
  subst e1 e2 k1 k2
  exact ⟨hF,hv⟩
theorem reps_of_ints (w:World):∀ (l:yLI),reps w [] (l.map (Value.int .i64)) l
 | []=>⟨rfl,rfl⟩
 | x::l=>⟨[],[],[.int .i64 x],l.map (Value.int .i64),rfl,rfl,⟨rfl,rfl⟩,reps_of_ints w l⟩
theorem qO {α:Type} [qK α] {F:yLN} {a:yOA} {l:List α} (h:qK.rep w F [Sv a m c] l):l.length<=9223372036854775807/\l.length<=c:=by
 obtain ⟨a',c',hc,h,_⟩:=h
 simp only [List.cons.injEq,Value.slice.injEq,and_true] at hc
 obtain ⟨_,_,rfl⟩:=hc
 exact h
abbrev Is {α:Type} [qK α] (w:World) (F:yLN) (v:Value) (x:α):Prop:=qK.rep w F [v] x
abbrev Ext (w w' :World):Prop:=Below w.heap.size w w'
theorem Ext.trans' {a b c:World} (h:Ext a b) (k:Ext b c):Ext a c:=h.trans (k.mono h.size)
end
variable {A F F' F1 F2 Fl G rs:yLN} {L L':List yLN} {a al:yOA} {l:yLI}
section
abbrev Env:=Nat->Value
def upd (ρ:Env) (d:Nat) (v:Value):Env:=fun i=>cond (Nat.beq i d) v (ρ i)
def env0 (l:List Value):Env:=fun i=>l.getD i undef
class Dfr where
 D:List Deferred
instance dfr0:Dfr:=⟨[]⟩
def mk [Dfr] (n:Nat) (ρ:Env):Act:={ tmps:=Array.ofFn (n:=n) (fun i=>ρ i),defers:=Dfr.D }
def ev (n:Nat) (ρ:Env):Operand->Value
 | .tmp t=>cond (Nat.blt t n) (ρ t) undef
 | .const v=>v
 | .global g=>.pointer (some ⟨g,0,none⟩)
 | .func f=>.func (.func f) #[] #[]
theorem upd_same (ρ:Env) (d:Nat) (v:Value):upd ρ d v d=v:=by simp [upd]
theorem upd_ne (ρ:Env) (v:Value) (h:i≠d):upd ρ d v i=ρ i:=by
 unfold upd
 have:Nat.beq i d=false:=by
  cases hb:Nat.beq i d with
  | false=>rfl
  | true=>exact absurd (Nat.eq_of_beq_eq_true hb) h
 rw [this];rfl
theorem upd_self {ρ:Env} (h:ρ d=v):upd ρ d v=ρ:=by
 funext i
 by_cases hi:i=d
 ·subst hi;rw [upd_same,h]
 ·rw [upd_ne _ _ hi]
theorem zJ {ρ ρ' :Env} (h:ρ=ρ') (hd:ρ d=v):ρ=upd ρ' d v:=by subst h;exact (upd_self hd).symm
theorem QZ [Dfr] (n:Nat) (ρ:Env):(mk n ρ).eval=ev n ρ:=by
 funext x
 cases x with
 | tmp t=>
  simp only [Act.eval,ev,mk]
  by_cases h:t < n
  ·rw [show Nat.blt t n=true from Nat.ble_eq_true_of_le h]
   simp [h]
  ·have hb:Nat.blt t n=false:=by
    cases hb:Nat.blt t n with
    | false=>rfl
    | true=>exact absurd (Nat.le_of_ble_eq_true hb) h
   rw [hb]
   simp [h]
 | const v=>rfl
 | global g=>rfl
 | func f=>rfl
theorem mk_put [Dfr] (n:Nat) (ρ:Env) (d:Nat) (v:Value):(mk n ρ).put (some d) v=mk n (upd ρ d v):=by
 simp only [Act.put,mk,Act.mk.injEq,and_true]
 apply Array.ext
 ·simp
 ·intro i h1 h2
  rw [Array.getElem_setIfInBounds (by simpa using h1)]
  simp only [Array.getElem_ofFn]
  by_cases hi:d=i
  ·subst hi;simp [upd_same]
  ·rw [if_neg hi,upd_ne _ _ (Ne.symm hi)]
section
variable {P : Program} {ops : Array Oper} {Q : Exit -> Act -> World -> Prop} {n : Nat} {ρ : Env} {w : World} {rest : List Oper}
@[irreducible] def WL [Dfr] (P : Program) (ops : Array Oper) (Q : Exit -> Act -> World -> Prop) (n : Nat) (l : List Oper) (ρ : Env) (w : World) : Prop := wpList P ops Q l (mk n ρ) w
theorem WL.of [Dfr] {l:List Oper} (h:wpList P ops Q l (mk n ρ) w):WL P ops Q n l ρ w:=by unfold WL;exact h
theorem WL.out [Dfr] {l:List Oper} (h:WL P ops Q n l ρ w):wpList P ops Q l (mk n ρ) w:=by unfold WL at h;exact h
theorem enter {f:FuncId} {fn:Func} {c:Code} {R:Ending->World->Prop}
 (hf:P.funcs[f]? =some fn) (hb:fn.body=some c) (hn:fn.ntmps=n) (hs:args.size<=n)
 (h:c.wp P (bodyPost P fn R) (mk n (env0 args.toList)) w):Calls P f args w R:=by
 refine calls_of_wp hf hb ?_
 have e:({ tmps:=args++Array.replicate (fn.ntmps - args.size) undef,defers:=[]}:Act)=mk n (env0 args.toList):=by
  simp only [mk,Act.mk.injEq]
  refine ⟨?_,rfl⟩
  apply Array.ext
  ·simp [hn];omega
  ·intro i h1 h2
   simp only [Array.getElem_ofFn,env0]
   by_cases hi:i < args.size
   ·rw [Array.getElem_append_left hi]
    simp [List.getD_eq_getElem?_getD,hi]
   ·rw [Array.getElem_append_right qf]
    simp [List.getD_eq_getElem?_getD,Array.getElem?_eq_none (show args.size<=i by omega)]
 rw [e]
 exact h
@[irreducible] def OW [Dfr] (P : Program) (Q : Exit -> Act -> World -> Prop) (o : Oper) (n : Nat) (ρ : Env) (w : World) (K : Env -> World -> Prop) : Prop :=
 ∀ K' :Act->World->Prop,(∀ ρ w,K ρ w->K' (mk n ρ) w)->o.wp P (mk n ρ) w K' Q
theorem sw [Dfr] {op:Op} {af:Array Edge} (h:OW P Q ⟨dst,op,ty,pos,af,none⟩ n ρ w fun ρ w=>WL P ops Q n rest ρ w):
 WL P ops Q n (⟨dst,op,ty,pos,af,none⟩::rest) ρ w:=by
 unfold OW at h
 exact WL.of (wpList_plain rfl fun K hK=>h K fun ρ w hk=>hK _ _ hk.out)
theorem xU [Dfr] {x y:Code} (h:x.wp P (Exit.then (y.wp P Q) Q) (mk n ρ) w):(x.seq y).wp P Q (mk n ρ) w:=wp_seq h
theorem xK [Dfr] {l:List Oper} (h:WL P l.toArray Q n l ρ w):(Code.region id l.toArray false).wp P Q (mk n ρ) w:=wp_region_lit h.out
theorem xP [Dfr] (h:Q .normal (mk n ρ) w):WL P ops Q n [] ρ w:=WL.of h
theorem qU [Dfr] (h:Q .normal (mk n ρ) w):Code.skip.wp P Q (mk n ρ) w:=wp_skip h
theorem c_ret [Dfr] (h:Q .ret (mk n ρ) w):Code.ret.wp P Q (mk n ρ) w:=wp_ret h
theorem c_exit [Dfr] (h:Q (.exit id) (mk n ρ) w):(Code.exit id).wp P Q (mk n ρ) w:=wp_exit h
theorem qV [Dfr] {c:Code} (h:c.wp P (Exit.inBlock id Q) (mk n ρ) w):(Code.block id c).wp P Q (mk n ρ) w:=wp_block h
theorem t_n {N:Act->World->Prop} {a:Act} (h:N a w):Exit.then N Q .normal a w:=h
theorem t_x {N:Act->World->Prop} {a:Act} (h:Q (.exit id) a w):Exit.then N Q (.exit id) a w:=h
theorem t_r {N:Act->World->Prop} {a:Act} (h:Q .ret a w):Exit.then N Q .ret a w:=h
theorem b_n {a:Act} (h:Q .normal a w):Exit.inBlock id Q .normal a w:=h
theorem b_r {a:Act} (h:Q .ret a w):Exit.inBlock id Q .ret a w:=h
theorem b_x {a:Act} (h:Q .normal a w):Exit.inBlock id Q (.exit id) a w:=by simpa [Exit.inBlock] using h
theorem zT [Dfr] {y z:Code} (c:Bool) (hc:ev n ρ x=Bv c) (h1:c=true->y.wp P Q (mk n ρ) w) (h2:c=false->z.wp P Q (mk n ρ) w):
 (Code.cond x y z).wp P Q (mk n ρ) w:=wp_cond_split (t:=c) (by rw [QZ];exact hc) h1 h2
theorem zA [Dfr] {c:Code} (I:Nat->Env->World->Prop) (m0:Nat) (h0:I m0 ρ w)
 (hs:∀ m ρ w,I m ρ w->c.wp P (Exit.then (fun a' w' =>∃ m' ρ',a' =mk n ρ' /\m' < m/\I m' ρ' w') Q) (mk n ρ) w):c.loop.wp P Q (mk n ρ) w:=by
 refine wp_loop_ghost (fun m a w=>∃ ρ,a=mk n ρ/\I m ρ w) m0 ⟨ρ,rfl,h0⟩ ?_
 rintro m a w ⟨ρ,rfl,hI⟩
 refine Code.wp_mono ?_ (hs m ρ w hI)
 intro e a w h
 cases e with
 | normal=>obtain ⟨m',ρ',e1,e2,e3⟩:=h;exact ⟨m',e2,ρ',e1,e3⟩
 | exit _=>exact h
 | goto _=>exact h
 | ret=>exact h
 | panic _=>exact h
 | outgrown=>exact h
theorem qW [Dfr] {m':Nat} {I:Nat->Env->World->Prop} (hm:m' < m) (h:I m' ρ w):
 Exit.then (fun a' w' =>∃ m' ρ',a' =mk n ρ' /\m' < m/\I m' ρ' w') Q .normal (mk n ρ) w:=⟨m',ρ,rfl,hm,h⟩
theorem ret0 {fn:Func} {R:Ending->World->Prop} (hr:fn.results=#[]) (h:R (.returned (.tuple #[])) w):bodyPost P fn R .normal (mk n ρ) w:=
 bodyPost_end (results_none hr _ _ _) rfl h
theorem ret0' {fn:Func} {R:Ending->World->Prop} (hr:fn.results=#[]) (h:R (.returned (.tuple #[])) w):bodyPost P fn R .ret (mk n ρ) w:=
 bodyPost_ret (results_none hr _ _ _) rfl h
theorem ret1 {fn:Func} {R:Ending->World->Prop} {t:Nat} (v:Value) (hr:fn.results=#[.tmp t]) (hv:ev n ρ (.tmp t)=v) (h:R (.returned v) w):bodyPost P fn R .ret (mk n ρ) w:=by
 refine bodyPost_ret (results_tmp hr _ _ _) rfl ?_
 have e:=congrFun (QZ n ρ) (.tmp t)
 simp only [Act.eval] at e
 rw [e,hv]
 exact h
theorem ret2 {fn:Func} {R:Ending->World->Prop} {t u:Nat} (v x:Value) (hr:fn.results=#[.tmp t,.tmp u]) (hv:ev n ρ (.tmp t)=v) (hx:ev n ρ (.tmp u)=x) (h:R (.returned (.tuple #[v,x])) w):bodyPost P fn R .ret (mk n ρ) w:=by
 refine bodyPost_ret (results_tmp2 hr _ _ _) rfl ?_
 have e:=congrFun (QZ n ρ) (.tmp t)
 have e' :=congrFun (QZ n ρ) (.tmp u)
 simp only [Act.eval] at e e'
 rw [e,hv,e',hx]
 exact h
end
inductive Prv where
 | box (b:Nat) (cs:List Value) (t:TypeId)
 | row (v:Value) (e:TypeId) (size n:Nat) (xs:List Value)
def Prv.blk:Prv->Option Nat
 | .box b _ _=>some b
 | .row v _ _ _ _=>v.ownBlock
def Prv.ok (base:Nat) (w:World):Prv->Prop
 | .box b cs t=>base<=b/\w.heap[b]? =some (.cells cs.toArray t (0,0))
 | .row v e size n xs=>w.ownsRow base e size v n xs
theorem Prv.ok.lt {base:Nat} {w:World} {p:Prv} (h:p.ok base w) {b:Nat} (hb:p.blk=some b):base<=b/\b < w.heap.size:=by
 cases p with
 | box b' cs t=>
  simp only [Prv.blk,Option.some.injEq] at hb
  subst hb
  exact ⟨h.1,(Array.getElem?_eq_some_iff.1 h.2).1⟩
 | row v e size n xs=>exact World.ownsRow.lt h b hb
theorem Prv.ok.stay {base:Nat} {p:Prv} (h:p.ok base w) (hs:∀ b,p.blk=some b->w'.heap[b]? =w.heap[b]?):p.ok base w' :=by
 cases p with
 | box b cs t=>exact ⟨h.1,(hs b rfl).trans h.2⟩
 | row v e size n xs=>
  refine ⟨h.1,?_⟩
  rcases h.2 with hn | ⟨g,cap,cur,rfl,hb,hg,rest⟩
  ·exact Or.inl hn
  ·exact Or.inr ⟨g,cap,cur,rfl,hb,(hs g rfl).trans hg,rest⟩
structure Fact where
 F:yLN
 φ:World->Prop
 stay:∀ w w',φ w->(∀ b∈F,w'.heap[b]? =w.heap[b]?)->φ w'
def jq (ps:List Prv) (i:Nat):Option Nat:=(ps[i]?).bind Prv.blk
structure St (W0 w:World) (ps:List Prv) (Γ:List Fact):Prop where
 base:Ext W0 w
 has:∀ p∈ps,p.ok W0.heap.size w
 dist:∀ i j b,jq ps i=some b->jq ps j=some b->i=j
 facts:∀ f∈Γ,f.φ w/\∀ b∈f.F,b < w.heap.size/\∀ i,jq ps i≠some b
section
variable {W0 w : World} {ps : List Prv} {Γ : List Fact}
theorem St.start (w:World):St w w [] []:=
 ⟨Below.refl _ _,by simp,by intro i j b h;simp [jq] at h,by simp⟩
theorem Q5 (H:St W0 w ps Γ) (h:jq ps i=some b):W0.heap.size<=b/\b < w.heap.size:=by
 unfold jq at h
 cases hp:ps[i]? with
 | none=>simp [hp] at h
 | some p=>
  simp only [hp,Option.bind_some] at h
  exact (H.has p (List.mem_of_getElem? hp)).lt h
theorem St.get (H:St W0 w ps Γ) (i:Nat) {f:Fact} (h:Γ[i]? =some f):f.φ w:=(H.facts f (List.mem_of_getElem? h)).1
theorem St.add (H:St W0 w ps Γ) (f:Fact) (h:f.φ w) (hF:∀ b∈f.F,b < w.heap.size/\∀ i,jq ps i≠some b):St W0 w ps (f::Γ):=
 ⟨H.base,H.has,H.dist,fun g hg=>by
  rcases List.mem_cons.1 hg with rfl | hg
  ·exact ⟨h,hF⟩
  ·exact H.facts g hg⟩
theorem St.jy (H:St W0 w ps Γ) (i:Nat) {g:Fact} (hg:Γ[i]? =some g) (f:Fact) (h:f.φ w) (hF:∀ b∈f.F,b∈g.F):St W0 w ps (f::Γ):=
 H.add f h fun b hb=>(H.facts g (List.mem_of_getElem? hg)).2 b (hF b hb)
theorem St.sub (H:St W0 w ps Γ) (Δ:List Fact) (h:∀ f∈Δ,f∈Γ):St W0 w ps Δ:=⟨H.base,H.has,H.dist,fun f hf=>H.facts f (h f hf)⟩
theorem St.change (H:St W0 w ps Γ) (i:Nat) {p p' :Prv} (hp:ps[i]? =some p)
 (hos:w'.os=w.os) (ht:w'.tape=w.tape) (ho:w'.output=w.output) (hz:w.heap.size<=w'.heap.size)
 (hs:∀ b,b < w.heap.size->p.blk≠some b->w'.heap[b]? =w.heap[b]?) (hok:p'.ok W0.heap.size w')
 (hb:p'.blk=p.blk\/p'.blk=none\/∃ b,p'.blk=some b/\w.heap.size<=b):St W0 w' (ps.set i p') Γ:=by
 have hi:i < ps.length:=by
  rcases Nat.lt_or_ge i ps.length with h | h
  ·exact h
  ·simp [h] at hp
 have hbi:jq ps i=p.blk:=by simp [jq,hp]
 have hset:∀ j,jq (ps.set i p') j=if j=i then p'.blk else jq ps j:=by
  intro j
  unfold jq
  by_cases hj:j=i
  ·subst hj;simp [hi]
  ·rw [List.getElem?_set_ne (Ne.symm hj),if_neg hj]
 have hnew:∀ j b,j≠i->jq ps j=some b->p'.blk≠some b:=by
  intro j b hj hjb he
  rcases hb with h | h | ⟨c,h,hc⟩
  ·rw [h,← hbi] at he;exact hj (H.dist j i b hjb he)
  ·rw [h] at he;cases he
  ·rw [h] at he
   simp only [Option.some.injEq] at he
   subst he
   have:=(Q5 H hjb).2
   omega
 refine ⟨⟨hos.trans H.base.os,ht.trans H.base.tape,ho.trans H.base.output,Nat.le_trans H.base.size hz,fun k hk=>?_⟩,?_,?_,?_⟩
 ·refine (hs k (Nat.lt_of_lt_of_le hk H.base.size) fun he=>?_).trans (H.base.block k hk)
  rw [← hbi] at he
  have:=(Q5 H he).1
  omega
 ·intro q hq
  obtain ⟨j,hj⟩:=List.getElem?_of_mem hq
  by_cases hji:j=i
  ·subst hji
   rw [List.getElem?_set_self hi] at hj
   simp only [Option.some.injEq] at hj
   subst hj
   exact hok
  ·rw [List.getElem?_set_ne (Ne.symm hji)] at hj
   have hq' :=H.has q (List.mem_of_getElem? hj)
   refine hq'.stay fun b hqb=>hs b (hq'.lt hqb).2 fun he=>?_
   rw [← hbi] at he
   exact hji (H.dist j i b (by simp [jq,hj,hqb]) he)
 ·intro j k b hj hk
  rw [hset] at hj hk
  by_cases h1:j=i <;> by_cases h2:k=i
  ·rw [h1,h2]
  ·rw [if_pos h1] at hj;rw [if_neg h2] at hk;exact absurd hj (hnew k b h2 hk)
  ·rw [if_neg h1] at hj;rw [if_pos h2] at hk;exact absurd hk (hnew j b h1 hj)
  ·rw [if_neg h1] at hj;rw [if_neg h2] at hk;exact H.dist j k b hj hk
 ·intro f hf
  obtain ⟨h1,h2⟩:=H.facts f hf
  refine ⟨f.stay w w' h1 fun b hbF=>hs b (h2 b hbF).1 fun he=>?_,fun b hbF=>⟨Nat.lt_of_lt_of_le (h2 b hbF).1 hz,fun j he=>?_⟩⟩
  ·rw [← hbi] at he;exact (h2 b hbF).2 i he
  ·rw [hset] at he
   by_cases hj:j=i
   ·rw [if_pos hj] at he
    rcases hb with h | h | ⟨c,h,hc⟩
    ·rw [h,← hbi] at he;exact (h2 b hbF).2 i he
    ·rw [h] at he;cases he
    ·rw [h] at he
     simp only [Option.some.injEq] at he
     subst he
     have:=(h2 c hbF).1
     omega
   ·rw [if_neg hj] at he;exact (h2 b hbF).2 j he
theorem St.ext (H:St W0 w ps Γ) (e:Ext w w'):St W0 w' ps Γ:=
 ⟨Ext.trans' H.base e,fun p hp=>(H.has p hp).stay fun b hb=>e.block b ((H.has p hp).lt hb).2,H.dist,
  fun f hf=>⟨f.stay w w' (H.facts f hf).1 fun b hb=>e.block b ((H.facts f hf).2 b hb).1,
   fun b hb=>⟨Nat.lt_of_lt_of_le ((H.facts f hf).2 b hb).1 e.size,((H.facts f hf).2 b hb).2⟩⟩⟩
theorem St.own (H:St W0 w ps Γ) (e:Ext w w') (p:Prv) (hp:p.ok W0.heap.size w') (hb:∀ b,p.blk=some b->w.heap.size<=b):St W0 w' (p::ps) Γ:=by
 have H' :=H.ext e
 refine ⟨H'.base,fun q hq=>?_,?_,fun f hf=>⟨(H'.facts f hf).1,fun b hbF=>⟨((H'.facts f hf).2 b hbF).1,fun i=>?_⟩⟩⟩
 ·rcases List.mem_cons.1 hq with rfl | hq
  ·exact hp
  ·exact H'.has q hq
 ·intro i j b hi hj
  cases i with
  | zero=>
   cases j with
   | zero=>rfl
   | succ j=>
    have h1:=hb b (by simpa [jq] using hi)
    have h2:=(Q5 H (i:=j) (b:=b) (by simpa [jq] using hj)).2
    omega
  | succ i=>
   cases j with
   | zero=>
    have h1:=hb b (by simpa [jq] using hj)
    have h2:=(Q5 H (i:=i) (b:=b) (by simpa [jq] using hi)).2
    omega
   | succ j=>rw [H.dist i j b (by simpa [jq] using hi) (by simpa [jq] using hj)]
 ·cases i with
  | zero=>
   intro he
   have h1:=hb b (by simpa [jq] using he)
   have h2:=((H.facts f hf).2 b hbF).1
   omega
  | succ i=>simpa [jq] using ((H'.facts f hf).2 b hbF).2 i
theorem ext_alloc (w:World) (o:Obj):Ext w (w.alloc o):=(Below.refl _ _).alloc (Nat.le_refl _) o
theorem ext_drew (w:World):Ext w w.drew:=(Below.refl _ _).drew
theorem St.alloc (H:St W0 w ps Γ) (cs:Array Value) (t:TypeId):St W0 (w.alloc (.cells cs t)) (.box w.heap.size cs.toList t::ps) Γ:=
 H.own (ext_alloc _ _) _ ⟨H.base.size,by simpa using heap_alloc_new w (.cells cs t)⟩ (by intro b hb;simp only [Prv.blk,Option.some.injEq] at hb;omega)
theorem heap_setCell_same {cs:Array Value} {fr:Nat×Nat} (h:w.heap[b]? =some (.cells cs t fr)) (v:Value):
 (w.setCell ⟨b,off,none⟩ v).heap[b]? =some (.cells (cs.setIfInBounds off v) t fr):=by
 simp [World.setCell,Array.getElem?_modify,h]
theorem St.set (H:St W0 w ps Γ) (i:Nat) {b:Nat} {cs:List Value} {t:TypeId} (hp:ps[i]? =some (.box b cs t)) (off:Nat) (v:Value):
 St W0 (w.setCell ⟨b,off,none⟩ v) (ps.set i (.box b (cs.set off v) t)) Γ:=by
 have hb:=H.has _ (List.mem_of_getElem? hp)
 refine H.change i hp rfl rfl rfl (by simp [World.setCell]) (fun c _ hc=>Below.heap_setCell _ _ _ _ ?_) ⟨hb.1,?_⟩ (Or.inl rfl)
 ·intro e;exact hc (by simp [Prv.blk,e])
 ·rw [heap_setCell_same hb.2]
  simp
end
def pv (ρ:Operand->Value):Op->Option Value
 | .move x=>some (ρ x)
 | .assign x=>some (ρ x)
 | .pick c a b=>match ρ c with | .bool t=>some (cond t (ρ a) (ρ b)) | _=>none
 | .nilCheck x=>match ρ x with | .pointer (some a)=>some (.pointer (some a)) | _=>none
 | .unOp .not _ x=>match ρ x with | .bool b=>some (.bool !b) | _=>none
 | .extract x i=>match ρ x with | .tuple vs=>vs[i]? | _=>none
 | .makeFunc f a c=>some (.func f (a.toList.map ρ).toArray (c.toList.map ρ).toArray)
 | .binOp .lss _ x y _=>match ρ x,ρ y with | .int .i64 a,.int .i64 b=>some (Bv (decide (a < b))) | _,_=>none
 | .binOp .leq _ x y _=>match ρ x,ρ y with | .int .i64 a,.int .i64 b=>some (Bv (decide (a<=b))) | _,_=>none
 | .binOp .gtr _ x y _=>match ρ x,ρ y with | .int .i64 a,.int .i64 b=>some (Bv (decide (a > b))) | _,_=>none
 | .binOp .geq _ x y _=>match ρ x,ρ y with | .int .i64 a,.int .i64 b=>some (Bv (decide (a>=b))) | _,_=>none
 | .binOp .eql _ x y _=>match ρ x,ρ y with | .int .i64 a,.int .i64 b=>some (Bv (a == b)) | .string a,.string b=>some (Bv (a.toList == b.toList)) | _,_=>none
 | .binOp .neq _ x y _=>match ρ x,ρ y with | .int .i64 a,.int .i64 b=>some (Bv (a != b)) | .string a,.string b=>some (Bv !(a.toList == b.toList)) | _,_=>none
 | _=>none
theorem pv_run {P:Program} {ρ:Operand->Value} {o:Oper} (h:pv ρ o.op=some v) (w:World):(execOp ρ o).run P w=.ok (.value v) w:=by
 unfold execOp
 cases ho:o.op <;> rw [ho] at h <;> simp only [pv] at h <;> try (cases h;done)
 case move x=>cases h;simp
 case assign x=>cases h;simp
 case pick c a b=>
  split at h <;> cases h
  rename_i t ht
  cases t <;> simp [ht,asBool]
 case nilCheck x=>
  split at h <;> cases h
  rename_i a ha
  simp [ha]
 case makeFunc f a c=>cases h;simp [Instr.makeFunc,← List.map_toArray]
 case extract x i=>
  split at h
  ·rename_i vs hvs
   simp [hvs,Instr.extract,h]
  ·cases h
 case unOp op t x=>
  cases op <;> simp only [pv] at h <;> try (cases h;done)
  split at h <;> cases h
  rename_i b hb
  simp [hb,Op.unary]
 case binOp op t x y u=>
  cases op <;> simp only [pv] at h <;> try (cases h;done)
  all_goals split at h
  all_goals first
   | (cases h;done)
   | (rename_i h1 h2;cases h;simp [h1,h2,eqGuard,binOp,Op.intCmp];done)
   | (rename_i h1 h2;cases h;simp [h1,h2,eqGuard,binOp,Op.stringOp];done)
section
variable {P : Program} {ops : Array Oper} {Q : Exit -> Act -> World -> Prop} {n : Nat} {ρ : Env} {W0 w : World} {rest : List Oper} {ps : List Prv} {Γ : List Fact}
 {d:Nat} {op:Op} {ty:TypeId} {pos:String} {af:Array Edge} {K:Env->World->Prop}
theorem XU [Dfr] (v:Value) (h:(execOp (ev n ρ) ⟨some d,op,ty,pos,af,none⟩).run P w=.ok (.value v) w') (k:K (upd ρ d v) w'):
 OW P Q ⟨some d,op,ty,pos,af,none⟩ n ρ w K:=by
 unfold OW
 intro K' hK
 unfold Oper.wp
 rw [QZ,h]
 show K' ((mk n ρ).put (some d) v) w'
 rw [mk_put]
 exact hK _ _ k
theorem o_unit [Dfr] (h:(execOp (ev n ρ) ⟨none,op,ty,pos,af,none⟩).run P w=.ok .skip w') (k:K ρ w'):
 OW P Q ⟨none,op,ty,pos,af,none⟩ n ρ w K:=by
 unfold OW
 intro K' hK
 unfold Oper.wp
 rw [QZ,h]
 exact hK _ _ k
theorem o_pure [Dfr] (v:Value) (h:pv (ev n ρ) op=some v) (k:K (upd ρ d v) w):OW P Q ⟨some d,op,ty,pos,af,none⟩ n ρ w K:=
 XU v (pv_run (by exact h) w) k
theorem yielded_of [Dfr] {e:Nat} {b:Bool} (hd:(ops[j]?).bind (·.dst)=some e) (hv:ev n ρ (.tmp e)=Bv b):yielded ops (mk n ρ).tmps j=some b:=by
 have hlt:e < n:=by
  rcases Nat.lt_or_ge e n with h | h
  ·exact h
  ·have hb:Nat.blt e n=false:=by
    cases hb:Nat.blt e n with
    | false=>rfl
    | true=>exact absurd (Nat.le_of_ble_eq_true hb) qf
   simp [ev,hb,undef] at hv
 have hv' :ρ e=Bv b:=by simpa [ev,show Nat.blt e n=true from Nat.ble_eq_true_of_le hlt] using hv
 simp [yielded,hd,mk,hlt,hv']
theorem yielded_un [Dfr] {e:Nat} (hd:(ops[j]?).bind (·.dst)=some e) (hv:ev n ρ (.tmp e)=undef):yielded ops (mk n ρ).tmps j=none:=by
 rcases Nat.lt_or_ge e n with hlt | h
 ·have hv' :ρ e=undef:=by simpa [ev,show Nat.blt e n=true from Nat.ble_eq_true_of_le hlt] using hv
  simp [yielded,hd,mk,hlt,hv',undef]
 ·simp [yielded,hd,mk,show ¬ e < n by omega]
def dstAt:List Oper->Nat->Option Nat
 | [],_=>none
 | o::_,0=>o.dst
 | _::l,j+1=>dstAt l j
theorem dstAt_eq:∀ (l:List Oper) (j:Nat),(l.toArray[j]?).bind (·.dst)=dstAt l j
 | [],j=>by simp [dstAt]
 | o::l,0=>by simp [dstAt]
 | o::l,j+1=>by
  have:=dstAt_eq l j
  simp only [List.getElem?_toArray,List.getElem?_cons_succ,dstAt] at this ⊢
  exact this
theorem qJ [Dfr] {l:List Oper} {b:Bool} (e:Nat) (hd:dstAt l j=some e) (hv:ev n ρ (.tmp e)=Bv b)
 (k:WL P l.toArray Q n (⟨dst,op,ty,pos,af,none⟩::rest) ρ w):WL P l.toArray Q n (⟨dst,op,ty,pos,af,some (j,b)⟩::rest) ρ w:=by
 have hw:Region.wanted ⟨dst,op,ty,pos,af,some (j,b)⟩ (yielded l.toArray (mk n ρ).tmps)=true:=by simp [Region.wanted,yielded_of ((dstAt_eq l j).trans hd) hv]
 replace k:=k.out
 refine WL.of ?_
 unfold wpList at k ⊢
 rw [if_pos hw]
 rw [if_pos (by rfl)] at k
 exact k
theorem wrap_in {a:Int} (h: -9223372036854775808<=a/\a<=9223372036854775807):IntKind.i64.wrap a=a:=by
 exact IntWalk.i64_in a h
theorem zi [Dfr] (a b:Int) (hx:ev n ρ x=.int .i64 a) (hy:ev n ρ y=.int .i64 b) (h: -9223372036854775808<=a+b/\a+b<=9223372036854775807)
 (k:K (upd ρ d (.int .i64 (a+b))) w):OW P Q ⟨some d,.binOp .add t x y u,ty,pos,af,none⟩ n ρ w K:=
 XU _ (by simp [execOp,hx,hy,eqGuard,binOp,Op.intArith,wrap_in h]) k
theorem o_sub [Dfr] (a b:Int) (hx:ev n ρ x=.int .i64 a) (hy:ev n ρ y=.int .i64 b) (h: -9223372036854775808<=a - b/\a - b<=9223372036854775807)
 (k:K (upd ρ d (.int .i64 (a - b))) w):OW P Q ⟨some d,.binOp .sub t x y u,ty,pos,af,none⟩ n ρ w K:=
 XU _ (by simp [execOp,hx,hy,eqGuard,binOp,Op.intArith,wrap_in h]) k
theorem o_mul [Dfr] (a b:Int) (hx:ev n ρ x=.int .i64 a) (hy:ev n ρ y=.int .i64 b) (h: -9223372036854775808<=a * b/\a * b<=9223372036854775807)
 (k:K (upd ρ d (.int .i64 (a * b))) w):OW P Q ⟨some d,.binOp .mul t x y u,ty,pos,af,none⟩ n ρ w K:=
 XU _ (by simp [execOp,hx,hy,eqGuard,binOp,Op.intArith,wrap_in h]) k
theorem o_len [Dfr] (hu:P.underlying t=some (.slice e)) (a:yOA) (m c:Nat) (hx:ev n ρ x=Sv a m c)
 (k:K (upd ρ d (.int .i64 m)) w):OW P Q ⟨some d,.call ⟨.builtin .len,#[x],#[t]⟩,ty,pos,af,none⟩ n ρ w K:=
 XU _ (by simp [execOp,resolve,invoke,builtin,Builtin.len_,hx,run_underlying hu,goInt]) k
end
def TI (P:Program) (t:TypeId) (z:Value) (size bytes:Nat):Prop:=(P.info? t).map (fun i=>(i.zero,i.size,i.bytes))=some (some z,size,bytes)
theorem TI.sizeOf {P:Program} {t:TypeId} {z:Value} {m by' :Nat} (h:TI P t z m by') (w:World):(Go.sizeOf t).run P w=.ok m w:=by
 obtain ⟨i,hi,_,h2,_⟩:=info_parts h
 simp [Go.sizeOf,typeInfo,hi,h2]
theorem TI.zero {P:Program} (h:TI P t z m by') (w:World):(zeroValue t).run P w=.ok z w:=by
 obtain ⟨i,hi,h1,_,_⟩:=info_parts h
 simp [zeroValue,typeInfo,hi,h1]
def ve (w:World) (F:yLN):Prop:=∀ b∈F,∃ cs t,w.heap[b]? =some (.cells cs t (0,0))
theorem ve.stay (h:ve w F) (hs:∀ b∈F,w'.heap[b]? =w.heap[b]?):ve w' F:=fun b hb=>by rw [hs b hb];exact h b hb
theorem ve.sub (h:ve w F) (hs:∀ b∈G,b∈F):ve w G:=fun b hb=>h b (hs b hb)
theorem ve.app (h:ve w F) (k:ve w G):ve w (F++G):=fun b hb=>by
 rcases List.mem_append.1 hb with h' | h'
 ·exact h b h'
 ·exact k b h'
theorem ve.nil (w:World):ve w []:=fun b hb=>by simp at hb
section
variable {α : Type} [qK α]
def isF (fr:Bool) (F:yLN) (v:Value) (x:α):Fact:=⟨F,fun w=>qK.rep w F [v] x/\(fr=true->ve w F),fun _ _ h hs=>⟨qK.stay h.1 hs,fun e=>(h.2 e).stay hs⟩⟩
def xN (fr:Bool) (F:yLN) (xs:List Value) (l:List α):Fact:=⟨F,fun w=>reps w F xs l/\(fr=true->ve w F),fun _ _ h hs=>⟨XJ h.1 hs,fun e=>(h.2 e).stay hs⟩⟩
end
def atF (b off:Nat) (cs:List Value):Fact:=⟨[b],fun w=>vg w b off cs,fun _ _ h hs=>cellsAt_stay h (hs b qm)⟩
section
variable {P : Program} {ops : Array Oper} {Q : Exit -> Act -> World -> Prop} {n : Nat} {ρ : Env} {W0 w : World} {rest : List Oper} {ps : List Prv} {Γ : List Fact}
 {d:Nat} {ty:TypeId} {pos:String} {af:Array Edge} {K:Env->World->Prop}
theorem St.cell (H:St W0 w ps Γ) (i:Nat) {b:Nat} {cs:List Value} {t:TypeId} (hp:ps[i]? =some (.box b cs t)) {off:Nat} {v:Value} (hv:cs[off]? =some v):w.cell? ⟨b,off,none⟩=some v:=by
 have:=(H.has _ (List.mem_of_getElem? hp)).2
 rw [World.cell?,this]
 simpa using hv
theorem St.xW (H:St W0 w ps Γ) (i:Nat) (hf:Γ[i]? =some (atF b off cs)) (j:Nat) (hv:cs[j]? =some v):w.cell? ⟨b,off+j,none⟩=some v:=
 H.get i hf j v hv
theorem St.cells (H:St W0 w ps Γ) (i:Nat) (hp:ps[i]? =some (.box b cs t)):vg w b 0 cs:=by
 intro j v hv
 rw [Nat.zero_add]
 exact H.cell i hp hv
theorem qF (h:vg w b off cs) (j m:Nat):vg w b (off+j) ((cs.drop j).take m):=by
 intro i v hv
 rw [List.getElem?_take] at hv
 split at hv
 ·rw [List.getElem?_drop] at hv
  rw [Nat.add_assoc]
  exact h (j+i) v hv
 ·cases hv
theorem o_alloc [Dfr] (H:St W0 w ps Γ) (ht:TI P t z m by')
 (k:∀ b w',St W0 w' (.box b z.cells.toList t::ps) Γ->K (upd ρ d (.pointer (some ⟨b,0,none⟩))) w'):
 OW P Q ⟨some d,.alloc t,ty,pos,af,none⟩ n ρ w K:=
 XU (w' :=w.alloc (.cells z.cells t)) _ (by simp [execOp,Instr.alloc,ht.zero,newVar,newRow]) (k _ _ (H.alloc _ _))
theorem o_box [Dfr] (H:St W0 w ps Γ) (v:Value) (hx:ev n ρ x=v)
 (k:∀ b w',St W0 w' (.box b v.cells.toList t::ps) Γ->K (upd ρ d (.pointer (some ⟨b,0,none⟩))) w'):
 OW P Q ⟨some d,.box t x,ty,pos,af,none⟩ n ρ w K:=
 XU (w' :=w.alloc (.cells v.cells t)) _ (by simp [execOp,Instr.box,hx,newVar,newRow]) (k _ _ (H.alloc _ _))
theorem run_load1 (ha:∀ w,(isAgg t).run P w=.ok false w) (hc:w.cell? ⟨b,off,none⟩=some v):
 (Instr.loadAt t (.pointer (some ⟨b,off,none⟩))).run P w=.ok v w:=by
 simp [Instr.loadAt,Instr.sureAddr,loadVar,ha,hc]
theorem zK [Dfr] (v:Value) (ha:∀ w,(isAgg t).run P w=.ok false w) (hx:ev n ρ x=.pointer (some ⟨b,off,none⟩))
 (hc:w.cell? ⟨b,off,none⟩=some v) (k:K (upd ρ d v) w):OW P Q ⟨some d,.load t x,ty,pos,af,none⟩ n ρ w K:=
 XU v (by simp [execOp,hx,run_load1 ha hc]) k
theorem run_loadN (ha:∀ w,(isAgg t).run P w=.ok true w) (hs:∀ w,(Go.sizeOf t).run P w=.ok cs.length w)
 (hc:vg w b off cs):(Instr.loadAt t (.pointer (some ⟨b,off,none⟩))).run P w=.ok (.agg cs.toArray) w:=by
 have:=run_loadCells_list (P:=P) w ⟨b,off,none⟩ cs (fun j v hv=>by rw [Addr.add_mid];exact hc j v hv)
 simp [Instr.loadAt,Instr.sureAddr,loadVar,ha,hs,this]
theorem x8 [Dfr] (cs:List Value) (ha:∀ w,(isAgg t).run P w=.ok true w) (hs:∀ w,(Go.sizeOf t).run P w=.ok cs.length w)
 (hx:ev n ρ x=.pointer (some ⟨b,off,none⟩)) (hc:vg w b off cs) (k:K (upd ρ d (.agg cs.toArray)) w):
 OW P Q ⟨some d,.load t x,ty,pos,af,none⟩ n ρ w K:=
 XU _ (by simp [execOp,hx,run_loadN ha hs hc]) k
theorem o_field [Dfr] {fs:Array Field} {f:Field} (b off j:Nat) (hu:P.underlying t=some (.struct fs)) (hf:fs[i]? =some f) (hj:f.offset=j)
 (hs:∀ w,(Go.sizeOf f.type).run P w=.ok (m+1) w) (hx:ev n ρ x=.pointer (some ⟨b,off,none⟩)) (k:K (upd ρ d (.pointer (some ⟨b,off+j,none⟩))) w):
 OW P Q ⟨some d,.fieldAddr t x i,ty,pos,af,none⟩ n ρ w K:=
 XU _ (by subst hj;simp [execOp,hx,Instr.fieldAt,Instr.sureAddr,fieldPlace,run_underlying hu,hf,hs,Addr.add_mid]) k
theorem St.setAll (H:St W0 w ps Γ) (i:Nat) (hp:ps[i]? =some (.box b cs t)) (cs' :List Value):
 St W0 (w.setRow b cs'.toArray) (ps.set i (.box b cs' t)) Γ:=by
 have hb:=H.has _ (List.mem_of_getElem? hp)
 refine H.change i hp rfl rfl rfl (by simp [World.setRow]) (fun c _ hc=>?_) ⟨hb.1,?_⟩ (Or.inl rfl)
 ·have hne:b≠c:=fun e=>hc (by simp [Prv.blk,e])
  simp [World.setRow,Array.getElem?_modify,hne]
 ·simp [World.setRow,Array.getElem?_modify,hb.2]
theorem o_store [Dfr] (H:St W0 w ps Γ) (i:Nat) (hp:ps[i]? =some (.box b cs tb)) (v:Value)
 (hs:∀ w,(Go.sizeOf t).run P w=.ok v.cells.size w) (hx:ev n ρ x=.pointer (some ⟨b,off,none⟩)) (hy:ev n ρ y=v) (h1:∀ u∈v.cells.toList,u.oneCell' =true) (ho:off+v.cells.size<=cs.length)
 (k:∀ w',St W0 w' (ps.set i (.box b (cs.take off++v.cells.toList++cs.drop (off+v.cells.size)) tb)) Γ->K ρ w'):
 OW P Q ⟨none,.store t x y,ty,pos,af,none⟩ n ρ w K:=by
 have hb:=(H.has _ (List.mem_of_getElem? hp)).2
 have hr:=run_storeCells_at P b off tb v.cells.toList 0 cs.toArray w hb (by simpa using ho) h1
 refine o_unit (w' :=w.setRow b (cs.take off++v.cells.toList++cs.drop (off+v.cells.size)).toArray) ?_ (k _ (H.setAll i hp _))
 simp only [Nat.add_zero,Array.length_toList] at hr
 simp [execOp,hx,hy,Instr.storeAt,Instr.sureAddr,storeVar,hs,hr]
theorem o_store1 [Dfr] (H:St W0 w ps Γ) (i:Nat) (hp:ps[i]? =some (.box b cs tb)) (v:Value)
 (hs:∀ w,(Go.sizeOf t).run P w=.ok 1 w) (hx:ev n ρ x=.pointer (some ⟨b,off,none⟩)) (hy:ev n ρ y=v) (h1:v.oneCell' =true) (ho:off < cs.length)
 (k:∀ w',St W0 w' (ps.set i (.box b (cs.set off v) tb)) Γ->K ρ w'):
 OW P Q ⟨none,.store t x y,ty,pos,af,none⟩ n ρ w K:=by
 have hc:v.cells=#[v]:=by cases v <;> first | rfl | (simp [Value.oneCell'] at h1)
 refine o_store H i hp v (by simpa [hc] using hs) hx hy (by simp [hc,h1]) (by simp [hc];omega) ?_
 simp only [hc,List.size_toArray,List.length_cons,List.length_nil,Nat.zero_add]
 rw [show cs.take off++[v]++cs.drop (off+1)=cs.set off v by rw [List.set_eq_take_append_cons_drop,if_pos ho];simp]
 exact k
variable {α : Type} [qK α] [Inhabited α]
theorem o_idxAt [Dfr] (iv:Int) (hu:P.underlying t=some (.slice e)) (he:TI P e z sz by')
 (hx:ev n ρ x=Sv (some ⟨b,off,none⟩) m c) (hy:ev n ρ y=.int .i64 iv) (h0:0<=iv) (h1:iv < m)
 (k:K (upd ρ d (.pointer (some ⟨b,off+iv.toNat * sz,none⟩))) w):OW P Q ⟨some d,.indexAddr t x y,ty,pos,af,none⟩ n ρ w K:=
 XU _ (by simp [execOp,hx,hy,Instr.indexAt,asIntOf,run_underlying hu,he.sizeOf,h0,h1,Addr.add_mid]) k
theorem o_call [Dfr] {xs:Array Operand} {f:FuncId} {R:Value->World->Prop} (args:Array Value) (hv:ev n ρ x=.func (.func f) fst caps)
 (hargs:fst.toList++xs.toList.map (ev n ρ)++caps.toList=args.toList) (hf:∀ args w,(callFunc f args).run P w=.ok (.enter f args) w)
 (hc:Calls P f args w fun e w' =>∃ v,e=.returned v/\R v w' /\Ext w w') (k:∀ v w',R v w' ->Ext w w' ->K (upd ρ d v) w'):
 OW P Q ⟨some d,.call ⟨.value x,xs,ts⟩,ty,pos,af,none⟩ n ρ w K:=by
 have hr:(execOp (ev n ρ) ⟨some d,.call ⟨.value x,xs,ts⟩,ty,pos,af,none⟩).run P w=.ok (.enter f args) w:=by
  have e:fst++xs.map (ev n ρ)++caps=args:=by apply Array.toList_inj.1;rw [← hargs];simp
  simp [execOp,resolve,Deferred.ofValue,hv,invoke,hf,e]
 unfold OW
 intro K' hK
 unfold Oper.wp
 rw [QZ,hr]
 refine hc.mono fun e w' ⟨v,he,hR,hE⟩=>?_
 subst he
 show K' ((mk n ρ).put (some d) v) w'
 rw [mk_put]
 exact hK _ _ (k v w' hR hE)
theorem o_callV [Dfr] {xs:Array Operand} {f:FuncId} {R:Value->World->Prop} (as0:List Value) (hv:ev n ρ x=.func (.func f) #[] caps)
 (hargs:xs.toList.map (ev n ρ)=as0) (hf:∀ args w,(callFunc f args).run P w=.ok (.enter f args) w)
 (hc:Calls P f (as0++caps.toList).toArray w fun e w' =>∃ v,e=.returned v/\R v w' /\Ext w w') (k:∀ v w',R v w' ->Ext w w' ->K (upd ρ d v) w'):
 OW P Q ⟨some d,.call ⟨.value x,xs,ts⟩,ty,pos,af,none⟩ n ρ w K:=
 o_call _ hv (by rw [← hargs];simp) hf hc k
end
def Ret (R:Value->World->Prop) (w:World) (e:Ending) (w' :World):Prop:=∃ v,e=.returned v/\R v w' /\Ext w w'
section
variable {α : Type} [qK α]
def IsNew (w0 w:World) (v:Value) (l:List α):Prop:=∃ a c F,v=Sv a l.length c/\qK.rep w F [v] l/\(∀ b∈F,w0.heap.size<=b)/\F.Nodup/\ve w F
def OwnNew (w0 w:World) (e:TypeId) (v:Value) (l:List α):Prop:=
 ∃ xs F,w.ownsRow w0.heap.size e (qK.size α) v l.length xs/\reps w F xs l/\(∀ b∈F,w0.heap.size<=b)/\(∀ b∈F,v.ownBlock≠some b)/\F.Nodup/\ve w F
end
theorem start_lt {α:Type} [qK α] {x:α} (h:qK.rep w F [v] x):∀ b∈F,b < w.heap.size/\∀ i,jq [] i≠some b:=
 fun b hb=>⟨qK.lt h b hb,fun i=>by simp [jq]⟩
theorem start_at (h:vg w b off (v::cs)):∀ c∈[b],c < w.heap.size/\∀ i,jq [] i≠some c:=by
 intro c hc
 simp only [List.mem_singleton] at hc
 subst hc
 exact ⟨World.block_lt_of_cell? w _ (h 0 v rfl),fun i=>by simp [jq]⟩
theorem St.arg {α:Type} [qK α] {Γ:List Fact} {x:α} (H:St w w [] Γ) (h:qK.rep w F [v] x):St w w [] (isF false F v x::Γ):=H.add _ ⟨h,by simp⟩ (start_lt h)
theorem St.Q7 {Γ:List Fact} (H:St w w [] Γ) (h:vg w b off (v::cs)):St w w [] (atF b off (v::cs)::Γ):=H.add _ h (start_at h)
theorem ne_of_beq_false {α:Type} [BEq α] [LawfulBEq α] {a b:α} (h:(a == b)=false):a≠b:=by simpa using h
theorem xu {α:Type} [BEq α] [LawfulBEq α] {a b:α} (h:(a != b)=false):a=b:=by simpa using h
theorem xm {b:Bool} (h:(!b)=true):b=false:=by simpa using h
theorem qY {b:Bool} (h:(!b)=false):b=true:=by simpa using h
section
variable {W0 w w' : World} {ps : List Prv} {Γ : List Fact}
theorem St.add_new {α:Type} [qK α] (H:St W0 w ps Γ) (e:Ext w w') {x:α} (h:qK.rep w' F [v] x) (hF:∀ b∈F,w.heap.size<=b) (hfr:ve w' F):St W0 w' ps (isF true F v x::Γ):=
 (H.ext e).add _ ⟨h,fun _=>hfr⟩ fun b hb=>⟨qK.lt h b hb,fun i hi=>by have:=(Q5 H hi).2;have:=hF b hb;omega⟩
end
section
variable {P : Program} {Q : Exit -> Act -> World -> Prop} {n : Nat} {ρ : Env} {W0 w : World} {ps : List Prv} {Γ : List Fact}
 {d:Nat} {ty:TypeId} {pos:String} {af:Array Edge} {K:Env->World->Prop}
theorem madeCells_one (z:Value) (n:Nat):(madeCells #[z] n).toList=List.replicate n z:=by
 apply List.ext_getElem
 ·simp [madeCells]
 ·intro i h1 h2
  simp [madeCells,Nat.mod_one]
theorem o_make1 [Dfr] (H:St W0 w ps Γ) (hu:P.underlying t=some (.slice e)) (he:TI P e z 1 by') (hz:z.cells=#[z]) (nn:Nat)
 (hx:ev n ρ x=.int .i64 nn) (hy:ev n ρ y=.int .i64 nn) (hb:by' * nn<=281474976710656) (hm:nn<=9223372036854775807)
 (k:∀ b w',St W0 w' (.box b (List.replicate nn z) e::ps) Γ->K (upd ρ d (Sv (some ⟨b,0,none⟩) nn nn)) w'):
 OW P Q ⟨some d,.makeSlice t x y,ty,pos,af,none⟩ n ρ w K:=by
 obtain ⟨i,hi,h1,h2,h3⟩:=info_parts he
 have hr:=run_make (P:=P) (w:=w) t e i z hu hi h1 .i64 .i64 nn nn qf qf (by rw [h3];omega) qf
 refine XU (w' :=w.alloc (.cells (madeCells z.cells ((nn:Int).toNat * i.size)) e)) _ (by simp [execOp,hx,hy,hr]) (k w.heap.size _ ?_)
 have:=H.alloc (madeCells z.cells ((nn:Int).toNat * i.size)) e
 rw [hz,h2] at this
 rw [hz,h2]
 simpa [madeCells_one] using this
theorem madeCells_rep (z:Array Value) (sz:Nat) (hz:z.size=sz) (h0:0 < sz) (n:Nat):(madeCells z (n * sz)).toList=(List.replicate n z.toList).flatten:=by
 simp only [madeCells,Array.toList_map,Array.toList_range,hz]
 induction n with
 | zero=>simp
 | succ n ih=>
  rw [Nat.add_mul,Nat.one_mul,List.range_add,List.map_append,ih,List.replicate_succ',List.flatten_append]
  congr 1
  simp only [List.map_map,List.flatten_cons,List.flatten_nil,List.append_nil]
  apply List.ext_getElem
  ·simp [hz]
  ·intro i h1 h2
   simp only [List.length_map,List.length_range] at h1
   have:(n * sz+i) % sz=i:=by rw [Nat.mul_comm,Nat.mul_add_mod];exact Nat.mod_eq_of_lt h1
   simp [this,hz,h1]
theorem o_makeN [Dfr] (H:St W0 w ps Γ) (hu:P.underlying t=some (.slice e)) (he:TI P e z sz by') (hz:z.cells.size=sz) (h0:0 < sz) (nn:Nat)
 (hx:ev n ρ x=.int .i64 nn) (hy:ev n ρ y=.int .i64 nn) (hb:by' * nn<=281474976710656) (hm:nn<=9223372036854775807)
 (k:∀ b w',St W0 w' (.box b (List.replicate nn z.cells.toList).flatten e::ps) Γ->K (upd ρ d (Sv (some ⟨b,0,none⟩) nn nn)) w'):
 OW P Q ⟨some d,.makeSlice t x y,ty,pos,af,none⟩ n ρ w K:=by
 obtain ⟨i,hi,h1,h2,h3⟩:=info_parts he
 have hr:=run_make (P:=P) (w:=w) t e i z hu hi h1 .i64 .i64 nn nn qf qf (by rw [h3];omega) qf
 refine XU (w' :=w.alloc (.cells (madeCells z.cells ((nn:Int).toNat * i.size)) e)) _ (by simp [execOp,hx,hy,hr]) (k w.heap.size _ ?_)
 have:=H.alloc (madeCells z.cells ((nn:Int).toNat * i.size)) e
 rw [h2] at this ⊢
 simpa [madeCells_rep z.cells sz hz h0] using this
theorem fill_set (hx:xs.length=k) (ho:off=k) (hk:k < n):(xs++List.replicate (n - k) z).set off v=(xs++[v])++List.replicate (n - (k+1)) z:=by
 subst ho hx
 rw [List.set_append_right _ _ (Nat.le_refl _),Nat.sub_self,show n - xs.length=(n - (xs.length+1))+1 by omega,List.replicate_succ,List.set_cons_zero]
 simp
theorem fill_put {s:Nat} (hx:xs.length=k * s) (ho:off=k * s) (hz:zs.length=s) (hv:vs.length=s) (hk:k < n):
 (xs++(List.replicate (n - k) zs).flatten).take off++vs++(xs++(List.replicate (n - k) zs).flatten).drop (off+s)=(xs++vs)++(List.replicate (n - (k+1)) zs).flatten:=by
 subst ho
 rw [← hx,List.take_left,List.drop_append,List.drop_of_length_le qf,List.nil_append,show n - k=(n - (k+1))+1 by omega,List.replicate_succ,List.flatten_cons,
  show xs.length+s - xs.length=zs.length by omega,List.drop_left]
theorem fill_room {s:Nat} (hk:k < n):k * s+s<=k * s+((List.replicate (n - k) (List.replicate s ())).flatten).length:=by
 rw [show n - k=(n - (k+1))+1 by omega,List.replicate_succ,List.flatten_cons,List.length_append]
 simp
theorem fill_end1 (h:n<=k):xs++List.replicate (n - k) z=xs:=by
 rw [Nat.sub_eq_zero_of_le h];simp
theorem fill_endN (h:n<=k):xs++(List.replicate (n - k) zs).flatten=xs:=by
 rw [Nat.sub_eq_zero_of_le h];simp
theorem zW [Dfr] (H:St W0 w ps Γ) (hu:P.underlying t=some (.slice e)) (he:TI P e z sz by')
 (k:∀ b w',St W0 w' (.box b [] e::ps) Γ->K (upd ρ d (Sv (some ⟨b,0,none⟩) 0 0)) w'):
 OW P Q ⟨some d,.buildSlice t 0 #[],ty,pos,af,none⟩ n ρ w K:=
 XU (w' :=w.alloc (.cells #[] e)) _ (by simp [execOp,Instr.buildSlice,run_underlying hu,he.sizeOf,Instr.fill,newRow,Array.range_zero']) (k _ _ (H.alloc _ _))
theorem o_build1 [Dfr] (H:St W0 w ps Γ) (hu:P.underlying t=some (.slice e)) (he:TI P e z sz by') (h0:0 < sz) (hs:sz<=16777216) (v:Value)
 (hx:ev n ρ x=v) (hv:v.cells.size=sz) (k:∀ b w',St W0 w' (.box b v.cells.toList e::ps) Γ->K (upd ρ d (Sv (some ⟨b,0,none⟩) 1 1)) w'):
 OW P Q ⟨some d,.buildSlice t 1 #[(0,x)],ty,pos,af,none⟩ n ρ w K:=by
 obtain ⟨i,hi,h1,h2,h3⟩:=info_parts he
 have hr:=run_buildSlice (P:=P) w t e 1 #[(0,v)] v.cells i z hu hi h1 (by rw [h2];omega) (by rw [h2];omega) (by
  have:=Great.fill_whole h0 [v] (madeCells z.cells (1 * sz)) (by simpa using hv) (by simp [madeCells])
  rw [h2]
  simpa [madeCells] using this)
 exact XU (w' :=w.alloc (.cells v.cells e)) _ (by simp [execOp,hx,hr]) (k _ _ (H.alloc _ _))
theorem o_buildF [Dfr] {xs:Array (Nat×Operand)} (H:St W0 w ps Γ) (hu:P.underlying t=some (.slice e)) (he:TI P e z 1 by') (vs:List Value)
 (hx:xs.toList.map (fun p=>(p.1,ev n ρ p.2))=vs.zipIdx.map (fun p=>(p.2,p.1))) (hv:∀ v∈vs,v.cells=#[v]) (hm:vs.length=m) (h0:0 < m) (hs:m<=16777216)
 (k:∀ b w',St W0 w' (.box b vs e::ps) Γ->K (upd ρ d (Sv (some ⟨b,0,none⟩) m m)) w'):
 OW P Q ⟨some d,.buildSlice t m xs,ty,pos,af,none⟩ n ρ w K:=by
 obtain ⟨i,hi,h1,h2,h3⟩:=info_parts he
 have hr:=run_buildSlice (P:=P) w t e m (xs.map fun p=>(p.1,ev n ρ p.2)) vs.toArray i z hu hi h1 (by rw [h2];omega) (by rw [h2];omega) (by
  have:=Great.fill_flat vs (madeCells z.cells (m * 1)) hv (by simp [madeCells,hm])
  rw [h2,Array.toList_map,hx]
  simpa [madeCells] using this)
 exact XU (w' :=w.alloc (.cells vs.toArray e)) _ (by simp [execOp,hr]) (k _ _ (H.alloc _ _))
end
section
variable {P : Program} {Q : Exit -> Act -> World -> Prop} {n : Nat} {ρ : Env} {W0 w : World} {ps : List Prv} {Γ : List Fact}
 {d:Nat} {ty:TypeId} {pos:String} {af:Array Edge} {K:Env->World->Prop}
theorem St.nilRow (H:St W0 w ps Γ) (e:TypeId) (sz:Nat):St W0 w (.row (Sv none 0 0) e sz 0 []::ps) Γ:=
 H.own (Below.refl _ _) _ (World.ownsRow_nil _ _ _ _) (by intro b hb;simp [Prv.blk,Value.ownBlock] at hb)
theorem St.turn (H:St W0 w ps Γ) (i:Nat) {p p' :Prv} (hp:ps[i]? =some p) (hok:p.ok W0.heap.size w->p'.ok W0.heap.size w) (hb:p'.blk=p.blk):St W0 w (ps.set i p') Γ:=
 H.change i hp rfl rfl rfl (Nat.le_refl _) (fun _ _ _=>rfl) (hok (H.has _ (List.mem_of_getElem? hp))) (Or.inl hb)
theorem St.boxRow (H:St W0 w ps Γ) (i:Nat) (hp:ps[i]? =some (.box b cs e)) (sz nn:Nat) (hl:cs.length=nn * sz) (hm:nn<=maxLen):
 St W0 w (ps.set i (.row (Sv (some ⟨b,0,none⟩) nn nn) e sz nn cs)) Γ:=
 H.turn i hp (fun h=>⟨hl,Or.inr ⟨b,nn,cs.toArray,rfl,h.1,h.2,Nat.le_refl _,hm,by simpa using hl,by rw [← hl];simp⟩⟩) rfl
theorem o_append [Dfr] (H:St W0 w ps Γ) (i:Nat) (hp:ps[i]? =some (.row v e sz nn xs)) (j:Nat) (hq:ps[j]? =some (.box b cs tb))
 (hu:P.underlying t=some (.slice e)) (he:TI P e z sz by') (hzs:z.cells.size=sz) (h0:0 < sz) (hs:ev n ρ s=v) (hx:ev n ρ x=Sv (some ⟨b,0,none⟩) m c) (hl:cs.length=m * sz)
 (h1:∀ u∈cs,u.oneCell' =true) (hm:nn+m<=maxLen) (hb:(nn+m) * by' <=140737488355328)
 (k:∀ v' w',St W0 w' (ps.set i (.row v' e sz (nn+m) (xs++cs))) Γ->K (upd ρ d v') w'):
 OW P Q ⟨some d,.call ⟨.builtin .append,#[s,x],#[t,t]⟩,ty,pos,af,none⟩ n ρ w K:=by
 obtain ⟨i',hi,hz1,hz2,hz3⟩:=info_parts he
 have hown:w.ownsRow W0.heap.size e sz v nn xs:=H.has _ (List.mem_of_getElem? hp)
 obtain ⟨v',w',hr,ho,hg,_,hbl⟩:=run_append_own_at (P:=P) w W0.heap.size t ty e i' z sz by' hu hi hz1 hz2 hz3 hzs h0 v nn xs hown ⟨b,0,none⟩ m c cs hl
  (fun k' u hk=>by rw [Addr.add_mid];simpa using H.cells j hq k' u hk) h1 hm hb H.base.size
 refine XU v' (by simp [execOp,resolve,invoke,builtin,hs,hx,hr]) (k v' w' ?_)
 refine H.change i hp hg.os hg.tape hg.output hg.size (fun c hc hne=>hg.block c hc (fun e' =>hne e'.symm)) ho ?_
 rcases hbl with h | h
 ·exact Or.inl h
 ·exact Or.inr (Or.inr ⟨_,h,Nat.le_refl _⟩)
end
section
variable {P : Program} {Q : Exit -> Act -> World -> Prop} {n : Nat} {ρ : Env} {W0 w : World} {ps : List Prv} {Γ : List Fact}
 {d:Nat} {ty:TypeId} {pos:String} {af:Array Edge} {K:Env->World->Prop}
theorem run_append_none {i:TypeInfo} (hu:P.underlying t=some (.slice e)) (hi:P.info? e=some i) {b:yOA} {c':Nat} (hn:n<=c):
 (Builtin.append_ #[t,t] ty #[Sv b n c,Sv none 0 c']).run P w=.ok (Sv b n c) w:=by
 cases b <;> simp [Builtin.append_,run_underlying hu,sizeOf,typeInfo,hi,Builtin.lenOf,Builtin.firstCells,hn,loadCells,loadCellsFrom,storeCells]
theorem o_appendF [Dfr] {α:Type} [qK α] {l:List α} (H:St W0 w ps Γ) (i:Nat) (hp:ps[i]? =some (.row v e (qK.size α) nn xs))
 (j:Nat) (hf:Γ[j]? =some (isF fr F (Sv a m c) l)) (hu:P.underlying t=some (.slice e)) (he:TI P e z (qK.size α) by') (hzs:z.cells.size=qK.size α) (h0:0 < qK.size α) (hs:ev n ρ s=v)
 (hx:ev n ρ x=Sv a m c) (hm:nn+m<=maxLen) (hb:(nn+m) * by' <=140737488355328)
 (k:∀ v' w' vs G,St W0 w' (ps.set i (.row v' e (qK.size α) (nn+m) (xs++vs))) (xN fr G vs l::Γ)->(∀ b∈G,b∈F)->K (upd ρ d v') w'):
 OW P Q ⟨some d,.call ⟨.builtin .append,#[s,x],#[t,t]⟩,ty,pos,af,none⟩ n ρ w K:=by
 obtain ⟨i',hi,hz1,hz2,hz3⟩:=info_parts he
 have hown:w.ownsRow W0.heap.size e (qK.size α) v nn xs:=H.has _ (List.mem_of_getElem? hp)
 obtain ⟨⟨a',cap,hc,hl,h⟩,hfr⟩:=H.get j hf
 simp only [List.cons.injEq,Value.slice.injEq,and_true] at hc
 obtain ⟨rfl,rfl,rfl⟩:=hc
 have hfF:=(H.facts _ (List.mem_of_getElem? hf)).2
 rcases a with _ | ⟨b,off,sp⟩
 ·rcases h with ⟨rfl,rfl⟩ | ⟨b,off,F',vs,ha,_⟩
  ·have hv:∃ b0 c0,v=Sv b0 nn c0/\nn<=c0:=by
    rcases hown.2 with ⟨rfl,rfl⟩ | ⟨g,cap',cur,rfl,_,_,hnc,_⟩
    ·exact ⟨none,0,rfl,Nat.le_refl _⟩
    ·exact ⟨_,_,rfl,hnc⟩
   obtain ⟨b0,c0,rfl,hnc⟩:=hv
   refine XU (Sv b0 nn c0) (by simp [execOp,resolve,invoke,builtin,hs,hx,run_append_none hu hi hnc]) (k _ w [] [] ?_ qm)
   simp only [List.append_nil,List.length_nil,Nat.add_zero]
   have:ps.set i (.row (Sv b0 nn c0) e (qK.size α) nn xs)=ps:=by
    apply List.ext_getElem?
    intro j'
    by_cases hj:i=j'
    ·subst hj
     rw [hp]
     have hi' :i < ps.length:=(List.getElem?_eq_some_iff.1 hp).1
     rw [List.getElem?_set_self hi']
    ·rw [List.getElem?_set_ne hj]
   rw [this]
   exact H.add _ ⟨⟨rfl,rfl⟩,fun _=>ve.nil _⟩ (by simp [xN])
  ·cases ha
 ·rcases h with ⟨rfl,rfl⟩ | ⟨b',off',F',vs,ha,hF,hbl,hr,hcells⟩
  ·obtain ⟨v',w',hr,ho,hg,_,hbl⟩:=run_append_own_at (P:=P) w W0.heap.size t ty e i' z _ by' hu hi hz1 hz2 hz3 hzs h0 v nn xs hown ⟨b,off,sp⟩ 0 c [] qm qm qm hm hb H.base.size
   refine XU v' (by simp [execOp,resolve,invoke,builtin,hs,hx,hr]) (k v' w' [] [] ?_ qm)
   have H' :=H.change (p' :=.row v' e (qK.size α) (nn+0) (xs++[])) i hp hg.os hg.tape hg.output hg.size (fun c hc hne=>hg.block c hc (fun e' =>hne e'.symm)) ho (by
    rcases hbl with h | h
    ·exact Or.inl h
    ·exact Or.inr (Or.inr ⟨_,h,Nat.le_refl _⟩))
   exact H'.add _ ⟨⟨rfl,rfl⟩,fun _=>ve.nil _⟩ (by simp [xN])
  ·simp only [Option.some.injEq,Addr.mk.injEq] at ha
   obtain ⟨rfl,rfl,rfl⟩:=ha
   obtain ⟨v',w',hrun,ho,hg,_,hbl'⟩:=run_append_own_at (P:=P) w W0.heap.size t ty e i' z _ by' hu hi hz1 hz2 hz3 hzs h0 v nn xs hown ⟨b,off,none⟩ l.length c vs (XA hr)
    (fun k' u hk=>by rw [Addr.add_mid];exact hcells k' u hk) (reps_cells hr) hm hb H.base.size
   refine XU v' (by simp [execOp,resolve,invoke,builtin,hs,hx,hrun]) (k v' w' vs F' ?_ (by rw [hF];exact fun b hb=>List.mem_cons_of_mem _ hb))
   have H0:St W0 w ps (xN fr F' vs l::Γ):=H.add _ ⟨hr,fun e=>(hfr e).sub (by rw [hF];exact fun b hb=>List.mem_cons_of_mem _ hb)⟩ fun b hb=>hfF b (by show b∈F;rw [hF];exact List.mem_cons_of_mem _ hb)
   exact H0.change i hp hg.os hg.tape hg.output hg.size (fun c hc hne=>hg.block c hc (fun e' =>hne e'.symm)) ho (by
    rcases hbl' with h | h
    ·exact Or.inl h
    ·exact Or.inr (Or.inr ⟨_,h,Nat.le_refl _⟩))
theorem o_appendInts [Dfr] (H:St W0 w ps Γ) (i:Nat) (hp:ps[i]? =some (.row v e 1 nn xs))
 (j:Nat) (hf:Γ[j]? =some (isF fr F (Sv a m c) l)) (hu:P.underlying t=some (.slice e)) (he:TI P e z 1 by') (hzs:z.cells.size=1) (hs:ev n ρ s=v)
 (hx:ev n ρ x=Sv a m c) (hm:nn+m<=maxLen) (hb:(nn+m) * by' <=140737488355328)
 (k:∀ v' w',St W0 w' (ps.set i (.row v' e 1 (nn+m) (xs++l.map (Value.int .i64)))) Γ->K (upd ρ d v') w'):
 OW P Q ⟨some d,.call ⟨.builtin .append,#[s,x],#[t,t]⟩,ty,pos,af,none⟩ n ρ w K:=
 o_appendF (α:=Int) H i hp j hf hu he hzs qj hs hx hm hb fun v' w' vs G H' _=>by
  obtain ⟨_,rfl⟩:=reps_ints (H'.get 0 rfl).1
  exact k v' w' (H'.sub _ fun f hf=>List.mem_cons_of_mem _ hf)
theorem run_eqB {P:Program} (hu:P.underlying t=some .bool) (a b:Bool) (w:World):(Op.equal t (Bv a) (Bv b)).run P w=.ok (a == b) w:=by
 have h:∀ d:Nat,(Op.equalIn (d+1) t (Bv a) (Bv b)).run P w=.ok (a == b) w:=fun d=>by simp [Op.equalIn,run_underlying hu]
 simp [Op.equal,Op.maxDepth,h 9999]
theorem o_eqnil [Dfr] (hu:P.underlying t=some (.slice e)) (a:yOA) (m c:Nat) (hx:ev n ρ x=Sv a m c) (k:K (upd ρ d (Bv a.isNone)) w):
 OW P Q ⟨some d,.binOp .eql t x (.const (Sv none 0 0)) u,ty,pos,af,none⟩ n ρ w K:=
 XU _ (by
  have hc:ev n ρ (.const (Sv none 0 0))=Sv none 0 0:=rfl
  simp [execOp,hx,hc,eqGuard,Lib.run_eql_slice_nil w t e a m c 0 0 hu]) k
end
section
variable {W0 w : World} {ps : List Prv} {Γ : List Fact}
theorem St.rowRep {α:Type} [qK α] (H:St W0 w ps Γ) (i:Nat) (hp:ps[i]? =some (.row v e (qK.size α) nn xs)) {l:List α}
 (h:reps w F xs l) (hn:nn=l.length) (hF:∀ b∈F,W0.heap.size<=b):
 ∃ a c G,v=Sv a l.length c/\qK.rep w G [v] l/\∀ b∈G,W0.heap.size<=b:=by
 subst hn
 obtain ⟨hl,ho⟩:=(H.has _ (List.mem_of_getElem? hp):w.ownsRow W0.heap.size e (qK.size α) v l.length xs)
 rcases ho with ⟨rfl,h0⟩ | ⟨g,cap,cur,rfl,hb,hg,hnc,hcm,hcs,htake⟩
 ·have:l=[]:=List.eq_nil_of_length_eq_zero h0
  subst this
  exact ⟨none,0,[],rfl,⟨none,0,rfl,by simp,Or.inl ⟨rfl,rfl⟩⟩,by simp⟩
 ·refine ⟨_,cap,(if l=[] then [] else g::F),rfl,⟨some ⟨g,0,none⟩,cap,rfl,by unfold maxLen at hcm;omega,?_⟩,?_⟩
  ·by_cases h0:l=[]
   ·exact Or.inl ⟨h0,by simp [h0]⟩
   ·refine Or.inr ⟨g,0,F,xs,rfl,by simp [h0],(Array.getElem?_eq_some_iff.1 hg).1,h,?_⟩
    intro j u hj
    rw [Nat.zero_add,World.cell?,hg]
    rw [← htake,List.getElem?_take] at hj
    split at hj
    ·simpa using hj
    ·cases hj
  ·intro b hbm
   split at hbm
   ·simp at hbm
   ·rcases List.mem_cons.1 hbm with rfl | hbm
    ·exact hb
    ·exact hF b hbm
theorem St.rowInts (H:St W0 w ps Γ) (i:Nat) (hp:ps[i]? =some (.row v e 1 nn (l.map (Value.int .i64)))) (hn:nn=l.length):
 ∃ a c G,v=Sv a l.length c/\qK.rep w G [v] l/\∀ b∈G,W0.heap.size<=b:=
 H.rowRep (α:=Int) i hp (reps_of_ints w l) hn qm
theorem St.newInts (H:St W0 w ps Γ) (i:Nat) (hp:ps[i]? =some (.row v e 1 nn (l.map (Value.int .i64)))) (hn:nn=l.length):OwnNew W0 w e v l:=by
 subst hn
 exact ⟨_,[],H.has _ (List.mem_of_getElem? hp),reps_of_ints w l,by simp,by simp,by simp,ve.nil _⟩
theorem St.newRow {α:Type} [qK α] (H:St W0 w ps Γ) (i:Nat) (hp:ps[i]? =some (.row v e (qK.size α) nn xs)) (j:Nat) {l:List α}
 (hf:Γ[j]? =some (xN true F xs l)) (hn:nn=l.length) (hF:∀ b∈F,W0.heap.size<=b) (hd:F.Nodup):OwnNew W0 w e v l:=by
 subst hn
 refine ⟨_,F,H.has _ (List.mem_of_getElem? hp),(H.get j hf).1,hF,fun b hb he=>((H.facts _ (List.mem_of_getElem? hf)).2 b hb).2 i ?_,hd,(H.get j hf).2 rfl⟩
 simpa [jq,hp,Prv.blk] using he
theorem St.addr {α:Type} [qK α] (H:St W0 w ps Γ) (i:Nat) {l:List α} (hf:Γ[i]? =some (isF fr F (Sv a m c) l)) (hl:0 < l.length):∃ b o,a=some ⟨b,o,none⟩:=by
 obtain ⟨⟨a',cap,hc,_,h⟩,_⟩:=H.get i hf
 simp only [List.cons.injEq,Value.slice.injEq,and_true] at hc
 obtain ⟨rfl,rfl,rfl⟩:=hc
 rcases h with ⟨rfl,_⟩ | ⟨b,off,F',vs,rfl,_⟩
 ·simp at hl
 ·exact ⟨b,off,rfl⟩
theorem St.elem {α:Type} [qK α] [Inhabited α] (H:St W0 w ps Γ) (i:Nat) {l:List α} (hf:Γ[i]? =some (isF fr F (Sv (some ⟨b,o,none⟩) m c) l)) (iv:Int) (h0:0<=iv) (h1:iv < l.length):
 ∃ cs Fk,vg w b (o+iv.toNat * qK.size α) cs/\qK.rep w Fk cs (l[iv.toNat]!)/\∀ x∈b::Fk,x∈F:=by
 obtain ⟨⟨a',cap,hc,hl,h⟩,_⟩:=H.get i hf
 simp only [List.cons.injEq,Value.slice.injEq,and_true] at hc
 obtain ⟨rfl,rfl,rfl⟩:=hc
 have hk:iv.toNat < l.length:=by omega
 rcases h with ⟨rfl,_⟩ | ⟨b',off,F',vs,ha,hF,hb,hr,hcells⟩
 ·simp at hk
 ·simp only [Option.some.injEq,Addr.mk.injEq,and_true] at ha
  obtain ⟨rfl,rfl⟩:=ha
  obtain ⟨F1,Fk,F2,v1,cs,v2,hFF,hvs,hv1,hcs,hrep,_,_⟩:=reps_get hr _ hk
  refine ⟨cs,Fk,?_,by rw [getElem!_pos l iv.toNat hk];exact hrep,?_⟩
  ·rw [hvs] at hcells
   rw [← hv1]
   exact cells_mid hcells
  ·intro x hx
   rw [hF,hFF]
   rcases List.mem_cons.1 hx with rfl | hx
   ·exact List.mem_cons_self ..
   ·exact List.mem_cons_of_mem _ (List.mem_append_left _ (List.mem_append_right _ hx))
theorem St.XX (H:St W0 w ps Γ) (i:Nat) (hf:Γ[i]? =some (isF fr F (Sv (some ⟨b,o,none⟩) m c) l)) (iv:Int) (h0:0<=iv) (h1:iv < l.length):
 w.cell? ⟨b,o+iv.toNat * 1,none⟩=some (.int .i64 (l[iv.toNat]!)):=by
 obtain ⟨cs,Fk,h2,h3,_⟩:=H.elem i hf iv h0 h1
 obtain ⟨_,rfl⟩:Fk=[]/\cs=[.int .i64 (l[iv.toNat]!)]:=h3
 exact h2 0 _ rfl
theorem St.elemBool (H:St W0 w ps Γ) (i:Nat) {l:List Bool} (hf:Γ[i]? =some (isF fr F (Sv (some ⟨b,o,none⟩) m c) l)) (iv:Int) (h0:0<=iv) (h1:iv < l.length):
 w.cell? ⟨b,o+iv.toNat * 1,none⟩=some (Bv (l[iv.toNat]!)):=by
 obtain ⟨cs,Fk,h2,h3,_⟩:=H.elem i hf iv h0 h1
 obtain ⟨_,rfl⟩:Fk=[]/\cs=[Bv (l[iv.toNat]!)]:=h3
 exact h2 0 _ rfl
theorem St.sel (H:St W0 w ps Γ) (ps' :List Prv) (hps:ps'.Sublist ps) (Γ' :List Fact) (hΓ:∀ f∈Γ',f∈Γ):St W0 w ps' Γ' :=by
 have hpair:ps.Pairwise fun p q=>∀ b,p.blk=some b->q.blk≠some b:=by
  rw [List.pairwise_iff_getElem]
  intro i j hi hj hij b h1 h2
  have:=H.dist i j b (by simp [jq,hi,h1]) (by simp [jq,hj,h2])
  omega
 have hpair' :=hpair.sublist hps
 refine ⟨H.base,fun p hp=>H.has p (hps.subset hp),?_,fun f hf=>⟨(H.facts f (hΓ f hf)).1,fun b hb=>⟨((H.facts f (hΓ f hf)).2 b hb).1,fun i hi=>?_⟩⟩⟩
 ·intro i j b hi hj
  unfold jq at hi hj
  rw [List.pairwise_iff_getElem] at hpair'
  cases h1:ps'[i]? with
  | none=>simp [h1] at hi
  | some p=>
   cases h2:ps'[j]? with
   | none=>simp [h2] at hj
   | some q=>
    obtain ⟨hi',e1⟩:=List.getElem?_eq_some_iff.1 h1
    obtain ⟨hj',e2⟩:=List.getElem?_eq_some_iff.1 h2
    simp only [h1,Option.bind_some] at hi
    simp only [h2,Option.bind_some] at hj
    rcases Nat.lt_trichotomy i j with h | h | h
    ·exact absurd (by rw [e2];exact hj) (hpair' i j hi' hj' h b (by rw [e1];exact hi))
    ·exact h
    ·exact absurd (by rw [e1];exact hi) (hpair' j i hj' hi' h b (by rw [e2];exact hj))
 ·unfold jq at hi
  cases h1:ps'[i]? with
  | none=>simp [h1] at hi
  | some p=>
   simp only [h1,Option.bind_some] at hi
   obtain ⟨j,hj⟩:=List.getElem?_of_mem (hps.subset (List.mem_of_getElem? h1))
   exact ((H.facts f (hΓ f hf)).2 b hb).2 j (by simp [jq,hj,hi])
end
section
variable {W0 w w' : World} {ps : List Prv} {Γ : List Fact}
theorem OwnNew.isNew {α:Type} [qK α] {l:List α} (h:OwnNew w0 w e v l):IsNew w0 w v l:=by
 obtain ⟨xs,F,ho,hr,hF,hd,hnd,hfr⟩:=h
 obtain ⟨hl,ho'⟩:=ho
 rcases ho' with ⟨rfl,h0⟩ | ⟨g,cap,cur,rfl,hb,hg,hnc,hcm,hcs,htake⟩
 ·have:l=[]:=List.eq_nil_of_length_eq_zero h0
  subst this
  exact ⟨none,0,[],rfl,⟨none,0,rfl,by simp,Or.inl ⟨rfl,rfl⟩⟩,by simp,by simp,ve.nil _⟩
 ·refine ⟨_,cap,(if l=[] then [] else g::F),rfl,⟨some ⟨g,0,none⟩,cap,rfl,by unfold maxLen at hcm;omega,?_⟩,?_,?_,?_⟩
  ·by_cases h0:l=[]
   ·exact Or.inl ⟨h0,by simp [h0]⟩
   ·refine Or.inr ⟨g,0,F,xs,rfl,by simp [h0],(Array.getElem?_eq_some_iff.1 hg).1,hr,?_⟩
    intro j u hj
    rw [Nat.zero_add,World.cell?,hg]
    rw [← htake,List.getElem?_take] at hj
    split at hj
    ·simpa using hj
    ·cases hj
  ·intro b hbm
   split at hbm
   ·simp at hbm
   ·rcases List.mem_cons.1 hbm with rfl | hbm
    ·exact hb
    ·exact hF b hbm
  ·split
   ·simp
   ·exact List.nodup_cons.2 ⟨fun hg' =>hd g hg' rfl,hnd⟩
  ·split
   ·exact ve.nil _
   ·intro b hb'
    rcases List.mem_cons.1 hb' with rfl | hb'
    ·exact ⟨_,_,hg⟩
    ·exact hfr b hb'
theorem St.add_is {α:Type} [qK α] (H:St W0 w ps Γ) (e:Ext w w') {l:List α} (h:IsNew w w' v l):
 ∃ a c F,v=Sv a l.length c/\((∀ b∈F,w.heap.size<=b)/\F.Nodup)/\St W0 w' ps (isF true F (Sv a l.length c) l::Γ):=by
 obtain ⟨a,c,F,rfl,hr,hF,hd,hfr⟩:=h
 exact ⟨a,c,F,rfl,⟨hF,hd⟩,H.add_new e hr hF hfr⟩
theorem ownsRow_up {B':Nat} (h:w.ownsRow B e sz v n xs) (hb:B' <=B):w.ownsRow B' e sz v n xs:=by
 refine ⟨h.1,?_⟩
 rcases h.2 with h | ⟨g,cap,cur,h1,h2,r⟩
 ·exact Or.inl h
 ·exact Or.inr ⟨g,cap,cur,h1,Nat.le_trans hb h2,r⟩
theorem St.zt (H:St W0 w ps Γ) (e:Ext w w') (h:OwnNew w w' t v l):
 St W0 w' (.row v t 1 l.length (l.map (Value.int .i64))::ps) Γ:=by
 obtain ⟨xs,F,ho,hr,hF,_⟩:=h
 obtain ⟨_,rfl⟩:=reps_ints hr
 exact H.own e (.row v t _ l.length _) (ownsRow_up ho H.base.size) fun b hb=>(World.ownsRow.lt ho b hb).1
end
def AllOf {α:Type} (p:α->Prop):List α->Prop
 | []=>True
 | x::l=>p x/\AllOf p l
theorem all_of {α:Type} {p:α->Prop}:∀ {l:List α},AllOf p l->∀ x∈l,p x
 | [],_,x,h=>by cases h
 | y::l,h,x,hx=>by
  rcases List.mem_cons.1 hx with rfl | hx
  ·exact h.1
  ·exact all_of h.2 x hx
theorem nodup_snoc (h:F.Nodup) (k:G.Nodup) (hF:∀ b∈F,b < n) (hG:∀ b∈G,n<=b):(F++G).Nodup:=
 List.nodup_append.2 ⟨h,k,fun a ha b hb e=>by have:=hF a ha;have:=hG b hb;omega⟩
theorem St.repsLt {α:Type} [qK α] {ps:List Prv} {Γ:List Fact} (H:St W0 w ps Γ) (i:Nat) {l:List α} (hf:Γ[i]? =some (xN fr F xs l)):∀ b∈F,b < w.heap.size:=
 fun b hb=>((H.facts _ (List.mem_of_getElem? hf)).2 b hb).1
theorem fresh_snoc (h:∀ b∈F,n<=b) (k:∀ b∈G,n<=b):∀ b∈F++G,n<=b:=fun b hb=>by
 rcases List.mem_append.1 hb with h' | h'
 ·exact h b h'
 ·exact k b h'
section
variable {W0 w : World} {ps : List Prv} {Γ : List Fact}
theorem St.vV {α:Type} [qK α] (H:St W0 w ps Γ):St W0 w ps (xN true [] [] ([]:List α)::Γ):=H.add _ ⟨⟨rfl,rfl⟩,fun _=>ve.nil _⟩ (by simp [xN])
theorem St.yC {α:Type} [qK α] (H:St W0 w ps Γ) (i:Nat) {l:List α} (hf:Γ[i]? =some (xN fr F xs l)) (j:Nat) {x:α} (hg:Γ[j]? =some (isF fr G v x)):
 St W0 w ps (xN fr (F++G) (xs++[v]) (l++[x])::Γ):=by
 refine H.add _ ⟨jJ (H.get i hf).1 (reps_one (H.get j hg).1),fun e=>((H.get i hf).2 e).app ((H.get j hg).2 e)⟩ fun b hb=>?_
 rcases List.mem_append.1 hb with h | h
 ·exact (H.facts _ (List.mem_of_getElem? hf)).2 b h
 ·exact (H.facts _ (List.mem_of_getElem? hg)).2 b h
end
theorem ownNew_nil {α:Type} [qK α] (w0 w:World) (e:TypeId):OwnNew w0 w e (Sv none 0 0) ([]:List α):=
 ⟨[],[],World.ownsRow_nil _ _ _ _,⟨rfl,rfl⟩,by simp,by simp,by simp,ve.nil _⟩
theorem St.nilOf {α:Type} [qK α] {ps:List Prv} {Γ:List Fact} (H:St W0 w ps Γ) (i:Nat) {l:List α} (hf:Γ[i]? =some (isF fr F (Sv a m c) l)) (ha:a.isNone=true):l=[]:=by
 obtain ⟨⟨a',cap,hc,_,h⟩,_⟩:=H.get i hf
 simp only [List.cons.injEq,Value.slice.injEq,and_true] at hc
 obtain ⟨rfl,rfl,rfl⟩:=hc
 rcases h with ⟨rfl,_⟩ | ⟨b,off,F',vs,rfl,_⟩
 ·rfl
 ·simp at ha
section
variable {P : Program} {n : Nat} {ρ : Env} {W0 w : World} {ps : List Prv} {Γ : List Fact}
theorem retC {fn:Func} {R:Ending->World->Prop} {t:Nat} (H:St W0 w ps Γ) (i:Nat) (hp:ps[i]? =some (.box b cs tb)) (hr:fn.results=#[.cell t T])
 (ha:∀ w,(isAgg T).run P w=.ok true w) (hs:∀ w,(Go.sizeOf T).run P w=.ok cs.length w) (hv:ev n ρ (.tmp t)=.pointer (some ⟨b,0,none⟩)) (h:R (.returned (.agg cs.toArray)) w):bodyPost P fn R .ret (mk n ρ) w:=by
 have hl:=run_loadCells_list (P:=P) w ⟨b,0,none⟩ cs (fun j v hv=>by rw [Addr.add_mid];exact H.cells i hp j v hv)
 have e:=congrFun (QZ n ρ) (.tmp t)
 simp only [Act.eval,Array.getD_eq_getD_getElem?] at e
 rw [hv] at e
 exact bodyPost_ret (v:=.agg cs.toArray) (by simp [results,hr,e,asAddr,loadVar,ha,hs,hl]) rfl h
theorem retC2 {fn:Func} {R:Ending->World->Prop} {t u:Nat} (H:St W0 w ps Γ) (i:Nat) (hp:ps[i]? =some (.box b cs tb)) (x:Value) (hr:fn.results=#[.cell t T,.tmp u])
 (ha:∀ w,(isAgg T).run P w=.ok true w) (hs:∀ w,(Go.sizeOf T).run P w=.ok cs.length w) (hv:ev n ρ (.tmp t)=.pointer (some ⟨b,0,none⟩)) (hx:ev n ρ (.tmp u)=x)
 (h:R (.returned (.tuple #[.agg cs.toArray,x])) w):bodyPost P fn R .ret (mk n ρ) w:=by
 have hl:=run_loadCells_list (P:=P) w ⟨b,0,none⟩ cs (fun j v hv=>by rw [Addr.add_mid];exact H.cells i hp j v hv)
 have e:=congrFun (QZ n ρ) (.tmp t)
 have e' :=congrFun (QZ n ρ) (.tmp u)
 simp only [Act.eval,Array.getD_eq_getD_getElem?] at e e'
 rw [hv] at e
 rw [hx] at e'
 exact bodyPost_ret (v:=.tuple #[.agg cs.toArray,x]) (by simp [results,hr,e,e',asAddr,loadVar,ha,hs,hl]) rfl h
end
section
variable {P : Program} {Q : Exit -> Act -> World -> Prop} {n : Nat} {ρ : Env} {w : World} {S : World -> Prop} {l : List Oper} {fuel : Nat} {listed : Array Bool}
@[irreducible] def RW [Dfr] (P : Program) (l : List Oper) (Q : Exit -> Act -> World -> Prop) (S : World -> Prop) (n fuel : Nat) (listed : Array Bool) (ρ : Env) (w : World) : Prop :=
 wpAnyH P .any l.toArray Q S fuel listed (mk n ρ) w
theorem c_draw [Dfr] (S:World->Prop) (hm:P.follows .mixedOrders=true) (hS:S w.drew) (h:RW P l Q S n l.toArray.size (Array.replicate l.toArray.size false) ρ w.drew):
 (Code.region id l.toArray true).wp P Q (mk n ρ) w:=
 wp_region_held_drew hm hS fun _=>by unfold RW at h;exact h
theorem r_take [Dfr] {op:Op} {af:Array Edge} (i:Nat) (v:Value) (hi:l.toArray[i]? =some ⟨some d,op,ty,pos,af,none⟩) (hsel:Region.noSelect l.toArray=true)
 (hfree:Region.free .any l.toArray listed i=true) (hready:(Region.ready .any l.toArray listed).contains i=true) (hQ:∀ c a w,Q (.panic c) (a.put (some d) v) w->Q (.panic c) a w)
 (hy:∀ w',S w' ->(execOp (ev n ρ) ⟨some d,op,ty,pos,af,none⟩).run P w' =.ok (.value v) w') (hS:S w) (h:RW P l Q S n fuel (listed.setIfInBounds i true) (upd ρ d v) w):
 RW P l Q S n (fuel+1) listed ρ w:=by
 unfold RW at h ⊢
 refine wpAnyH_take hi hsel hfree hready hQ (Or.inl ⟨rfl,fun w' hw' =>by rw [QZ];exact hy w' hw'⟩) hS ?_
 show wpAnyH P .any l.toArray Q S fuel _ ((mk n ρ).put (some d) v) w
 rw [mk_put]
 exact h
theorem r_takeG [Dfr] {e:Nat} {b:Bool} {op:Op} {af:Array Edge} (i:Nat) (v:Value) (hi:l.toArray[i]? =some ⟨some d,op,ty,pos,af,some (j,b)⟩) (hsel:Region.noSelect l.toArray=true)
 (hfree:Region.free .any l.toArray listed i=true) (hready:(Region.ready .any l.toArray listed).contains i=true) (hQ:∀ c a w,Q (.panic c) (a.put (some d) v) w->Q (.panic c) a w)
 (hd:dstAt l j=some e) (hv:ev n ρ (.tmp e)=Bv b)
 (hy:∀ w',S w' ->(execOp (ev n ρ) ⟨some d,op,ty,pos,af,some (j,b)⟩).run P w' =.ok (.value v) w') (hS:S w) (h:RW P l Q S n fuel (listed.setIfInBounds i true) (upd ρ d v) w):
 RW P l Q S n (fuel+1) listed ρ w:=by
 unfold RW at h ⊢
 refine wpAnyH_take hi hsel hfree hready hQ (Or.inl ⟨by simp [Region.wanted,yielded_of ((dstAt_eq l j).trans hd) hv],fun w' hw' =>by rw [QZ];exact hy w' hw'⟩) hS ?_
 show wpAnyH P .any l.toArray Q S fuel _ ((mk n ρ).put (some d) v) w
 rw [mk_put]
 exact h
theorem xA [Dfr] (hr:Region.ready .any l.toArray listed=[]) (h:Q .normal (mk n ρ) w):RW P l Q S n fuel listed ρ w:=by
 unfold RW
 exact wpAnyH_done hr h fuel
theorem jb [Dfr] (rs:yLN) (hr:Region.ready .any l.toArray listed=rs) (hne:rs≠[]) (h:AllReadyH P .any l.toArray Q S fuel listed (mk n ρ) w rs):RW P l Q S n (fuel+1) listed ρ w:=by
 unfold RW
 exact wpAnyH_ready hr hne h
theorem jM [Dfr] {op:Op} {af:Array Edge} (hi:l.toArray[i]? =some ⟨dst,op,ty,pos,af,none⟩)
 (h:OW P Q ⟨dst,op,ty,pos,af,none⟩ n ρ w fun ρ w=>S w/\RW P l Q S n fuel (listed.setIfInBounds i true) ρ w) (hs:AllReadyH P .any l.toArray Q S fuel listed (mk n ρ) w rs):
 AllReadyH P .any l.toArray Q S fuel listed (mk n ρ) w (i::rs):=by
 refine AllReadyH.cons hi (fun K' hK=>?_) hs
 unfold OW at h
 rw [if_pos (by rfl)]
 refine h K' fun ρ' w' ⟨h1,h2⟩=>hK.out _ _ h1 fun _=>?_
 unfold RW at h2
 exact h2
theorem XI [Dfr] {op:Op} {af:Array Edge} {e:Nat} {b:Bool} (hi:l.toArray[i]? =some ⟨dst,op,ty,pos,af,some (j,b)⟩)
 (hd:dstAt l j=some e) (hv:ev n ρ (.tmp e)=Bv b)
 (h:OW P Q ⟨dst,op,ty,pos,af,none⟩ n ρ w fun ρ w=>S w/\RW P l Q S n fuel (listed.setIfInBounds i true) ρ w) (hs:AllReadyH P .any l.toArray Q S fuel listed (mk n ρ) w rs):
 AllReadyH P .any l.toArray Q S fuel listed (mk n ρ) w (i::rs):=by
 refine AllReadyH.cons hi (fun K' hK=>?_) hs
 unfold OW at h
 rw [if_pos (by simp [Region.wanted,yielded_of ((dstAt_eq l j).trans hd) hv])]
 have:=h K' fun ρ' w' ⟨h1,h2⟩=>hK.out _ _ h1 fun _=>(by unfold RW at h2;exact h2)
 exact this
section
variable {d : Nat} {ty : TypeId} {pos : String} {af : Array Edge} {gd : Option (Nat × Bool)}
theorem y_pure {op:Op} (h:pv (ev n ρ) op=some v):∀ w',S w' ->(execOp (ev n ρ) ⟨some d,op,ty,pos,af,gd⟩).run P w' =.ok (.value v) w' :=
 fun w' _=>pv_run (by exact h) w'
theorem y_add (a b:Int) (hx:ev n ρ x=.int .i64 a) (hy:ev n ρ y=.int .i64 b) (h: -9223372036854775808<=a+b/\a+b<=9223372036854775807):
 ∀ w',S w' ->(execOp (ev n ρ) ⟨some d,.binOp .add t x y u,ty,pos,af,gd⟩).run P w' =.ok (.value (.int .i64 (a+b))) w' :=
 fun w' _=>by simp [execOp,hx,hy,eqGuard,binOp,Op.intArith,wrap_in h]
theorem y_sub (a b:Int) (hx:ev n ρ x=.int .i64 a) (hy:ev n ρ y=.int .i64 b) (h: -9223372036854775808<=a - b/\a - b<=9223372036854775807):
 ∀ w',S w' ->(execOp (ev n ρ) ⟨some d,.binOp .sub t x y u,ty,pos,af,gd⟩).run P w' =.ok (.value (.int .i64 (a - b))) w' :=
 fun w' _=>by simp [execOp,hx,hy,eqGuard,binOp,Op.intArith,wrap_in h]
theorem y_mul (a b:Int) (hx:ev n ρ x=.int .i64 a) (hy:ev n ρ y=.int .i64 b) (h: -9223372036854775808<=a * b/\a * b<=9223372036854775807):
 ∀ w',S w' ->(execOp (ev n ρ) ⟨some d,.binOp .mul t x y u,ty,pos,af,gd⟩).run P w' =.ok (.value (.int .i64 (a * b))) w' :=
 fun w' _=>by simp [execOp,hx,hy,eqGuard,binOp,Op.intArith,wrap_in h]
theorem y_neB (hu:P.underlying t=some .bool) (a b:Bool) (hx:ev n ρ x=Bv a) (hy:ev n ρ y=Bv b):
 ∀ w',S w' ->(execOp (ev n ρ) ⟨some d,.binOp .neq t x y u,ty,pos,af,gd⟩).run P w' =.ok (.value (Bv (a != b))) w' :=
 fun w' _=>by simp [execOp,hx,hy,eqGuard,binOp,run_eqB hu,bne]
theorem y_len (hu:P.underlying t=some (.slice e)) (a:yOA) (m c:Nat) (hx:ev n ρ x=Sv a m c):
 ∀ w',S w' ->(execOp (ev n ρ) ⟨some d,.call ⟨.builtin .len,#[x],#[t]⟩,ty,pos,af,gd⟩).run P w' =.ok (.value (.int .i64 m)) w' :=
 fun w' _=>by simp [execOp,resolve,invoke,builtin,Builtin.len_,hx,run_underlying hu,goInt]
theorem y_field {fs:Array Field} {f:Field} (b off j:Nat) (hu:P.underlying t=some (.struct fs)) (hf:fs[i]? =some f) (hj:f.offset=j)
 (hs:∀ w,(Go.sizeOf f.type).run P w=.ok (m+1) w) (hx:ev n ρ x=.pointer (some ⟨b,off,none⟩)):
 ∀ w',S w' ->(execOp (ev n ρ) ⟨some d,.fieldAddr t x i,ty,pos,af,gd⟩).run P w' =.ok (.value (.pointer (some ⟨b,off+j,none⟩))) w' :=
 fun w' _=>by subst hj;simp [execOp,hx,Instr.fieldAt,Instr.sureAddr,fieldPlace,run_underlying hu,hf,hs,Addr.add_mid]
theorem y_idxAt (b off m c:Nat) (iv:Int) (hu:P.underlying t=some (.slice e)) (he:TI P e z sz by')
 (hx:ev n ρ x=Sv (some ⟨b,off,none⟩) m c) (hy:ev n ρ y=.int .i64 iv) (h0:0<=iv) (h1:iv < m):
 ∀ w',S w' ->(execOp (ev n ρ) ⟨some d,.indexAddr t x y,ty,pos,af,gd⟩).run P w' =.ok (.value (.pointer (some ⟨b,off+iv.toNat * sz,none⟩))) w' :=
 fun w' _=>by simp [execOp,hx,hy,Instr.indexAt,asIntOf,run_underlying hu,he.sizeOf,h0,h1,Addr.add_mid]
theorem y_load1 (ha:∀ w,(isAgg t).run P w=.ok false w) (hx:ev n ρ x=.pointer (some ⟨b,off,none⟩))
 (hc:∀ w',S w' ->w'.cell? ⟨b,off,none⟩=some v):∀ w',S w' ->(execOp (ev n ρ) ⟨some d,.load t x,ty,pos,af,gd⟩).run P w' =.ok (.value v) w' :=
 fun w' h=>by simp [execOp,hx,run_load1 ha (hc w' h)]
theorem yl (ha:∀ w,(isAgg t).run P w=.ok true w) (hs:∀ w,(Go.sizeOf t).run P w=.ok cs.length w)
 (hx:ev n ρ x=.pointer (some ⟨b,off,none⟩)) (hc:∀ w',S w' ->vg w' b off cs):∀ w',S w' ->(execOp (ev n ρ) ⟨some d,.load t x,ty,pos,af,gd⟩).run P w' =.ok (.value (.agg cs.toArray)) w' :=
 fun w' h=>by simp [execOp,hx,run_loadN ha hs (hc w' h)]
end
theorem jd [Dfr]:AllReadyH P .any l.toArray Q S fuel listed (mk n ρ) w []:=AllReadyH.nil
end
end
variable {f g:Fact} {ps ps':List Prv} {Γ Γ':List Fact} {ρ:Env}
section
def inR (n lo hi:Int):Bool:=decide (lo<=n) && decide (n<=hi)
theorem inR_no {n:Int} (h:¬ lo<=n):inR n lo hi=false:=by simp [inR,h]
theorem inR_yes {n:Int} (h:lo<=n):inR n lo hi=decide (n<=hi):=by simp [inR,h]
theorem jL {n:Int}:inR n lo hi=true<->lo<=n/\n<=hi:=by simp [inR]
theorem yu {n:Int} (h:inR n lo hi=false):¬ (lo<=n/\n<=hi):=fun h' =>by rw [jL.2 h'] at h;cases h
def withinTo (l m:yLI) (j:Nat):Prop:=∀ k,k < j->l[k]! <=m[k]!
theorem withinTo_zero (l m:yLI):withinTo l m 0:=fun k hk=>by omega
theorem withinTo_succ {m:yLI} (h:withinTo l m k) (h1:l[k]! <=m[k]!):withinTo l m (k+1):=fun j hj=>by
 by_cases hjk:j=k
 ·subst hjk;exact h1
 ·exact h j qf
open Classical in
noncomputable def within (l m:yLI):Bool:=decide (withinTo l m l.length)
theorem within_iff {m:yLI}:within l m=true<->withinTo l m l.length:=by simp [within]
theorem within_no {m:yLI} (h:l[k]! > m[k]!) (hk:k < l.length):within l m=false:=by
 cases hw:within l m with
 | false=>rfl
 | true=>have:=within_iff.1 hw k hk;omega
theorem within_yes {m:yLI} (h:withinTo l m k) (hk:l.length<=k):within l m=true:=within_iff.2 fun j hj=>h j qf
theorem eqTo_succ {α:Type} [Inhabited α] {l m:List α} (hl:l.length=m.length) (hk:k < l.length) (h:l.take k=m.take k) (h1:l[k]! =m[k]!):l.take (k+1)=m.take (k+1):=by
 rw [List.take_succ_eq_append_getElem hk,List.take_succ_eq_append_getElem qf,h]
 rw [getElem!_pos l k hk,getElem!_pos m k qf] at h1
 rw [h1]
theorem QE {α:Type} {l m:List α} (hl:l.length=m.length) (hk:l.length<=k) (h:l.take k=m.take k):l=m:=by
 rwa [List.take_of_length_le hk,List.take_of_length_le qf] at h
theorem yV {α:Type} [Inhabited α] {l m:List α} (h:l[k]! ≠m[k]!):l≠m:=fun e=>h (by rw [e])
theorem take_snoc {α:Type} [Inhabited α] {l:List α} (hk:k < l.length):l.take k++[l[k]!]=l.take (k+1):=by
 rw [List.take_succ_eq_append_getElem hk,getElem!_pos l k hk]
theorem map_take_snoc {α β:Type} [Inhabited α] {l:List α} (f:α->β) (hk:k < l.length):(l.take k).map f++[f (l[k]!)]=(l.take (k+1)).map f:=by
 rw [← take_snoc hk];simp
def Small (l:yLI):Prop:=l.length<=1000000/\∀ k,k < l.length-> -1000000000<=l[k]! /\l[k]! <=1000000000
def Mid (l:yLI):Prop:=l.length<=1000000/\∀ k,k < l.length-> -1000000000000000<=l[k]! /\l[k]! <=1000000000000000
theorem Small.mid (h:Small l):Mid l:=⟨h.1,fun k hk=>by have:=h.2 k hk;omega⟩
def sumTo (l:yLI):Nat->Int
 | 0=>0
 | k+1=>sumTo l k+l[k]!
def Xh (l:yLI):Int:=sumTo l l.length
theorem sumTo_bd {l:yLI} (h:Small l):∀ k,k<=l.length-> -(1000000000 * (k:Int))<=sumTo l k/\sumTo l k<=1000000000 * (k:Int)
 | 0,_=>by simp [sumTo]
 | k+1,hk=>by
  have h1:=sumTo_bd h k qf
  have h2:=h.2 k qf
  simp only [sumTo]
  omega
theorem sumTo_small (h:Small l) (hk:k<=l.length): -1000000000000000<=sumTo l k/\sumTo l k<=1000000000000000:=by
 have h1:=sumTo_bd h k hk
 have h2:=h.1
 omega
def firstIdx (g:Nat->Bool) (n:Nat):Int:=match (List.range n).find? g with | some k=>k | none=> -1
theorem firstIdx_some {g:Nat->Bool} (hk:k < n) (h:∀ j,j < k->g j=false) (h1:g k=true):firstIdx g n=k:=by
 have:(List.range n).find? g=some k:=by
  rw [List.find?_range_eq_some]
  exact ⟨h1,by simpa using hk,fun j hj=>by simp [h j hj]⟩
 simp [firstIdx,this]
theorem firstIdx_none {g:Nat->Bool} (h:∀ j,j < n->g j=false):firstIdx g n= -1:=by
 have:(List.range n).find? g=none:=by
  rw [List.find?_range_eq_none]
  exact fun j hj=>by simp [h j hj]
 simp [firstIdx,this]
def noneTo (g:Nat->Bool) (k:Nat):Prop:=∀ j,j < k->g j=false
theorem noneTo_succ {g:Nat->Bool} (h:noneTo g k) (h1:g k=false):noneTo g (k+1):=fun j hj=>by
 by_cases hjk:j=k
 ·subst hjk;exact h1
 ·exact h j qf
open Classical in
noncomputable def anyTo (g:Nat->Bool) (n:Nat):Bool:=decide (∃ k,k < n/\g k=true)
theorem anyTo_first (g:Nat->Bool) (n:Nat):decide (firstIdx g n>=0)=anyTo g n:=by
 by_cases h:∃ k,k < n/\g k=true
 ·have hs:((List.range n).find? g).isSome:=by
   rw [List.find?_isSome]
   obtain ⟨k,h1,h2⟩:=h
   exact ⟨k,by simpa using h1,h2⟩
  obtain ⟨k,hk⟩:=Option.isSome_iff_exists.1 hs
  simp [firstIdx,hk,anyTo,h]
 ·have:(List.range n).find? g=none:=by
   rw [List.find?_range_eq_none]
   intro j hj
   cases hg:g j with
   | false=>rfl
   | true=>exact absurd ⟨j,hj,hg⟩ h
  simp [firstIdx,this,anyTo,h]
theorem anyTo_iff {g:Nat->Bool}:anyTo g n=true<->∃ k,k < n/\g k=true:=by simp [anyTo]
theorem anyTo_false {g:Nat->Bool}:anyTo g n=false<->noneTo g n:=by
 rw [← Bool.not_eq_true,anyTo_iff]
 constructor
 ·intro h j hj
  cases hg:g j with
  | false=>rfl
  | true=>exact absurd ⟨j,hj,hg⟩ h
 ·rintro h ⟨k,h1,h2⟩
  rw [h k h1] at h2;cases h2
def isCnt (n:Int):Bool:=inR n 0 1000
def tabTo (g:Nat->Int) (k:Nat):yLI:=(List.range k).map g
theorem tabTo_succ (g:Nat->Int) (k:Nat):tabTo g (k+1)=tabTo g k++[g k]:=by simp [tabTo,List.range_succ]
@[simp] theorem tabTo_len (g : Nat -> Int) (k : Nat) : (tabTo g k).length = k := by simp [tabTo]
def SmallT (m:yLI) (t:Int):Prop:=∀ k,k < m.length-> -1000000000000000<=t * m[k]! /\t * m[k]! <=1000000000000000
def plusTo (l m:yLI) (t:Int) (k:Nat):yLI:=(List.range k).map fun j=>l[j]! +t * m[j]!
def jP (l m:yLI) (t:Int):yLI:=plusTo l m t l.length
theorem plusTo_succ (l m:yLI) (t:Int) (k:Nat):plusTo l m t (k+1)=plusTo l m t k++[l[k]! +t * m[k]!]:=by simp [plusTo,List.range_succ]
theorem plusL_len (l m:yLI) (t:Int):(jP l m t).length=l.length:=by simp [jP,plusTo]
theorem map_snoc {α:Type} {xs:yLI} {x:Int} {ys:yLI} (h:ys=xs++[x]) (f:Int->α):xs.map f++[f x]=ys.map f:=by rw [h];simp
noncomputable def dec (p:Prop):Bool:=@decide p (Classical.propDecidable p)
theorem jS (h:p):dec p=true:=by simp [dec,h]
theorem xh (h:¬ p):dec p=false:=by simp [dec,h]
theorem yU (h:dec p=true):p:=by simpa [dec] using h
theorem zX (h:dec p=false):¬ p:=by simpa [dec] using h
theorem dec_eq {b:Bool} (h:b=true<->p):b=dec p:=by
 cases b
 ·exact (xh fun hp=>by simp at h;exact h hp).symm
 ·exact (jS (h.1 rfl)).symm
theorem dec_congr {q:Prop} (h:p<->q):dec p=dec q:=by rw [show p=q from propext h]
def Counts (l:yLI) (k:Nat):Prop:=∀ j,j < k->0<=l[j]! /\l[j]! <=1000
theorem Counts.zero (l:yLI):Counts l 0:=fun j hj=>by omega
theorem Counts.succ (h:Counts l k) (h1:0<=l[k]! /\l[k]! <=1000):Counts l (k+1):=fun j hj=>by
 by_cases e:j=k
 ·subst e;exact h1
 ·exact h j qf
def BagAny (l:yLI):Prop:=Counts l l.length/\1<=l.length/\l.length<=8
def vk (n:Int) (l:yLI):Prop:=BagAny l/\(l.length:Int)=n
theorem yX (h:BagAny l):Small l:=⟨by have:=h.2.2;omega,fun k hk=>by have:=h.1 k hk;omega⟩
theorem vP {n:Int} (h:vk n l):Small l:=yX h.1
theorem isCnt_iff {n:Int}:isCnt n=true<->0<=n/\n<=1000:=jL
theorem anyCnt_iff:(!anyTo (fun k=> !isCnt (l[k]!)) l.length)=true<->Counts l l.length:=by
 rw [Bool.not_eq_true',anyTo_false]
 constructor
 ·intro h j hj
  have:=h j hj
  simp only [Bool.not_eq_false'] at this
  exact isCnt_iff.1 this
 ·intro h j hj
  simp only [Bool.not_eq_false']
  exact isCnt_iff.2 (h j hj)
def szR (n:Nat) (left:Int):Int:=if (n:Int)<=left then left - n else -1
theorem szR_cases (n:Nat) (left:Int):((n:Int)<=left/\szR n left=left - n)\/(left < n/\szR n left= -1):=by
 unfold szR;split <;> omega
class Tot (α:Type) where
 tot:α->Nat
open Go.Proofs.YtjfmcaiombkobaaGreat.Tot (tot)
instance:Tot Int:=⟨fun _=>0⟩
instance:Tot Bool:=⟨fun _=>0⟩
section
variable {α : Type} [Tot α] [Inhabited α]
def totTo (l:List α):Nat->Nat
 | 0=>0
 | k+1=>totTo l k+tot (l[k]!)
instance:Tot (List α):=⟨fun l=>l.length+totTo l l.length⟩
theorem totTo_mono {l:List α}:∀ {k m:Nat},k<=m->totTo l k<=totTo l m
  | k, 0, h => by obtain rfl : k = 0 := by omega
                  exact Nat.le_refl _
  | k,m+1,h=>by
    by_cases e:k=m+1
    · subst e;exact Nat.le_refl _
    · exact Nat.le_trans (totTo_mono (by omega:k<=m)) (Nat.le_add_right _ _)
theorem tot_list (l:List α):tot l=l.length+totTo l l.length:=rfl
theorem tot_get {l:List α} (h:k < l.length):l.length+totTo l k+tot (l[k]!)<=tot l:=by
 have h1:totTo l (k+1)<=totTo l l.length:=totTo_mono h
 have h2:totTo l (k+1)=totTo l k+tot (l[k]!):=rfl
 rw [tot_list];omega
theorem totTo_succ (l:List α) (k:Nat):totTo l (k+1)=totTo l k+tot (l[k]!):=rfl
theorem len_tot (l:List α):l.length<=tot l:=Nat.le_add_right _ _
end
theorem tot_flat {α:Type} [Tot α] [Inhabited α] (h:∀ x:α,tot x=0) (l:List α):tot l=l.length:=by
 have:∀ k,totTo l k=0:=fun k=>by induction k with | zero=>rfl | succ k ih=>rw [totTo_succ,ih,h]
 rw [tot_list,this];rfl
theorem tot_ints (l:yLI):tot l=l.length:=by
 have:∀ k,totTo l k=0:=fun k=>by induction k with | zero=>rfl | succ k ih=>rw [totTo_succ,ih];rfl
 rw [tot_list,this];rfl
end
open Go.Proofs.YtjfmcaiombkobaaGreat.Tot (tot)
section
structure Chg (F:yLN) (w w' :World):Prop where
 os:w'.os=w.os
 tape:w'.tape=w.tape
 output:w'.output=w.output
 size:w.heap.size<=w'.heap.size
 block:∀ k,k < w.heap.size->k∉F->w'.heap[k]? =w.heap[k]?
theorem Chg.refl (F:yLN) (w:World):Chg F w w:=⟨rfl,rfl,rfl,Nat.le_refl _,fun _ _ _=>rfl⟩
theorem Chg.mono (h:Chg F w w') (hs:∀ b∈F,b∈G):Chg G w w' :=⟨h.os,h.tape,h.output,h.size,fun k hk hn=>h.block k hk fun hb=>hn (hs k hb)⟩
theorem Chg.trans {F:yLN} {a b c:World} (h:Chg F a b) (k:Chg F b c):Chg F a c:=
 ⟨k.os.trans h.os,k.tape.trans h.tape,k.output.trans h.output,Nat.le_trans h.size k.size,fun i hi hn=>(k.block i (Nat.lt_of_lt_of_le hi h.size) hn).trans (h.block i hi hn)⟩
theorem Chg.ofExt (h:Ext w w'):Chg F w w' :=⟨h.os,h.tape,h.output,h.size,fun k hk _=>h.block k hk⟩
theorem Chg.toExt (h:Chg F w w') (e:Ext W w) (hF:∀ b∈F,W.heap.size<=b):Ext W w' :=
 ⟨h.os.trans e.os,h.tape.trans e.tape,h.output.trans e.output,Nat.le_trans e.size h.size,fun k hk=>
  (h.block k (Nat.lt_of_lt_of_le hk e.size) fun hb=>absurd (hF k hb) qf).trans (e.block k hk)⟩
theorem Chg.rebase (h:Ext W w) (e:Chg F w w'):∃ W',Chg F W W' /\W'.heap.size=W.heap.size/\Ext W' w' :=by
 refine ⟨{ W with heap:=W.heap.mapIdx fun i o=>if i∈F then (w'.heap[i]?).getD o else o },⟨rfl,rfl,rfl,by simp,fun k hk hn=>?_⟩,by simp,⟨e.os.trans h.os,e.tape.trans h.tape,e.output.trans h.output,?_,fun k hk=>?_⟩⟩
 ·simp [hk,hn]
 ·simpa using Nat.le_trans h.size e.size
 ·have hk' :k < W.heap.size:=by simpa using hk
  by_cases hF:k∈F
  ·have h2:k < w'.heap.size:=Nat.lt_of_lt_of_le hk' (Nat.le_trans h.size e.size)
   simp [hk',hF,h2]
  ·have h1:=(e.block k (Nat.lt_of_lt_of_le hk' h.size) hF).trans (h.block k hk')
   rw [h1]
   simp [hk',hF]
section
variable {W w w' : World} {ps : List Prv} {Γ : List Fact}
theorem St.chg (H:St W w ps Γ) (e:Chg F w w') (hF:∀ b∈F,∀ i,jq ps i≠some b) (Δ:List Fact) (hΔ:∀ f∈Δ,f∈Γ/\∀ b∈f.F,b∉F):
 ∃ W',Chg F W W' /\St W' w' ps Δ:=by
 obtain ⟨W',h1,h2,h3⟩:=Chg.rebase H.base e
 refine ⟨W',h1,h3,fun p hp=>?_,H.dist,fun f hf=>?_⟩
 ·rw [h2]
  refine (H.has p hp).stay fun b hb=>e.block b ((H.has p hp).lt hb).2 fun hbF=>?_
  obtain ⟨i,hi⟩:=List.getElem?_of_mem hp
  exact hF b hbF i (by simp [jq,hi,hb])
 ·obtain ⟨hΓ,hd⟩:=hΔ f hf
  exact ⟨f.stay w w' (H.facts f hΓ).1 fun b hb=>e.block b ((H.facts f hΓ).2 b hb).1 (hd b hb),
   fun b hb=>⟨Nat.lt_of_lt_of_le ((H.facts f hΓ).2 b hb).1 e.size,((H.facts f hΓ).2 b hb).2⟩⟩
theorem St.chgNew (H:St W w ps Γ) (e:Chg F w w') (hF:∀ b∈F,∀ i,jq ps i≠some b) (hN:∀ b∈F,W.heap.size<=b) (Δ:List Fact) (hΔ:∀ f∈Δ,f∈Γ/\∀ b∈f.F,b∉F):
 St W w' ps Δ:=by
 refine ⟨e.toExt H.base hN,fun p hp=>?_,H.dist,fun f hf=>?_⟩
 ·refine (H.has p hp).stay fun b hb=>e.block b ((H.has p hp).lt hb).2 fun hbF=>?_
  obtain ⟨i,hi⟩:=List.getElem?_of_mem hp
  exact hF b hbF i (by simp [jq,hi,hb])
 ·obtain ⟨hΓ,hd⟩:=hΔ f hf
  exact ⟨f.stay w w' (H.facts f hΓ).1 fun b hb=>e.block b ((H.facts f hΓ).2 b hb).1 (hd b hb),
   fun b hb=>⟨Nat.lt_of_lt_of_le ((H.facts f hΓ).2 b hb).1 e.size,((H.facts f hΓ).2 b hb).2⟩⟩
theorem flat_disj (h:L.flatten.Nodup) (hij:i≠j) {B:yLN} (hi:L[i]? =some A) (hj:L[j]? =some B):∀ b∈A,b∉B:=by
 have hp:=(List.pairwise_flatten.1 h).2
 rw [List.pairwise_iff_getElem] at hp
 obtain ⟨hi',rfl⟩:=List.getElem?_eq_some_iff.1 hi
 obtain ⟨hj',rfl⟩:=List.getElem?_eq_some_iff.1 hj
 intro b hb hb'
 rcases Nat.lt_or_ge i j with h1 | h1
 ·exact hp i j hi' hj' h1 b hb b hb' rfl
 ·exact hp j i hj' hi' qf b hb' b hb rfl
theorem St.chgAt (H:St W w ps Γ) (N:(Γ.map Fact.F).flatten.Nodup) (i:Nat) (hf:Γ[i]? =some f) (f' :Fact) (hF:f'.F=f.F) (e:Chg f.F w w') (h' :f'.φ w'):
 ∃ W',Chg f.F W W' /\St W' w' ps (Γ.set i f'):=by
 have hmem:=List.mem_of_getElem? hf
 obtain ⟨W',h1,h2⟩:=H.chg e (fun b hb=>((H.facts f hmem).2 b hb).2) (Γ.eraseIdx i) (fun g hg=>by
  obtain ⟨j,hj,hgj⟩:=List.mem_eraseIdx_iff_getElem?.1 hg
  exact ⟨List.mem_of_getElem? hgj,flat_disj N hj (by simp [hgj]) (by simp [hf])⟩)
 have h3:=h2.add f' h' (fun b hb=>by
  rw [hF] at hb
  exact ⟨Nat.lt_of_lt_of_le ((H.facts f hmem).2 b hb).1 e.size,((H.facts f hmem).2 b hb).2⟩)
 refine ⟨W',h1,h3.sub _ fun g hg=>?_⟩
 obtain ⟨j,hj⟩:=List.getElem?_of_mem hg
 by_cases hij:i=j
 ·subst hij
  have hlt:i < Γ.length:=(List.getElem?_eq_some_iff.1 hf).1
  rw [List.getElem?_set_self hlt] at hj
  simp only [Option.some.injEq] at hj
  subst hj
  exact List.mem_cons_self ..
 ·rw [List.getElem?_set_ne hij] at hj
  exact List.mem_cons_of_mem _ (List.mem_eraseIdx_iff_getElem?.2 ⟨j,fun h=>hij h.symm,hj⟩)
end
section
variable {α : Type} [qK α]
def holeF (b o:Nat) (xs1 cs xs2:List Value) (F1 F2:yLN) (l1 l2:List α):Fact:=
 ⟨b::(F1++F2),fun w=>vg w b o (xs1++cs++xs2)/\reps w F1 xs1 l1/\reps w F2 xs2 l2/\ve w (b::(F1++F2)),
  fun _ _ h hs=>⟨cellsAt_stay h.1 (hs b qm),XJ h.2.1 (fun b hb=>hs b (by simp [hb])),XJ h.2.2.1 (fun b hb=>hs b (by simp [hb])),h.2.2.2.stay hs⟩⟩
theorem reps_at [Inhabited α] {w:World}:∀ {F:yLN} {vs:List Value} {l:List α} (_:reps w F vs l) (k:Nat) (_:k < l.length),
 ∃ F1 Fk F2 v1 ck v2,F=F1++Fk++F2/\vs=v1++ck++v2/\reps w F1 v1 (l.take k)/\qK.rep w Fk ck (l[k]!)/\reps w F2 v2 (l.drop (k+1))
 | _,_,[],_,k,hk=>by simp at hk
 | _,_,x::l,⟨F1,F2,c1,c2,hF,hv,h1,h2⟩,0,_=>⟨[],F1,F2,[],c1,c2,by simpa using hF,by simpa using hv,⟨rfl,rfl⟩,by simpa using h1,by simpa using h2⟩
 | _,_,x::l,⟨F1,F2,c1,c2,hF,hv,h1,h2⟩,k+1,hk=>by
  obtain ⟨G1,Gk,G2,v1,ck,v2,e1,e2,r1,r2,r3⟩:=reps_at h2 k (by simpa using hk)
  subst hF hv e1 e2
  exact ⟨F1++G1,Gk,G2,c1++v1,ck,v2,by simp,by simp,⟨F1,G1,c1,v1,rfl,rfl,h1,r1⟩,by simpa using r2,by simpa using r3⟩
variable {W w : World} {ps : List Prv} {Γ : List Fact}
theorem St.openAt [Inhabited α] {l:List α} (H:St W w ps (isF true F (Sv (some ⟨b,o,none⟩) m c) l::Γ)) (k:Nat) (hk:k < l.length):
 ∃ cs xs1 xs2 F1 Fk F2,F=b::(F1++Fk++F2)/\xs1.length=k * qK.size α/\qK.rep w Fk cs (l[k]!)/\ve w Fk/\(∀ x∈Fk,x < w.heap.size/\∀ i,jq ps i≠some x)∧
  St W w ps (holeF b o xs1 cs xs2 F1 F2 (l.take k) (l.drop (k+1))::Γ):=by
 obtain ⟨⟨a,cap,hc,_,hrest⟩,hfr⟩:=H.get 0 rfl
 rcases hrest with ⟨rfl,_⟩ | ⟨b',off,F',vs,ha,hFF,hb,hr,hcells⟩
 ·simp at hk
 simp only [List.cons.injEq,Value.slice.injEq,and_true] at hc
 obtain ⟨hab,_,_⟩:=hc
 rw [ha] at hab
 simp only [Option.some.injEq,Addr.mk.injEq,and_true] at hab
 obtain ⟨rfl,rfl⟩:=hab
 obtain ⟨F1,Fk,F2,v1,ck,v2,e1,e2,r1,r2,r3⟩:=reps_at hr k hk
 subst hFF e1 e2
 have hall:=(H.facts _ (List.mem_cons_self ..)).2
 refine ⟨ck,v1,v2,F1,Fk,F2,rfl,?_,r2,(hfr rfl).sub (by intro x hx;simp [hx]),fun x hx=>hall x (by simp [isF,hx]),?_⟩
 ·have:=XA r1
  rw [this,List.length_take,Nat.min_eq_left qf]
 ·refine (H.sub Γ (fun f hf=>List.mem_cons_of_mem _ hf)).add _ ⟨hcells,r1,r3,(hfr rfl).sub ?_⟩ fun x hx=>hall x ?_
  ·intro x hx
   simp only [List.mem_cons,List.mem_append] at hx ⊢
   rcases hx with h | h | h <;> simp [h]
  ·simp only [holeF,isF,List.mem_cons,List.mem_append] at hx ⊢
   rcases hx with h | h | h <;> simp [h]
theorem St.closeAt {Fk:yLN} {l1 l2:List α} {y:α} (H:St W w ps (holeF b o xs1 cs xs2 F1 F2 l1 l2::Γ))
 (hr:qK.rep w Fk cs y) (hfr:ve w Fk) (hlt:∀ x∈Fk,x < w.heap.size/\∀ i,jq ps i≠some x) (l:List α) (hl:l1++[y]++l2=l) (hm:l.length=m) (hx:l.length<=9223372036854775807/\l.length<=c):
 St W w ps [isF true (b::(F1++Fk++F2)) (Sv (some ⟨b,o,none⟩) m c) l]:=by
 obtain ⟨h1,h2,h3,h4⟩:=H.get 0 rfl
 have hall:=(H.facts _ (List.mem_cons_self ..)).2
 subst hl hm
 refine (H.sub [] qm).add _ ⟨⟨some ⟨b,o,none⟩,c,rfl,hx,Or.inr ⟨b,o,F1++Fk++F2,xs1++cs++xs2,rfl,rfl,(hall b (by simp [holeF])).1,jJ (jJ h2 (reps_one hr)) h3,h1⟩⟩,fun _=>?_⟩ ?_
 ·intro x hx
  simp only [List.mem_cons,List.mem_append] at hx
  rcases hx with h | (h | h) | h
  ·exact h4 x (by simp [h])
  ·exact h4 x (by simp [h])
  ·exact hfr x h
  ·exact h4 x (by simp [h])
 ·intro x hx
  simp only [isF,List.mem_cons,List.mem_append] at hx
  rcases hx with h | (h | h) | h
  ·exact hall x (by simp [holeF,h])
  ·exact hall x (by simp [holeF,h])
  ·exact hlt x h
  ·exact hall x (by simp [holeF,h])
theorem St.holeCell {l1 l2:List α} (H:St W w ps (holeF b o xs1 cs xs2 F1 F2 l1 l2::Γ)) (p j:Nat) (hp:xs1.length=p) (hv:cs[j]? =some v):
 w.cell? ⟨b,o+p+j,none⟩=some v:=by
 subst hp
 have h:=(H.get 0 rfl).1
 rw [Nat.add_assoc]
 refine h (xs1.length+j) v ?_
 rw [List.append_assoc,List.getElem?_append_right qf,Nat.add_sub_cancel_left]
 obtain ⟨hj,_⟩:=List.getElem?_eq_some_iff.1 hv
 rw [List.getElem?_append_left hj,hv]
theorem cell_setRow (h:w.heap[b]? =some (.cells c0 t (0,0))) (c1:Array Value) (i:Nat):(w.setRow b c1).cell? ⟨b,i,none⟩=c1[i]? :=by
 simp [World.cell?,World.setRow,Array.getElem?_modify,h]
theorem cell_row (h:w.heap[b]? =some (.cells c0 t (0,0))) (i:Nat):w.cell? ⟨b,i,none⟩=c0[i]? :=by
 simp [World.cell?,h]
variable {P : Program} {Q : Exit -> Act -> World -> Prop} {n : Nat} {ρ : Env} {d : Nat} {ty : TypeId} {pos : String} {af : Array Edge} {K : Env -> World -> Prop}
theorem o_storeHole [Dfr] {l1 l2:List α} (H:St W w ps (holeF b o xs1 cs xs2 F1 F2 l1 l2::Γ))
 (N:((holeF b o xs1 cs xs2 F1 F2 l1 l2::Γ).map Fact.F).flatten.Nodup) (p j:Nat) (hp:xs1.length=p) (v:Value)
 (hs:∀ w,(Go.sizeOf t).run P w=.ok 1 w) (hx:ev n ρ x=.pointer (some ⟨b,o+p+j,none⟩)) (hy:ev n ρ y=v) (h1:v.oneCell' =true) (hj:j < cs.length)
 (k:∀ w' W',Chg (b::(F1++F2)) W W' ->St W' w' ps (holeF b o xs1 (cs.set j v) xs2 F1 F2 l1 l2::Γ)->K ρ w'):
 OW P Q ⟨none,.store t x y,ty,pos,af,none⟩ n ρ w K:=by
 have hc:v.cells=#[v]:=by cases v <;> first | rfl | (simp [Value.oneCell'] at h1)
 obtain ⟨g1,g2,g3,g4⟩:=H.get 0 rfl
 obtain ⟨c0,tb,hb⟩:=g4 b qm
 have hcell:c0[o+p+j]? =some (cs[j]'hj):=by
  rw [← cell_row hb]
  exact H.holeCell p j hp (by simp [hj])
 have ho:o+p+j < c0.size:=by
  rcases Nat.lt_or_ge (o+p+j) c0.size with h | h
  ·exact h
  ·rw [Array.getElem?_eq_none h] at hcell;cases hcell
 have hr:=run_storeCells_at P b (o+p+j) tb v.cells.toList 0 c0 w hb (by simp [hc];omega) (by simp [hc,h1])
 have hrow:∃ c1:Array Value,(∀ i,c1[i]? =if i=o+p+j then some v else c0[i]?)/\(execOp (ev n ρ) ⟨none,.store t x y,ty,pos,af,none⟩).run P w=.ok .skip (w.setRow b c1):=by
  refine ⟨(c0.toList.set (o+p+j) v).toArray,fun i=>?_,?_⟩
  ·simp only [List.getElem?_toArray,List.getElem?_set,Array.length_toList]
   by_cases h:o+p+j=i
   ·subst h;simp [ho]
   ·rw [if_neg h,if_neg (fun h' =>h h'.symm),Array.getElem?_toList]
  ·simp only [hc,Nat.add_zero,List.length_cons,List.length_nil,Nat.zero_add] at hr
   rw [show c0.toList.take (o+p+j)++[v]++c0.toList.drop (o+p+j+1)=c0.toList.set (o+p+j) v by rw [List.set_eq_take_append_cons_drop,if_pos (by simpa using ho)];simp] at hr
   simp [execOp,hx,hy,Instr.storeAt,Instr.sureAddr,storeVar,hs,hc,hr]
 obtain ⟨c1,hc1,hrun⟩:=hrow
 have e:Chg (b::(F1++F2)) w (w.setRow b c1):=by
  refine ⟨rfl,rfl,rfl,by simp [World.setRow],fun i _ hi=>?_⟩
  have:b≠i:=fun h=>hi (by simp [h])
  simp [World.setRow,Array.getElem?_modify,this]
 have hnd:b∉F1++F2:=by
  have:=(List.pairwise_flatten.1 N).1 (b::(F1++F2)) (by simp [holeF])
  exact (List.nodup_cons.1 this).1
 have hstay:∀ i∈F1++F2,(w.setRow b c1).heap[i]? =w.heap[i]? :=fun i hi=>by
  have:b≠i:=fun h=>hnd (h▸hi)
  simp [World.setRow,Array.getElem?_modify,this]
 have hA:vg (w.setRow b c1) b o (xs1++cs.set j v++xs2):=by
  intro i u hu
  rw [cell_setRow hb,hc1]
  subst hp
  by_cases hi:i=xs1.length+j
  ·subst hi
   rw [if_pos qf]
   rw [List.append_assoc,List.getElem?_append_right qf,Nat.add_sub_cancel_left,List.getElem?_append_left (by simpa using hj),List.getElem?_set_self hj] at hu
   exact hu
  ·rw [if_neg qf,← cell_row hb]
   refine g1 i u ?_
   rw [← hu]
   rcases Nat.lt_or_ge i xs1.length with h2 | h2
   ·rw [List.append_assoc,List.append_assoc,List.getElem?_append_left h2,List.getElem?_append_left h2]
   ·rw [List.append_assoc,List.append_assoc,List.getElem?_append_right h2,List.getElem?_append_right h2]
    rcases Nat.lt_or_ge (i - xs1.length) cs.length with h3 | h3
    ·rw [List.getElem?_append_left h3,List.getElem?_append_left (by simpa using h3),List.getElem?_set_ne qf]
    ·rw [List.getElem?_append_right h3,List.getElem?_append_right (by simpa using h3),List.length_set]
 have hB:ve (w.setRow b c1) (b::(F1++F2)):=by
  intro i hi
  by_cases hbi:b=i
  ·subst hbi
   exact ⟨c1,tb,by simp [World.setRow,Array.getElem?_modify,hb]⟩
  ·obtain ⟨c2,t2,h2⟩:=g4 i hi
   exact ⟨c2,t2,by simp [World.setRow,Array.getElem?_modify,hbi,h2]⟩
 obtain ⟨W',hW,H'⟩:=H.chgAt N 0 rfl (holeF b o xs1 (cs.set j v) xs2 F1 F2 l1 l2) rfl e ⟨hA,XJ g2 (fun i hi=>hstay i (by simp [hi])),XJ g3 (fun i hi=>hstay i (by simp [hi])),hB⟩
 exact o_unit hrun (k _ _ hW H')
end
def RetM (R:Value->World->Prop) (F:yLN) (w:World) (e:Ending) (w' :World):Prop:=∃ v,e=.returned v/\R v w' /\Chg F w w'
section
variable {P : Program} {Q : Exit -> Act -> World -> Prop} {n : Nat} {ρ : Env} {w : World} {d : Nat} {ty : TypeId} {pos : String} {af : Array Edge} {K : Env -> World -> Prop}
theorem o_callM [Dfr] {xs:Array Operand} {f:FuncId} {R:Value->World->Prop} (args:Array Value) (hv:ev n ρ x=.func (.func f) fst caps)
 (hargs:fst.toList++xs.toList.map (ev n ρ)++caps.toList=args.toList) (hf:∀ args w,(callFunc f args).run P w=.ok (.enter f args) w)
 (hc:Calls P f args w (RetM R F w)) (k:∀ v w',R v w' ->Chg F w w' ->K (upd ρ d v) w'):
 OW P Q ⟨some d,.call ⟨.value x,xs,ts⟩,ty,pos,af,none⟩ n ρ w K:=by
 have hr:(execOp (ev n ρ) ⟨some d,.call ⟨.value x,xs,ts⟩,ty,pos,af,none⟩).run P w=.ok (.enter f args) w:=by
  have e:fst++xs.map (ev n ρ)++caps=args:=by apply Array.toList_inj.1;rw [← hargs];simp
  simp [execOp,resolve,Deferred.ofValue,hv,invoke,hf,e]
 unfold OW
 intro K' hK
 unfold Oper.wp
 rw [QZ,hr]
 refine hc.mono fun e w' ⟨v,he,hR,hE⟩=>?_
 subst he
 show K' ((mk n ρ).put (some d) v) w'
 rw [mk_put]
 exact hK _ _ (k v w' hR hE)
end
class Mark (α:Type) where
 cnt:α->Nat
 mrk:α->Int->α
 mkd:α->Int->Prop
 mkd_mark:∀ x k,mkd (mrk x k) k
 cnt_mark:∀ x k,cnt (mrk x k)=cnt x
open Go.Proofs.YtjfmcaiombkobaaGreat.Mark (cnt mrk mkd mkd_mark cnt_mark)
instance:Mark Int:=⟨fun _=>1,fun _ k=>k,fun x k=>x=k,fun _ _=>rfl,fun _ _=>rfl⟩
instance:Mark Bool:=⟨fun _=>1,fun _ k=>k % 3 == 0,fun x k=>x=(k % 3 == 0),fun _ _=>rfl,fun _ _=>rfl⟩
section
variable {α : Type} [Mark α] [Inhabited α]
def cntTo (l:List α):Nat->Nat
 | 0=>0
 | i+1=>cntTo l i+cnt (l[i]!)
theorem X6 (l:List α) (i:Nat):cntTo l (i+1)=cntTo l i+cnt (l[i]!):=rfl
def Qu (l:List α) (k:Int) (i:Nat):List α:=(List.range i).map (fun j=>mrk (l[j]!) (k+(cntTo l j:Nat)))++l.drop i
theorem Q4 (l:List α) (k:Int) (h:i<=l.length):(Qu l k i).length=l.length:=by simp [Qu];omega
theorem markTo_zero (l:List α) (k:Int):Qu l k 0=l:=by simp [Qu]
theorem markTo_get (l:List α) (k:Int) (h:i < l.length):(Qu l k i)[i]! =l[i]! :=by
 rw [getElem!_pos _ i (by rw [Q4 l k qf];exact h),getElem!_pos l i h]
 simp [Qu,List.getElem_append]
theorem markTo_step (l:List α) (k:Int) (h:i < l.length):(Qu l k i).take i++[mrk (l[i]!) (k+(cntTo l i:Nat))]++(Qu l k i).drop (i+1)=Qu l k (i+1):=by
 have h1:(Qu l k i).take i=(List.range i).map (fun j=>mrk (l[j]!) (k+(cntTo l j:Nat))):=by
  rw [Qu,List.take_append_of_le_length qm,List.take_of_length_le qm]
 have h2:(Qu l k i).drop (i+1)=l.drop (i+1):=by
  rw [Qu,List.drop_append,List.drop_of_length_le qm]
  simp
 rw [h1,h2,Qu,List.range_succ]
 simp
def markL (l:List α) (k:Int):List α:=Qu l k l.length
theorem markL_get (l:List α) (k:Int) (h:i < l.length):(markL l k)[i]! =mrk (l[i]!) (k+(cntTo l i:Nat)):=by
 rw [getElem!_pos _ i (by rw [markL,Q4 l k (Nat.le_refl _)];exact h)]
 simp [markL,Qu,List.getElem_append,h]
theorem cntTo_markL (l:List α) (k:Int):∀ i,i<=l.length->cntTo (markL l k) i=cntTo l i
 | 0,_=>rfl
 | i+1,h=>by rw [X6,X6,cntTo_markL l k i qf,markL_get l k qf,cnt_mark]
instance:Mark (List α) where
 cnt l:=cntTo l l.length
 mrk:=markL
 mkd l k:=∀ i,i < l.length->mkd (l[i]!) (k+(cntTo l i:Nat))
 mkd_mark l k i hi:=by
  have hi' :i < l.length:=by simpa [markL,Qu] using hi
  rw [markL_get l k hi',cntTo_markL l k i qf]
  exact mkd_mark _ _
 cnt_mark l k:=by
  show cntTo (markL l k) (markL l k).length=cntTo l l.length
  rw [show (markL l k).length=l.length from Q4 l k (Nat.le_refl _),cntTo_markL l k _ (Nat.le_refl _)]
theorem cntTo_mono {l:List α}:∀ {k m:Nat},k<=m->cntTo l k<=cntTo l m
  | k, 0, h => by obtain rfl : k = 0 := by omega
                  exact Nat.le_refl _
  | k,m+1,h=>by
    by_cases e:k=m+1
    · subst e;exact Nat.le_refl _
    · exact Nat.le_trans (cntTo_mono (by omega:k<=m)) (Nat.le_add_right _ _)
theorem cnt_list (l:List α):cnt l=cntTo l l.length:=rfl
theorem cnt_get {l:List α} (h:k < l.length):cntTo l k+cnt (l[k]!)<=cnt l:=by
 have h1:cntTo l (k+1)<=cntTo l l.length:=cntTo_mono h
 rw [X6] at h1
 exact h1
end
theorem nodup_hole (h:(b::(F1++G++F2)).Nodup):(b::(F1++F2)++G).Nodup:=by
 refine (List.Perm.nodup_iff ?_).1 h
 refine List.Perm.cons b ?_
 show (F1++G++F2).Perm (F1++F2++G)
 rw [List.append_assoc,List.append_assoc]
 exact List.Perm.append_left F1 List.perm_append_comm
theorem hole_sub (b:Nat) (F1 G F2:yLN):∀ z∈b::(F1++F2),z∈b::(F1++G++F2):=by
 intro z hz
 simp only [List.mem_cons,List.mem_append] at hz ⊢
 rcases hz with h | h | h <;> simp [h]
theorem flat_nodup (h:L.flatten.Nodup) (i:Nat) (hi:L[i]? =some A):A.Nodup:=(List.pairwise_flatten.1 h).1 A (List.mem_of_getElem? hi)
theorem ints_get (h:iv.toNat < l.length):(l.map (Value.int .i64))[0+iv.toNat * 1]? =some (.int .i64 (l[iv.toNat]!)):=by
 rw [Nat.zero_add,Nat.mul_one,List.getElem?_map,List.getElem?_eq_getElem h,getElem!_pos l _ h];rfl
theorem ints_set {v:Int}:(l.map (Value.int .i64)).set (0+iv.toNat * 1) (.int .i64 v)=(l.set iv.toNat v).map (Value.int .i64):=by
 rw [Nat.zero_add,Nat.mul_one,List.map_set]
theorem ints_lt (h:iv.toNat < l.length):0+iv.toNat * 1 < (l.map (Value.int .i64)).length:=by simpa using h
theorem ints_zero (n:Nat):List.replicate n (Value.int .i64 0)=(List.replicate n (0:Int)).map (Value.int .i64):=by simp
section
variable {P : Program} {Q : Exit -> Act -> World -> Prop} {n : Nat} {ρ : Env} {W w : World} {d : Nat} {ty : TypeId} {pos : String} {af : Array Edge} {K : Env -> World -> Prop} {ps : List Prv} {Γ : List Fact}
theorem o_tail [Dfr] {α:Type} [qK α] {l:List α} (H:St W w ps Γ) (i:Nat) (hf:Γ[i]? =some (isF fr F (Sv a m c) l)) (kk:Nat)
 (hu:P.underlying t=some (.slice e)) (he:TI P e z (qK.size α) by') (hx:ev n ρ x=Sv a m c) (hk:kk<=l.length)
 (k:∀ a' G,(∀ b∈G,b∈F)->St W w ps (isF fr G (Sv a' (l.drop kk).length (c - kk)) (l.drop kk)::Γ)->K (upd ρ d (Sv a' (l.drop kk).length (c - kk))) w):
 OW P Q ⟨some d,.slice t x (some (.const (.int .i64 (kk:Int)))) none none,ty,pos,af,none⟩ n ρ w K:=by
 obtain ⟨⟨a0,c0,hc,⟨hl,hcap⟩,h⟩,hfr⟩:=H.get i hf
 simp only [List.cons.injEq,Value.slice.injEq,and_true] at hc
 obtain ⟨rfl,rfl,rfl⟩:=hc
 have hev:ev n ρ (.const (.int .i64 (kk:Int)))=.int .i64 (kk:Int):=rfl
 have hrun:(execOp (ev n ρ) ⟨some d,.slice t x (some (.const (.int .i64 (kk:Int)))) none none,ty,pos,af,none⟩).run P w=
  .ok (.value (Sv (if c=kk then a else a.map (·.add (kk * qK.size α))) (l.length - kk) (c - kk))) w:=by
  simp [execOp,hx,hev,Instr.sliceAt,Instr.slice,Instr.sliceBounds,Instr.sliceBound,asIntOf,run_underlying hu,he.sizeOf,hk]
 have hlen:(l.drop kk).length=l.length - kk:=List.length_drop
 rcases h with ⟨h0,hF⟩ | ⟨b,off,F',vs,ha,hF,hb,hr,hcells⟩
 ·refine XU _ hrun ?_
  rw [← hlen]
  refine k _ [] qm (H.add _ ⟨⟨_,_,rfl,⟨by omega,by omega⟩,Or.inl ⟨by simp [h0],rfl⟩⟩,fun _=>ve.nil _⟩ (by simp [isF]))
 ·subst ha
  rw [← List.take_append_drop kk l] at hr
  obtain ⟨F1,F2,v1,v2,e1,e2,r1,r2⟩:=reps_split _ hr
  have hv1:v1.length=kk * qK.size α:=by rw [XA r1,List.length_take,Nat.min_eq_left hk]
  have hsub:∀ z∈b::F2,z∈F:=by
   intro z hz
   rw [hF,e1]
   simp only [List.mem_cons,List.mem_append] at hz ⊢
   rcases hz with h | h <;> simp [h]
  refine XU _ hrun ?_
  rw [← hlen]
  by_cases hck:c=kk
  ·have hnil:l.drop kk=[]:=List.drop_eq_nil_of_le qf
   refine k _ [] qm (H.add _ ⟨⟨_,_,rfl,⟨by omega,by omega⟩,Or.inl ⟨hnil,rfl⟩⟩,fun _=>ve.nil _⟩ (by simp [isF]))
  ·rw [if_neg hck]
   refine k _ (b::F2) hsub (H.jy i hf _ ⟨⟨_,_,rfl,⟨by omega,by omega⟩,Or.inr ⟨b,off+kk * qK.size α,F2,v2,by simp [Addr.add_mid],rfl,hb,r2,?_⟩⟩,fun e=>(hfr e).sub hsub⟩ hsub)
   intro j v hv
   rw [Nat.add_assoc]
   refine hcells (kk * qK.size α+j) v ?_
   rw [e2,List.getElem?_append_right qf,hv1,Nat.add_sub_cancel_left]
   exact hv
end
abbrev pp (b o:Nat):Value:=.pointer (some ⟨b,o,none⟩)
abbrev aa (b o:Nat):yOA:=some ⟨b,o,none⟩
section
variable {P : Program} {ops : Array Oper} {Q : Exit -> Act -> World -> Prop} {n : Nat} {ρ : Env} {W0 w : World} {rest : List Oper} {ps : List Prv} {Γ : List Fact}
 {d:Nat} {op:Op} {ty:TypeId} {pos:String} {af:Array Edge} {K:Env->World->Prop} {S:World->Prop} {l:List Oper} {fuel:Nat} {listed:Array Bool}
theorem sp [Dfr] (v:Value) (k:WL P ops Q n rest (upd ρ d v) w) (h:pv (ev n ρ) op=some v:=by exact rfl):WL P ops Q n (⟨some d,op,ty,pos,af,none⟩::rest) ρ w:=
 sw (o_pure v h k)
def updQ (n:Nat):Nat->List Oper->Env->Env
 | j+1,o::os,ρ=>updQ n j os (upd ρ (o.dst.getD 0) ((pv (ev n ρ) o.op).getD undef))
 | _,_,ρ=>ρ
def okQ (n:Nat):Nat->List Oper->Env->Bool
 | 0,_,_=>true
 | j+1,⟨some d,op,_,_,_,none⟩::os,ρ=>(pv (ev n ρ) op).isSome && okQ n j os (upd ρ d ((pv (ev n ρ) op).getD undef))
 | _,_,_=>false
theorem some_getD {v:Option Value} (h:v.isSome=true):v=some (v.getD undef):=by
 cases v with
 | none=>cases h
 | some x=>rfl
theorem sq [Dfr]:∀ (j:Nat) {os:List Oper} {ρ:Env} (_:WL P ops Q n (os.drop j) (updQ n j os ρ) w) (_:okQ n j os ρ=true:=by exact rfl),WL P ops Q n os ρ w
 | 0,os,_,k,_=>by simpa [updQ] using k
 | j+1,[],_,_,h=>by cases h
 | j+1,⟨none,op,ty,pos,af,gd⟩::os,_,_,h=>by cases h
 | j+1,⟨some d,op,ty,pos,af,some g⟩::os,_,_,h=>by cases h
 | j+1,⟨some d,op,ty,pos,af,none⟩::os,ρ,k,h=>by
  simp only [okQ,Bool.and_eq_true] at h
  exact sp _ (sq j (by simpa [updQ] using k) h.2) (some_getD h.1)
theorem jw [Dfr] (hm:P.follows .mixedOrders=true) (H:St W0 w ps Γ)
 (h:St W0 w.drew ps Γ->RW P l Q (fun w=>St W0 w ps Γ) n l.toArray.size (Array.replicate l.toArray.size false) ρ w.drew):(Code.region id l.toArray true).wp P Q (mk n ρ) w:=
 c_draw (fun w=>St W0 w ps Γ) hm (H.ext (ext_drew _)) (h (H.ext (ext_drew _)))
def takeOk (l:List Oper) (listed:Array Bool) (i:Nat):Bool:=Region.noSelect l.toArray && (Region.free .any l.toArray listed i && (Region.ready .any l.toArray listed).contains i)
def NoPanic (Q:Exit->Act->World->Prop) (d:Nat) (v:Value):Prop:=∀ c a w,Q (.panic c) (a.put (some d) v) w->Q (.panic c) a w
theorem Xz (h:takeOk l listed i=true):Region.noSelect l.toArray=true/\Region.free .any l.toArray listed i=true/\(Region.ready .any l.toArray listed).contains i=true:=by
 simp only [takeOk,Bool.and_eq_true] at h
 exact h
theorem rt [Dfr] (i:Nat) (v:Value) (hy:∀ w',S w' ->(execOp (ev n ρ) ⟨some d,op,ty,pos,af,none⟩).run P w' =.ok (.value v) w') (hS:S w)
 (h:RW P l Q S n fuel (listed.setIfInBounds i true) (upd ρ d v) w) (hi:l.toArray[i]? =some ⟨some d,op,ty,pos,af,none⟩:=by exact rfl) (hk:takeOk l listed i=true:=by kernel_rfl)
 (hQ:NoPanic Q d v:=by exact fun _ _ _ h=>h):RW P l Q S n (fuel+1) listed ρ w:=
 r_take i v hi (Xz hk).1 (Xz hk).2.1 (Xz hk).2.2 hQ hy hS h
theorem rtp [Dfr] (i:Nat) (v:Value) (hS:S w) (h:RW P l Q S n fuel (listed.setIfInBounds i true) (upd ρ d v) w) (hi:l.toArray[i]? =some ⟨some d,op,ty,pos,af,none⟩:=by exact rfl)
 (hp:pv (ev n ρ) op=some v:=by exact rfl) (hk:takeOk l listed i=true:=by kernel_rfl) (hQ:NoPanic Q d v:=by exact fun _ _ _ h=>h):RW P l Q S n (fuel+1) listed ρ w:=
 rt i v (y_pure hp) hS h hi hk hQ
theorem rg [Dfr] {b:Bool} (i:Nat) (v:Value) (e:Nat) (hy:∀ w',S w' ->(execOp (ev n ρ) ⟨some d,op,ty,pos,af,some (j,b)⟩).run P w' =.ok (.value v) w') (hS:S w)
 (h:RW P l Q S n fuel (listed.setIfInBounds i true) (upd ρ d v) w) (hi:l.toArray[i]? =some ⟨some d,op,ty,pos,af,some (j,b)⟩:=by exact rfl) (hk:takeOk l listed i=true:=by kernel_rfl)
 (hd:dstAt l j=some e:=by exact rfl) (hv:ev n ρ (.tmp e)=Bv b:=by exact rfl) (hQ:NoPanic Q d v:=by exact fun _ _ _ h=>h):RW P l Q S n (fuel+1) listed ρ w:=
 r_takeG i v hi (Xz hk).1 (Xz hk).2.1 (Xz hk).2.2 hQ hd hv hy hS h
theorem rgp [Dfr] {b:Bool} (i:Nat) (v:Value) (e:Nat) (hS:S w) (h:RW P l Q S n fuel (listed.setIfInBounds i true) (upd ρ d v) w) (hi:l.toArray[i]? =some ⟨some d,op,ty,pos,af,some (j,b)⟩:=by exact rfl)
 (hp:pv (ev n ρ) op=some v:=by exact rfl) (hk:takeOk l listed i=true:=by kernel_rfl)
 (hd:dstAt l j=some e:=by exact rfl) (hv:ev n ρ (.tmp e)=Bv b:=by exact rfl) (hQ:NoPanic Q d v:=by exact fun _ _ _ h=>h):RW P l Q S n (fuel+1) listed ρ w:=
 rg i v e (y_pure hp) hS h hi hk hd hv hQ
theorem rtl [Dfr] (i:Nat) (hS:S w) (h:RW P l Q S n fuel (listed.setIfInBounds i true) (upd ρ d ((pv (ev n ρ) op).getD undef)) w) (hi:l.toArray[i]? =some ⟨some d,op,ty,pos,af,none⟩:=by exact rfl)
 (hp:(pv (ev n ρ) op).isSome=true:=by exact rfl) (hk:takeOk l listed i=true:=by kernel_rfl) (hQ:NoPanic Q d ((pv (ev n ρ) op).getD undef):=by exact fun _ _ _ h=>h):RW P l Q S n (fuel+1) listed ρ w:=
 rtp i _ hS h hi (some_getD hp) hk hQ
theorem rgl [Dfr] {b:Bool} (i:Nat) (e:Nat) (hS:S w) (h:RW P l Q S n fuel (listed.setIfInBounds i true) (upd ρ d ((pv (ev n ρ) op).getD undef)) w) (hi:l.toArray[i]? =some ⟨some d,op,ty,pos,af,some (j,b)⟩:=by exact rfl)
 (hp:(pv (ev n ρ) op).isSome=true:=by exact rfl) (hk:takeOk l listed i=true:=by kernel_rfl)
 (hd:dstAt l j=some e:=by exact rfl) (hv:ev n ρ (.tmp e)=Bv b:=by exact rfl) (hQ:NoPanic Q d ((pv (ev n ρ) op).getD undef):=by exact fun _ _ _ h=>h):RW P l Q S n (fuel+1) listed ρ w:=
 rgp i _ e hS h hi (some_getD hp) hk hd hv hQ
theorem retC3 {fn:Func} {R:Ending->World->Prop} {t u u':Nat} (H:St W0 w ps Γ) (i:Nat) (hp:ps[i]? =some (.box b cs tb)) (x y:Value) (hr:fn.results=#[.cell t T,.tmp u,.tmp u'])
 (ha:∀ w,(isAgg T).run P w=.ok true w) (hs:∀ w,(Go.sizeOf T).run P w=.ok cs.length w) (hv:ev n ρ (.tmp t)=.pointer (some ⟨b,0,none⟩)) (hx:ev n ρ (.tmp u)=x) (hy:ev n ρ (.tmp u')=y)
 (h:R (.returned (.tuple #[.agg cs.toArray,x,y])) w):bodyPost P fn R .ret (mk n ρ) w:=by
 have hl:=run_loadCells_list (P:=P) w ⟨b,0,none⟩ cs (fun j v hv=>by rw [Addr.add_mid];exact H.cells i hp j v hv)
 have e:=congrFun (QZ n ρ) (.tmp t)
 have e' :=congrFun (QZ n ρ) (.tmp u)
 have e'' :=congrFun (QZ n ρ) (.tmp u')
 simp only [Act.eval,Array.getD_eq_getD_getElem?] at e e' e''
 rw [hv] at e
 rw [hx] at e'
 rw [hy] at e''
 exact bodyPost_ret (v:=.tuple #[.agg cs.toArray,x,y]) (by simp [results,hr,e,e',e'',asAddr,loadVar,ha,hs,hl]) rfl h
def skipOk (n:Nat) (ρ:Env) (l:List Oper) (o:Oper):Bool:=
 match o.guard with
 | some (j,b)=>match dstAt l j with
  | some e=>match ev n ρ (.tmp e) with | .bool c=>c != b | .tuple vs=>vs.isEmpty | _=>false
  | none=>false
 | none=>false
theorem skipOk_wanted [Dfr] {o:Oper} (h:skipOk n ρ l o=true):Region.wanted o (yielded l.toArray (mk n ρ).tmps)=false:=by
 unfold skipOk at h
 unfold Region.wanted
 split at h
 ·rename_i j b hg
  split at h
  ·rename_i e he
   rw [hg]
   split at h
   ·rename_i c hc
    simp [yielded_of ((dstAt_eq l j).trans he) hc]
    simpa using h
   ·rename_i vs hc
    have:vs=#[]:=by simpa using h
    subst this
    simp [yielded_un ((dstAt_eq l j).trans he) hc]
   ·cases h
  ·cases h
 ·cases h
def updU (ρ:Env):yLN->Env
 | []=>ρ
 | d::ds=>updU (upd ρ d undef) ds
def chkL (n:Nat) (l:List Oper):List Oper->yLN->Env->Bool
 | _,[],_=>true
 | o::os,d::ds,ρ=>match o.dst with
  | some d' =>Nat.beq d' d && (skipOk n ρ l o && chkL n l os ds (upd ρ d undef))
  | none=>false
 | [],_::_,_=>false
theorem xR [Dfr]:∀ (ds:yLN) {os:List Oper} {ρ:Env} (_:WL P l.toArray Q n (os.drop ds.length) (updU ρ ds) w) (_:chkL n l os ds ρ=true:=by kernel_rfl),WL P l.toArray Q n os ρ w
 | [],_,_,k,_=>by simpa [updU] using k
 | d::ds,[],ρ,_,h=>by simp [chkL] at h
 | d::ds,⟨dst,op,ty,pos,af,gd⟩::os,ρ,k,h=>by
  unfold chkL at h
  split at h
  ·rename_i d' hd
   simp only [Bool.and_eq_true] at h
   obtain ⟨h1,h2,h3⟩:=h
   have hd' :=Nat.eq_of_beq_eq_true h1
   simp only at hd
   subst hd hd'
   have hw:=skipOk_wanted h2
   have k' :=xR ds (os:=os) (ρ:=upd ρ d' undef) (by simpa [updU] using k) h3
   refine WL.of ?_
   unfold wpList
   rw [if_neg (by rw [hw];simp),mk_put]
   exact k'.out
  ·cases h
def chkR (n:Nat) (l:List Oper):yLN->Array Bool->Env->Bool
 | [],_,_=>true
 | i::is,listed,ρ=>match l.toArray[i]? with
  | some o=>match o.dst with
   | some d=>skipOk n ρ l o && (takeOk l listed i && chkR n l is (listed.setIfInBounds i true) (upd ρ d undef))
   | none=>false
  | none=>false
def updR (l:List Oper):yLN->Env->Env
 | [],ρ=>ρ
 | i::is,ρ=>updR l is (upd ρ ((dstAt l i).getD 0) undef)
def lsts:yLN->Array Bool->Array Bool
 | [],a=>a
 | i::is,a=>lsts is (a.setIfInBounds i true)
theorem zS [Dfr]:∀ (is:yLN) (m:Nat) {fuel:Nat} {listed:Array Bool} {ρ:Env} (_:S w) (_:RW P l Q S n fuel (lsts is listed) (updR l is ρ) w) (_:chkR n l is listed ρ=true:=by kernel_rfl) (_:is.length=m:=by exact rfl)
 (_:∀ d,NoPanic Q d undef:=by exact fun _ _ _ _ h=>h),RW P l Q S n (fuel+m) listed ρ w
 | [],m,_,_,_,_,k,_,hm,_=>by subst hm;exact k
 | i::is,m,fuel,listed,ρ,hS,k,h,hm,hQ=>by
  subst hm
  unfold chkR at h
  split at h
  ·rename_i o ho
   split at h
   ·rename_i d hd
    simp only [Bool.and_eq_true] at h
    obtain ⟨h1,h2,h3⟩:=h
    have hw:=skipOk_wanted h1
    have e:dstAt l i=some d:=by rw [← dstAt_eq,ho];exact hd
    have k' :=zS is is.length (fuel:=fuel) (listed:=listed.setIfInBounds i true) (ρ:=upd ρ d undef) hS (by simpa [updR,lsts,e] using k) h3 rfl hQ
    show RW P l Q S n ((fuel+is.length)+1) listed ρ w
    obtain ⟨dst,op,ty,pos,af,gd⟩:=o
    simp only at hd
    subst hd
    unfold RW at k' ⊢
    refine wpAnyH_take ho (Xz h2).1 (Xz h2).2.1 (Xz h2).2.2 (hQ d) (Or.inr ⟨hw,rfl⟩) hS ?_
    show wpAnyH P .any l.toArray Q S _ _ ((mk n ρ).put (some d) undef) w
    rw [mk_put]
    exact k'
   ·cases h
  ·cases h
end
end
open Go.Proofs.YtjfmcaiombkobaaGreat.Mark (cnt mrk mkd mkd_mark cnt_mark)
section
structure Fresh (B:Nat) (L:List yLN):Prop where
 nd:∀ F∈L,F.Nodup
 ge:∀ F∈L,∀ b∈F,B<=b
 dj:L.Pairwise fun F G=>∀ b∈F,b∉G
section
variable {B : Nat} {L : List yLN}
theorem Fresh.nil (B:Nat):Fresh B []:=⟨by simp,by simp,List.Pairwise.nil⟩
theorem Fresh.pick (N:Fresh B L) (is:yLN) (he:is.map (fun i=>L[i]?)=L'.map some:=by exact rfl) (hd:is.Nodup:=by decide):Fresh B L' :=by
 have hmem:∀ F∈L',F∈L:=by
  intro F hF
  have:some F∈L'.map some:=List.mem_map_of_mem hF
  rw [← he] at this
  obtain ⟨i,_,hi⟩:=List.mem_map.1 this
  exact List.mem_of_getElem? hi
 refine ⟨fun F hF=>N.nd F (hmem F hF),fun F hF=>N.ge F (hmem F hF),?_⟩
 have hl:is.length=L'.length:=by simpa using congrArg List.length he
 have e:∀ k (hk:k < L'.length) (hk' :k < is.length),L[is[k]]? =some L'[k]:=by
  intro k hk hk'
  have h1:(is.map (fun i=>L[i]?))[k]? =(L'.map some)[k]? :=by rw [he]
  simpa [hk,hk'] using h1
 rw [List.pairwise_iff_getElem]
 intro i j hi hj hij b hb hb'
 have ei:=e i hi qf
 have ej:=e j hj qf
 have hne:is[i]'(by omega)≠is[j]'(by omega):=List.pairwise_iff_getElem.1 hd i j qf qf hij
 have hp:=N.dj
 rw [List.pairwise_iff_getElem] at hp
 obtain ⟨hi2,ei2⟩:=List.getElem?_eq_some_iff.1 ei
 obtain ⟨hj2,ej2⟩:=List.getElem?_eq_some_iff.1 ej
 rcases Nat.lt_or_gt_of_ne hne with h | h
 ·exact hp _ _ hi2 hj2 h b (by rw [ei2];exact hb) (by rw [ej2];exact hb')
 ·exact hp _ _ hj2 hi2 h b (by rw [ej2];exact hb') (by rw [ei2];exact hb)
theorem Fresh.cons (N:Fresh B L) (hg:(∀ b∈G,T<=b)/\G.Nodup) (hB:B<=T) (hl:∀ F∈L,∀ b∈F,b < T):Fresh B (G::L):=
 ⟨fun F hF=>by
  rcases List.mem_cons.1 hF with rfl | h
  ·exact hg.2
  ·exact N.nd F h,fun F hF b hb=>by
  rcases List.mem_cons.1 hF with rfl | h
  ·exact Nat.le_trans hB (hg.1 b hb)
  ·exact N.ge F h b hb,List.pairwise_cons.2 ⟨fun F hF b hb hb' =>by have:=hl F hF b hb';have:=hg.1 b hb;omega,N.dj⟩⟩
theorem Fresh.emp (N:Fresh B L):Fresh B ([]::L):=
 ⟨fun F hF=>by
  rcases List.mem_cons.1 hF with rfl | h
  ·exact List.nodup_nil
  ·exact N.nd F h,fun F hF b hb=>by
  rcases List.mem_cons.1 hF with rfl | h
  ·simp at hb
  ·exact N.ge F h b hb,List.pairwise_cons.2 ⟨fun F _ b hb=>by simp at hb,N.dj⟩⟩
theorem Fresh.repl (N:Fresh B (F::G::L)) (hs:(∀ b∈F',b∈F\/b∈G)/\(F.Nodup->G.Nodup->(∀ b∈F,b∉G)->F'.Nodup)):Fresh B (F'::L):=by
 have h1:=List.pairwise_cons.1 N.dj
 have h2:=List.pairwise_cons.1 h1.2
 refine ⟨fun K hK=>?_,fun K hK b hb=>?_,List.pairwise_cons.2 ⟨fun K hK b hb=>?_,h2.2⟩⟩
 ·rcases List.mem_cons.1 hK with rfl | h
  ·exact hs.2 (N.nd F qm) (N.nd G qm) (h1.1 G qm)
  ·exact N.nd K (by simp [h])
 ·rcases List.mem_cons.1 hK with rfl | h
  ·rcases hs.1 b hb with h | h
   ·exact N.ge F qm b h
   ·exact N.ge G qm b h
  ·exact N.ge K (by simp [h]) b hb
 ·rcases hs.1 b hb with h | h
  ·exact h1.1 K (by simp [hK]) b h
  ·exact h2.1 K hK b h
theorem Fresh.join (N:Fresh B (F::G::L)):Fresh B ((F++G)::L):=
 N.repl ⟨fun b hb=>List.mem_append.1 hb,fun h1 h2 h3=>List.nodup_append.2 ⟨h1,h2,fun a ha b hb e=>h3 a ha (e▸hb)⟩⟩
theorem Fresh.less (N:Fresh B (F::L)) (hs:∀ b∈F',b∈F) (hn:F.Nodup->F'.Nodup):Fresh B (F'::L):=by
 have h1:=List.pairwise_cons.1 N.dj
 refine ⟨fun K hK=>?_,fun K hK b hb=>?_,List.pairwise_cons.2 ⟨fun K hK b hb=>h1.1 K hK b (hs b hb),h1.2⟩⟩
 ·rcases List.mem_cons.1 hK with rfl | h
  ·exact hn (N.nd F qm)
  ·exact N.nd K (by simp [h])
 ·rcases List.mem_cons.1 hK with rfl | h
  ·exact N.ge F qm b (hs b hb)
  ·exact N.ge K (by simp [h]) b hb
theorem Fresh.one (N:Fresh B (F::L)):(∀ b∈F,B<=b)/\F.Nodup:=⟨N.ge F qm,N.nd F qm⟩
theorem Fresh.tail (N:Fresh B (F::L)):Fresh B L:=⟨fun K h=>N.nd K (by simp [h]),fun K h=>N.ge K (by simp [h]),(List.pairwise_cons.1 N.dj).2⟩
end
section
variable {W0 w w' : World} {ps : List Prv} {Γ : List Fact}
theorem St.ltN (H:St W0 w ps Γ) (is:yLN) (he:is.map (fun i=>(Γ[i]?).map Fact.F)=L.map some:=by exact rfl):∀ F∈L,∀ b∈F,b < w.heap.size:=by
 intro F hF b hb
 have:some F∈L.map some:=List.mem_map_of_mem hF
 rw [← he] at this
 obtain ⟨i,_,hi⟩:=List.mem_map.1 this
 cases hg:Γ[i]? with
 | none=>simp [hg] at hi
 | some f=>
  simp only [hg,Option.map_some,Option.some.injEq] at hi
  subst hi
  exact ((H.facts f (List.mem_of_getElem? hg)).2 b hb).1
theorem St.vz (H:St W0 w ps Γ) (is:yLN) (he:is.map (fun i=>(Γ[i]?).map Fact.F)=L.map some:=by exact rfl):∀ F∈L,∀ b∈F,∀ i,jq ps i≠some b:=by
 intro F hF b hb
 have:some F∈L.map some:=List.mem_map_of_mem hF
 rw [← he] at this
 obtain ⟨i,_,hi⟩:=List.mem_map.1 this
 cases hg:Γ[i]? with
 | none=>simp [hg] at hi
 | some f=>
  simp only [hg,Option.map_some,Option.some.injEq] at hi
  subst hi
  exact ((H.facts f (List.mem_of_getElem? hg)).2 b hb).2
theorem St.jm (H:St W0 w ps Γ) (k:Nat) (hp:ps[k]? =some (.row v e sz nn xs)):
 ∃ a c,v=Sv a nn c/\nn<=c/\nn<=9223372036854775807:=by
 have h:=(H.has _ (List.mem_of_getElem? hp):w.ownsRow W0.heap.size e sz v nn xs)
 rcases h.2 with ⟨rfl,rfl⟩ | ⟨g,cap,cur,rfl,_,_,h1,h2,_⟩
 ·exact ⟨none,0,rfl,Nat.le_refl _,by omega⟩
 ·exact ⟨_,cap,rfl,h1,by unfold maxLen at h2;omega⟩
theorem St.y5 (H:St W0 w ps Γ) (k:Nat) (hp:ps[k]? =some (.row (Sv a nn c) e sz nn xs)) (h0:0 < nn):
 ∃ b,a=some ⟨b,0,none⟩:=by
 have h:=(H.has _ (List.mem_of_getElem? hp):w.ownsRow W0.heap.size e sz _ nn xs)
 rcases h.2 with ⟨_,rfl⟩ | ⟨g,cap,cur,h,_⟩
 ·omega
 ·simp only [Value.slice.injEq] at h
  exact ⟨g,h.1⟩
theorem St.rowLen (H:St W0 w ps Γ) (k:Nat) (hp:ps[k]? =some (.row v e sz nn xs)):xs.length=nn * sz:=
 (H.has _ (List.mem_of_getElem? hp):w.ownsRow W0.heap.size e sz v nn xs).1
theorem St.rowGet (H:St W0 w ps Γ) (k:Nat) (hp:ps[k]? =some (.row (Sv (some ⟨b,0,none⟩) nn c) e sz nn xs)) (hv:xs[i]? =some v):
 w.cell? ⟨b,i,none⟩=some v:=by
 have h:=(H.has _ (List.mem_of_getElem? hp):w.ownsRow W0.heap.size e sz _ nn xs)
 have:=h.cells (g:=b) rfl i v hv
 rwa [Addr.add_mid,Nat.zero_add] at this
theorem ints_at (h:iv.toNat=i) (h1:i < l.length):(l.map (Value.int .i64))[0+iv.toNat * 1]? =some (.int .i64 (l[i]!)):=by
 subst h
 simp [h1,getElem!_pos]
theorem bools_at {l:List Bool} (h:iv.toNat=i) (h1:i < l.length):(l.map Value.bool)[0+iv.toNat * 1]? =some (Bv (l[i]!)):=by
 subst h
 simp [h1,getElem!_pos]
theorem St.rowInt (H:St W0 w ps Γ) (k:Nat) (hp:ps[k]? =some (.row (Sv (some ⟨b,0,none⟩) nn c) e 1 nn (l.map (Value.int .i64)))) (h:iv.toNat=i) (h1:i < nn):
 w.cell? ⟨b,0+iv.toNat * 1,none⟩=some (.int .i64 (l[i]!)):=by
 have hl:=H.rowLen k hp
 exact H.rowGet k hp (ints_at h (by simp at hl;omega))
theorem St.rowBool (H:St W0 w ps Γ) (k:Nat) {l:List Bool} (hp:ps[k]? =some (.row (Sv (some ⟨b,0,none⟩) nn c) e 1 nn (l.map Value.bool))) (h:iv.toNat=i) (h1:i < nn):
 w.cell? ⟨b,0+iv.toNat * 1,none⟩=some (Bv (l[i]!)):=by
 have hl:=H.rowLen k hp
 exact H.rowGet k hp (bools_at h (by simp at hl;omega))
theorem St.rowElem {α:Type} [qK α] [Inhabited α] (H:St W0 w ps Γ) (k:Nat) (hp:ps[k]? =some (.row (Sv (some ⟨b,0,none⟩) nn c) e (qK.size α) nn xs)) (j:Nat) {l:List α}
 (hf:Γ[j]? =some (xN fr F xs l)) (hz:0 < qK.size α) {iv:Int} {i:Nat} (h:iv.toNat=i) (h1:i < nn):
 ∃ cs G,vg w b (0+iv.toNat * qK.size α) cs/\qK.rep w G cs (l[i]!)/\(∀ x∈G,x∈F)/\(fr=true->ve w G)/\∃ v1 v2,xs=v1++cs++v2/\v1.length=i * qK.size α:=by
 subst h
 obtain ⟨hr,hfr⟩:=H.get j hf
 have hl:=H.rowLen k hp
 have hl2:=XA hr
 have hlen:iv.toNat < l.length:=by
  have:nn=l.length:=Nat.eq_of_mul_eq_mul_right hz (hl.symm.trans hl2)
  omega
 obtain ⟨F1,Fk,F2,v1,cs,v2,hF,hv,hv1,hcs,hrep,_,_⟩:=reps_get hr _ hlen
 refine ⟨cs,Fk,fun i v hi=>?_,by rw [getElem!_pos l _ hlen];exact hrep,?_,fun e=>(hfr e).sub ?_,v1,v2,hv,hv1⟩
 ·refine H.rowGet k hp ?_
  have hci:i < cs.length:=by
   rcases Nat.lt_or_ge i cs.length with h | h
   ·exact h
   ·simp [h] at hi
  rw [hv,List.append_assoc,Nat.zero_add,← hv1,List.getElem?_append_right qf,Nat.add_sub_cancel_left,List.getElem?_append_left hci,hi]
 ·intro x hx;rw [hF];simp [hx]
 ·intro x hx;rw [hF];simp [hx]
theorem St.xB {α:Type} [qK α] (H:St W0 w ps Γ) (k:Nat) (hp:ps[k]? =some (.row v e (qK.size α) nn xs)) (j:Nat) {l:List α}
 (hf:Γ[j]? =some (xN fr F xs l)) (hz:0 < qK.size α):nn=l.length:=
 Nat.eq_of_mul_eq_mul_right hz ((H.rowLen k hp).symm.trans (XA (H.get j hf).1))
theorem St.jY {α:Type} [qK α] (H:St W0 w ps Γ) (k:Nat) (hp:ps[k]? =some (.row (Sv (some ⟨b,0,none⟩) nn c) e 1 nn xs)) (j:Nat) {l:List (List α)}
 (hf:Γ[j]? =some (xN fr F xs l)) {iv:Int} (i:Nat) (h:iv.toNat=i) (h1:i < nn):
 ∃ (a:yOA) (c' :Nat) (G:yLN),(∀ x∈G,x∈F)/\w.cell? ⟨b,0+iv.toNat * 1,none⟩=some (Sv a (l[i]!).length c')/\St W0 w ps (isF fr G (Sv a (l[i]!).length c') (l[i]!)::Γ):=by
 obtain ⟨cs,G,hc,hr,hsub,hfr,_⟩:=H.rowElem k hp j hf Nat.one_pos h h1
 obtain ⟨a,c',rfl,hx⟩:=id hr
 exact ⟨a,c',G,hsub,by simpa [qK.size] using hc 0 _ rfl,H.jy j hf _ ⟨hr,hfr⟩ hsub⟩
theorem ownsRow_set (h:w.ownsRow B e sz (Sv (some ⟨b,0,none⟩) nn c) nn xs) (off:Nat) (us:List Value) (ho:off+us.length<=xs.length) (h1:∀ u∈us,u.oneCell' =true) {P:Program}:
 ∃ w',(storeCells ⟨b,off,none⟩ us).run P w=.ok () w' /\w'.os=w.os/\w'.tape=w.tape/\w'.output=w.output/\w'.heap.size=w.heap.size/\(∀ i,b≠i->w'.heap[i]? =w.heap[i]?)∧
  w'.ownsRow B e sz (Sv (some ⟨b,0,none⟩) nn c) nn (xs.take off++us++xs.drop (off+us.length)):=by
 obtain ⟨hl,h | ⟨g,cap,cur,hv,hB,hg,hn,hm,hcs,ht⟩⟩:=h
 ·simp at h
 simp only [Value.slice.injEq,Option.some.injEq,Addr.mk.injEq,and_true] at hv
 obtain ⟨rfl,_,rfl⟩:=hv
 have hcl:nn * sz<=cur.size:=by rw [hcs];exact Nat.mul_le_mul_right _ hn
 have hlx:xs.length=nn * sz:=hl
 have hle:off+us.length<=cur.size:=by omega
 have hr:=run_storeCells_at P b off e us 0 cur w hg qf h1
 simp only [Nat.add_zero] at hr
 have hxs:xs.take off++us++xs.drop (off+us.length)=(cur.toList.take off++us++cur.toList.drop (off+us.length)).take (nn * sz):=by
  subst ht
  apply List.ext_getElem?
  intro i
  simp only [List.getElem?_take,List.getElem?_append,List.length_append,List.length_take,List.getElem?_drop,Array.length_toList]
  rw [Nat.min_eq_left (show off<=cur.size by omega),Nat.min_eq_left (show nn * sz<=cur.size by omega),Nat.min_eq_left (show off<=nn * sz by omega)]
  by_cases hi:i < nn * sz
  ·by_cases h1:i < off
   ·simp [hi,h1,show i < off+us.length by omega]
   ·by_cases h2:i < off+us.length
    ·simp [hi,h1,h2]
    ·have:off+us.length+(i - (off+us.length))=i:=by omega
     simp [hi,h2,this]
  ·have h2:¬ i < off+us.length:=by omega
   have:off+us.length+(i - (off+us.length))=i:=by omega
   simp [hi,h2,this]
 refine ⟨w.setRow b (cur.toList.take off++us++cur.toList.drop (off+us.length)).toArray,hr,rfl,rfl,rfl,by simp [World.setRow],fun i hi=>by simp [World.setRow,Array.getElem?_modify,hi],?_,Or.inr ⟨b,c,(cur.toList.take off++us++cur.toList.drop (off+us.length)).toArray,rfl,hB,by simp [World.setRow,Array.getElem?_modify,hg],hn,hm,?_,?_⟩⟩
 ·simp;omega
 ·simp;omega
 ·rw [hxs]
theorem St.rowSet (H:St W0 w ps Γ) (k:Nat) (hp:ps[k]? =some (.row (Sv (some ⟨b,0,none⟩) nn c) e sz nn xs)) (off:Nat) (us:List Value) (ho:off+us.length<=xs.length) (h1:∀ u∈us,u.oneCell' =true) {P:Program}:
 ∃ w',(storeCells ⟨b,off,none⟩ us).run P w=.ok () w' /\St W0 w' (ps.set k (.row (Sv (some ⟨b,0,none⟩) nn c) e sz nn (xs.take off++us++xs.drop (off+us.length)))) Γ:=by
 have h:=(H.has _ (List.mem_of_getElem? hp):w.ownsRow W0.heap.size e sz _ nn xs)
 obtain ⟨w',hr,h1,h2,h3,h4,h5,h6⟩:=ownsRow_set h off us ho h1 (P:=P)
 exact ⟨w',hr,H.change k hp h1 h2 h3 qf (fun i _ hi=>h5 i fun e' =>hi (by simp [Prv.blk,Value.ownBlock,e'])) h6 (Or.inl rfl)⟩
end
section
variable {P : Program} {Q : Exit -> Act -> World -> Prop} {n : Nat} {ρ : Env} {W0 w : World} {ps : List Prv} {Γ : List Fact}
 {d:Nat} {ty:TypeId} {pos:String} {af:Array Edge} {K:Env->World->Prop}
theorem o_storeRow [Dfr] (H:St W0 w ps Γ) (k:Nat) (hp:ps[k]? =some (.row (Sv (some ⟨b,0,none⟩) nn c) e sz nn xs)) (v:Value)
 (hs:∀ w,(Go.sizeOf t).run P w=.ok v.cells.size w) (hx:ev n ρ x=.pointer (some ⟨b,off,none⟩)) (hy:ev n ρ y=v) (h1:∀ u∈v.cells.toList,u.oneCell' =true) (ho:off+v.cells.size<=xs.length)
 (kk:∀ w',St W0 w' (ps.set k (.row (Sv (some ⟨b,0,none⟩) nn c) e sz nn (xs.take off++v.cells.toList++xs.drop (off+v.cells.size)))) Γ->K ρ w'):
 OW P Q ⟨none,.store t x y,ty,pos,af,none⟩ n ρ w K:=by
 obtain ⟨w',hr,H'⟩:=H.rowSet k hp off v.cells.toList (by simpa using ho) h1 (P:=P)
 refine o_unit (w' :=w') ?_ (kk _ (by simpa using H'))
 simp [execOp,hx,hy,Instr.storeAt,Instr.sureAddr,storeVar,hs,hr]
theorem o_storeRow1 [Dfr] (H:St W0 w ps Γ) (k:Nat) (hp:ps[k]? =some (.row (Sv (some ⟨b,0,none⟩) nn c) e 1 nn xs)) (v:Value)
 (hs:∀ w,(Go.sizeOf t).run P w=.ok 1 w) (hx:ev n ρ x=.pointer (some ⟨b,0+iv.toNat * 1,none⟩)) (hy:ev n ρ y=v) (h1:v.oneCell' =true) (h2:iv.toNat < nn)
 (kk:∀ w',St W0 w' (ps.set k (.row (Sv (some ⟨b,0,none⟩) nn c) e 1 nn (xs.set iv.toNat v))) Γ->K ρ w'):
 OW P Q ⟨none,.store t x y,ty,pos,af,none⟩ n ρ w K:=by
 have hc:v.cells=#[v]:=by cases v <;> first | rfl | (simp [Value.oneCell'] at h1)
 have hl:=H.rowLen k hp
 refine o_storeRow H k hp v (by simpa [hc] using hs) hx hy (by simp [hc,h1]) (by simp [hc];omega) ?_
 simp only [hc,List.size_toArray,List.length_cons,List.length_nil,Nat.zero_add,Nat.mul_one]
 rw [show xs.take iv.toNat++[v]++xs.drop (iv.toNat+1)=xs.set iv.toNat v by rw [List.set_eq_take_append_cons_drop,if_pos qf];simp]
 exact kk
theorem XB [Dfr] (H:St W0 w ps Γ) (k:Nat) (hp:ps[k]? =some (.row (Sv (some ⟨b,0,none⟩) nn c) e 1 nn (l.map (Value.int .i64)))) (u:Int)
 (hs:∀ w,(Go.sizeOf t).run P w=.ok 1 w) (hx:ev n ρ x=.pointer (some ⟨b,0+iv.toNat * 1,none⟩)) (hy:ev n ρ y=.int .i64 u) (hi:iv.toNat=i) (h2:i < nn)
 (kk:∀ w',St W0 w' (ps.set k (.row (Sv (some ⟨b,0,none⟩) nn c) e 1 nn ((l.set i u).map (Value.int .i64)))) Γ->K ρ w'):
 OW P Q ⟨none,.store t x y,ty,pos,af,none⟩ n ρ w K:=by
 subst hi
 refine o_storeRow1 H k hp (.int .i64 u) hs hx hy rfl h2 fun w' H' =>kk w' ?_
 rwa [List.map_set]
theorem QG [Dfr] {l:List Bool} (H:St W0 w ps Γ) (k:Nat) (hp:ps[k]? =some (.row (Sv (some ⟨b,0,none⟩) nn c) e 1 nn (l.map Value.bool))) (u:Bool)
 (hs:∀ w,(Go.sizeOf t).run P w=.ok 1 w) (hx:ev n ρ x=.pointer (some ⟨b,0+iv.toNat * 1,none⟩)) (hy:ev n ρ y=Bv u) (hi:iv.toNat=i) (h2:i < nn)
 (kk:∀ w',St W0 w' (ps.set k (.row (Sv (some ⟨b,0,none⟩) nn c) e 1 nn ((l.set i u).map Value.bool))) Γ->K ρ w'):
 OW P Q ⟨none,.store t x y,ty,pos,af,none⟩ n ρ w K:=by
 subst hi
 refine o_storeRow1 H k hp (Bv u) hs hx hy rfl h2 fun w' H' =>kk w' ?_
 rwa [List.map_set]
theorem reps_set {α:Type} [qK α] {l:List α} (h:reps w F xs l) {y:α} (hy:qK.rep w G cs y) (k:Nat) (hk:k < l.length):
 ∃ F',reps w F' (xs.take (k * qK.size α)++cs++xs.drop (k * qK.size α+cs.length)) (l.set k y)/\(∀ b∈F',b∈F\/b∈G)/\(F.Nodup->G.Nodup->(∀ b∈F,b∉G)->F'.Nodup):=by
 obtain ⟨F1,Fk,F2,v1,ck,v2,hF,hv,hv1,hck,_,h1,h2⟩:=reps_get h k hk
 have hcl:=qK.len hy
 refine ⟨F1++G++F2,?_,fun b hb=>?_,fun n1 n2 n3=>?_⟩
 ·subst hv
  rw [← hv1,List.append_assoc v1,List.take_left,hcl,← hck,List.drop_append,List.drop_of_length_le qf,List.nil_append,Nat.add_sub_cancel_left,List.drop_left,List.set_eq_take_append_cons_drop,if_pos hk,show List.take k l++y::List.drop (k+1) l=List.take k l++[y]++List.drop (k+1) l by simp]
  exact jJ (jJ h1 (reps_one hy)) h2
 ·simp only [List.mem_append] at hb
  rcases hb with (hb | hb) | hb
  ·exact Or.inl (by rw [hF];simp [hb])
  ·exact Or.inr hb
  ·exact Or.inl (by rw [hF];simp [hb])
 ·subst hF
  have n1' :=List.nodup_append.1 n1
  have n1a:=List.nodup_append.1 n1'.1
  refine List.nodup_append.2 ⟨List.nodup_append.2 ⟨n1a.1,n2,fun a ha b hb e=>n3 a (by simp [ha]) (e▸hb)⟩,n1'.2.1,fun a ha b hb e=>?_⟩
  subst e
  rcases List.mem_append.1 ha with ha | ha
  ·exact n1'.2.2 a (by simp [ha]) a hb rfl
  ·exact n3 a (by simp [hb]) ha
theorem jK [Dfr] {α:Type} [qK α] {l:List α} {z:α} (f0:Bool) (H:St W0 w ps Γ) (k:Nat) (hp:ps[k]? =some (.row (Sv (some ⟨b,0,none⟩) nn c) e 1 nn xs))
 (j:Nat) (hf:Γ[j]? =some (xN fr F xs l)) (v:Value) (m:Nat) (hg:Γ[m]? =some (isF fr' G v z)) {iv:Int} {i:Nat} (hz:qK.size α=1)
 (hs:∀ w,(Go.sizeOf t).run P w=.ok 1 w) (hx:ev n ρ x=.pointer (some ⟨b,0+iv.toNat * 1,none⟩)) (hy:ev n ρ y=v) (hi:iv.toNat=i) (h2:i < nn) (h3:f0=true->fr=true/\fr' =true)
 (kk:∀ w' xs' F',((∀ b∈F',b∈F\/b∈G)/\(F.Nodup->G.Nodup->(∀ b∈F,b∉G)->F'.Nodup))->St W0 w' (ps.set k (.row (Sv (some ⟨b,0,none⟩) nn c) e 1 nn xs')) (xN f0 F' xs' (l.set i z)::Γ)->K ρ w'):
 OW P Q ⟨none,.store t x y,ty,pos,af,none⟩ n ρ w K:=by
 subst hi
 have hone:v.oneCell' =true:=qK.one (H.get m hg).1 v qm
 have hn:nn=l.length:=H.xB (α:=α) k (by rw [hz];exact hp) j hf qf
 obtain ⟨F',hr,hs1,hs2⟩:=reps_set (H.get j hf).1 (H.get m hg).1 iv.toNat qf
 have hl:=H.rowLen k hp
 have e1:xs.take (iv.toNat * qK.size α)++[v]++xs.drop (iv.toNat * qK.size α+[v].length)=xs.set iv.toNat v:=by
  rw [hz,Nat.mul_one,List.set_eq_take_append_cons_drop,if_pos qf];simp
 rw [e1] at hr
 have H1:St W0 w ps (xN f0 F' (xs.set iv.toNat v) (l.set iv.toNat z)::Γ):=by
  refine H.add _ ⟨hr,fun e b hb=>?_⟩ fun b hb=>?_
  ·rcases hs1 b hb with h | h
   ·exact (H.get j hf).2 (h3 e).1 b h
   ·exact (H.get m hg).2 (h3 e).2 b h
  ·rcases hs1 b hb with h | h
   ·exact (H.facts _ (List.mem_of_getElem? hf)).2 b h
   ·exact (H.facts _ (List.mem_of_getElem? hg)).2 b h
 exact o_storeRow1 H1 k hp v hs hx hy hone h2 fun w' H' =>kk w' _ F' ⟨hs1,hs2⟩ H'
theorem Qr [Dfr] (H:St W0 w ps Γ) (hu:P.underlying t=some (.slice e)) (he:TI P e (.int .i64 0) 1 by') (nn:Nat)
 (hx:ev n ρ x=.int .i64 iv) (hy:ev n ρ y=.int .i64 iv) (hn:iv=nn) (hb:by' * nn<=281474976710656) (hm:nn<=9223372036854775807)
 (k:∀ b w',St W0 w' (.row (Sv (some ⟨b,0,none⟩) nn nn) e 1 nn ((List.replicate nn (0:Int)).map (Value.int .i64))::ps) Γ->K (upd ρ d (Sv (some ⟨b,0,none⟩) nn nn)) w'):
 OW P Q ⟨some d,.makeSlice t x y,ty,pos,af,none⟩ n ρ w K:=by
 subst hn
 refine o_make1 H hu he rfl nn hx hy hb hm fun b w' H' =>k b w' ?_
 have:=H'.boxRow 0 rfl 1 nn qm qp
 simpa using this
theorem o_makeB [Dfr] (H:St W0 w ps Γ) (hu:P.underlying t=some (.slice e)) (he:TI P e (Bv false) 1 by') (nn:Nat)
 (hx:ev n ρ x=.int .i64 iv) (hy:ev n ρ y=.int .i64 iv) (hn:iv=nn) (hb:by' * nn<=281474976710656) (hm:nn<=9223372036854775807)
 (k:∀ b w',St W0 w' (.row (Sv (some ⟨b,0,none⟩) nn nn) e 1 nn ((List.replicate nn false).map Value.bool)::ps) Γ->K (upd ρ d (Sv (some ⟨b,0,none⟩) nn nn)) w'):
 OW P Q ⟨some d,.makeSlice t x y,ty,pos,af,none⟩ n ρ w K:=by
 subst hn
 refine o_make1 H hu he rfl nn hx hy hb hm fun b w' H' =>k b w' ?_
 have:=H'.boxRow 0 rfl 1 nn qm qp
 simpa using this
theorem reps_zeros {α:Type} [qK α] {w:World} {zs:List Value} {z:α} (h:qK.rep w [] zs z):∀ n,reps w [] (List.replicate n zs).flatten (List.replicate n z)
 | 0=>⟨rfl,rfl⟩
 | n+1=>⟨[],[],zs,(List.replicate n zs).flatten,rfl,by simp [List.replicate_succ],h,reps_zeros h n⟩
theorem o_makeZ [Dfr] {α:Type} [qK α] (zx:α) (H:St W0 w ps Γ) (hu:P.underlying t=some (.slice e)) (he:TI P e z (qK.size α) by') (h0:0 < qK.size α) (hzx:∀ w,qK.rep w [] z.cells.toList zx) (nn:Nat)
 (hx:ev n ρ x=.int .i64 iv) (hy:ev n ρ y=.int .i64 iv) (hn:iv=nn) (hb:by' * nn<=281474976710656) (hm:nn<=9223372036854775807)
 (k:∀ b w' xs,St W0 w' (.row (Sv (some ⟨b,0,none⟩) nn nn) e (qK.size α) nn xs::ps) (xN true [] xs (List.replicate nn zx)::Γ)->K (upd ρ d (Sv (some ⟨b,0,none⟩) nn nn)) w'):
 OW P Q ⟨some d,.makeSlice t x y,ty,pos,af,none⟩ n ρ w K:=by
 subst hn
 have hcl:z.cells.size=qK.size α:=by have:=qK.len (hzx w);simpa using this
 refine o_makeN H hu he hcl h0 nn hx hy hb hm fun b w' H' =>k b w' _ (St.add (H'.boxRow 0 rfl _ nn ?_ qp) _ ⟨reps_zeros (hzx w') nn,fun _=>ve.nil _⟩ (by simp [xN]))
 simp [List.length_flatten,hcl]
end
section
variable {P : Program} {Q : Exit -> Act -> World -> Prop} {n : Nat} {ρ : Env} {W0 w : World} {ps : List Prv} {Γ : List Fact}
 {d:Nat} {ty:TypeId} {pos:String} {af:Array Edge} {K:Env->World->Prop}
theorem set_at {p q:Prv} (h:ps[i]? =some p):(ps.set i q)[i]? =some q:=by
 have:=(List.getElem?_eq_some_iff.1 h).1
 simp [this]
theorem zG [Dfr] (H:St W0 w ps Γ) (i:Nat) (hp:ps[i]? =some (.row v e sz nn xs)) (j:Nat) (hq:ps[j]? =some (.box b cs tb))
 (hu:P.underlying t=some (.slice e)) (he:TI P e z sz by') (hzs:z.cells.size=sz) (h0:0 < sz) (hs:ev n ρ s=v) (hx:ev n ρ x=Sv (some ⟨b,0,none⟩) m c) (hl:cs.length=m * sz)
 (h1:∀ u∈cs,u.oneCell' =true) (hm:nn+m<=maxLen) (hb:(nn+m) * by' <=140737488355328)
 (k:∀ a c' w',St W0 w' (ps.set i (.row (Sv a (nn+m) c') e sz (nn+m) (xs++cs))) Γ->K (upd ρ d (Sv a (nn+m) c')) w'):
 OW P Q ⟨some d,.call ⟨.builtin .append,#[s,x],#[t,t]⟩,ty,pos,af,none⟩ n ρ w K:=
 o_append H i hp j hq hu he hzs h0 hs hx hl h1 hm hb fun v' w' H' =>by
  obtain ⟨a,c',rfl,_⟩:=H'.jm i (set_at hp)
  exact k a c' w' H'
theorem o_appendFR [Dfr] {α:Type} [qK α] {l:List α} (H:St W0 w ps Γ) (i:Nat) (hp:ps[i]? =some (.row v e (qK.size α) nn xs))
 (j:Nat) (hf:Γ[j]? =some (isF fr F (Sv a m c) l)) (hu:P.underlying t=some (.slice e)) (he:TI P e z (qK.size α) by') (hzs:z.cells.size=qK.size α) (h0:0 < qK.size α) (hs:ev n ρ s=v)
 (hx:ev n ρ x=Sv a m c) (hm:nn+m<=maxLen) (hb:(nn+m) * by' <=140737488355328)
 (k:∀ a' c' w' vs G,St W0 w' (ps.set i (.row (Sv a' (nn+m) c') e (qK.size α) (nn+m) (xs++vs))) (xN fr G vs l::Γ)->(∀ b∈G,b∈F)->K (upd ρ d (Sv a' (nn+m) c')) w'):
 OW P Q ⟨some d,.call ⟨.builtin .append,#[s,x],#[t,t]⟩,ty,pos,af,none⟩ n ρ w K:=
 o_appendF H i hp j hf hu he hzs h0 hs hx hm hb fun v' w' vs G H' hG=>by
  obtain ⟨a',c',rfl,_⟩:=H'.jm i (set_at hp)
  exact k a' c' w' vs G H' hG
theorem St.dead (H:St W0 w ps Γ) (k:Nat) {p:Prv} (hp:ps[k]? =some p):St W0 w (ps.set k (.row (Sv none 0 0) 0 1 0 [])) Γ:=
 H.change k hp rfl rfl rfl (Nat.le_refl _) (fun _ _ _=>rfl) (World.ownsRow_nil _ _ _ _) (Or.inr (Or.inl rfl))
theorem St.freeze {α:Type} [qK α] (H:St W0 w ps Γ) (k:Nat) (hp:ps[k]? =some (.row v e (qK.size α) nn xs)) (fr:Bool) {l:List α}
 (hr:reps w F xs l) (hfr:fr=true->ve w F) (hF:∀ b∈F,b < w.heap.size/\∀ i,jq ps i≠some b) (hn:nn=l.length):
 ∃ G,(∀ b∈G,b∈F\/jq ps k=some b)/\(F.Nodup->G.Nodup)/\St W0 w (ps.set k (.row (Sv none 0 0) 0 1 0 [])) (isF fr G v l::Γ):=by
 subst hn
 have ho:=(H.has _ (List.mem_of_getElem? hp):w.ownsRow W0.heap.size e (qK.size α) v l.length xs)
 have hset:∀ (b i:Nat),jq (ps.set k (.row (Sv none 0 0) 0 1 0 [])) i=some b->i≠k/\jq ps i=some b:=by
  intro b i h
  unfold jq at h ⊢
  by_cases hi:i=k
  ·subst hi
   rw [set_at hp] at h
   simp [Prv.blk,Value.ownBlock] at h
  ·rw [List.getElem?_set_ne (Ne.symm hi)] at h
   exact ⟨hi,h⟩
 rcases ho.2 with ⟨rfl,h0⟩ | ⟨g,cap,cur,rfl,hb,hg,hnc,hcm,hcs,htake⟩
 ·have:l=[]:=List.eq_nil_of_length_eq_zero h0
  subst this
  exact ⟨[],by simp,by simp,(H.dead k hp).add _ ⟨⟨none,0,rfl,by simp,Or.inl ⟨rfl,rfl⟩⟩,fun _=>ve.nil _⟩ (by simp [isF])⟩
 ·have hbk:jq ps k=some g:=by simp [jq,hp,Prv.blk,Value.ownBlock]
  have hcl:vg w g 0 xs:=by
   intro i u hi
   rw [Nat.zero_add,World.cell?,hg]
   rw [← htake,List.getElem?_take] at hi
   split at hi
   ·simpa using hi
   ·cases hi
  refine ⟨g::F,fun b hb=>?_,fun hn=>List.nodup_cons.2 ⟨fun h=>(hF g h).2 k hbk,hn⟩,(H.dead k hp).add _ ⟨⟨_,cap,rfl,by unfold maxLen at hcm;omega,Or.inr ⟨g,0,F,xs,rfl,rfl,(Array.getElem?_eq_some_iff.1 hg).1,hr,hcl⟩⟩,fun e b hb=>?_⟩ fun b hb=>?_⟩
  ·rcases List.mem_cons.1 hb with rfl | h
   ·exact Or.inr hbk
   ·exact Or.inl h
  ·rcases List.mem_cons.1 hb with rfl | h
   ·exact ⟨_,_,hg⟩
   ·exact hfr e b h
  ·rcases List.mem_cons.1 hb with rfl | h
   ·exact ⟨(Array.getElem?_eq_some_iff.1 hg).1,fun i hi=>(hset b i hi).1 (H.dist i k b (hset b i hi).2 hbk)⟩
   ·exact ⟨(hF b h).1,fun i hi=>(hF b h).2 i (hset b i hi).2⟩
theorem reps_of_bools (w:World):∀ (l:List Bool),reps w [] (l.map Value.bool) l
 | []=>⟨rfl,rfl⟩
 | x::l=>⟨[],[],[Bv x],l.map Value.bool,rfl,rfl,⟨rfl,rfl⟩,reps_of_bools w l⟩
theorem Fresh.ice (N:Fresh W0.heap.size (F::L)) (H:St W0 w ps Γ) (k:Nat) (hs:∀ b∈G,b∈F\/jq ps k=some b) (hn:F.Nodup->G.Nodup) (ha:∀ K∈L,∀ b∈K,∀ i,jq ps i≠some b):Fresh W0.heap.size (G::L):=by
 have h1:=List.pairwise_cons.1 N.dj
 refine ⟨fun K hK=>?_,fun K hK b hb=>?_,List.pairwise_cons.2 ⟨fun K hK b hb hbK=>?_,h1.2⟩⟩
 ·rcases List.mem_cons.1 hK with rfl | h
  ·exact hn (N.nd F qm)
  ·exact N.nd K (by simp [h])
 ·rcases List.mem_cons.1 hK with rfl | h
  ·rcases hs b hb with h | h
   ·exact N.ge F qm b h
   ·exact (Q5 H h).1
  ·exact N.ge K (by simp [h]) b hb
 ·rcases hs b hb with h | h
  ·exact h1.1 K hK b h hbK
  ·exact ha K hK b hbK k h
theorem St.zh (H:St W0 w ps Γ) (k:Nat) (hp:ps[k]? =some (.row v e 1 nn (l.map (Value.int .i64)))) (N:Fresh W0.heap.size L) (ha:∀ K∈L,∀ b∈K,∀ i,jq ps i≠some b):
 ∃ G,Fresh W0.heap.size (G::L)/\nn=l.length/\St W0 w (ps.set k (.row (Sv none 0 0) 0 1 0 [])) (isF true G v l::Γ):=by
 have hn:nn=l.length:=by have:=H.rowLen k hp;simp at this;omega
 obtain ⟨G,h1,h2,h3⟩:=H.freeze (α:=Int) k hp true (reps_of_ints w l) (fun _=>ve.nil _) qm hn
 exact ⟨G,N.emp.ice H k h1 h2 ha,hn,h3⟩
theorem St.freezeB (H:St W0 w ps Γ) (k:Nat) {l:List Bool} (hp:ps[k]? =some (.row v e 1 nn (l.map Value.bool))) (N:Fresh W0.heap.size L) (ha:∀ K∈L,∀ b∈K,∀ i,jq ps i≠some b):
 ∃ G,Fresh W0.heap.size (G::L)/\nn=l.length/\St W0 w (ps.set k (.row (Sv none 0 0) 0 1 0 [])) (isF true G v l::Γ):=by
 have hn:nn=l.length:=by have:=H.rowLen k hp;simp at this;omega
 obtain ⟨G,h1,h2,h3⟩:=H.freeze (α:=Bool) k hp true (reps_of_bools w l) (fun _=>ve.nil _) qm hn
 exact ⟨G,N.emp.ice H k h1 h2 ha,hn,h3⟩
theorem St.Qj {α:Type} [qK α] (H:St W0 w ps Γ) (k:Nat) (hp:ps[k]? =some (.row v e (qK.size α) nn xs)) (j:Nat) {l:List α} (hf:Γ[j]? =some (xN fr F xs l)) (hz:0 < qK.size α):
 ∃ G,((∀ b∈G,b∈F\/jq ps k=some b)/\(F.Nodup->G.Nodup))/\nn=l.length/\St W0 w (ps.set k (.row (Sv none 0 0) 0 1 0 [])) (isF fr G v l::Γ):=by
 have hn:=H.xB k hp j hf hz
 obtain ⟨G,h1,h2,h3⟩:=H.freeze (α:=α) k hp fr (H.get j hf).1 (H.get j hf).2 (H.facts _ (List.mem_of_getElem? hf)).2 hn
 exact ⟨G,⟨h1,h2⟩,hn,h3⟩
theorem St.QV (H:St W0 w ps Γ) (k:Nat) (hp:ps[k]? =some (.row (Sv a nn c) e 1 nn (l.map (Value.int .i64)))):∃ G,nn=l.length/\qK.rep w G [Sv a nn c] l:=by
 have hn:nn=l.length:=by have:=H.rowLen k hp;simp at this;omega
 obtain ⟨a',c',G,h1,h2,_⟩:=H.rowInts k hp hn
 exact ⟨G,hn,h2⟩
theorem St.rowIsB (H:St W0 w ps Γ) (k:Nat) {l:List Bool} (hp:ps[k]? =some (.row (Sv a nn c) e 1 nn (l.map Value.bool))):∃ G,nn=l.length/\qK.rep w G [Sv a nn c] l:=by
 have hn:nn=l.length:=by have:=H.rowLen k hp;simp at this;omega
 obtain ⟨a',c',G,h1,h2,_⟩:=H.rowRep (α:=Bool) k hp (reps_of_bools w l) hn qm
 exact ⟨G,hn,h2⟩
theorem St.XE {α:Type} [qK α] (H:St W0 w ps Γ) (k:Nat) (hp:ps[k]? =some (.row (Sv a nn c) e (qK.size α) nn xs)) (j:Nat) {l:List α} (hf:Γ[j]? =some (xN fr F xs l)) (hz:0 < qK.size α):
 ∃ G,nn=l.length/\qK.rep w G [Sv a nn c] l:=by
 have hn:=H.xB k hp j hf hz
 subst hn
 have ho:=(H.has _ (List.mem_of_getElem? hp):w.ownsRow W0.heap.size e (qK.size α) _ l.length xs)
 rcases ho.2 with ⟨hv,h0⟩ | ⟨g,cap,cur,hv,hb,hg,hnc,hcm,hcs,htake⟩
 ·have:l=[]:=List.eq_nil_of_length_eq_zero h0
  subst this
  rw [hv]
  exact ⟨[],rfl,none,0,rfl,by simp,Or.inl ⟨rfl,rfl⟩⟩
 ·rw [hv]
  refine ⟨g::F,rfl,_,cap,rfl,by unfold maxLen at hcm;omega,Or.inr ⟨g,0,F,xs,rfl,rfl,(Array.getElem?_eq_some_iff.1 hg).1,(H.get j hf).1,?_⟩⟩
  intro i u hi
  rw [Nat.zero_add,World.cell?,hg]
  rw [← htake,List.getElem?_take] at hi
  split at hi
  ·simpa using hi
  ·cases hi
theorem zN [Dfr] {xs:Array Operand} {f:FuncId} (args:Array Value) (hv:ev n ρ x=.func (.func f) fst caps)
 (hargs:fst.toList++xs.toList.map (ev n ρ)++caps.toList=args.toList) (hf:∀ args w,(callFunc f args).run P w=.ok (.enter f args) w)
 (hc:Calls P f args w fun e w' =>∃ v,e=.returned v/\K (upd ρ d v) w'):
 OW P Q ⟨some d,.call ⟨.value x,xs,ts⟩,ty,pos,af,none⟩ n ρ w K:=by
 have hr:(execOp (ev n ρ) ⟨some d,.call ⟨.value x,xs,ts⟩,ty,pos,af,none⟩).run P w=.ok (.enter f args) w:=by
  have e:fst++xs.map (ev n ρ)++caps=args:=by apply Array.toList_inj.1;rw [← hargs];simp
  simp [execOp,resolve,Deferred.ofValue,hv,invoke,hf,e]
 unfold OW
 intro K' hK
 unfold Oper.wp
 rw [QZ,hr]
 refine hc.mono fun e w' ⟨v,he,hR⟩=>?_
 subst he
 show K' ((mk n ρ).put (some d) v) w'
 rw [mk_put]
 exact hK _ _ hR
end
theorem jo {P:Program} {f:FuncId} {as0 bs:Array Value} {R:Ending->World->Prop} (h:as0=bs) (k:Calls P f bs w R):Calls P f as0 w R:=h▸k
section
variable {W0 w : World} {ps : List Prv} {Γ : List Fact}
theorem St.yt (H:St W0 w ps Γ) (k:Nat) (hp:ps[k]? =some (.row v e 1 nn (l.map (Value.int .i64)))):nn=l.length:=by
 have:=H.rowLen k hp;simp at this;omega
theorem St.rowNB (H:St W0 w ps Γ) (k:Nat) {l:List Bool} (hp:ps[k]? =some (.row v e 1 nn (l.map Value.bool))):nn=l.length:=by
 have:=H.rowLen k hp;simp at this;omega
theorem St.isLen {α:Type} [qK α] (H:St W0 w ps Γ) (k:Nat) {l:List α} (hf:Γ[k]? =some (isF fr F (Sv a m c) l)):m=l.length:=by
 obtain ⟨⟨a',c',hc,_⟩,_⟩:=H.get k hf
 simp only [List.cons.injEq,Value.slice.injEq,and_true] at hc
 exact hc.2.1
end
theorem snocI (l:yLI) (x:Int):l.map (Value.int .i64)++[.int .i64 x]=(l++[x]).map (Value.int .i64):=by simp
theorem snocB (l:List Bool) (x:Bool):l.map Value.bool++[Bv x]=(l++[x]).map Value.bool:=by simp
theorem Fresh.split (N:Fresh B ((F++G)::L)):Fresh B (F::G::L):=by
 have h1:=List.pairwise_cons.1 N.dj
 have h2:=List.nodup_append.1 (N.nd (F++G) qm)
 refine ⟨fun K hK=>?_,fun K hK b hb=>?_,List.pairwise_cons.2 ⟨fun K hK b hb hbK=>?_,List.pairwise_cons.2 ⟨fun K hK b hb=>h1.1 K hK b (by simp [hb]),h1.2⟩⟩⟩
 ·rcases List.mem_cons.1 hK with rfl | h
  ·exact h2.1
  ·rcases List.mem_cons.1 h with rfl | h
   ·exact h2.2.1
   ·exact N.nd K (by simp [h])
 ·rcases List.mem_cons.1 hK with rfl | h
  ·exact N.ge (K++G) qm b (by simp [hb])
  ·rcases List.mem_cons.1 h with rfl | h
   ·exact N.ge (F++K) qm b (by simp [hb])
   ·exact N.ge K (by simp [h]) b hb
 ·rcases List.mem_cons.1 hK with rfl | h
  ·exact h2.2.2 b hb b hbK rfl
  ·exact h1.1 K h b (by simp [hb]) hbK
section
variable {W0 w w' : World} {ps : List Prv} {Γ : List Fact}
theorem St.addNil {α:Type} [qK α] (H:St W0 w ps Γ):St W0 w ps (isF true [] (Sv none 0 0) ([]:List α)::Γ):=
 H.add _ ⟨⟨none,0,rfl,by simp,Or.inl ⟨rfl,rfl⟩⟩,fun _=>ve.nil _⟩ (by simp [isF])
end
section
variable {P : Program} {Q : Exit -> Act -> World -> Prop} {n : Nat} {ρ : Env} {W0 w : World} {ps : List Prv} {Γ : List Fact}
 {d:Nat} {ty:TypeId} {pos:String} {af:Array Edge} {K:Env->World->Prop}
theorem o_idxArr [Dfr] (iv:Int) (hu:P.underlying t=some (.array m e)) (he:TI P e z sz by')
 (hx:ev n ρ x=.pointer (some ⟨b,off,none⟩)) (hy:ev n ρ y=.int .i64 iv) (h0:0<=iv) (h1:iv < m)
 (k:K (upd ρ d (.pointer (some ⟨b,off+iv.toNat * sz,none⟩))) w):OW P Q ⟨some d,.indexAddr t x y,ty,pos,af,none⟩ n ρ w K:=
 XU _ (by simp [execOp,hx,hy,Instr.indexAt,Instr.sureAddr,asIntOf,run_underlying hu,he.sizeOf,h0,h1,Addr.add_mid]) k
theorem y_idxArr {S:World->Prop} {gd:Option (Nat×Bool)} (b off m:Nat) (iv:Int) (hu:P.underlying t=some (.array m e)) (he:TI P e z sz by')
 (hx:ev n ρ x=.pointer (some ⟨b,off,none⟩)) (hy:ev n ρ y=.int .i64 iv) (h0:0<=iv) (h1:iv < m):
 ∀ w',S w' ->(execOp (ev n ρ) ⟨some d,.indexAddr t x y,ty,pos,af,gd⟩).run P w' =.ok (.value (.pointer (some ⟨b,off+iv.toNat * sz,none⟩))) w' :=
 fun w' _=>by simp [execOp,hx,hy,Instr.indexAt,Instr.sureAddr,asIntOf,run_underlying hu,he.sizeOf,h0,h1,Addr.add_mid]
theorem o_storeArr [Dfr] (H:St W0 w ps Γ) (k:Nat) (hp:ps[k]? =some (.box b (l.map (Value.int .i64)) tb)) (u:Int)
 (hs:∀ w,(Go.sizeOf t).run P w=.ok 1 w) (hx:ev n ρ x=.pointer (some ⟨b,0+iv.toNat * 1,none⟩)) (hy:ev n ρ y=.int .i64 u) (hi:iv.toNat=i) (h2:i < l.length)
 (kk:∀ w',St W0 w' (ps.set k (.box b ((l.set i u).map (Value.int .i64)) tb)) Γ->K ρ w'):OW P Q ⟨none,.store t x y,ty,pos,af,none⟩ n ρ w K:=by
 subst hi
 refine o_store1 H k hp (.int .i64 u) hs hx hy rfl qy fun w' H' =>kk w' ?_
 rwa [List.map_set,show iv.toNat=0+iv.toNat * 1 by omega]
end
theorem Fresh.swap (N:Fresh B (F::G::L)):Fresh B (G::F::L):=by
 have h1:=List.pairwise_cons.1 N.dj
 have h2:=List.pairwise_cons.1 h1.2
 refine ⟨fun K hK=>N.nd K ?_,fun K hK=>N.ge K ?_,List.pairwise_cons.2 ⟨fun K hK b hb hbK=>?_,List.pairwise_cons.2 ⟨fun K hK=>h1.1 K (by simp [hK]),h2.2⟩⟩⟩
 ·simp only [List.mem_cons] at hK ⊢
  rcases hK with h | h | h <;> simp [h]
 ·simp only [List.mem_cons] at hK ⊢
  rcases hK with h | h | h <;> simp [h]
 ·rcases List.mem_cons.1 hK with rfl | h
  ·exact h1.1 G qm b hbK hb
  ·exact h2.1 K h b hb hbK
section
variable {W0 w w' : World} {ps : List Prv} {Γ : List Fact}
theorem St.pick (H:St W0 w ps Γ) (is js:yLN) (hi:is.map (fun i=>ps[i]?)=ps'.map some:=by exact rfl) (hj:js.map (fun i=>Γ[i]?)=Γ'.map some:=by exact rfl) (hd:is.Nodup:=by decide):St W0 w ps' Γ' :=by
 have hl:is.length=ps'.length:=by simpa using congrArg List.length hi
 have ei:∀ k (hk:k < ps'.length) (hk' :k < is.length),ps[is[k]]? =some ps'[k]:=by
  intro k hk hk'
  have h1:(is.map (fun i=>ps[i]?))[k]? =(ps'.map some)[k]? :=by rw [hi]
  simpa [hk,hk'] using h1
 have hblk:∀ k b,jq ps' k=some b->∃ hk:k < is.length,jq ps is[k]=some b:=by
  intro k b h
  unfold jq at h
  cases hp:ps'[k]? with
  | none=>simp [hp] at h
  | some p=>
   obtain ⟨hk,e⟩:=List.getElem?_eq_some_iff.1 hp
   refine ⟨by omega,?_⟩
   unfold jq
   rw [ei k hk qf,e]
   simpa [hp] using h
 refine ⟨H.base,fun p hp=>?_,fun i j b h1 h2=>?_,fun f hf=>?_⟩
 ·have:some p∈ps'.map some:=List.mem_map_of_mem hp
  rw [← hi] at this
  obtain ⟨i,_,hi'⟩:=List.mem_map.1 this
  exact H.has p (List.mem_of_getElem? hi')
 ·obtain ⟨hk1,e1⟩:=hblk i b h1
  obtain ⟨hk2,e2⟩:=hblk j b h2
  have e:=H.dist _ _ b e1 e2
  have hp:=List.pairwise_iff_getElem.1 hd
  rcases Nat.lt_trichotomy i j with h | h | h
  ·exact absurd e (hp i j hk1 hk2 h)
  ·exact h
  ·exact absurd e.symm (hp j i hk2 hk1 h)
 ·have:some f∈Γ'.map some:=List.mem_map_of_mem hf
  rw [← hj] at this
  obtain ⟨i,_,hi'⟩:=List.mem_map.1 this
  obtain ⟨h1,h2⟩:=H.facts f (List.mem_of_getElem? hi')
  exact ⟨h1,fun b hb=>⟨(h2 b hb).1,fun k hk=>by
   obtain ⟨hk',e⟩:=hblk k b hk
   exact (h2 b hb).2 _ e⟩⟩
theorem St.unfree {α:Type} [qK α] (H:St W0 w ps Γ) (j:Nat) {l:List α} (hf:Γ[j]? =some (xN fr F xs l)):St W0 w ps (xN false F xs l::Γ):=
 H.jy j hf _ ⟨(H.get j hf).1,by simp⟩ (fun b hb=>hb)
theorem St.ja {α:Type} [qK α] (H:St W0 w ps Γ) (j:Nat) {l:α} (hf:Γ[j]? =some (isF fr F v l)):St W0 w ps (isF false F v l::Γ):=
 H.jy j hf _ ⟨(H.get j hf).1,by simp⟩ (fun b hb=>hb)
theorem St.repsCat {α:Type} [qK α] (H:St W0 w ps Γ) (f0:Bool) (j:Nat) {l:List α} (hf:Γ[j]? =some (xN fr F xs l)) (m:Nat) {l' :List α} (hg:Γ[m]? =some (xN fr' G ys l')) (h3:f0=true->fr=true/\fr' =true):
 St W0 w ps (xN f0 (F++G) (xs++ys) (l++l')::Γ):=by
 refine H.add _ ⟨jJ (H.get j hf).1 (H.get m hg).1,fun e=>((H.get j hf).2 (h3 e).1).app ((H.get m hg).2 (h3 e).2)⟩ fun b hb=>?_
 rcases List.mem_append.1 hb with h | h
 ·exact (H.facts _ (List.mem_of_getElem? hf)).2 b h
 ·exact (H.facts _ (List.mem_of_getElem? hg)).2 b h
theorem reps_bools {w:World}:∀ {F:yLN} {vs:List Value} {l:List Bool},reps w F vs l->F=[]/\vs=l.map Value.bool
 | _,_,[],⟨hF,hv⟩=>⟨hF,hv⟩
 | _,_,x::l,⟨F1,F2,c1,c2,hF,hv,h1,h2⟩=>by
  obtain ⟨e1,e2⟩:=reps_bools h2
  obtain ⟨k1,k2⟩:F1=[]/\c1=[Bv x]:=h1
  subst e1 e2 k1 k2
  exact ⟨hF,hv⟩
end
theorem catB (l m:List Bool):l.map Value.bool++m.map Value.bool=(l++m).map Value.bool:=by simp
section
variable {P : Program} {Q : Exit -> Act -> World -> Prop} {n : Nat} {ρ : Env} {W w : World} {d : Nat} {ty : TypeId} {pos : String} {af : Array Edge} {K : Env -> World -> Prop} {ps : List Prv} {Γ : List Fact} {S : World -> Prop} {gd : Option (Nat × Bool)}
theorem vG [Dfr] {xs:Array (Nat×Operand)} (cs:List Value) (parts:List (Nat×Value)) (k:K (upd ρ d (.agg cs.toArray)) w) (hx:xs.toList.map (fun p=>(p.1,ev n ρ p.2))=parts:=by exact rfl) (h:P.built t parts=some cs.toArray:=by kernel_rfl):
 OW P Q ⟨some d,.build t xs,ty,pos,af,none⟩ n ρ w K:=by
 subst hx
 refine XU _ ?_ k
 have:=run_build (P:=P) w t (xs.map fun p=>(p.1,ev n ρ p.2)) cs.toArray (by simpa using h)
 simp [execOp,this]
theorem neg_i64 {a:Int} (h: -9223372036854775807<=a/\a<=9223372036854775807):IntKind.i64.wrap (-a)= -a:=wrap_in qf
theorem run_neg {P:Program} {a:Int} (h: -9223372036854775807<=a/\a<=9223372036854775807):(Op.unary .neg (.int .i64 a)).run P w=.ok (.int .i64 (-a)) w:=by
 simp [Op.unary,Op.intArith,neg_i64 h]
theorem o_neg [Dfr] (a:Int) (hx:ev n ρ x=.int .i64 a) (h: -9223372036854775807<=a/\a<=9223372036854775807) (k:K (upd ρ d (.int .i64 (-a))) w):OW P Q ⟨some d,.unOp .neg t x,ty,pos,af,none⟩ n ρ w K:=
 XU _ (by simp [execOp,hx,run_neg h]) k
theorem y_neg (a:Int) (hx:ev n ρ x=.int .i64 a) (h: -9223372036854775807<=a/\a<=9223372036854775807):∀ w',S w' ->(execOp (ev n ρ) ⟨some d,.unOp .neg t x,ty,pos,af,gd⟩).run P w' =.ok (.value (.int .i64 (-a))) w' :=
 fun w' _=>by simp [execOp,hx,run_neg h]
theorem o_quo [Dfr] (a b:Int) (hx:ev n ρ x=.int .i64 a) (hy:ev n ρ y=.int .i64 b) (h0:0<=a/\a<=9223372036854775807) (h1:0 < b) (k:K (upd ρ d (.int .i64 (a / b))) w):
 OW P Q ⟨some d,.binOp .quo t x y u,ty,pos,af,none⟩ n ρ w K:=
 XU _ (by
  have e:a.tdiv b=a / b:=Int.tdiv_eq_ediv_of_nonneg h0.1
  have e2:IntKind.i64.wrap (a / b)=a / b:=wrap_in ⟨by have:=Int.ediv_nonneg h0.1 (Int.le_of_lt h1);omega,by have:=Int.ediv_le_self b h0.1;omega⟩
  simp [execOp,hx,hy,eqGuard,binOp,Op.intDiv,show b≠0 by omega,e,e2]) k
theorem y_quo (a b:Int) (hx:ev n ρ x=.int .i64 a) (hy:ev n ρ y=.int .i64 b) (h0:0<=a/\a<=9223372036854775807) (h1:0 < b):
 ∀ w',S w' ->(execOp (ev n ρ) ⟨some d,.binOp .quo t x y u,ty,pos,af,gd⟩).run P w' =.ok (.value (.int .i64 (a / b))) w' :=
 fun w' _=>by
  have e:a.tdiv b=a / b:=Int.tdiv_eq_ediv_of_nonneg h0.1
  have e2:IntKind.i64.wrap (a / b)=a / b:=wrap_in ⟨by have:=Int.ediv_nonneg h0.1 (Int.le_of_lt h1);omega,by have:=Int.ediv_le_self b h0.1;omega⟩
  simp [execOp,hx,hy,eqGuard,binOp,Op.intDiv,show b≠0 by omega,e,e2]
theorem max_if (x y:Int):(if y > x then y else x)=max x y:=by omega
theorem min_if (x y:Int):(if y < x then y else x)=min x y:=by omega
theorem o_min [Dfr] (a b:Int) (hx:ev n ρ x=.int .i64 a) (hy:ev n ρ y=.int .i64 b) (k:K (upd ρ d (.int .i64 (min a b))) w):OW P Q ⟨some d,.call ⟨.builtin .min,#[x,y],ts⟩,ty,pos,af,none⟩ n ρ w K:=
 XU _ (by rw [← min_if];simp [execOp,resolve,invoke,builtin,hx,hy,run_min_int2]) k
theorem y_max (a b:Int) (hx:ev n ρ x=.int .i64 a) (hy:ev n ρ y=.int .i64 b):∀ w',S w' ->(execOp (ev n ρ) ⟨some d,.call ⟨.builtin .max,#[x,y],ts⟩,ty,pos,af,gd⟩).run P w' =.ok (.value (.int .i64 (max a b))) w' :=
 fun w' _=>by rw [← max_if];simp [execOp,resolve,invoke,builtin,hx,hy,run_max_int2]
theorem o_head [Dfr] {α:Type} [qK α] {l:List α} (H:St W w ps Γ) (i:Nat) (hf:Γ[i]? =some (isF fr F (Sv a m c) l)) (kk:Nat)
 (hu:P.underlying t=some (.slice e)) (he:TI P e z (qK.size α) by') (hx:ev n ρ x=Sv a m c) (hy:ev n ρ y=.int .i64 iv) (hv:iv=kk) (hk:kk<=l.length)
 (k:∀ a' G,(∀ b∈G,b∈F)->St W w ps (isF fr G (Sv a' (l.take kk).length c) (l.take kk)::Γ)->K (upd ρ d (Sv a' (l.take kk).length c)) w):
 OW P Q ⟨some d,.slice t x none (some y) none,ty,pos,af,none⟩ n ρ w K:=by
 subst hv
 obtain ⟨⟨a0,c0,hc,⟨hl,hcap⟩,h⟩,hfr⟩:=H.get i hf
 simp only [List.cons.injEq,Value.slice.injEq,and_true] at hc
 obtain ⟨rfl,rfl,rfl⟩:=hc
 have hrun:(execOp (ev n ρ) ⟨some d,.slice t x none (some y) none,ty,pos,af,none⟩).run P w=
  .ok (.value (Sv (if c=0 then a else a.map (·.add 0)) kk c)) w:=by
  simp [execOp,hx,hy,Instr.sliceAt,Instr.slice,Instr.sliceBounds,Instr.sliceBound,asIntOf,run_underlying hu,he.sizeOf,show kk<=c by omega]
 have hlen:(l.take kk).length=kk:=List.length_take_of_le hk
 have hlc:(l.take kk).length<=9223372036854775807/\(l.take kk).length<=c:=by rw [hlen];omega
 refine XU _ hrun ?_
 rcases h with ⟨h0,hF⟩ | ⟨b,off,F',vs,ha,hF,hb,hr,hcells⟩
 ·have:=k (if c=0 then a else a.map (·.add 0)) [] qm (H.add _ ⟨⟨_,_,rfl,hlc,Or.inl ⟨by simp [h0],rfl⟩⟩,fun _=>ve.nil _⟩ (by simp [isF]))
  rwa [hlen] at this
 ·subst ha
  rw [← List.take_append_drop kk l] at hr
  obtain ⟨F1,F2,v1,v2,e1,e2,r1,r2⟩:=reps_split _ hr
  have hsub:∀ z∈b::F1,z∈F:=by
   intro z hz
   rw [hF,e1]
   simp only [List.mem_cons,List.mem_append] at hz ⊢
   rcases hz with h | h <;> simp [h]
  have hadr:(if c=0 then some ⟨b,off,none⟩ else (some (⟨b,off,none⟩:Addr)).map (·.add 0))=some ⟨b,off,none⟩:=by
   split <;> simp [Addr.add_mid]
  rw [hadr]
  have:=k (some ⟨b,off,none⟩) (b::F1) hsub (H.jy i hf _ ⟨⟨_,_,rfl,hlc,Or.inr ⟨b,off,F1,v1,rfl,rfl,hb,r1,?_⟩⟩,fun e=>(hfr e).sub hsub⟩ hsub)
  ·rwa [hlen] at this
  ·intro j v hv
   refine hcells j v ?_
   obtain ⟨hj,_⟩:=List.getElem?_eq_some_iff.1 hv
   rw [e2,List.getElem?_append_left hj]
   exact hv
end
def Meet [Dfr] (A:Env->World->Prop) (n:Nat):Exit->Act->World->Prop
 | .normal,a,w=>∃ ρ,a=mk n ρ/\A ρ w
 | _,_,_=>False
theorem c_cut [Dfr] {P:Program} {Q:Exit->Act->World->Prop} {x:Code} (A:Env->World->Prop) (h1:x.wp P (Meet A n) (mk n ρ) w) (h2:∀ ρ w,A ρ w->Q .normal (mk n ρ) w):x.wp P Q (mk n ρ) w:=by
 refine Code.wp_mono ?_ h1
 intro e a w h
 cases e with
 | normal=>obtain ⟨ρ,rfl,hA⟩:=h;exact h2 ρ w hA
 | exit _=>exact h.elim
 | goto _=>exact h.elim
 | ret=>exact h.elim
 | panic _=>exact h.elim
 | outgrown=>exact h.elim
theorem meet [Dfr] {A:Env->World->Prop} (h:A ρ w):Meet A n .normal (mk n ρ) w:=⟨ρ,rfl,h⟩
theorem St.merge (H:St W0 w0 ps Γ) (K:St w0 w ps' Γ') (M:Fresh w0.heap.size (Γ'.map Fact.F)):St W0 w (ps' ++ps) (Γ' ++Γ):=by
 have hge:∀ f∈Γ',∀ b∈f.F,w0.heap.size<=b:=fun f hf b hb=>M.ge f.F (List.mem_map_of_mem hf) b hb
 have hsplit:∀ i b,jq (ps' ++ps) i=some b->(i < ps'.length/\jq ps' i=some b/\w0.heap.size<=b)\/(ps'.length<=i/\jq ps (i - ps'.length)=some b/\b < w0.heap.size):=by
  intro i b h
  rcases Nat.lt_or_ge i ps'.length with hi | hi
  ·have:jq ps' i=some b:=by unfold jq at h ⊢;rwa [List.getElem?_append_left hi] at h
   exact Or.inl ⟨hi,this,(Q5 K this).1⟩
  ·have:jq ps (i - ps'.length)=some b:=by unfold jq at h ⊢;rwa [List.getElem?_append_right hi] at h
   exact Or.inr ⟨hi,this,(Q5 H this).2⟩
 refine ⟨Ext.trans' H.base K.base,fun p hp=>?_,fun i j b hi hj=>?_,fun f hf=>?_⟩
 ·rcases List.mem_append.1 hp with h | h
  ·have hk:=K.has p h
   cases p with
   | box b cs t=>exact ⟨Nat.le_trans H.base.size hk.1,hk.2⟩
   | row v e sz n xs=>exact ownsRow_up hk H.base.size
  ·exact (H.has p h).stay fun b hb=>K.base.block b ((H.has p h).lt hb).2
 ·rcases hsplit i b hi with ⟨h1,h2,h3⟩ | ⟨h1,h2,h3⟩ <;> rcases hsplit j b hj with ⟨k1,k2,k3⟩ | ⟨k1,k2,k3⟩
  ·exact K.dist i j b h2 k2
  ·omega
  ·omega
  ·have:=H.dist _ _ b h2 k2;omega
 ·rcases List.mem_append.1 hf with h | h
  ·obtain ⟨h1,h2⟩:=K.facts f h
   exact ⟨h1,fun b hb=>⟨(h2 b hb).1,fun i hi=>by
    rcases hsplit i b hi with ⟨_,k,_⟩ | ⟨_,_,k⟩
    ·exact (h2 b hb).2 i k
    ·have:=hge f h b hb;omega⟩⟩
  ·obtain ⟨h1,h2⟩:=H.facts f h
   exact ⟨f.stay w0 w h1 fun b hb=>K.base.block b (h2 b hb).1,fun b hb=>⟨Nat.lt_of_lt_of_le (h2 b hb).1 K.base.size,fun i hi=>by
    rcases hsplit i b hi with ⟨_,_,k⟩ | ⟨_,k,_⟩
    ·have:=(h2 b hb).1;omega
    ·exact (h2 b hb).2 _ k⟩⟩
theorem Fresh.merge {C:Nat} (N:Fresh B L) (h:B<=C) (hl:∀ F∈L,∀ b∈F,b < C) (M:Fresh C L'):Fresh B (L' ++L):=by
 refine ⟨fun F hF=>?_,fun F hF b hb=>?_,List.pairwise_append.2 ⟨M.dj,N.dj,fun F hF G hG b hb hbG=>by have:=M.ge F hF b hb;have:=hl G hG b hbG;omega⟩⟩
 ·rcases List.mem_append.1 hF with k | k
  ·exact M.nd F k
  ·exact N.nd F k
 ·rcases List.mem_append.1 hF with k | k
  ·exact Nat.le_trans h (M.ge F k b hb)
  ·exact N.ge F k b hb
theorem St.mergeIn (H:St W0 w0 ps Γ) (K:St w0 w ps' [f]) (j:Nat) (hg:Γ[j]? =some g) (hF:∀ b∈f.F,b∈g.F):St W0 w (ps' ++ps) (f::Γ):=by
 have H1:St W0 w (ps' ++ps) ([]++Γ):=St.merge H (K.sub [] qm) (Fresh.nil _)
 exact H1.jy j hg f (K.get 0 rfl) hF
theorem Xr {α:Type} (l:List α):∀ (is:yLN),is.all (fun i=>Nat.blt i l.length)=true->is.map (fun i=>l[i]?)=(is.filterMap fun i=>l[i]?).map some
 | [],_=>rfl
 | i::is,h=>by
  simp only [List.all_cons,Bool.and_eq_true] at h
  have hi:i < l.length:=by simpa [Nat.blt_eq] using h.1
  simp [List.getElem?_eq_getElem hi,Xr l is h.2]
theorem St.jr (H:St W0 w ps Γ) (is js:yLN) (hi:is.all (fun i=>Nat.blt i ps.length)=true:=by exact rfl) (hj:js.all (fun i=>Nat.blt i Γ.length)=true:=by exact rfl) (hd:is.Nodup:=by decide):
 St W0 w (is.filterMap fun i=>ps[i]?) (js.filterMap fun i=>Γ[i]?):=H.pick is js (Xr ps is hi) (Xr Γ js hj) hd
theorem Qb [Dfr] {P:Program} {Q:Exit->Act->World->Prop} {l:List Oper} (hm:P.follows .mixedOrders=true) (H:St W0 w ps Γ) (is:yLN)
 (k:St W0 w.drew ps Γ->RW P l Q (fun w=>St W0 w (is.filterMap fun i=>ps[i]?) Γ) n l.toArray.size (Array.replicate l.toArray.size false) ρ w.drew)
 (hi:is.all (fun i=>Nat.blt i ps.length)=true:=by exact rfl) (hd:is.Nodup:=by decide):(Code.region id l.toArray true).wp P Q (mk n ρ) w:=by
 have H' :=H.ext (ext_drew _)
 refine c_draw (fun w=>St W0 w (is.filterMap fun i=>ps[i]?) Γ) hm ?_ (k H')
 exact H'.pick is (List.range Γ.length) (Xr ps is hi) (by
  apply List.ext_getElem?
  intro i
  rcases Nat.lt_or_ge i Γ.length with h | h
  ·simp [h]
  ·simp [h]) hd
theorem St.Xl {α:Type} [qK α] (H:St W0 w ps Γ) (f0:Bool) (j:Nat) {x:α} (hf:Γ[j]? =some (isF fr F v x)) (m:Nat) {l:List α} (hg:Γ[m]? =some (xN fr' G ys l)) (h3:f0=true->fr=true/\fr' =true):
 St W0 w ps (xN f0 (F++G) (v::ys) (x::l)::Γ):=by
 refine H.add _ ⟨⟨F,G,[v],ys,rfl,rfl,(H.get j hf).1,(H.get m hg).1⟩,fun e=>((H.get j hf).2 (h3 e).1).app ((H.get m hg).2 (h3 e).2)⟩ fun b hb=>?_
 rcases List.mem_append.1 hb with h | h
 ·exact (H.facts _ (List.mem_of_getElem? hf)).2 b h
 ·exact (H.facts _ (List.mem_of_getElem? hg)).2 b h
theorem St.chgFacts (H:St W w ps Γ) {Fs A:List yLN} (N:Fresh W.heap.size (Fs++L)) (hA:∀ F∈A,∀ b∈F,b < W.heap.size) (e:Chg Fs.flatten w w')
 (is:yLN) (new:List Fact) (hnew:∀ f∈new,f.φ w') (js ks:yLN) {Δ:List Fact}
 (hi:is.map (fun i=>(Γ[i]?).map Fact.F)=Fs.map some:=by exact rfl) (hn:new.map Fact.F=Fs:=by exact rfl)
 (hj:js.map (fun i=>Γ[i]?)=Δ.map some:=by exact rfl) (hk:ks.map (fun i=>(L++A)[i]?)=(Δ.map Fact.F).map some:=by exact rfl):St W w' ps (new++Δ):=by
 have hlt:=H.ltN is hi
 have haw:=H.vz is hi
 have hN1:=(List.pairwise_append.1 N.dj).2.2
 have hfl:∀ b∈Fs.flatten,∃ F∈Fs,b∈F:=fun b hb=>List.mem_flatten.1 hb
 have hΔ:∀ f∈Δ,f∈Γ/\∀ b∈f.F,b∉Fs.flatten:=by
  intro f hf
  constructor
  ·have:some f∈Δ.map some:=List.mem_map_of_mem hf
   rw [← hj] at this
   obtain ⟨i,_,hi'⟩:=List.mem_map.1 this
   exact List.mem_of_getElem? hi'
  ·intro b hb hbF
   obtain ⟨G,hG,hbG⟩:=hfl b hbF
   have:some f.F∈(Δ.map Fact.F).map some:=List.mem_map_of_mem (List.mem_map_of_mem hf)
   rw [← hk] at this
   obtain ⟨i,_,hi'⟩:=List.mem_map.1 this
   rcases List.mem_append.1 (List.mem_of_getElem? hi') with h | h
   ·exact hN1 G hG f.F h b hbG hb
   ·have h1:=hA f.F h b hb
    have h2:=N.ge G (List.mem_append_left _ hG) b hbG
    omega
 have H1:St W w' ps Δ:=H.chgNew e (fun b hb i=>by obtain ⟨F,hF,hbF⟩:=hfl b hb;exact haw F hF b hbF i)
  (fun b hb=>by obtain ⟨F,hF,hbF⟩:=hfl b hb;exact N.ge F (List.mem_append_left _ hF) b hbF) Δ hΔ
 refine ⟨H1.base,H1.has,H1.dist,fun f hf=>?_⟩
 rcases List.mem_append.1 hf with h | h
 ·have hFm:f.F∈Fs:=by rw [← hn];exact List.mem_map_of_mem h
  exact ⟨hnew f h,fun b hb=>⟨Nat.lt_of_lt_of_le (hlt f.F hFm b hb) e.size,haw f.F hFm b hb⟩⟩
 ·exact H1.facts f h
section
variable {P : Program} {Q : Exit -> Act -> World -> Prop} {n : Nat} {ρ : Env} {W0 w : World} {ps : List Prv} {Γ : List Fact}
 {d:Nat} {ty:TypeId} {pos:String} {af:Array Edge} {K:Env->World->Prop}
theorem zY [Dfr] (H:St W0 w ps Γ) (cs:List Value) (k:∀ b w',St W0 w' (.box b cs t::ps) Γ->K (upd ρ d (.pointer (some ⟨b,0,none⟩))) w')
 (hx:ev n ρ x=v:=by exact rfl) (hc:v.cells.toList=cs:=by exact rfl):OW P Q ⟨some d,.box t x,ty,pos,af,none⟩ n ρ w K:=by
 subst hc
 exact o_box H v hx k
theorem xH [Dfr] (H:St W0 w ps Γ) (ht:TI P t z m by') (cs:List Value) (k:∀ b w',St W0 w' (.box b cs t::ps) Γ->K (upd ρ d (.pointer (some ⟨b,0,none⟩))) w')
 (hc:z.cells.toList=cs:=by exact rfl):OW P Q ⟨some d,.alloc t,ty,pos,af,none⟩ n ρ w K:=by
 subst hc
 exact o_alloc H ht k
theorem xY [Dfr] (H:St W0 w ps Γ) (i:Nat) (cs' :List Value) (hs:∀ w,(Go.sizeOf t).run P w=.ok m w)
 (k:∀ w',St W0 w' (ps.set i (.box b cs' tb)) Γ->K ρ w') (hx:ev n ρ x=.pointer (some ⟨b,off,none⟩):=by exact rfl) (hy:ev n ρ y=v:=by exact rfl) (hm:v.cells.size=m:=by exact rfl) (hp:ps[i]? =some (.box b cs tb):=by exact rfl)
 (h1:cs'.all Value.oneCell' =true:=by exact rfl) (ho:off+v.cells.size<=cs.length:=by exact Nat.le_of_ble_eq_true rfl)
 (hc:cs.take off++v.cells.toList++cs.drop (off+v.cells.size)=cs' :=by exact rfl):OW P Q ⟨none,.store t x y,ty,pos,af,none⟩ n ρ w K:=by
 subst hc hm
 exact o_store H i hp v hs hx hy (fun u hu=>List.all_eq_true.1 h1 u (by simp at hu ⊢;simp [hu])) ho k
theorem zI [Dfr] (H:St W0 w ps Γ) (i:Nat) (cs' :List Value) (hs:∀ w,(Go.sizeOf t).run P w=.ok 1 w)
 (k:∀ w',St W0 w' (ps.set i (.box b cs' tb)) Γ->K ρ w') (hx:ev n ρ x=.pointer (some ⟨b,off,none⟩):=by exact rfl) (hy:ev n ρ y=v:=by exact rfl) (hp:ps[i]? =some (.box b cs tb):=by exact rfl)
 (h1:v.oneCell' =true:=by exact rfl) (ho:off < cs.length:=by exact Nat.le_of_ble_eq_true rfl) (hc:cs.set off v=cs' :=by exact rfl):OW P Q ⟨none,.store t x y,ty,pos,af,none⟩ n ρ w K:=by
 subst hc
 exact o_store1 H i hp v hs hx hy h1 ho k
theorem xx [Dfr] (H:St W0 w ps Γ) (hu:P.underlying t=some (.slice e)) (he:TI P e z sz by') (cs:List Value)
 (k:∀ b w',St W0 w' (.box b cs e::ps) Γ->K (upd ρ d (Sv (some ⟨b,0,none⟩) 1 1)) w') (hx:ev n ρ x=v:=by exact rfl) (h0:0 < sz:=by decide) (hs:sz<=16777216:=by decide) (hv:v.cells.size=sz:=by exact rfl) (hc:v.cells.toList=cs:=by exact rfl):
 OW P Q ⟨some d,.buildSlice t 1 #[(0,x)],ty,pos,af,none⟩ n ρ w K:=by
 subst hc
 exact o_build1 H hu he h0 hs v hx hv k
end
section
variable {W0 w : World} {ps : List Prv} {Γ : List Fact}
theorem St.nilRowI (H:St W0 w ps Γ) (e:TypeId):St W0 w (.row (Sv none 0 0) e 1 0 (([]:yLI).map (Value.int .i64))::ps) Γ:=H.nilRow e 1
theorem St.nilRowB (H:St W0 w ps Γ) (e:TypeId):St W0 w (.row (Sv none 0 0) e 1 0 (([]:List Bool).map Value.bool)::ps) Γ:=H.nilRow e 1
theorem St.vI (H:St W0 w ps Γ) (i:Nat) (l:yLI) (nn:Nat) (hp:ps[i]? =some (.box b (l.map (Value.int .i64)) e):=by exact rfl) (hl:l.length=nn:=by exact rfl) (hm:nn<=maxLen:=by decide):
 St W0 w (ps.set i (.row (Sv (some ⟨b,0,none⟩) nn nn) e 1 nn (l.map (Value.int .i64)))) Γ:=H.boxRow i hp 1 nn (by simp [hl]) hm
theorem St.boxRowB (H:St W0 w ps Γ) (i:Nat) (l:List Bool) (nn:Nat) (hp:ps[i]? =some (.box b (l.map Value.bool) e):=by exact rfl) (hl:l.length=nn:=by exact rfl) (hm:nn<=maxLen:=by decide):
 St W0 w (ps.set i (.row (Sv (some ⟨b,0,none⟩) nn nn) e 1 nn (l.map Value.bool))) Γ:=H.boxRow i hp 1 nn (by simp [hl]) hm
def zU:yLN->List Prv->List Prv
 | [],ps=>ps
 | i::is,ps=>zU is (ps.eraseIdx i)
theorem St.erases:∀ (is:yLN) {ps:List Prv},St W0 w ps Γ->St W0 w (zU is ps) Γ
 | [],_,H=>H
 | i::is,ps,H=>St.erases is (H.sel _ (List.eraseIdx_sublist ps i) _ fun f h=>h)
end
end
section
class FldC (P:Program) (t:TypeId) (i:Nat) (j:outParam Nat):Prop where
 out:∃ (fs:Array Field) (f:Field) (m:Nat),P.underlying t=some (.struct fs)/\fs[i]? =some f/\f.offset=j/\∀ w,(Go.sizeOf f.type).run P w=.ok (m+1) w
class SclC (P:Program) (t:TypeId):Prop where
 out:∀ w,(isAgg t).run P w=.ok false w
class SliC (P:Program) (t:TypeId) (e:outParam TypeId):Prop where
 out:P.underlying t=some (.slice e)
class TIC (P:Program) (t:TypeId) (z:outParam Value) (sz by' :outParam Nat):Prop where
 out:TI P t z sz by'
class Qn (P:Program) (f:FuncId):Prop where
 out:∀ args w,(callFunc f args).run P w=.ok (.enter f args) w
section
variable {P : Program} {ops : Array Oper} {Q : Exit -> Act -> World -> Prop} {n : Nat} {ρ : Env} {W0 w : World} {rest : List Oper} {ps : List Prv} {Γ : List Fact}
 {d:Nat} {op:Op} {ty:TypeId} {pos:String} {af:Array Edge} {K:Env->World->Prop} {S:World->Prop} {l:List Oper} {fuel:Nat} {listed:Array Bool}
theorem en {f:FuncId} {fn:Func} {c:Code} {R:Ending->World->Prop} (hf:P.funcs[f]? =some fn) (hn:fn.ntmps=n) (h:c.wp P (bodyPost P fn R) (mk n (env0 args.toList)) w)
 (hb:fn.body=some c:=by exact rfl) (hs:args.size<=n:=by exact Nat.le_of_ble_eq_true rfl):Calls P f args w R:=enter hf hb hn hs h
theorem oF [Dfr] [hF:FldC P t i j] (hx:ev n ρ x=.pointer (some ⟨b,off,none⟩)) (k:WL P ops Q n rest (upd ρ d (.pointer (some ⟨b,off+j,none⟩))) w):
 WL P ops Q n (⟨some d,.fieldAddr t x i,ty,pos,af,none⟩::rest) ρ w:=by
 obtain ⟨fs,f,m,h1,h2,h3,h4⟩:=hF.out
 exact sw (o_field b off j h1 h2 h3 h4 hx k)
theorem oL [Dfr] [hA:SclC P t] (hx:ev n ρ x=.pointer (some ⟨b,off,none⟩)) (hc:w.cell? ⟨b,off,none⟩=some v) (k:WL P ops Q n rest (upd ρ d v) w):
 WL P ops Q n (⟨some d,.load t x,ty,pos,af,none⟩::rest) ρ w:=sw (zK v hA.out hx hc k)
theorem oN [Dfr] [hS:SliC P t e] (hx:ev n ρ x=Sv a m c) (k:WL P ops Q n rest (upd ρ d (.int .i64 m)) w):
 WL P ops Q n (⟨some d,.call ⟨.builtin .len,#[x],#[t]⟩,ty,pos,af,none⟩::rest) ρ w:=sw (o_len hS.out a m c hx k)
theorem oI [Dfr] [hS:SliC P t e] [hT:TIC P e z sz by'] (hx:ev n ρ x=Sv (some ⟨b,off,none⟩) m c) (hy:ev n ρ y=.int .i64 iv)
 (k:WL P ops Q n rest (upd ρ d (.pointer (some ⟨b,off+iv.toNat * sz,none⟩))) w) (h0:0<=iv:=by omega) (h1:iv < m:=by omega):WL P ops Q n (⟨some d,.indexAddr t x y,ty,pos,af,none⟩::rest) ρ w:=
 sw (o_idxAt iv hS.out hT.out hx hy h0 h1 k)
theorem tF [Dfr] (i:Nat) (hi:l.toArray[i]? =some ⟨some d,.fieldAddr t x j,ty,pos,af,none⟩) [hF:FldC P t j k] (hx:ev n ρ x=.pointer (some ⟨b,off,none⟩)) (hS:S w)
 (h:RW P l Q S n fuel (listed.setIfInBounds i true) (upd ρ d (.pointer (some ⟨b,off+k,none⟩))) w) (hk:takeOk l listed i=true:=by kernel_rfl)
 (hQ:NoPanic Q d (.pointer (some ⟨b,off+k,none⟩)):=by exact fun _ _ _ h=>h):RW P l Q S n (fuel+1) listed ρ w:=by
 obtain ⟨fs,f,m,h1,h2,h3,h4⟩:=hF.out
 exact rt i _ (y_field b off k h1 h2 h3 h4 hx) hS h hi hk hQ
theorem tL [Dfr] (i:Nat) (hi:l.toArray[i]? =some ⟨some d,.load t x,ty,pos,af,none⟩) [hA:SclC P t] (hx:ev n ρ x=.pointer (some ⟨b,off,none⟩))
 (hc:∀ w',S w' ->w'.cell? ⟨b,off,none⟩=some v) (hS:S w) (h:RW P l Q S n fuel (listed.setIfInBounds i true) (upd ρ d v) w) (hk:takeOk l listed i=true:=by kernel_rfl)
 (hQ:NoPanic Q d v:=by exact fun _ _ _ h=>h):RW P l Q S n (fuel+1) listed ρ w:=rt i v (y_load1 hA.out hx hc) hS h hi hk hQ
theorem tN [Dfr] (i:Nat) (hi:l.toArray[i]? =some ⟨some d,.call ⟨.builtin .len,#[x],#[t]⟩,ty,pos,af,none⟩) [hL:SliC P t e] (hx:ev n ρ x=Sv a m c) (hS:S w)
 (h:RW P l Q S n fuel (listed.setIfInBounds i true) (upd ρ d (.int .i64 m)) w) (hk:takeOk l listed i=true:=by kernel_rfl) (hQ:NoPanic Q d (.int .i64 m):=by exact fun _ _ _ h=>h):
 RW P l Q S n (fuel+1) listed ρ w:=rt i _ (y_len hL.out a m c hx) hS h hi hk hQ
theorem tI [Dfr] (i:Nat) (hi:l.toArray[i]? =some ⟨some d,.indexAddr t x y,ty,pos,af,none⟩) [hL:SliC P t e] [hT:TIC P e z sz by']
 (hx:ev n ρ x=Sv (some ⟨b,off,none⟩) m c) (hy:ev n ρ y=.int .i64 iv) (hS:S w) (h:RW P l Q S n fuel (listed.setIfInBounds i true) (upd ρ d (.pointer (some ⟨b,off+iv.toNat * sz,none⟩))) w)
 (h0:0<=iv:=by omega) (h1:iv < m:=by omega) (hk:takeOk l listed i=true:=by kernel_rfl) (hQ:NoPanic Q d (.pointer (some ⟨b,off+iv.toNat * sz,none⟩)):=by exact fun _ _ _ h=>h):RW P l Q S n (fuel+1) listed ρ w:=
 rt i _ (y_idxAt b off m c iv hL.out hT.out hx hy h0 h1) hS h hi hk hQ
theorem gF [Dfr] {e:Nat} (i:Nat) (hi:l.toArray[i]? =some ⟨some d,.fieldAddr t x j,ty,pos,af,some (i',bb)⟩) [hF:FldC P t j k] (hx:ev n ρ x=.pointer (some ⟨b,off,none⟩)) (hS:S w)
 (h:RW P l Q S n fuel (listed.setIfInBounds i true) (upd ρ d (.pointer (some ⟨b,off+k,none⟩))) w) (hk:takeOk l listed i=true:=by kernel_rfl)
 (hd:dstAt l i' =some e:=by exact rfl) (hv:ev n ρ (.tmp e)=Bv bb:=by exact rfl) (hQ:NoPanic Q d (.pointer (some ⟨b,off+k,none⟩)):=by exact fun _ _ _ h=>h):RW P l Q S n (fuel+1) listed ρ w:=by
 obtain ⟨fs,f,m,h1,h2,h3,h4⟩:=hF.out
 exact rg i _ e (y_field b off k h1 h2 h3 h4 hx) hS h hi hk hd hv hQ
theorem gL [Dfr] {e:Nat} (i:Nat) (hi:l.toArray[i]? =some ⟨some d,.load t x,ty,pos,af,some (i',bb)⟩) [hA:SclC P t] (hx:ev n ρ x=.pointer (some ⟨b,off,none⟩))
 (hc:∀ w',S w' ->w'.cell? ⟨b,off,none⟩=some v) (hS:S w) (h:RW P l Q S n fuel (listed.setIfInBounds i true) (upd ρ d v) w) (hk:takeOk l listed i=true:=by kernel_rfl)
 (hd:dstAt l i' =some e:=by exact rfl) (hv:ev n ρ (.tmp e)=Bv bb:=by exact rfl) (hQ:NoPanic Q d v:=by exact fun _ _ _ h=>h):RW P l Q S n (fuel+1) listed ρ w:=
 rg i v e (y_load1 hA.out hx hc) hS h hi hk hd hv hQ
theorem gN [Dfr] {e:Nat} (i:Nat) (hi:l.toArray[i]? =some ⟨some d,.call ⟨.builtin .len,#[x],#[t]⟩,ty,pos,af,some (i',bb)⟩) [hL:SliC P t e'] (hx:ev n ρ x=Sv a m c) (hS:S w)
 (h:RW P l Q S n fuel (listed.setIfInBounds i true) (upd ρ d (.int .i64 m)) w) (hk:takeOk l listed i=true:=by kernel_rfl)
 (hd:dstAt l i' =some e:=by exact rfl) (hv:ev n ρ (.tmp e)=Bv bb:=by exact rfl) (hQ:NoPanic Q d (.int .i64 m):=by exact fun _ _ _ h=>h):
 RW P l Q S n (fuel+1) listed ρ w:=rg i _ e (y_len hL.out a m c hx) hS h hi hk hd hv hQ
theorem gI [Dfr] {e:Nat} (i:Nat) (hi:l.toArray[i]? =some ⟨some d,.indexAddr t x y,ty,pos,af,some (i',bb)⟩) [hL:SliC P t e'] [hT:TIC P e' z sz by']
 (hx:ev n ρ x=Sv (some ⟨b,off,none⟩) m c) (hy:ev n ρ y=.int .i64 iv) (hS:S w) (h:RW P l Q S n fuel (listed.setIfInBounds i true) (upd ρ d (.pointer (some ⟨b,off+iv.toNat * sz,none⟩))) w)
 (h0:0<=iv:=by omega) (h1:iv < m:=by omega) (hk:takeOk l listed i=true:=by kernel_rfl)
 (hd:dstAt l i' =some e:=by exact rfl) (hv:ev n ρ (.tmp e)=Bv bb:=by exact rfl) (hQ:NoPanic Q d (.pointer (some ⟨b,off+iv.toNat * sz,none⟩)):=by exact fun _ _ _ h=>h):RW P l Q S n (fuel+1) listed ρ w:=
 rg i _ e (y_idxAt b off m c iv hL.out hT.out hx hy h0 h1) hS h hi hk hd hv hQ
theorem oc [Dfr] {xs:Array Operand} {ts:Array TypeId} {f:FuncId} {R:Value->World->Prop} [hC:Qn P f]
 (hc:Calls P f args w fun e w' =>∃ v,e=.returned v/\R v w' /\Ext w w') (k:∀ v w',R v w' ->Ext w w' ->K (upd ρ d v) w')
 (hv:ev n ρ x=.func (.func f) fst caps:=by exact rfl) (hargs:fst.toList++xs.toList.map (ev n ρ)++caps.toList=args.toList:=by exact rfl):
 OW P Q ⟨some d,.call ⟨.value x,xs,ts⟩,ty,pos,af,none⟩ n ρ w K:=o_call args hv hargs hC.out hc k
theorem oq [Dfr] {xs:Array Operand} {ts:Array TypeId} {f:FuncId} {val:Value} [hC:Qn P f]
 (hc:Calls P f args w (Ret (fun v _=>v=val) w)) (H:St W0 w ps Γ) (k:∀ w',St W0 w' ps Γ->K (upd ρ d val) w')
 (hv:ev n ρ x=.func (.func f) fst caps:=by exact rfl) (hargs:fst.toList++xs.toList.map (ev n ρ)++caps.toList=args.toList:=by exact rfl):
 OW P Q ⟨some d,.call ⟨.value x,xs,ts⟩,ty,pos,af,none⟩ n ρ w K:=oc hc (fun _ w' e h=>e▸k w' (H.ext h)) hv hargs
end
section
variable {W0 w : World} {ps : List Prv} {Γ : List Fact}
theorem St.zB (H:St W0 w ps Γ) (i:Nat) (hf:Γ[i]? =some (isF fr F (Sv (some ⟨b,o,none⟩) m c) l)) (k:Nat) (h1:k < l.length):
 w.cell? ⟨b,o+(k:Int).toNat * 1,none⟩=some (.int .i64 (l[k]!)):=H.XX i hf (k:Int) qf qf
theorem St.elemBoolN (H:St W0 w ps Γ) (i:Nat) {l:List Bool} (hf:Γ[i]? =some (isF fr F (Sv (some ⟨b,o,none⟩) m c) l)) (k:Nat) (h1:k < l.length):
 w.cell? ⟨b,o+(k:Int).toNat * 1,none⟩=some (Bv (l[k]!)):=H.elemBool i hf (k:Int) qf qf
end
section
variable {P : Program} {Q : Exit -> Act -> World -> Prop} {n : Nat} {ρ : Env} {w : World} {x : Operand} {y z : Code}
theorem cD [Dfr] [Decidable p] (hc:ev n ρ x=Bv (decide p)) (h1:p->y.wp P Q (mk n ρ) w) (h2:¬ p->z.wp P Q (mk n ρ) w):(Code.cond x y z).wp P Q (mk n ρ) w:=zT _ hc (fun h=>h1 (of_decide_eq_true h)) fun h=>h2 (of_decide_eq_false h)
theorem cE [Dfr] {a b:Int} (hc:ev n ρ x=Bv (a == b)) (h1:a=b->y.wp P Q (mk n ρ) w) (h2:a≠b->z.wp P Q (mk n ρ) w):(Code.cond x y z).wp P Q (mk n ρ) w:=zT _ hc (fun h=>h1 (eq_of_beq h)) fun h=>h2 (ne_of_beq_false h)
theorem cP [Dfr] (hc:ev n ρ x=Bv (dec p)) (h1:p->y.wp P Q (mk n ρ) w) (h2:¬ p->z.wp P Q (mk n ρ) w):(Code.cond x y z).wp P Q (mk n ρ) w:=zT _ hc (fun h=>h1 (yU h)) fun h=>h2 (zX h)
theorem cQ [Dfr] (hc:ev n ρ x=Bv (!(dec p))) (h1:¬ p->y.wp P Q (mk n ρ) w) (h2:p->z.wp P Q (mk n ρ) w):(Code.cond x y z).wp P Q (mk n ρ) w:=zT _ hc (fun h=>h1 (zX (xm h))) fun h=>h2 (yU (qY h))
theorem ro [Dfr] {l:List Oper} {S:World->Prop} {fuel:Nat} {listed:Array Bool} {op:Op} {af:Array Edge} (i:Nat) (hi:l.toArray[i]? =some ⟨dst,op,ty,pos,af,none⟩)
 (h:OW P Q ⟨dst,op,ty,pos,af,none⟩ n ρ w fun ρ w=>S w/\RW P l Q S n fuel (listed.setIfInBounds i true) ρ w) (hr:Region.ready .any l.toArray listed=[i]:=by kernel_rfl):RW P l Q S n (fuel+1) listed ρ w:=
 jb [i] hr qm (jM hi h jd)
end
theorem uE1 (h1:ρ d1=v1:=by rfl):ρ=upd ρ d1 v1:=zJ rfl h1
theorem uE2 (h1:ρ d1=v1:=by rfl) (h2:ρ d2=v2:=by rfl):ρ=upd (upd ρ d1 v1) d2 v2:=zJ (zJ rfl h1) h2
theorem uE3 (h1:ρ d1=v1:=by rfl) (h2:ρ d2=v2:=by rfl) (h3:ρ d3=v3:=by rfl):ρ=upd (upd (upd ρ d1 v1) d2 v2) d3 v3:=zJ (zJ (zJ rfl h1) h2) h3
theorem uE4 (h1:ρ d1=v1:=by rfl) (h2:ρ d2=v2:=by rfl) (h3:ρ d3=v3:=by rfl) (h4:ρ d4=v4:=by rfl):ρ=upd (upd (upd (upd ρ d1 v1) d2 v2) d3 v3) d4 v4:=zJ (zJ (zJ (zJ rfl h1) h2) h3) h4
theorem uE5 (h1:ρ d1=v1:=by rfl) (h2:ρ d2=v2:=by rfl) (h3:ρ d3=v3:=by rfl) (h4:ρ d4=v4:=by rfl) (h5:ρ d5=v5:=by rfl):ρ=upd (upd (upd (upd (upd ρ d1 v1) d2 v2) d3 v3) d4 v4) d5 v5:=zJ (zJ (zJ (zJ (zJ rfl h1) h2) h3) h4) h5
theorem uE6 (h1:ρ d1=v1:=by rfl) (h2:ρ d2=v2:=by rfl) (h3:ρ d3=v3:=by rfl) (h4:ρ d4=v4:=by rfl) (h5:ρ d5=v5:=by rfl) (h6:ρ d6=v6:=by rfl):ρ=upd (upd (upd (upd (upd (upd ρ d1 v1) d2 v2) d3 v3) d4 v4) d5 v5) d6 v6:=zJ (zJ (zJ (zJ (zJ (zJ rfl h1) h2) h3) h4) h5) h6
theorem uE7 (h1:ρ d1=v1:=by rfl) (h2:ρ d2=v2:=by rfl) (h3:ρ d3=v3:=by rfl) (h4:ρ d4=v4:=by rfl) (h5:ρ d5=v5:=by rfl) (h6:ρ d6=v6:=by rfl) (h7:ρ d7=v7:=by rfl):ρ=upd (upd (upd (upd (upd (upd (upd ρ d1 v1) d2 v2) d3 v3) d4 v4) d5 v5) d6 v6) d7 v7:=zJ (zJ (zJ (zJ (zJ (zJ (zJ rfl h1) h2) h3) h4) h5) h6) h7
theorem uE8 (h1:ρ d1=v1:=by rfl) (h2:ρ d2=v2:=by rfl) (h3:ρ d3=v3:=by rfl) (h4:ρ d4=v4:=by rfl) (h5:ρ d5=v5:=by rfl) (h6:ρ d6=v6:=by rfl) (h7:ρ d7=v7:=by rfl) (h8:ρ d8=v8:=by rfl):ρ=upd (upd (upd (upd (upd (upd (upd (upd ρ d1 v1) d2 v2) d3 v3) d4 v4) d5 v5) d6 v6) d7 v7) d8 v8:=zJ (zJ (zJ (zJ (zJ (zJ (zJ (zJ rfl h1) h2) h3) h4) h5) h6) h7) h8
theorem uE9 (h1:ρ d1=v1:=by rfl) (h2:ρ d2=v2:=by rfl) (h3:ρ d3=v3:=by rfl) (h4:ρ d4=v4:=by rfl) (h5:ρ d5=v5:=by rfl) (h6:ρ d6=v6:=by rfl) (h7:ρ d7=v7:=by rfl) (h8:ρ d8=v8:=by rfl) (h9:ρ d9=v9:=by rfl):ρ=upd (upd (upd (upd (upd (upd (upd (upd (upd ρ d1 v1) d2 v2) d3 v3) d4 v4) d5 v5) d6 v6) d7 v7) d8 v8) d9 v9:=zJ (zJ (zJ (zJ (zJ (zJ (zJ (zJ (zJ rfl h1) h2) h3) h4) h5) h6) h7) h8) h9
theorem uE10 (h1:ρ d1=v1:=by rfl) (h2:ρ d2=v2:=by rfl) (h3:ρ d3=v3:=by rfl) (h4:ρ d4=v4:=by rfl) (h5:ρ d5=v5:=by rfl) (h6:ρ d6=v6:=by rfl) (h7:ρ d7=v7:=by rfl) (h8:ρ d8=v8:=by rfl) (h9:ρ d9=v9:=by rfl) (h10:ρ d10=v10:=by rfl):ρ=upd (upd (upd (upd (upd (upd (upd (upd (upd (upd ρ d1 v1) d2 v2) d3 v3) d4 v4) d5 v5) d6 v6) d7 v7) d8 v8) d9 v9) d10 v10:=zJ (zJ (zJ (zJ (zJ (zJ (zJ (zJ (zJ (zJ rfl h1) h2) h3) h4) h5) h6) h7) h8) h9) h10
theorem uE11 (h1:ρ d1=v1:=by rfl) (h2:ρ d2=v2:=by rfl) (h3:ρ d3=v3:=by rfl) (h4:ρ d4=v4:=by rfl) (h5:ρ d5=v5:=by rfl) (h6:ρ d6=v6:=by rfl) (h7:ρ d7=v7:=by rfl) (h8:ρ d8=v8:=by rfl) (h9:ρ d9=v9:=by rfl) (h10:ρ d10=v10:=by rfl) (h11:ρ d11=v11:=by rfl):ρ=upd (upd (upd (upd (upd (upd (upd (upd (upd (upd (upd ρ d1 v1) d2 v2) d3 v3) d4 v4) d5 v5) d6 v6) d7 v7) d8 v8) d9 v9) d10 v10) d11 v11:=zJ (zJ (zJ (zJ (zJ (zJ (zJ (zJ (zJ (zJ (zJ rfl h1) h2) h3) h4) h5) h6) h7) h8) h9) h10) h11
theorem uE12 (h1:ρ d1=v1:=by rfl) (h2:ρ d2=v2:=by rfl) (h3:ρ d3=v3:=by rfl) (h4:ρ d4=v4:=by rfl) (h5:ρ d5=v5:=by rfl) (h6:ρ d6=v6:=by rfl) (h7:ρ d7=v7:=by rfl) (h8:ρ d8=v8:=by rfl) (h9:ρ d9=v9:=by rfl) (h10:ρ d10=v10:=by rfl) (h11:ρ d11=v11:=by rfl) (h12:ρ d12=v12:=by rfl):ρ=upd (upd (upd (upd (upd (upd (upd (upd (upd (upd (upd (upd ρ d1 v1) d2 v2) d3 v3) d4 v4) d5 v5) d6 v6) d7 v7) d8 v8) d9 v9) d10 v10) d11 v11) d12 v12:=zJ (zJ (zJ (zJ (zJ (zJ (zJ (zJ (zJ (zJ (zJ (zJ rfl h1) h2) h3) h4) h5) h6) h7) h8) h9) h10) h11) h12
theorem uE13 (h1:ρ d1=v1:=by rfl) (h2:ρ d2=v2:=by rfl) (h3:ρ d3=v3:=by rfl) (h4:ρ d4=v4:=by rfl) (h5:ρ d5=v5:=by rfl) (h6:ρ d6=v6:=by rfl) (h7:ρ d7=v7:=by rfl) (h8:ρ d8=v8:=by rfl) (h9:ρ d9=v9:=by rfl) (h10:ρ d10=v10:=by rfl) (h11:ρ d11=v11:=by rfl) (h12:ρ d12=v12:=by rfl) (h13:ρ d13=v13:=by rfl):ρ=upd (upd (upd (upd (upd (upd (upd (upd (upd (upd (upd (upd (upd ρ d1 v1) d2 v2) d3 v3) d4 v4) d5 v5) d6 v6) d7 v7) d8 v8) d9 v9) d10 v10) d11 v11) d12 v12) d13 v13:=zJ (zJ (zJ (zJ (zJ (zJ (zJ (zJ (zJ (zJ (zJ (zJ (zJ rfl h1) h2) h3) h4) h5) h6) h7) h8) h9) h10) h11) h12) h13
theorem uE17 {d14 d15 d16 d17:Nat} {v14 v15 v16 v17:Value} (h1:ρ d1=v1:=by rfl) (h2:ρ d2=v2:=by rfl) (h3:ρ d3=v3:=by rfl) (h4:ρ d4=v4:=by rfl) (h5:ρ d5=v5:=by rfl) (h6:ρ d6=v6:=by rfl) (h7:ρ d7=v7:=by rfl) (h8:ρ d8=v8:=by rfl) (h9:ρ d9=v9:=by rfl) (h10:ρ d10=v10:=by rfl) (h11:ρ d11=v11:=by rfl) (h12:ρ d12=v12:=by rfl) (h13:ρ d13=v13:=by rfl) (h14:ρ d14=v14:=by rfl) (h15:ρ d15=v15:=by rfl) (h16:ρ d16=v16:=by rfl) (h17:ρ d17=v17:=by rfl):ρ=upd (upd (upd (upd (upd (upd (upd (upd (upd (upd (upd (upd (upd (upd (upd (upd (upd ρ d1 v1) d2 v2) d3 v3) d4 v4) d5 v5) d6 v6) d7 v7) d8 v8) d9 v9) d10 v10) d11 v11) d12 v12) d13 v13) d14 v14) d15 v15) d16 v16) d17 v17:=zJ (zJ (zJ (zJ (zJ (zJ (zJ (zJ (zJ (zJ (zJ (zJ (zJ (zJ (zJ (zJ (zJ rfl h1) h2) h3) h4) h5) h6) h7) h8) h9) h10) h11) h12) h13) h14) h15) h16) h17
abbrev rr (a:yOA) (n c:Nat) (e:TypeId) (sz:Nat) (xs:List Value):Prv:=.row (Sv a n c) e sz n xs
section
variable {α : Type} [qK α]
abbrev sF (fr:Bool) (F:yLN) (a:yOA) (c:Nat) (l:List α):Fact:=isF (α:=List α) fr F (Sv a l.length c) l
end
theorem St.dF (H:St W0 w ps Γ) (k:Nat):St W0 w ps (Γ.drop k):=H.sub _ fun _ h=>List.mem_of_mem_drop h
section
variable {P : Program} {ops : Array Oper} {Q Q' : Exit -> Act -> World -> Prop} {n : Nat} {ρ : Env} {w : World} {a : Act} {N N1 N2 N3 : Act -> World -> Prop} {id id1 : Nat} {l : List Oper} {y z : Code}
theorem zjn [Dfr] (h:N (mk n ρ) w):WL P ops (Exit.then N Q) n [] ρ w:=xP (t_n h)
theorem zcr [Dfr] (h:WL P l.toArray (Exit.then (y.wp P Q) Q) n l ρ w):((Code.region id l.toArray false).seq y).wp P Q (mk n ρ) w:=xU (xK h)
theorem zjr [Dfr] (h:Q .ret (mk n ρ) w):WL P ops (Exit.then (Code.ret.wp P Q) Q') n [] ρ w:=zjn (c_ret h)
theorem zcc [Dfr] (h:WL P l.toArray (Exit.then (y.wp P (Exit.then (z.wp P Q) Q)) (Exit.then (z.wp P Q) Q)) n l ρ w):(((Code.region id l.toArray false).seq y).seq z).wp P Q (mk n ρ) w:=xU (zcr h)
theorem zjc [Dfr] (h:WL P l.toArray (Exit.then (y.wp P Q) Q) n l ρ w):WL P ops (Exit.then (((Code.region id l.toArray false).seq y).wp P Q) Q') n [] ρ w:=zjn (zcr h)
theorem zjcc [Dfr] (h:WL P l.toArray (Exit.then (y.wp P (Exit.then (z.wp P Q) Q)) (Exit.then (z.wp P Q) Q)) n l ρ w):WL P ops (Exit.then ((((Code.region id l.toArray false).seq y).seq z).wp P Q) Q') n [] ρ w:=zjn (zcc h)
theorem zx4 [Dfr] (h:N3 (mk n ρ) w):(Code.exit id).wp P (Exit.then N1 (Exit.then N2 (Exit.inBlock id (Exit.then N3 Q)))) (mk n ρ) w:=c_exit (t_x (t_x (b_x (t_n h))))
theorem zr5 (h:Q .ret a w):Exit.inBlock id (Exit.then N1 (Exit.then N2 (Exit.inBlock id1 (Exit.then N3 Q)))) .ret a w:=b_r (t_r (t_r (b_r (t_r h))))
theorem cTr [Dfr] {y z:Code} (hc:ev n ρ x=Bv true) (h:y.wp P Q (mk n ρ) w):(Code.cond x y z).wp P Q (mk n ρ) w:=zT true hc (fun _=>h) fun h=>absurd h qj
theorem cFr [Dfr] {y z:Code} (hc:ev n ρ x=Bv false) (h:z.wp P Q (mk n ρ) w):(Code.cond x y z).wp P Q (mk n ρ) w:=zT false hc (fun h=>absurd h qj) fun _=>h
theorem rH1 {fn:Func} {R:Value->World->Prop} {t:Nat} (v:Value) (H:St W0 w ps Γ) (h:R v w) (hr:fn.results=#[.tmp t]:=by exact rfl) (hv:ev n ρ (.tmp t)=v:=by exact rfl):
 bodyPost P fn (Ret R W0) .ret (mk n ρ) w:=ret1 v hr hv ⟨_,rfl,h,H.base⟩
end
section
variable {P : Program} {Q : Exit -> Act -> World -> Prop} {n : Nat} {ρ : Env} {w : World} {l : List Oper} {S : World -> Prop} {fuel fuel' : Nat} {listed listed' : Array Bool}
theorem Xm [Dfr] (A:Env->World->Prop) (fuel' :Nat) (listed' :Array Bool) (h1:∀ ρ w,A ρ w->RW P l Q S n fuel' listed' ρ w) (h2:(∀ ρ w,A ρ w->RW P l Q S n fuel' listed' ρ w)->RW P l Q S n fuel listed ρ w):RW P l Q S n fuel listed ρ w:=h2 h1
theorem Qo [Dfr] {A:Env->World->Prop} (L:∀ ρ w,A ρ w->RW P l Q S n fuel' listed' ρ w) (h:A ρ w) (e:listed=listed' :=by kernel_rfl) (ef:fuel=fuel' :=by kernel_rfl):RW P l Q S n fuel listed ρ w:=by
 subst e ef;exact L _ _ h
end
end
section
theorem ti2:TI Tryz.prog 2 (.int .i64 0) 1 8:=by unfold TI;kernel_rfl
theorem ti3:TI Tryz.prog 3 (.int .i64 0) 1 8:=by unfold TI;kernel_rfl
theorem ti4:TI Tryz.prog 4 (Bv false) 1 1:=by unfold TI;kernel_rfl
theorem ti26:TI Tryz.prog 26 (.agg #[.int .i64 0,Sv none 0 0]) 2 32:=by unfold TI;kernel_rfl
theorem ti27:TI Tryz.prog 27 (Sv none 0 0) 1 24:=by unfold TI;kernel_rfl
theorem ti37:TI Tryz.prog 37 (.agg #[.int .i64 0,Sv none 0 0,Sv none 0 0]) 3 56:=by unfold TI;kernel_rfl
theorem ti41:TI Tryz.prog 41 (Sv none 0 0) 1 24:=by unfold TI;kernel_rfl
theorem ti43:TI Tryz.prog 43 (.agg #[Sv none 0 0,Sv none 0 0,Sv none 0 0]) 3 72:=by unfold TI;kernel_rfl
theorem ti47:TI Tryz.prog 47 (.agg #[.int .i64 0,Sv none 0 0]) 2 32:=by unfold TI;kernel_rfl
theorem ti100:TI Tryz.prog 100 (.agg #[Sv none 0 0,Sv none 0 0]) 2 48:=by unfold TI;kernel_rfl
theorem ti109:TI Tryz.prog 109 (.agg #[.int .i64 0,.int .i64 0,.int .i64 0,.int .i64 0]) 4 32:=by unfold TI;kernel_rfl
theorem ti120:TI Tryz.prog 120 (.agg #[.int .i64 0,.int .i64 0,Sv none 0 0,Sv none 0 0,Sv none 0 0,Sv none 0 0,Sv none 0 0,Sv none 0 0,Bv false]) 9 168:=by unfold TI;kernel_rfl
theorem ti160:TI Tryz.prog 160 (.agg #[.int .i64 0,Sv none 0 0]) 2 32:=by unfold TI;kernel_rfl
theorem ti165:TI Tryz.prog 165 (.agg #[.int .i64 0,.int .i64 0,.int .i64 0,.int .i64 0,.int .i64 0,.int .i64 0]) 6 48:=by unfold TI;kernel_rfl
theorem ti179:TI Tryz.prog 179 (.agg #[.int .i64 0,.int .i64 0,.int .i64 0,.int .i64 0]) 4 32:=by unfold TI;kernel_rfl
theorem ti197:TI Tryz.prog 197 (.agg #[.int .i64 0,.int .i64 0,.int .i64 0,.int .i64 0,.int .i64 0,.int .i64 0]) 6 48:=by unfold TI;kernel_rfl
theorem ti211:TI Tryz.prog 211 (.agg #[Sv none 0 0,Sv none 0 0]) 2 48:=by unfold TI;kernel_rfl
theorem ti269:TI Tryz.prog 269 (Sv none 0 0) 1 24:=by unfold TI;kernel_rfl
theorem ti273:TI Tryz.prog 273 (.pointer none) 1 8:=by unfold TI;kernel_rfl
theorem ti276:TI Tryz.prog 276 (.nilFunc) 1 8:=by unfold TI;kernel_rfl
instance iS27:SliC Tryz.prog 27 2:=⟨underlying27⟩
instance iT2:TIC Tryz.prog 2 (.int .i64 0) 1 8:=⟨ti2⟩
instance iA2:SclC Tryz.prog 2:=⟨isAgg2⟩
instance iC144:Qn Tryz.prog 144:=⟨call144⟩
instance iC98:Qn Tryz.prog 98:=⟨call98⟩
instance iC100:Qn Tryz.prog 100:=⟨call100⟩
instance iC101:Qn Tryz.prog 101:=⟨call101⟩
instance iC167:Qn Tryz.prog 167:=⟨call167⟩
instance iS69:SliC Tryz.prog 69 179:=⟨underlying69⟩
instance iF71_1:FldC Tryz.prog 71 1 1:=⟨⟨_,_,_,underlying71,rfl,rfl,sizeOf69⟩⟩
instance iA69:SclC Tryz.prog 69:=⟨isAgg69⟩
instance iC91:Qn Tryz.prog 91:=⟨call91⟩
instance iF179_0:FldC Tryz.prog 179 0 0:=⟨⟨_,_,_,underlying179,rfl,rfl,sizeOf2⟩⟩
instance iF109_0:FldC Tryz.prog 109 0 0:=⟨⟨_,_,_,underlying109,rfl,rfl,sizeOf2⟩⟩
instance iF179_1:FldC Tryz.prog 179 1 1:=⟨⟨_,_,_,underlying179,rfl,rfl,sizeOf2⟩⟩
instance iF109_1:FldC Tryz.prog 109 1 1:=⟨⟨_,_,_,underlying109,rfl,rfl,sizeOf2⟩⟩
instance iF179_2:FldC Tryz.prog 179 2 2:=⟨⟨_,_,_,underlying179,rfl,rfl,sizeOf2⟩⟩
instance iF109_2:FldC Tryz.prog 109 2 2:=⟨⟨_,_,_,underlying109,rfl,rfl,sizeOf2⟩⟩
instance iF179_3:FldC Tryz.prog 179 3 3:=⟨⟨_,_,_,underlying179,rfl,rfl,sizeOf2⟩⟩
instance iF109_3:FldC Tryz.prog 109 3 3:=⟨⟨_,_,_,underlying109,rfl,rfl,sizeOf2⟩⟩
instance iT179:TIC Tryz.prog 179 (.agg #[.int .i64 0,.int .i64 0,.int .i64 0,.int .i64 0]) 4 32:=⟨ti179⟩
instance iC142:Qn Tryz.prog 142:=⟨call142⟩
instance iS24:SliC Tryz.prog 24 109:=⟨underlying24⟩
instance iT109:TIC Tryz.prog 109 (.agg #[.int .i64 0,.int .i64 0,.int .i64 0,.int .i64 0]) 4 32:=⟨ti109⟩
instance iF71_0:FldC Tryz.prog 71 0 0:=⟨⟨_,_,_,underlying71,rfl,rfl,sizeOf2⟩⟩
instance iF26_0:FldC Tryz.prog 26 0 0:=⟨⟨_,_,_,underlying26,rfl,rfl,sizeOf2⟩⟩
instance iC92:Qn Tryz.prog 92:=⟨call92⟩
instance iF26_1:FldC Tryz.prog 26 1 1:=⟨⟨_,_,_,underlying26,rfl,rfl,sizeOf24⟩⟩
instance iC143:Qn Tryz.prog 143:=⟨call143⟩
instance iA24:SclC Tryz.prog 24:=⟨isAgg24⟩
instance iC93:Qn Tryz.prog 93:=⟨call93⟩
instance iC71:Qn Tryz.prog 71:=⟨call71⟩
instance iC232:Qn Tryz.prog 232:=⟨call232⟩
instance iF37_0:FldC Tryz.prog 37 0 0:=⟨⟨_,_,_,underlying37,rfl,rfl,sizeOf2⟩⟩
instance iF37_1:FldC Tryz.prog 37 1 1:=⟨⟨_,_,_,underlying37,rfl,rfl,sizeOf27⟩⟩
instance iA27:SclC Tryz.prog 27:=⟨isAgg27⟩
instance iF120_0:FldC Tryz.prog 120 0 0:=⟨⟨_,_,_,underlying120,rfl,rfl,sizeOf2⟩⟩
instance iF120_1:FldC Tryz.prog 120 1 1:=⟨⟨_,_,_,underlying120,rfl,rfl,sizeOf2⟩⟩
instance iF120_8:FldC Tryz.prog 120 8 8:=⟨⟨_,_,_,underlying120,rfl,rfl,sizeOf4⟩⟩
instance iA4:SclC Tryz.prog 4:=⟨isAgg4⟩
instance iF120_7:FldC Tryz.prog 120 7 7:=⟨⟨_,_,_,underlying120,rfl,rfl,sizeOf118⟩⟩
instance iA118:SclC Tryz.prog 118:=⟨isAgg118⟩
instance iS118:SliC Tryz.prog 118 160:=⟨underlying118⟩
instance iF120_2:FldC Tryz.prog 120 2 2:=⟨⟨_,_,_,underlying120,rfl,rfl,sizeOf27⟩⟩
instance iC212:Qn Tryz.prog 212:=⟨call212⟩
instance iF120_3:FldC Tryz.prog 120 3 3:=⟨⟨_,_,_,underlying120,rfl,rfl,sizeOf27⟩⟩
instance iF120_4:FldC Tryz.prog 120 4 4:=⟨⟨_,_,_,underlying120,rfl,rfl,sizeOf27⟩⟩
instance iF120_5:FldC Tryz.prog 120 5 5:=⟨⟨_,_,_,underlying120,rfl,rfl,sizeOf27⟩⟩
instance iF120_6:FldC Tryz.prog 120 6 6:=⟨⟨_,_,_,underlying120,rfl,rfl,sizeOf27⟩⟩
instance iC213:Qn Tryz.prog 213:=⟨call213⟩
instance iT160:TIC Tryz.prog 160 (.agg #[.int .i64 0,Sv none 0 0]) 2 32:=⟨ti160⟩
instance iF160_0:FldC Tryz.prog 160 0 0:=⟨⟨_,_,_,underlying160,rfl,rfl,sizeOf2⟩⟩
instance iC231:Qn Tryz.prog 231:=⟨call231⟩
instance iF160_1:FldC Tryz.prog 160 1 1:=⟨⟨_,_,_,underlying160,rfl,rfl,sizeOf27⟩⟩
instance iF43_0:FldC Tryz.prog 43 0 0:=⟨⟨_,_,_,underlying43,rfl,rfl,sizeOf40⟩⟩
instance iA40:SclC Tryz.prog 40:=⟨isAgg40⟩
instance iS40:SliC Tryz.prog 40 4:=⟨underlying40⟩
instance iF43_1:FldC Tryz.prog 43 1 1:=⟨⟨_,_,_,underlying43,rfl,rfl,sizeOf41⟩⟩
instance iA41:SclC Tryz.prog 41:=⟨isAgg41⟩
instance iS41:SliC Tryz.prog 41 27:=⟨underlying41⟩
instance iT4:TIC Tryz.prog 4 (Bv false) 1 1:=⟨ti4⟩
instance iF43_2:FldC Tryz.prog 43 2 2:=⟨⟨_,_,_,underlying43,rfl,rfl,sizeOf27⟩⟩
instance iT27:TIC Tryz.prog 27 (Sv none 0 0) 1 24:=⟨ti27⟩
instance iC210:Qn Tryz.prog 210:=⟨call210⟩
instance iF37_2:FldC Tryz.prog 37 2 2:=⟨⟨_,_,_,underlying37,rfl,rfl,sizeOf35⟩⟩
instance iA35:SclC Tryz.prog 35:=⟨isAgg35⟩
instance iS35:SliC Tryz.prog 35 120:=⟨underlying35⟩
instance iT120:TIC Tryz.prog 120 (.agg #[.int .i64 0,.int .i64 0,Sv none 0 0,Sv none 0 0,Sv none 0 0,Sv none 0 0,Sv none 0 0,Sv none 0 0,Bv false]) 9 168:=⟨ti120⟩
instance iC211:Qn Tryz.prog 211:=⟨call211⟩
instance iC120:Qn Tryz.prog 120:=⟨call120⟩
instance iC107:Qn Tryz.prog 107:=⟨call107⟩
instance iC149:Qn Tryz.prog 149:=⟨call149⟩
instance iF187_0:FldC Tryz.prog 187 0 0:=⟨⟨_,_,_,underlying187,rfl,rfl,sizeOf2⟩⟩
instance iF187_1:FldC Tryz.prog 187 1 1:=⟨⟨_,_,_,underlying187,rfl,rfl,sizeOf35⟩⟩
instance iC147:Qn Tryz.prog 147:=⟨call147⟩
instance iF47_1:FldC Tryz.prog 47 1 1:=⟨⟨_,_,_,underlying47,rfl,rfl,sizeOf27⟩⟩
instance iF47_0:FldC Tryz.prog 47 0 0:=⟨⟨_,_,_,underlying47,rfl,rfl,sizeOf2⟩⟩
instance iC85:Qn Tryz.prog 85:=⟨call85⟩
instance iC84:Qn Tryz.prog 84:=⟨call84⟩
instance iC123:Qn Tryz.prog 123:=⟨call123⟩
instance iF111_0:FldC Tryz.prog 111 0 0:=⟨⟨_,_,_,underlying111,rfl,rfl,sizeOf2⟩⟩
instance iF111_1:FldC Tryz.prog 111 1 1:=⟨⟨_,_,_,underlying111,rfl,rfl,sizeOf35⟩⟩
instance iC76:Qn Tryz.prog 76:=⟨call76⟩
instance iF111_2:FldC Tryz.prog 111 2 2:=⟨⟨_,_,_,underlying111,rfl,rfl,sizeOf27⟩⟩
instance iC117:Qn Tryz.prog 117:=⟨call117⟩
instance iC119:Qn Tryz.prog 119:=⟨call119⟩
instance iC189:Qn Tryz.prog 189:=⟨call189⟩
instance iC190:Qn Tryz.prog 190:=⟨call190⟩
instance iC237:Qn Tryz.prog 237:=⟨call237⟩
instance iC238:Qn Tryz.prog 238:=⟨call238⟩
instance iC217:Qn Tryz.prog 217:=⟨call217⟩
instance iC218:Qn Tryz.prog 218:=⟨call218⟩
instance iC193:Qn Tryz.prog 193:=⟨call193⟩
instance iC251:Qn Tryz.prog 251:=⟨call251⟩
instance iC259:Qn Tryz.prog 259:=⟨call259⟩
instance iC260:Qn Tryz.prog 260:=⟨call260⟩
instance iS265:SliC Tryz.prog 265 41:=⟨underlying265⟩
instance iT41:TIC Tryz.prog 41 (Sv none 0 0) 1 24:=⟨ti41⟩
instance iS269:SliC Tryz.prog 269 3:=⟨underlying269⟩
instance iC249:Qn Tryz.prog 249:=⟨call249⟩
instance iC234:Qn Tryz.prog 234:=⟨call234⟩
instance iS264:SliC Tryz.prog 264 269:=⟨underlying264⟩
instance iT269:TIC Tryz.prog 269 (Sv none 0 0) 1 24:=⟨ti269⟩
instance iA269:SclC Tryz.prog 269:=⟨isAgg269⟩
instance iT3:TIC Tryz.prog 3 (.int .i64 0) 1 8:=⟨ti3⟩
instance iA3:SclC Tryz.prog 3:=⟨isAgg3⟩
instance iC235:Qn Tryz.prog 235:=⟨call235⟩
instance iC250:Qn Tryz.prog 250:=⟨call250⟩
instance iC153:Qn Tryz.prog 153:=⟨call153⟩
instance iC196:Qn Tryz.prog 196:=⟨call196⟩
instance iC125:Qn Tryz.prog 125:=⟨call125⟩
instance iC197:Qn Tryz.prog 197:=⟨call197⟩
instance iC86:Qn Tryz.prog 86:=⟨call86⟩
instance iC158:Qn Tryz.prog 158:=⟨call158⟩
instance iC159:Qn Tryz.prog 159:=⟨call159⟩
instance iC124:Qn Tryz.prog 124:=⟨call124⟩
instance iC127:Qn Tryz.prog 127:=⟨call127⟩
instance iC55:Qn Tryz.prog 55:=⟨call55⟩
instance iC130:Qn Tryz.prog 130:=⟨call130⟩
instance iC166:Qn Tryz.prog 166:=⟨call166⟩
instance iC131:Qn Tryz.prog 131:=⟨call131⟩
instance iC254:Qn Tryz.prog 254:=⟨call254⟩
instance iA84:SclC Tryz.prog 84:=⟨isAgg84⟩
instance iC221:Qn Tryz.prog 221:=⟨call221⟩
instance iA273:SclC Tryz.prog 273:=⟨isAgg273⟩
instance iF275_0:FldC Tryz.prog 275 0 0:=⟨⟨_,_,_,underlying275,rfl,rfl,sizeOf41⟩⟩
instance iC242:Qn Tryz.prog 242:=⟨call242⟩
instance iA276:SclC Tryz.prog 276:=⟨isAgg276⟩
instance iC133:Qn Tryz.prog 133:=⟨call133⟩
instance iC239:Qn Tryz.prog 239:=⟨call239⟩
instance iC81:Qn Tryz.prog 81:=⟨call81⟩
instance iC199:Qn Tryz.prog 199:=⟨call199⟩
instance iS207:SliC Tryz.prog 207 211:=⟨underlying207⟩
instance iT211:TIC Tryz.prog 211 (.agg #[Sv none 0 0,Sv none 0 0]) 2 48:=⟨ti211⟩
instance iF211_1:FldC Tryz.prog 211 1 1:=⟨⟨_,_,_,underlying211,rfl,rfl,sizeOf41⟩⟩
instance iF211_0:FldC Tryz.prog 211 0 0:=⟨⟨_,_,_,underlying211,rfl,rfl,sizeOf27⟩⟩
instance iC132:Qn Tryz.prog 132:=⟨call132⟩
instance iC135:Qn Tryz.prog 135:=⟨call135⟩
instance iC79:Qn Tryz.prog 79:=⟨call79⟩
instance iC77:Qn Tryz.prog 77:=⟨call77⟩
instance iC74:Qn Tryz.prog 74:=⟨call74⟩
instance iS48:SliC Tryz.prog 48 43:=⟨underlying48⟩
instance iT43:TIC Tryz.prog 43 (.agg #[Sv none 0 0,Sv none 0 0,Sv none 0 0]) 3 72:=⟨ti43⟩
instance iC216:Qn Tryz.prog 216:=⟨call216⟩
instance iC236:Qn Tryz.prog 236:=⟨call236⟩
instance iC192:Qn Tryz.prog 192:=⟨call192⟩
instance iC202:Qn Tryz.prog 202:=⟨call202⟩
instance iC54:Qn Tryz.prog 54:=⟨call54⟩
instance iC82:Qn Tryz.prog 82:=⟨call82⟩
instance iC176:Qn Tryz.prog 176:=⟨call176⟩
instance iC152:Qn Tryz.prog 152:=⟨call152⟩
instance iC214:Qn Tryz.prog 214:=⟨call214⟩
instance iC215:Qn Tryz.prog 215:=⟨call215⟩
instance iC140:Qn Tryz.prog 140:=⟨call140⟩
instance iC141:Qn Tryz.prog 141:=⟨call141⟩
instance iC150:Qn Tryz.prog 150:=⟨call150⟩
instance iF100_0:FldC Tryz.prog 100 0 0:=⟨⟨_,_,_,underlying100,rfl,rfl,sizeOf48⟩⟩
instance iA48:SclC Tryz.prog 48:=⟨isAgg48⟩
instance iC191:Qn Tryz.prog 191:=⟨call191⟩
instance iF100_1:FldC Tryz.prog 100 1 1:=⟨⟨_,_,_,underlying100,rfl,rfl,sizeOf41⟩⟩
instance iC90:Qn Tryz.prog 90:=⟨call90⟩
instance iC154:Qn Tryz.prog 154:=⟨call154⟩
instance iC155:Qn Tryz.prog 155:=⟨call155⟩
instance iC108:Qn Tryz.prog 108:=⟨call108⟩
instance iC63:Qn Tryz.prog 63:=⟨call63⟩
instance iC89:Qn Tryz.prog 89:=⟨call89⟩
instance iC42:Qn Tryz.prog 42:=⟨call42⟩
instance iC43:Qn Tryz.prog 43:=⟨call43⟩
instance iC44:Qn Tryz.prog 44:=⟨call44⟩
instance iC15:Qn Tryz.prog 15:=⟨call15⟩
instance iC47:Qn Tryz.prog 47:=⟨call47⟩
instance iC48:Qn Tryz.prog 48:=⟨call48⟩
instance iC105:Qn Tryz.prog 105:=⟨call105⟩
instance iC106:Qn Tryz.prog 106:=⟨call106⟩
instance iC50:Qn Tryz.prog 50:=⟨call50⟩
instance iC49:Qn Tryz.prog 49:=⟨call49⟩
instance iC51:Qn Tryz.prog 51:=⟨call51⟩
instance iC29:Qn Tryz.prog 29:=⟨call29⟩
instance iC30:Qn Tryz.prog 30:=⟨call30⟩
instance iC31:Qn Tryz.prog 31:=⟨call31⟩
instance iC10:Qn Tryz.prog 10:=⟨call10⟩
instance iC9:Qn Tryz.prog 9:=⟨call9⟩
instance iC32:Qn Tryz.prog 32:=⟨call32⟩
instance iC33:Qn Tryz.prog 33:=⟨call33⟩
instance iC36:Qn Tryz.prog 36:=⟨call36⟩
end
section
variable {cl : Nat}
theorem yx (w:World) (n:Int) (lo:Int) (hi:Int):Calls Tryz.prog 98 #[yI n,yI lo,yI hi] w (Ret (fun v w' =>v=Bv (inR n lo hi)) w):=by
 refine en func98 ntmps98 ?_
 have H:=St.start w
 refine zcr (sp (Bv false) (zjc (sp (yI n) (sp (yI lo) (sp (Bv (decide ((n:Int)>=lo))) (sp (Bv (decide ((n:Int)>=lo))) ?_))))))
 cases h1:(decide ((n:Int)>=lo))
 ·replace h1:=of_decide_eq_false h1
  refine xR [11,12,13] (sp (Bv false) (sp (Bv false) (zjr (rH1 (Bv false) H ?_))))
  rw [inR_no ‹_›]
 replace h1:=of_decide_eq_true h1
 refine qJ 10 rfl rfl (sp (yI n) (qJ 10 rfl rfl (sp (yI hi) (qJ 10 rfl rfl (sq 3 (zjr (rH1 (Bv (decide ((n:Int)<=hi))) H ?_)))))))
 rw [inR_yes ‹_›]
theorem QN (w:World) (n:Int) (lo:Int) (hi:Int):Calls Tryz.prog 71 #[yI n,yI lo,yI hi] w (Ret (fun v w' =>v=Bv (inR n lo hi)) w):=by
 refine en func71 ntmps71 ?_
 have H:=St.start w
 refine zcr (sp (Bv false) (zjc (sp (yI n) (sp (yI lo) (sp (Bv (decide ((n:Int)>=lo))) (sp (Bv (decide ((n:Int)>=lo))) ?_))))))
 cases h1:(decide ((n:Int)>=lo))
 ·replace h1:=of_decide_eq_false h1
  refine xR [11,12,13] (sp (Bv false) (sp (Bv false) (zjr (rH1 (Bv false) H ?_))))
  rw [inR_no ‹_›]
 replace h1:=of_decide_eq_true h1
 refine qJ 10 rfl rfl (sp (yI n) (qJ 10 rfl rfl (sp (yI hi) (qJ 10 rfl rfl (sq 3 (zjr (rH1 (Bv (decide ((n:Int)<=hi))) H ?_)))))))
 rw [inR_yes ‹_›]
theorem isWithin_ok (w:World) (l:yLI) (m:yLI) {am:yOA} {cm:Nat} {Fm:yLN} (hl:zP w Fl al cl l) (hm:zP w Fm am cm m) (p0:l.length<=m.length) (p1:l.length<=1000000):Calls Tryz.prog 130 #[Sv al l.length cl,Sv am m.length cm] w (Ret (fun v w' =>v=Bv (within l m)) w):=by
 refine en func130 ntmps130 ?_
 have H:=((St.start w).arg hm).arg hl
 have nhl:=qO hl
 have nhm:=qO hm
 clear hl hm
 refine zcr (sp (Bv false) (zjcc (sq 1 (oN rfl (sp (yI 0) (zjn (qV ?_)))))))
 refine zA ((fun Z0 Z1=>fun m' ρ w1=>∃ (xQ:Env) (k:Nat),ρ=upd (upd (upd (upd xQ 1 (Sv am m.length cm)) 7 (Sv al l.length cl)) 8 (yI l.length)) 9 (yI k)/\(k<=l.length)/\(withinTo l m k)/\m' =l.length - k/\St w w1 [] [Z0,Z1]) _ _) (l.length - 0) ⟨_,0,uE4,qf,(by exact withinTo_zero l m),rfl,H⟩ ?_
 clear H
 rintro m' ρ w2 ⟨xQ,k,rfl,i0,i1,rfl,H⟩
 refine zcr (sq 1 (zjn (xU (cD rfl (fun h3=>?_) (fun h3=>?_)))))
 ·refine qU (t_n (xU (qV (zcr (sp (yI k) ?_)))))
  obtain ⟨b4,o5,rfl⟩:=H.addr 0 rfl qf
  refine oI rfl rfl (oL rfl (H.zB 0 rfl k qf) (sp (yI k) (sq 1 (zjc (sq 2 (sp (yI k) ?_))))))
  obtain ⟨b6,o7,rfl⟩:=H.addr 1 rfl qf
  refine oI rfl rfl (oL rfl (H.zB 1 rfl k qf) (sq 1 (zjn (cD rfl (fun h8=>?_) (fun h8=>?_)))))
  ·refine zcr (sp (Bv false) (zjr (zr5 (rH1 (Bv false) H ?_))))
   rw [within_no (k:=k) ‹_› qf]
  refine qU (b_n (t_n (xK (sw (zi k 1 rfl rfl qf (sq 1 (xP (qW (m' :=l.length - (k+1)) qf ⟨_,k+1,uE4,?_,?_,rfl,H⟩))))))))
  ·omega
  ·exact withinTo_succ ‹_› qf
 refine zx4 (zcr (sp (Bv true) (zjr (rH1 (Bv true) H ?_))))
 rw [within_yes ‹_› qf]
theorem XC (w:World) (l:yLI) (hl:zP w Fl al cl l) (p0:Small l):Calls Tryz.prog 86 #[Sv al l.length cl] w (Ret (fun v w' =>v=yI (Xh l)) w):=by
 refine en func86 ntmps86 ?_
 have H:=(St.start w).arg hl
 have nhl:=qO hl
 clear hl
 have p1:=p0.1
 refine zcr (sp (yI 0) (zjc (sp (yI 0) (zjcc (sq 1 (oN rfl (sp (yI 0) (zjn (qV ?_)))))))))
 refine zA ((fun Z0=>fun m' ρ w1=>∃ (xQ:Env) (k:Nat),ρ=upd (upd (upd (upd (upd xQ 2 (yI 0)) 3 (yI (sumTo l k))) 6 (Sv al l.length cl)) 7 (yI l.length)) 8 (yI k)/\(k<=l.length)/\m' =l.length - k/\St w w1 [] [Z0]) _) (l.length - 0) ⟨_,0,uE5,qf,rfl,H⟩ ?_
 clear H
 rintro m' ρ w2 ⟨xQ,k,rfl,i0,rfl,H⟩
 have hs:=sumTo_small p0 i0
 have hv:=p0.2 k
 refine zcr (sq 1 (zjn (xU (cD rfl (fun h3=>?_) (fun h3=>?_)))))
 ·refine qU (t_n (xU (qV (zcr ?_))))
  obtain ⟨b4,o5,rfl⟩:=H.addr 0 rfl qf
  refine oI rfl rfl (oL rfl (H.zB 0 rfl k qf) (sq 1 (zjn (xK (sq 2 (sw (zi (sumTo l k) (l[k]!) rfl rfl (by (have:=hv qf;omega)) (sq 1 (xP (b_n (t_n (xK (sw (zi k 1 rfl rfl (by (have:=hv qf;omega)) (sq 1 (xP (qW (m' :=l.length - (k+1)) qf ⟨_,k+1,uE5,?_,rfl,H⟩)))))))))))))))))
  ·omega
 refine zx4 (zcr (sq 2 (zjr (rH1 (yI (sumTo l k)) H ?_))))
 obtain rfl:k=l.length:=by omega
 rfl
theorem X4 (w:World) (l:yLI) (hl:zP w Fl al cl l) (p0:Small l):Calls Tryz.prog 213 #[Sv al l.length cl] w (Ret (fun v w' =>v=yI (Xh l)) w):=by
 refine en func213 ntmps213 ?_
 have H:=(St.start w).arg hl
 have nhl:=qO hl
 clear hl
 have p1:=p0.1
 refine zcr (sp (yI 0) (zjc (sp (yI 0) (zjcc (sp (yI 0) (zjn (qV ?_)))))))
 refine zA ((fun Z0=>fun m' ρ w1=>∃ (xQ:Env) (k:Nat),ρ=upd (upd (upd (upd xQ 0 (Sv al l.length cl)) 2 (yI 0)) 3 (yI (sumTo l k))) 4 (yI k)/\(k<=l.length)/\m' =l.length - k/\St w w1 [] [Z0]) _) (l.length - 0) ⟨_,0,uE4,qf,rfl,H⟩ ?_
 clear H
 rintro m' ρ w2 ⟨xQ,k,rfl,i0,rfl,H⟩
 have hs:=sumTo_small p0 i0
 have hv:=p0.2 k
 refine zcc (sp (yI k) (sq 1 (oN rfl (sq 1 (zjn (cD rfl (fun h3=>?_) (fun h3=>?_)))))))
 ·refine qU (t_n (xU (qV (xK (sq 2 (sp (yI k) ?_))))))
  obtain ⟨b4,o5,rfl⟩:=H.addr 0 rfl qf
  refine oI rfl rfl (oL rfl (H.zB 0 rfl k qf) (sw (zi (sumTo l k) (l[k]!) rfl rfl (by (have:=hv qf;omega)) (sq 1 (xP (b_n (t_n (xK (sp (yI k) (sw (zi k 1 rfl rfl (by (have:=hv qf;omega)) (sq 1 (xP (qW (m' :=l.length - (k+1)) qf ⟨_,k+1,uE4,?_,rfl,H⟩))))))))))))))
  ·omega
 refine zx4 (zcr (sq 2 (zjr (rH1 (yI (sumTo l k)) H ?_))))
 obtain rfl:k=l.length:=by omega
 rfl
theorem indexFuncI_ok (w:World) (l:yLI) (f:FuncId) (capsf:Array Value) (gf:Nat->Bool) (hl:zP w Fl al cl l) (hff:∀ args w,(callFunc f args).run Tryz.prog w=.ok (.enter f args) w) (hoff:∀ k w',k < l.length->Ext w w' ->Calls Tryz.prog f (([yI (l[k]!)]:List Value)++capsf.toList).toArray w' (Ret (fun v _=>v=Bv (gf k)) w')):Calls Tryz.prog 144 #[Sv al l.length cl,.func (.func f) #[] capsf] w (Ret (fun v w' =>v=yI (firstIdx gf l.length)) w):=by
 refine en func144 ntmps144 ?_
 have H:=(St.start w).arg hl
 have nhl:=qO hl
 clear hl
 refine zcr (sp (yI 0) (zjcc (sq 1 (oN rfl (sp (yI 0) (zjn (qV ?_)))))))
 refine zA ((fun Z0=>fun m' ρ w1=>∃ (xQ:Env) (k:Nat),ρ=upd (upd (upd (upd xQ 0 (Sv al l.length cl)) 1 (.func (.func f) #[] capsf)) 7 (yI l.length)) 8 (yI k)/\(k<=l.length)/\(noneTo gf k)/\m' =l.length - k/\St w w1 [] [Z0]) _) (l.length - 0) ⟨_,0,uE4,qf,qx,rfl,H⟩ ?_
 clear H
 rintro m' ρ w2 ⟨xQ,k,rfl,i0,i1,rfl,H⟩
 refine zcr (sq 1 (zjn (xU (cD rfl (fun h3=>?_) (fun h3=>?_)))))
 ·refine qU (t_n (xU (qV (zcr (sp (yI k) (sp (yI k) (zjc (sp (.func (.func f) #[] capsf) (sq 1 (sp (yI k) ?_))))))))))
  obtain ⟨b4,o5,rfl⟩:=H.addr 0 rfl qf
  refine oI rfl rfl (oL rfl (H.zB 0 rfl k qf) (sw (o_callV [yI (l[k]!)] rfl rfl hff (hoff k _ qf H.base) ?_)))
  rintro _ w6 rfl x7
  replace H:=H.ext x7
  refine zjn (zT _ rfl (fun h8=>?_) (fun h8=>?_))
  ·refine zcr (sp (yI k) (sp (yI k) (zjr (zr5 (rH1 (yI k) H ?_)))))
   rw [firstIdx_some (k:=k) qf i1 ‹_›]
  refine qU (b_n (t_n (xK (sw (zi k 1 rfl rfl qf (sq 1 (xP (qW (m' :=l.length - (k+1)) qf ⟨_,k+1,uE4,?_,?_,rfl,H⟩))))))))
  ·omega
  ·exact noneTo_succ ‹_› ‹_›
 refine zx4 (zcr (sq 1 (zjr (rH1 (yI (-1)) H ?_))))
 rw [firstIdx_none (fun j hj=>i1 j qf)]
theorem containsFuncI_ok (w:World) (l:yLI) (f:FuncId) (capsf:Array Value) (gf:Nat->Bool) (hl:zP w Fl al cl l) (hff:∀ args w,(callFunc f args).run Tryz.prog w=.ok (.enter f args) w) (hoff:∀ k w',k < l.length->Ext w w' ->Calls Tryz.prog f (([yI (l[k]!)]:List Value)++capsf.toList).toArray w' (Ret (fun v _=>v=Bv (gf k)) w')):Calls Tryz.prog 101 #[Sv al l.length cl,.func (.func f) #[] capsf] w (Ret (fun v w' =>v=Bv (anyTo gf l.length)) w):=by
 refine en func101 ntmps101 ?_
 have H:=(St.start w).arg hl
 have nhl:=qO hl
 clear hl
 refine zcr (sp (Bv false) (zjc (sq 1 (sp (.func (.func f) #[] capsf) (sw (oq (indexFuncI_ok _ l f capsf gf (H.get 0 rfl).1 hff hoff) H fun w1 H=>sp (Bv (decide ((firstIdx gf l.length:Int)>=0))) (sp (Bv (decide ((firstIdx gf l.length:Int)>=0))) (zjr (rH1 (Bv (decide ((firstIdx gf l.length:Int)>=0))) H ?_)))))))))
 rw [anyTo_first]
theorem validBag1_ok (w:World) (n:Int):Calls Tryz.prog 160 #[yI n] w (Ret (fun v w' =>v=Bv (!isCnt n)) w):=by
 refine en func160 ntmps160 ?_
 have H:=St.start w
 refine zcr (sp (Bv false) (zjc (sp (yI n) (sw (oq (yx w n 0 1000) H fun w1 H=>sq 2 (zjr (rH1 (Bv (!(inR n 0 1000))) H ?_)))))))
 rfl
theorem sizeI_ok (w:World) (l:yLI) (hl:zP w Fl al cl l):Calls Tryz.prog 100 #[Sv al l.length cl] w (Ret (fun v w' =>v=yI (l.length:Int)) w):=by
 refine en func100 ntmps100 ?_
 have H:=(St.start w).arg hl
 have nhl:=qO hl
 clear hl
 refine zcr (sp (yI 0) (zjc (sq 1 (oN rfl (sq 1 (zjr (rH1 (yI l.length) H ?_)))))))
 rfl
theorem XR (w:World) (kinds:Int) (l:yLI) (hl:zP w Fl al cl l):Calls Tryz.prog 125 #[yI kinds,Sv al l.length cl] w (Ret (fun v w' =>v=Bv (dec (vk kinds l))) w):=by
 refine en func125 ntmps125 ?_
 have H:=(St.start w).arg hl
 have nhl:=qO hl
 clear hl
 refine zcr (sp (Bv false) (zjc (sq 1 (sw (oq (yx w kinds 1 8) H fun w1 H=>sp (Bv (inR kinds 1 8)) ?_)))))
 cases h3:(inR kinds 1 8)
 ·replace h3:=yu h3
  refine xR (zR 8 4) (sp (Bv false) (sp (Bv false) (xR [14,15,16] (sp (Bv false) (sp (Bv false) (zjr (rH1 (Bv false) H ?_)))))))
  rw [xh (fun h=>by have:=h.1.2;have:=h.2;omega)]
 replace h3:=jL.1 h3
 refine qJ 7 rfl rfl (sq 1 (qJ 7 rfl rfl (sw (oq (sizeI_ok _ l (H.get 0 rfl).1) H fun w4 H=>qJ 7 rfl rfl (sq 1 (qJ 7 rfl rfl (sp (Bv (((l.length:Int):Int) == kinds)) (sp (Bv (((l.length:Int):Int) == kinds)) (sp (Bv (((l.length:Int):Int) == kinds)) ?_)))))))))
 cases h6:(((l.length:Int):Int) == kinds)
 ·replace h6:=ne_of_beq_false h6
  refine xR [14,15,16] (sp (Bv false) (sp (Bv false) (zjr (rH1 (Bv false) H ?_))))
  rw [xh (fun h=>by have:=h.1.2;have:=h.2;omega)]
 replace h6:=eq_of_beq h6
 refine qJ 13 rfl rfl (sq 1 (qJ 13 rfl rfl (sw (oq (containsFuncI_ok _ l 160 #[] (fun k=> !isCnt (l[k]!)) (H.get 0 rfl).1 call160 (fun k w' hk e=>validBag1_ok w' _)) H fun w7 H=>qJ 13 rfl rfl (sq 3 (zjr (rH1 (Bv (!(anyTo (fun k=> !isCnt (l[k]!)) l.length))) H (congrArg Value.bool (dec_eq ?_)))))))))
 rw [anyCnt_iff]
 exact ⟨fun h=>⟨⟨h,by omega,by omega⟩,by omega⟩,fun h=>h.1.1⟩
end
section
theorem slice_form {α:Type} [qK α] {l:List α} (h:qK.rep w F [v] l):∃ a c,v=Sv a l.length c:=by
 obtain ⟨a,c,hc,_⟩:=h
 simp only [List.cons.injEq,and_true] at hc
 exact ⟨a,c,hc⟩
theorem one_of {α:Type} [qK α] {x:α} (h:qK.rep w F [v] x):v.oneCell' =true:=qK.one h v (List.mem_singleton.2 rfl)
theorem St.ji {α:Type} [qK α] (H:St W0 w ps Γ) (i:Nat) {l:List (List α)} (hf:Γ[i]? =some (isF fr F (Sv (some ⟨b,o,none⟩) m c) l)) (iv:Int) (k:Nat) (hk:iv.toNat=k) (h0:0<=iv) (h1:iv < l.length):
 ∃ (a' :yOA) (c' :Nat) (Fk:yLN),St W0 w ps (isF fr Fk (Sv a' (l[k]!).length c') (l[k]!)::atF b (o+iv.toNat * 1) [Sv a' (l[k]!).length c']::Γ):=by
 obtain ⟨cs,Fk,hc,hr,hsub⟩:=H.elem i hf iv h0 h1
 have hfr:fr=true->ve w Fk:=fun e=>((H.get i hf).2 e).sub fun x hx=>hsub x (List.mem_cons_of_mem _ hx)
 rw [hk] at hr
 obtain ⟨a',c',rfl,_⟩:=id hr
 exact ⟨a',c',Fk,(H.jy i hf (atF b (o+iv.toNat * 1) _) hc (fun x hx=>hsub x (by simp only [atF,List.mem_singleton] at hx;subst hx;exact List.mem_cons_self ..))).jy (i+1) hf (isF fr Fk _ _) ⟨hr,hfr⟩ (fun x hx=>hsub x (List.mem_cons_of_mem _ hx))⟩
structure IntoD where
 qR:Int
 QP:yLI
 deriving DecidableEq
instance:Inhabited IntoD:=⟨⟨0,[]⟩⟩
instance:Tot IntoD:=⟨fun x=>tot x.QP⟩
theorem tot_IntoD (x:IntoD):tot x=tot x.QP:=rfl
instance:qK IntoD where
 size:=2
 rep:=fun w F cs x=>∃ (vBag:Value) (FBag:yLN),cs=[.int .i64 x.qR,vBag]/\F=FBag/\qK.rep w FBag [vBag] x.QP
 len:=by rintro w F cs x ⟨vBag,FBag,rfl,_,hBag⟩;rfl
 one:=by
  rintro w F cs x ⟨vBag,FBag,rfl,rfl,hBag⟩ u hu
  simp only [List.mem_cons,List.not_mem_nil,or_false] at hu
  rcases hu with rfl | rfl <;> first | rfl | exact one_of ql
 stay:=by
  rintro w w' F cs x ⟨vBag,FBag,rfl,rfl,hBag⟩ hs
  exact ⟨_,_,rfl,rfl,qK.stay hBag fun b hb=>hs b (by simp [hb])⟩
 lt:=by
  rintro w F cs x ⟨vBag,FBag,rfl,rfl,hBag⟩ b hb
  exact qK.lt hBag b hb
theorem St.yY (H:St W0 w ps Γ) (i:Nat) {l:List IntoD} (hf:Γ[i]? =some (isF fr F (Sv (some ⟨b,o,none⟩) m c) l)) (iv:Int) (k:Nat) (hk:iv.toNat=k) (h0:0<=iv) (h1:iv < l.length):
 ∃ (aBag:yOA) (cBag:Nat) (FBag:yLN),St W0 w ps (isF fr FBag (Sv aBag (l[k]!).QP.length cBag) (l[k]!).QP::atF b (o+iv.toNat * 2) [.int .i64 (l[k]!).qR,Sv aBag (l[k]!).QP.length cBag]::Γ):=by
 obtain ⟨cs,Fk,hc,hr,hsub⟩:=H.elem i hf iv h0 h1
 have hfr:fr=true->ve w Fk:=fun e=>((H.get i hf).2 e).sub fun x hx=>hsub x (List.mem_cons_of_mem _ hx)
 rw [hk] at hr
 obtain ⟨vBag,FBag,rfl,hFF,hBag⟩:=hr
 obtain ⟨aBag,cBag,rfl⟩:=slice_form hBag
 exact ⟨_,_,_,((H.jy i hf (atF b (o+iv.toNat * 2) [.int .i64 (l[k]!).qR,Sv aBag (l[k]!).QP.length cBag]) hc (fun x hx=>hsub x (by simp only [atF,List.mem_singleton] at hx;subst hx;exact List.mem_cons_self ..))).jy (i+1) hf (isF fr FBag _ (l[k]!).QP) ⟨hBag,fun e=>(hfr e).sub (by rw [hFF];intro x hx;simp [hx])⟩ (fun x hx=>hsub x (List.mem_cons_of_mem _ (hFF.symm▸(by have hx:x∈FBag:=hx;simp [hx])))))⟩
structure zZ where
 qR:Int
 jR:Int
 vF:yLI
 vJ:yLI
 vY:yLI
 vw:yLI
 QI:yLI
 xw:List IntoD
 jV:Bool
 deriving DecidableEq
instance:Inhabited zZ:=⟨⟨0,0,[],[],[],[],[],[],false⟩⟩
instance:Tot zZ:=⟨fun x=>tot x.vF+tot x.vJ+tot x.vY+tot x.vw+tot x.QI+tot x.xw⟩
theorem tot_RuleD (x:zZ):tot x=tot x.vF+tot x.vJ+tot x.vY+tot x.vw+tot x.QI+tot x.xw:=rfl
instance:qK zZ where
 size:=9
 rep:=fun w F cs x=>∃ (vNeed vHave vLack vHere vOut vInto:Value) (FNeed FHave FLack FHere FOut FInto:yLN),cs=[.int .i64 x.qR,.int .i64 x.jR,vNeed,vHave,vLack,vHere,vOut,vInto,Bv x.jV]/\F=FNeed++FHave++FLack++FHere++FOut++FInto/\qK.rep w FNeed [vNeed] x.vF/\qK.rep w FHave [vHave] x.vJ/\qK.rep w FLack [vLack] x.vY/\qK.rep w FHere [vHere] x.vw/\qK.rep w FOut [vOut] x.QI/\qK.rep w FInto [vInto] x.xw
 len:=by rintro w F cs x ⟨vNeed,vHave,vLack,vHere,vOut,vInto,FNeed,FHave,FLack,FHere,FOut,FInto,rfl,_,hNeed,hHave,hLack,hHere,hOut,hInto⟩;rfl
 one:=by
  rintro w F cs x ⟨vNeed,vHave,vLack,vHere,vOut,vInto,FNeed,FHave,FLack,FHere,FOut,FInto,rfl,rfl,hNeed,hHave,hLack,hHere,hOut,hInto⟩ u hu
  simp only [List.mem_cons,List.not_mem_nil,or_false] at hu
  rcases hu with rfl | rfl | rfl | rfl | rfl | rfl | rfl | rfl | rfl <;> first | rfl | exact one_of ql
 stay:=by
  rintro w w' F cs x ⟨vNeed,vHave,vLack,vHere,vOut,vInto,FNeed,FHave,FLack,FHere,FOut,FInto,rfl,rfl,hNeed,hHave,hLack,hHere,hOut,hInto⟩ hs
  exact ⟨_,_,_,_,_,_,_,_,_,_,_,_,rfl,rfl,qK.stay hNeed fun b hb=>hs b (by simp [hb]),qK.stay hHave fun b hb=>hs b (by simp [hb]),qK.stay hLack fun b hb=>hs b (by simp [hb]),qK.stay hHere fun b hb=>hs b (by simp [hb]),qK.stay hOut fun b hb=>hs b (by simp [hb]),qK.stay hInto fun b hb=>hs b (by simp [hb])⟩
 lt:=by
  rintro w F cs x ⟨vNeed,vHave,vLack,vHere,vOut,vInto,FNeed,FHave,FLack,FHere,FOut,FInto,rfl,rfl,hNeed,hHave,hLack,hHere,hOut,hInto⟩ b hb
  simp only [List.mem_append] at hb
  rcases hb with (((((hb | hb) | hb) | hb) | hb) | hb)
  ·exact qK.lt hNeed b hb
  ·exact qK.lt hHave b hb
  ·exact qK.lt hLack b hb
  ·exact qK.lt hHere b hb
  ·exact qK.lt hOut b hb
  ·exact qK.lt hInto b hb
theorem St.Qc (H:St W0 w ps Γ) (i:Nat) {l:List zZ} (hf:Γ[i]? =some (isF fr F (Sv (some ⟨b,o,none⟩) m c) l)) (iv:Int) (k:Nat) (hk:iv.toNat=k) (h0:0<=iv) (h1:iv < l.length):
 ∃ (aNeed:yOA) (cNeed:Nat) (FNeed:yLN) (aHave:yOA) (cHave:Nat) (FHave:yLN) (aLack:yOA) (cLack:Nat) (FLack:yLN) (aHere:yOA) (cHere:Nat) (FHere:yLN) (aOut:yOA) (cOut:Nat) (FOut:yLN) (aInto:yOA) (cInto:Nat) (FInto:yLN),St W0 w ps (isF fr FNeed (Sv aNeed (l[k]!).vF.length cNeed) (l[k]!).vF::isF fr FHave (Sv aHave (l[k]!).vJ.length cHave) (l[k]!).vJ::isF fr FLack (Sv aLack (l[k]!).vY.length cLack) (l[k]!).vY::isF fr FHere (Sv aHere (l[k]!).vw.length cHere) (l[k]!).vw::isF fr FOut (Sv aOut (l[k]!).QI.length cOut) (l[k]!).QI::isF fr FInto (Sv aInto (l[k]!).xw.length cInto) (l[k]!).xw::atF b (o+iv.toNat * 9) [.int .i64 (l[k]!).qR,.int .i64 (l[k]!).jR,Sv aNeed (l[k]!).vF.length cNeed,Sv aHave (l[k]!).vJ.length cHave,Sv aLack (l[k]!).vY.length cLack,Sv aHere (l[k]!).vw.length cHere,Sv aOut (l[k]!).QI.length cOut,Sv aInto (l[k]!).xw.length cInto,Bv (l[k]!).jV]::Γ):=by
 obtain ⟨cs,Fk,hc,hr,hsub⟩:=H.elem i hf iv h0 h1
 have hfr:fr=true->ve w Fk:=fun e=>((H.get i hf).2 e).sub fun x hx=>hsub x (List.mem_cons_of_mem _ hx)
 rw [hk] at hr
 obtain ⟨vNeed,vHave,vLack,vHere,vOut,vInto,FNeed,FHave,FLack,FHere,FOut,FInto,rfl,hFF,hNeed,hHave,hLack,hHere,hOut,hInto⟩:=hr
 obtain ⟨aNeed,cNeed,rfl⟩:=slice_form hNeed
 obtain ⟨aHave,cHave,rfl⟩:=slice_form hHave
 obtain ⟨aLack,cLack,rfl⟩:=slice_form hLack
 obtain ⟨aHere,cHere,rfl⟩:=slice_form hHere
 obtain ⟨aOut,cOut,rfl⟩:=slice_form hOut
 obtain ⟨aInto,cInto,rfl⟩:=slice_form hInto
 exact ⟨_,_,_,_,_,_,_,_,_,_,_,_,_,_,_,_,_,_,(((((((H.jy i hf (atF b (o+iv.toNat * 9) [.int .i64 (l[k]!).qR,.int .i64 (l[k]!).jR,Sv aNeed (l[k]!).vF.length cNeed,Sv aHave (l[k]!).vJ.length cHave,Sv aLack (l[k]!).vY.length cLack,Sv aHere (l[k]!).vw.length cHere,Sv aOut (l[k]!).QI.length cOut,Sv aInto (l[k]!).xw.length cInto,Bv (l[k]!).jV]) hc (fun x hx=>hsub x (by simp only [atF,List.mem_singleton] at hx;subst hx;exact List.mem_cons_self ..))).jy (i+1) hf (isF fr FInto _ (l[k]!).xw) ⟨hInto,fun e=>(hfr e).sub (by rw [hFF];intro x hx;simp [hx])⟩ (fun x hx=>hsub x (List.mem_cons_of_mem _ (hFF.symm▸(by have hx:x∈FInto:=hx;simp [hx]))))).jy (i+2) hf (isF fr FOut _ (l[k]!).QI) ⟨hOut,fun e=>(hfr e).sub (by rw [hFF];intro x hx;simp [hx])⟩ (fun x hx=>hsub x (List.mem_cons_of_mem _ (hFF.symm▸(by have hx:x∈FOut:=hx;simp [hx]))))).jy (i+3) hf (isF fr FHere _ (l[k]!).vw) ⟨hHere,fun e=>(hfr e).sub (by rw [hFF];intro x hx;simp [hx])⟩ (fun x hx=>hsub x (List.mem_cons_of_mem _ (hFF.symm▸(by have hx:x∈FHere:=hx;simp [hx]))))).jy (i+4) hf (isF fr FLack _ (l[k]!).vY) ⟨hLack,fun e=>(hfr e).sub (by rw [hFF];intro x hx;simp [hx])⟩ (fun x hx=>hsub x (List.mem_cons_of_mem _ (hFF.symm▸(by have hx:x∈FLack:=hx;simp [hx]))))).jy (i+5) hf (isF fr FHave _ (l[k]!).vJ) ⟨hHave,fun e=>(hfr e).sub (by rw [hFF];intro x hx;simp [hx])⟩ (fun x hx=>hsub x (List.mem_cons_of_mem _ (hFF.symm▸(by have hx:x∈FHave:=hx;simp [hx]))))).jy (i+6) hf (isF fr FNeed _ (l[k]!).vF) ⟨hNeed,fun e=>(hfr e).sub (by rw [hFF];intro x hx;simp [hx])⟩ (fun x hx=>hsub x (List.mem_cons_of_mem _ (hFF.symm▸(by have hx:x∈FNeed:=hx;simp [hx])))))⟩
theorem St.snoc_RuleD (H:St W0 w ps Γ) (i:Nat) {l:List zZ} (hf:Γ[i]? =some (xN fr F xs l)) (xCell:Int) (xRank:Int) (iNeed:Nat) {GNeed:yLN} {vNeed:Value} {xNeed:yLI} (hNeed:Γ[iNeed]? =some (isF fr GNeed vNeed xNeed)) (iHave:Nat) {GHave:yLN} {vHave:Value} {xHave:yLI} (hHave:Γ[iHave]? =some (isF fr GHave vHave xHave)) (iLack:Nat) {GLack:yLN} {vLack:Value} {xLack:yLI} (hLack:Γ[iLack]? =some (isF fr GLack vLack xLack)) (iHere:Nat) {GHere:yLN} {vHere:Value} {xHere:yLI} (hHere:Γ[iHere]? =some (isF fr GHere vHere xHere)) (iOut:Nat) {GOut:yLN} {vOut:Value} {xOut:yLI} (hOut:Γ[iOut]? =some (isF fr GOut vOut xOut)) (iInto:Nat) {GInto:yLN} {vInto:Value} {xInto:List IntoD} (hInto:Γ[iInto]? =some (isF fr GInto vInto xInto)) (xMelts:Bool):
 St W0 w ps (xN fr (F++(GNeed++GHave++GLack++GHere++GOut++GInto)) (xs++[.int .i64 xCell,.int .i64 xRank,vNeed,vHave,vLack,vHere,vOut,vInto,Bv xMelts]) (l++[⟨xCell,xRank,xNeed,xHave,xLack,xHere,xOut,xInto,xMelts⟩])::Γ):=by
 have hr:qK.rep w (GNeed++GHave++GLack++GHere++GOut++GInto) [.int .i64 xCell,.int .i64 xRank,vNeed,vHave,vLack,vHere,vOut,vInto,Bv xMelts] (⟨xCell,xRank,xNeed,xHave,xLack,xHere,xOut,xInto,xMelts⟩:zZ):=⟨vNeed,vHave,vLack,vHere,vOut,vInto,GNeed,GHave,GLack,GHere,GOut,GInto,rfl,rfl,(H.get iNeed hNeed).1,(H.get iHave hHave).1,(H.get iLack hLack).1,(H.get iHere hHere).1,(H.get iOut hOut).1,(H.get iInto hInto).1⟩
 refine H.add _ ⟨jJ (H.get i hf).1 (reps_one hr),fun e=>((H.get i hf).2 e).app ((((((((H.get iNeed hNeed).2 e).app ((H.get iHave hHave).2 e)).app ((H.get iLack hLack).2 e)).app ((H.get iHere hHere).2 e)).app ((H.get iOut hOut).2 e)).app ((H.get iInto hInto).2 e)))⟩ fun b hb=>?_
 rcases List.mem_append.1 hb with h | h
 ·exact (H.facts _ (List.mem_of_getElem? hf)).2 b h
 ·simp only [List.mem_append] at h
  rcases h with (((((h | h) | h) | h) | h) | h)
  ·exact (H.facts _ (List.mem_of_getElem? hNeed)).2 b h
  ·exact (H.facts _ (List.mem_of_getElem? hHave)).2 b h
  ·exact (H.facts _ (List.mem_of_getElem? hLack)).2 b h
  ·exact (H.facts _ (List.mem_of_getElem? hHere)).2 b h
  ·exact (H.facts _ (List.mem_of_getElem? hOut)).2 b h
  ·exact (H.facts _ (List.mem_of_getElem? hInto)).2 b h
structure qG where
 xO:Int
 qC:yLI
 qE:List zZ
 deriving DecidableEq
instance:Inhabited qG:=⟨⟨0,[],[]⟩⟩
instance:Tot qG:=⟨fun x=>tot x.qC+tot x.qE⟩
instance:qK qG where
 size:=3
 rep:=fun w F cs x=>∃ (vParents vRules:Value) (FParents FRules:yLN),cs=[.int .i64 x.xO,vParents,vRules]/\F=FParents++FRules/\qK.rep w FParents [vParents] x.qC/\qK.rep w FRules [vRules] x.qE
 len:=by rintro w F cs x ⟨vParents,vRules,FParents,FRules,rfl,_,hParents,hRules⟩;rfl
 one:=by
  rintro w F cs x ⟨vParents,vRules,FParents,FRules,rfl,rfl,hParents,hRules⟩ u hu
  simp only [List.mem_cons,List.not_mem_nil,or_false] at hu
  rcases hu with rfl | rfl | rfl <;> first | rfl | exact one_of ql
 stay:=by
  rintro w w' F cs x ⟨vParents,vRules,FParents,FRules,rfl,rfl,hParents,hRules⟩ hs
  exact ⟨_,_,_,_,rfl,rfl,qK.stay hParents fun b hb=>hs b (by simp [hb]),qK.stay hRules fun b hb=>hs b (by simp [hb])⟩
 lt:=by
  rintro w F cs x ⟨vParents,vRules,FParents,FRules,rfl,rfl,hParents,hRules⟩ b hb
  simp only [List.mem_append] at hb
  rcases hb with (hb | hb)
  ·exact qK.lt hParents b hb
  ·exact qK.lt hRules b hb
structure qH where
 qI:List Bool
 qP:yLL
 qN:yLI
 deriving DecidableEq
instance:Inhabited qH:=⟨⟨[],[],[]⟩⟩
instance:Tot qH:=⟨fun x=>tot x.qI+tot x.qP+tot x.qN⟩
instance:qK qH where
 size:=3
 rep:=fun w F cs x=>∃ (vAlive vBags vAround:Value) (FAlive FBags FAround:yLN),cs=[vAlive,vBags,vAround]/\F=FAlive++FBags++FAround/\qK.rep w FAlive [vAlive] x.qI/\qK.rep w FBags [vBags] x.qP/\qK.rep w FAround [vAround] x.qN
 len:=by rintro w F cs x ⟨vAlive,vBags,vAround,FAlive,FBags,FAround,rfl,_,hAlive,hBags,hAround⟩;rfl
 one:=by
  rintro w F cs x ⟨vAlive,vBags,vAround,FAlive,FBags,FAround,rfl,rfl,hAlive,hBags,hAround⟩ u hu
  simp only [List.mem_cons,List.not_mem_nil,or_false] at hu
  rcases hu with rfl | rfl | rfl <;> first | rfl | exact one_of ql
 stay:=by
  rintro w w' F cs x ⟨vAlive,vBags,vAround,FAlive,FBags,FAround,rfl,rfl,hAlive,hBags,hAround⟩ hs
  exact ⟨_,_,_,_,_,_,rfl,rfl,qK.stay hAlive fun b hb=>hs b (by simp [hb]),qK.stay hBags fun b hb=>hs b (by simp [hb]),qK.stay hAround fun b hb=>hs b (by simp [hb])⟩
 lt:=by
  rintro w F cs x ⟨vAlive,vBags,vAround,FAlive,FBags,FAround,rfl,rfl,hAlive,hBags,hAround⟩ b hb
  simp only [List.mem_append] at hb
  rcases hb with ((hb | hb) | hb)
  ·exact qK.lt hAlive b hb
  ·exact qK.lt hBags b hb
  ·exact qK.lt hAround b hb
theorem St.elem_StateD (H:St W0 w ps Γ) (i:Nat) {l:List qH} (hf:Γ[i]? =some (isF fr F (Sv (some ⟨b,o,none⟩) m c) l)) (iv:Int) (k:Nat) (hk:iv.toNat=k) (h0:0<=iv) (h1:iv < l.length):
 ∃ (aAlive:yOA) (cAlive:Nat) (FAlive:yLN) (aBags:yOA) (cBags:Nat) (FBags:yLN) (aAround:yOA) (cAround:Nat) (FAround:yLN),St W0 w ps (isF fr FAlive (Sv aAlive (l[k]!).qI.length cAlive) (l[k]!).qI::isF fr FBags (Sv aBags (l[k]!).qP.length cBags) (l[k]!).qP::isF fr FAround (Sv aAround (l[k]!).qN.length cAround) (l[k]!).qN::atF b (o+iv.toNat * 3) [Sv aAlive (l[k]!).qI.length cAlive,Sv aBags (l[k]!).qP.length cBags,Sv aAround (l[k]!).qN.length cAround]::Γ):=by
 obtain ⟨cs,Fk,hc,hr,hsub⟩:=H.elem i hf iv h0 h1
 have hfr:fr=true->ve w Fk:=fun e=>((H.get i hf).2 e).sub fun x hx=>hsub x (List.mem_cons_of_mem _ hx)
 rw [hk] at hr
 obtain ⟨vAlive,vBags,vAround,FAlive,FBags,FAround,rfl,hFF,hAlive,hBags,hAround⟩:=hr
 obtain ⟨aAlive,cAlive,rfl⟩:=slice_form hAlive
 obtain ⟨aBags,cBags,rfl⟩:=slice_form hBags
 obtain ⟨aAround,cAround,rfl⟩:=slice_form hAround
 exact ⟨_,_,_,_,_,_,_,_,_,((((H.jy i hf (atF b (o+iv.toNat * 3) [Sv aAlive (l[k]!).qI.length cAlive,Sv aBags (l[k]!).qP.length cBags,Sv aAround (l[k]!).qN.length cAround]) hc (fun x hx=>hsub x (by simp only [atF,List.mem_singleton] at hx;subst hx;exact List.mem_cons_self ..))).jy (i+1) hf (isF fr FAround _ (l[k]!).qN) ⟨hAround,fun e=>(hfr e).sub (by rw [hFF];intro x hx;simp [hx])⟩ (fun x hx=>hsub x (List.mem_cons_of_mem _ (hFF.symm▸(by have hx:x∈FAround:=hx;simp [hx]))))).jy (i+2) hf (isF fr FBags _ (l[k]!).qP) ⟨hBags,fun e=>(hfr e).sub (by rw [hFF];intro x hx;simp [hx])⟩ (fun x hx=>hsub x (List.mem_cons_of_mem _ (hFF.symm▸(by have hx:x∈FBags:=hx;simp [hx]))))).jy (i+3) hf (isF fr FAlive _ (l[k]!).qI) ⟨hAlive,fun e=>(hfr e).sub (by rw [hFF];intro x hx;simp [hx])⟩ (fun x hx=>hsub x (List.mem_cons_of_mem _ (hFF.symm▸(by have hx:x∈FAlive:=hx;simp [hx])))))⟩
theorem St.Xa (H:St W0 w ps Γ) (i:Nat) {l:List qH} (hf:Γ[i]? =some (xN fr F xs l)) (iAlive:Nat) {GAlive:yLN} {vAlive:Value} {xAlive:List Bool} (hAlive:Γ[iAlive]? =some (isF fr GAlive vAlive xAlive)) (iBags:Nat) {GBags:yLN} {vBags:Value} {xBags:yLL} (hBags:Γ[iBags]? =some (isF fr GBags vBags xBags)) (iAround:Nat) {GAround:yLN} {vAround:Value} {xAround:yLI} (hAround:Γ[iAround]? =some (isF fr GAround vAround xAround)):
 St W0 w ps (xN fr (F++(GAlive++GBags++GAround)) (xs++[vAlive,vBags,vAround]) (l++[⟨xAlive,xBags,xAround⟩])::Γ):=by
 have hr:qK.rep w (GAlive++GBags++GAround) [vAlive,vBags,vAround] (⟨xAlive,xBags,xAround⟩:qH):=⟨vAlive,vBags,vAround,GAlive,GBags,GAround,rfl,rfl,(H.get iAlive hAlive).1,(H.get iBags hBags).1,(H.get iAround hAround).1⟩
 refine H.add _ ⟨jJ (H.get i hf).1 (reps_one hr),fun e=>((H.get i hf).2 e).app (((((H.get iAlive hAlive).2 e).app ((H.get iBags hBags).2 e)).app ((H.get iAround hAround).2 e)))⟩ fun b hb=>?_
 rcases List.mem_append.1 hb with h | h
 ·exact (H.facts _ (List.mem_of_getElem? hf)).2 b h
 ·simp only [List.mem_append] at h
  rcases h with ((h | h) | h)
  ·exact (H.facts _ (List.mem_of_getElem? hAlive)).2 b h
  ·exact (H.facts _ (List.mem_of_getElem? hBags)).2 b h
  ·exact (H.facts _ (List.mem_of_getElem? hAround)).2 b h
structure inCellD where
 frules:yLI
 fpackings:yLL
 deriving DecidableEq
instance:Inhabited inCellD:=⟨⟨[],[]⟩⟩
instance:Tot inCellD:=⟨fun x=>tot x.frules+tot x.fpackings⟩
instance:qK inCellD where
 size:=2
 rep:=fun w F cs x=>∃ (vrules vpackings:Value) (Frules Fpackings:yLN),cs=[vrules,vpackings]/\F=Frules++Fpackings/\qK.rep w Frules [vrules] x.frules/\qK.rep w Fpackings [vpackings] x.fpackings
 len:=by rintro w F cs x ⟨vrules,vpackings,Frules,Fpackings,rfl,_,hrules,hpackings⟩;rfl
 one:=by
  rintro w F cs x ⟨vrules,vpackings,Frules,Fpackings,rfl,rfl,hrules,hpackings⟩ u hu
  simp only [List.mem_cons,List.not_mem_nil,or_false] at hu
  rcases hu with rfl | rfl <;> first | rfl | exact one_of ql
 stay:=by
  rintro w w' F cs x ⟨vrules,vpackings,Frules,Fpackings,rfl,rfl,hrules,hpackings⟩ hs
  exact ⟨_,_,_,_,rfl,rfl,qK.stay hrules fun b hb=>hs b (by simp [hb]),qK.stay hpackings fun b hb=>hs b (by simp [hb])⟩
 lt:=by
  rintro w F cs x ⟨vrules,vpackings,Frules,Fpackings,rfl,rfl,hrules,hpackings⟩ b hb
  simp only [List.mem_append] at hb
  rcases hb with (hb | hb)
  ·exact qK.lt hrules b hb
  ·exact qK.lt hpackings b hb
theorem St.elem_inCellD (H:St W0 w ps Γ) (i:Nat) {l:List inCellD} (hf:Γ[i]? =some (isF fr F (Sv (some ⟨b,o,none⟩) m c) l)) (iv:Int) (k:Nat) (hk:iv.toNat=k) (h0:0<=iv) (h1:iv < l.length):
 ∃ (arules:yOA) (crules:Nat) (Frules:yLN) (apackings:yOA) (cpackings:Nat) (Fpackings:yLN),St W0 w ps (isF fr Frules (Sv arules (l[k]!).frules.length crules) (l[k]!).frules::isF fr Fpackings (Sv apackings (l[k]!).fpackings.length cpackings) (l[k]!).fpackings::atF b (o+iv.toNat * 2) [Sv arules (l[k]!).frules.length crules,Sv apackings (l[k]!).fpackings.length cpackings]::Γ):=by
 obtain ⟨cs,Fk,hc,hr,hsub⟩:=H.elem i hf iv h0 h1
 have hfr:fr=true->ve w Fk:=fun e=>((H.get i hf).2 e).sub fun x hx=>hsub x (List.mem_cons_of_mem _ hx)
 rw [hk] at hr
 obtain ⟨vrules,vpackings,Frules,Fpackings,rfl,hFF,hrules,hpackings⟩:=hr
 obtain ⟨arules,crules,rfl⟩:=slice_form hrules
 obtain ⟨apackings,cpackings,rfl⟩:=slice_form hpackings
 exact ⟨_,_,_,_,_,_,(((H.jy i hf (atF b (o+iv.toNat * 2) [Sv arules (l[k]!).frules.length crules,Sv apackings (l[k]!).fpackings.length cpackings]) hc (fun x hx=>hsub x (by simp only [atF,List.mem_singleton] at hx;subst hx;exact List.mem_cons_self ..))).jy (i+1) hf (isF fr Fpackings _ (l[k]!).fpackings) ⟨hpackings,fun e=>(hfr e).sub (by rw [hFF];intro x hx;simp [hx])⟩ (fun x hx=>hsub x (List.mem_cons_of_mem _ (hFF.symm▸(by have hx:x∈Fpackings:=hx;simp [hx]))))).jy (i+2) hf (isF fr Frules _ (l[k]!).frules) ⟨hrules,fun e=>(hfr e).sub (by rw [hFF];intro x hx;simp [hx])⟩ (fun x hx=>hsub x (List.mem_cons_of_mem _ (hFF.symm▸(by have hx:x∈Frules:=hx;simp [hx])))))⟩
theorem St.snoc_inCellD (H:St W0 w ps Γ) (i:Nat) {l:List inCellD} (hf:Γ[i]? =some (xN fr F xs l)) (irules:Nat) {Grules:yLN} {vrules:Value} {xrules:yLI} (hrules:Γ[irules]? =some (isF fr Grules vrules xrules)) (ipackings:Nat) {Gpackings:yLN} {vpackings:Value} {xpackings:yLL} (hpackings:Γ[ipackings]? =some (isF fr Gpackings vpackings xpackings)):
 St W0 w ps (xN fr (F++(Grules++Gpackings)) (xs++[vrules,vpackings]) (l++[⟨xrules,xpackings⟩])::Γ):=by
 have hr:qK.rep w (Grules++Gpackings) [vrules,vpackings] (⟨xrules,xpackings⟩:inCellD):=⟨vrules,vpackings,Grules,Gpackings,rfl,rfl,(H.get irules hrules).1,(H.get ipackings hpackings).1⟩
 refine H.add _ ⟨jJ (H.get i hf).1 (reps_one hr),fun e=>((H.get i hf).2 e).app ((((H.get irules hrules).2 e).app ((H.get ipackings hpackings).2 e)))⟩ fun b hb=>?_
 rcases List.mem_append.1 hb with h | h
 ·exact (H.facts _ (List.mem_of_getElem? hf)).2 b h
 ·simp only [List.mem_append] at h
  rcases h with (h | h)
  ·exact (H.facts _ (List.mem_of_getElem? hrules)).2 b h
  ·exact (H.facts _ (List.mem_of_getElem? hpackings)).2 b h
structure Q8 where
 fOp:Int
 zn:Int
 fTo:Int
 zf:Int
 deriving DecidableEq
instance:Inhabited Q8:=⟨⟨0,0,0,0⟩⟩
instance:Tot Q8:=⟨fun x=>0⟩
theorem tot_OrderD (x:Q8):tot x=0:=rfl
instance:qK Q8 where
 size:=4
 rep:=fun w F cs x=>cs=[.int .i64 x.fOp,.int .i64 x.zn,.int .i64 x.fTo,.int .i64 x.zf]/\F=[]
 len:=by rintro w F cs x ⟨rfl,rfl⟩;rfl
 one:=by
  rintro w F cs x ⟨rfl,rfl⟩ u hu
  simp only [List.mem_cons,List.not_mem_nil,or_false] at hu
  rcases hu with rfl | rfl | rfl | rfl <;> first | rfl | exact one_of ql
 stay:=by
  rintro w w' F cs x ⟨rfl,rfl⟩ hs
  exact ⟨rfl,rfl⟩
 lt:=by
  rintro w F cs x ⟨rfl,rfl⟩ b hb
  simp at hb
theorem St.Xb (H:St W0 w ps Γ) (i:Nat) {l:List Q8} (hf:Γ[i]? =some (isF fr F (Sv (some ⟨b,o,none⟩) m c) l)) (iv:Int) (k:Nat) (hk:iv.toNat=k) (h0:0<=iv) (h1:iv < l.length):
 ∃ (_:Unit),St W0 w ps (atF b (o+iv.toNat * 4) [.int .i64 (l[k]!).fOp,.int .i64 (l[k]!).zn,.int .i64 (l[k]!).fTo,.int .i64 (l[k]!).zf]::Γ):=by
 obtain ⟨cs,Fk,hc,hr,hsub⟩:=H.elem i hf iv h0 h1
 have hfr:fr=true->ve w Fk:=fun e=>((H.get i hf).2 e).sub fun x hx=>hsub x (List.mem_cons_of_mem _ hx)
 rw [hk] at hr
 obtain ⟨rfl,hFF⟩:=hr
 exact ⟨(),(H.jy i hf (atF b (o+iv.toNat * 4) [.int .i64 (l[k]!).fOp,.int .i64 (l[k]!).zn,.int .i64 (l[k]!).fTo,.int .i64 (l[k]!).zf]) hc (fun x hx=>hsub x (by simp only [atF,List.mem_singleton] at hx;subst hx;exact List.mem_cons_self ..)))⟩
def New_OrderD (w0 w:World) (v:Value) (x:Q8):Prop:=v=.agg #[.int .i64 x.fOp,.int .i64 x.zn,.int .i64 x.fTo,.int .i64 x.zf]
theorem St.add_OrderD (H:St W0 w ps Γ) (e:Ext w w') {x:Q8} (h:New_OrderD w w' v x):
 ∃ (_:Unit),v=.agg #[.int .i64 x.fOp,.int .i64 x.zn,.int .i64 x.fTo,.int .i64 x.zf]/\((∀ b∈([]:yLN),w.heap.size<=b)/\([]:yLN).Nodup)/\St W0 w' ps Γ:=⟨(),h,⟨by simp,by simp⟩,H.ext e⟩
theorem St.snoc_OrderD (H:St W0 w ps Γ) (i:Nat) {l:List Q8} (hf:Γ[i]? =some (xN fr F xs l)) (xOp:Int) (xReg:Int) (xTo:Int) (xElse:Int):
 St W0 w ps (xN fr (F++[]) (xs++[.int .i64 xOp,.int .i64 xReg,.int .i64 xTo,.int .i64 xElse]) (l++[⟨xOp,xReg,xTo,xElse⟩])::Γ):=by
 have hr:qK.rep w [] [.int .i64 xOp,.int .i64 xReg,.int .i64 xTo,.int .i64 xElse] (⟨xOp,xReg,xTo,xElse⟩:Q8):=⟨rfl,rfl⟩
 refine H.add _ ⟨jJ (H.get i hf).1 (reps_one hr),fun e=>((H.get i hf).2 e).app (ve.nil _)⟩ fun b hb=>?_
 rcases List.mem_append.1 hb with h | h
 ·exact (H.facts _ (List.mem_of_getElem? hf)).2 b h
 ·simp at h
structure zF where
 qA:Int
 qB:List Q8
 deriving DecidableEq
instance:Inhabited zF:=⟨⟨0,[]⟩⟩
instance:Tot zF:=⟨fun x=>tot x.qB⟩
theorem tot_ProgramD (x:zF):tot x=tot x.qB:=rfl
instance:qK zF where
 size:=2
 rep:=fun w F cs x=>∃ (vOrders:Value) (FOrders:yLN),cs=[.int .i64 x.qA,vOrders]/\F=FOrders/\qK.rep w FOrders [vOrders] x.qB
 len:=by rintro w F cs x ⟨vOrders,FOrders,rfl,_,hOrders⟩;rfl
 one:=by
  rintro w F cs x ⟨vOrders,FOrders,rfl,rfl,hOrders⟩ u hu
  simp only [List.mem_cons,List.not_mem_nil,or_false] at hu
  rcases hu with rfl | rfl <;> first | rfl | exact one_of ql
 stay:=by
  rintro w w' F cs x ⟨vOrders,FOrders,rfl,rfl,hOrders⟩ hs
  exact ⟨_,_,rfl,rfl,qK.stay hOrders fun b hb=>hs b (by simp [hb])⟩
 lt:=by
  rintro w F cs x ⟨vOrders,FOrders,rfl,rfl,hOrders⟩ b hb
  exact qK.lt hOrders b hb
def New_ProgramD (w0 w:World) (v:Value) (x:zF):Prop:=
 ∃ (aOrders:yOA) (cOrders:Nat) (FOrders:yLN),v=.agg #[.int .i64 x.qA,Sv aOrders x.qB.length cOrders]/\qK.rep w FOrders [Sv aOrders x.qB.length cOrders] x.qB/\(∀ b∈(FOrders),w0.heap.size<=b)/\(FOrders).Nodup/\ve w (FOrders)
theorem St.add_ProgramD (H:St W0 w ps Γ) (e:Ext w w') {x:zF} (h:New_ProgramD w w' v x):
 ∃ (aOrders:yOA) (cOrders:Nat) (FOrders:yLN),v=.agg #[.int .i64 x.qA,Sv aOrders x.qB.length cOrders]/\((∀ b∈(FOrders),w.heap.size<=b)/\(FOrders).Nodup)/\St W0 w' ps (isF true FOrders (Sv aOrders x.qB.length cOrders) x.qB::Γ):=by
 obtain ⟨aOrders,cOrders,FOrders,rfl,hOrders,hF,hd,hfr⟩:=h
 refine ⟨_,_,_,rfl,⟨hF,hd⟩,?_⟩
 exact ((H.ext e).add (isF true FOrders _ x.qB) ⟨hOrders,fun _=>hfr.sub (by intro b hb;simp [hb])⟩ (fun b hb=>⟨qK.lt hOrders b hb,fun i hi=>by have h1:=(Q5 H hi).2;have h2:=hF b (by have hb:b∈FOrders:=hb;simp [hb]);omega⟩))
structure vS where
 fAt:Int
 XW:yLI
 deriving DecidableEq
instance:Inhabited vS:=⟨⟨0,[]⟩⟩
instance:Tot vS:=⟨fun x=>tot x.XW⟩
instance:qK vS where
 size:=2
 rep:=fun w F cs x=>∃ (vRegs:Value) (FRegs:yLN),cs=[.int .i64 x.fAt,vRegs]/\F=FRegs/\qK.rep w FRegs [vRegs] x.XW
 len:=by rintro w F cs x ⟨vRegs,FRegs,rfl,_,hRegs⟩;rfl
 one:=by
  rintro w F cs x ⟨vRegs,FRegs,rfl,rfl,hRegs⟩ u hu
  simp only [List.mem_cons,List.not_mem_nil,or_false] at hu
  rcases hu with rfl | rfl <;> first | rfl | exact one_of ql
 stay:=by
  rintro w w' F cs x ⟨vRegs,FRegs,rfl,rfl,hRegs⟩ hs
  exact ⟨_,_,rfl,rfl,qK.stay hRegs fun b hb=>hs b (by simp [hb])⟩
 lt:=by
  rintro w F cs x ⟨vRegs,FRegs,rfl,rfl,hRegs⟩ b hb
  exact qK.lt hRegs b hb
abbrev yS (s:qG) (a:Option Addr) (c:Nat) (a' :Option Addr) (c' :Nat):List Value:=[.int .i64 s.xO,Sv a s.qC.length c,Sv a' s.qE.length c']
abbrev yT (t:qH) (a:Option Addr) (c:Nat) (a' :Option Addr) (c' :Nat) (b:Option Addr) (d:Nat):List Value:=[Sv a t.qI.length c,Sv a' t.qP.length c',Sv b t.qN.length d]
end
end Go.Proofs.YtjfmcaiombkobaaGreat
