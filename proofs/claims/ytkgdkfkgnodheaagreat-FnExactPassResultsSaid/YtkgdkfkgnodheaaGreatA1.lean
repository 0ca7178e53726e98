/- Walks and laws, printed by program and by hand: what each function comes to, for all arguments, part 1. -/
import Derived.WalkKit
import Derived.Deep.RegionHeld
import Derived.Deep.LoopGhost
import Derived.Deep.MidRow
import Derived.Great.BuildSlice
import Derived.Laws.MakeOwn
import Derived.Great.FillDense
import Derived.Maps.AppendAt
import Derived.Lib.SliceRun
import Derived.Test.YtkgdkfkgnodheaaGreatRows
import Derived.Laws.Small
import Derived.Laws.Tables
namespace Go.Proofs.YtkgdkfkgnodheaaGreat
set_option linter.unusedVariables false
set_option linter.unusedSimpArgs false
section

abbrev yLL:=List (List Int)
abbrev yLI:=List Int
abbrev yLN:=List Nat
abbrev yOA:=Option Addr
abbrev yI (x:Int):Value:=.int .i64 x
abbrev yN:Value:=.slice none 0 0
theorem qg {P:Prop} (h:P:=by omega):P:=h
theorem qh {P:Prop} (h:P:=by first | assumption | omega):P:=h
theorem qi {P:Prop} (h:P:=by kernel_rfl):P:=h
theorem qj {P:Prop} (h:P:=by decide):P:=h
theorem qm {P:Prop} (h:P:=by assumption):P:=h
theorem qo {P:Prop} (h:P:=by simp):P:=h
theorem qp {P:Prop} (h:P:=by simp only [List.length_cons];omega):P:=h
theorem qw {P:Prop} (h:P:=by unfold maxLen;omega):P:=h
theorem qx {P:Prop} (h:P:=by simp [Value.oneCell',Value.cells]):P:=h
theorem qy {P:Prop} (h:P:=by exact fun j hj=>by omega):P:=h
theorem qA {P:Prop} (h:P:=by simp;omega):P:=h
open Go.RowKit

def zM (w:World) (b off:Nat) (vs:List Value):Prop:=∀ i v,vs[i]? =some v→w.cell? ⟨b,off+i,none⟩=some v

class qV (α:Type) where
  size:Nat
  rep:World→yLN→List Value→α→Prop
  len:∀ {w F cs x},rep w F cs x→cs.length=size
  stay:∀ {w w' F cs x},rep w F cs x→(∀ b∈F,w'.heap[b]? =w.heap[b]?)→rep w' F cs x
  lt:∀ {w F cs x},rep w F cs x→∀ b∈F,b < w.heap.size
  one:∀ {w F cs x},rep w F cs x→∀ u∈cs,u.oneCell' =true

section
variable {α : Type} [qV α]
open qV

def reps (w:World):yLN→List Value→List α→Prop
  | F,vs,[]=>F=[]∧vs=[]
  | F,vs,x :: l=>∃ F1 F2 c1 c2,F=F1++F2∧vs=c1++c2∧rep w F1 c1 x∧reps w F2 c2 l

theorem reps_len {w:World}:∀ {F:yLN} {vs:List Value} {l:List α},reps w F vs l→vs.length=l.length * size α
  | _,_,[],⟨_,h⟩=>by simp [h]
  | _,_,x :: l,⟨_,_,_,_,_,hv,h1,h2⟩=>by
    rw [hv,List.length_append,qV.len h1,reps_len h2,List.length_cons,Nat.add_mul,Nat.one_mul,Nat.add_comm]

theorem reps_stay {w w' :World}:∀ {F:yLN} {vs:List Value} {l:List α},reps w F vs l→(∀ b∈F,w'.heap[b]? =w.heap[b]?)→reps w' F vs l
  | _,_,[],h,_=>h
  | _,_,x :: l,⟨F1,F2,c1,c2,hF,hv,h1,h2⟩,hs=>by
    subst hF
    exact ⟨F1,F2,c1,c2,rfl,hv,qV.stay h1 (fun b hb=>hs b (List.mem_append_left _ hb)),reps_stay h2 (fun b hb=>hs b (List.mem_append_right _ hb))⟩

theorem reps_lt {w:World}:∀ {F:yLN} {vs:List Value} {l:List α},reps w F vs l→∀ b∈F,b < w.heap.size
  | _,_,[],⟨hF,_⟩,b,hb=>by simp [hF] at hb
  | _,_,x :: l,⟨F1,F2,c1,c2,hF,hv,h1,h2⟩,b,hb=>by
    subst hF
    rcases List.mem_append.1 hb with h | h
    · exact qV.lt h1 b h
    · exact reps_lt h2 b h

theorem reps_cells {w:World}:∀ {F:yLN} {vs:List Value} {l:List α},reps w F vs l→∀ u∈vs,u.oneCell' =true
  | _,_,[],⟨_,hv⟩,u,hu=>by simp [hv] at hu
  | _,_,x :: l,⟨F1,F2,c1,c2,hF,hv,h1,h2⟩,u,hu=>by
    rw [hv] at hu
    rcases List.mem_append.1 hu with h | h
    · exact qV.one h1 u h
    · exact reps_cells h2 u h

theorem yO {w:World}:∀ {F G:yLN} {vs us:List Value} {l m:List α},reps w F vs l→reps w G us m→reps w (F++G) (vs++us) (l++m)
  | _,_,_,_,[],_,⟨hF,hv⟩,h=>by simpa [hF,hv] using h
  | _,G,_,us,x :: l,m,⟨F1,F2,c1,c2,hF,hv,h1,h2⟩,h=>
    ⟨F1,F2++G,c1,c2++us,by rw [hF,List.append_assoc],by rw [hv,List.append_assoc],h1,yO h2 h⟩

theorem reps_split {w:World}:∀ {F:yLN} {vs:List Value} (l:List α) {m:List α},reps w F vs (l++m)→
    ∃ F1 F2 v1 v2,F=F1++F2∧vs=v1++v2∧reps w F1 v1 l∧reps w F2 v2 m
  | F,vs,[],m,h=>⟨[],F,[],vs,rfl,rfl,⟨rfl,rfl⟩,h⟩
  | _,_,x :: l,m,⟨F1,F2,c1,c2,hF,hv,h1,h2⟩=>by
    obtain ⟨G1,G2,v1,v2,hG,hw,k1,k2⟩:=reps_split l h2
    exact ⟨F1++G1,G2,c1++v1,v2,by rw [hF,hG,List.append_assoc],by rw [hv,hw,List.append_assoc],⟨F1,G1,c1,v1,rfl,rfl,h1,k1⟩,k2⟩

theorem reps_one {w:World} {F:yLN} {cs:List Value} {x:α} (h:rep w F cs x):reps w F cs [x]:=
  ⟨F,[],cs,[],by simp,by simp,h,rfl,rfl⟩

theorem reps_get {w:World} {F:yLN} {vs:List Value} {l:List α} (h:reps w F vs l) (k:Nat) (hk:k < l.length):
    ∃ F1 Fk F2 v1 cs v2,F=F1++Fk++F2∧vs=v1++cs++v2∧v1.length=k * size α∧cs.length=size α∧rep w Fk cs l[k]∧reps w F1 v1 (l.take k)∧reps w F2 v2 (l.drop (k+1)):=by
  have e:l=l.take k++(l[k] :: l.drop (k+1)):=by rw [← List.drop_eq_getElem_cons hk,List.take_append_drop]
  rw [e] at h
  obtain ⟨F1,F2,v1,v2,hF,hv,h1,Fk,F3,cs,v3,hF',hv',h2,h3⟩:=reps_split _ h
  refine ⟨F1,Fk,F3,v1,cs,v3,by rw [hF,hF',List.append_assoc],by rw [hv,hv',List.append_assoc],?_,qV.len h2,h2,h1,h3⟩
  rw [reps_len h1,List.length_take_of_le qg]

theorem cells_mid {w:World} {b off:Nat} {v1 cs v2:List Value} (h:zM w b off (v1++cs++v2)):zM w b (off+v1.length) cs:=by
  intro i v hv
  have hi:i < cs.length:=by
    rcases Nat.lt_or_ge i cs.length with h | h
    · exact h
    · simp [h] at hv
  have:=h (v1.length+i) v (by rw [List.append_assoc,List.getElem?_append_right qg,Nat.add_sub_cancel_left,List.getElem?_append_left hi,hv])
  rwa [← Nat.add_assoc] at this

theorem cellsAt_stay {w w' :World} {b off:Nat} {vs:List Value} (h:zM w b off vs) (hb:w'.heap[b]? =w.heap[b]?):zM w' b off vs:=
  fun i v hv=>(World.cell?_of_block (a:=⟨b,off+i,none⟩) hb).trans (h i v hv)

def RepSlice (w:World) (F:yLN) (cs:List Value) (l:List α):Prop:=
  ∃ a cap,cs=[.slice a l.length cap]∧(l.length≤9223372036854775807∧l.length≤cap)∧((l=[]∧F=[])∨∃ b off F' vs,a=some ⟨b,off,none⟩∧F=b :: F' ∧b < w.heap.size∧reps w F' vs l∧zM w b off vs)

instance:qV (List α) where
  size:=1
  rep:=RepSlice
  len:=by rintro w F cs x ⟨a,cap,rfl,_,_⟩;rfl
  one:=by rintro w F cs x ⟨a,cap,rfl,_,_⟩ u hu;simp only [List.mem_singleton] at hu;subst hu;rfl
  stay:=by
    rintro w w' F cs x ⟨a,cap,hc,hl,h⟩ hs
    refine ⟨a,cap,hc,hl,?_⟩
    rcases h with h | ⟨b,off,F',vs,ha,hF,hb,hr,hcells⟩
    · exact Or.inl h
    · subst hF
      have hbb:=hs b (List.mem_cons_self ..)
      refine Or.inr ⟨b,off,F',vs,ha,rfl,?_,reps_stay hr (fun c hc=>hs c (List.mem_cons_of_mem _ hc)),cellsAt_stay hcells hbb⟩
      rcases Nat.lt_or_ge b w'.heap.size with h | h
      · exact h
      · rw [Array.getElem?_eq_none h] at hbb
        have:=Array.getElem?_eq_some_iff.2 ⟨hb,rfl⟩
        rw [this] at hbb
        cases hbb
  lt:=by
    rintro w F cs x ⟨a,cap,hc,hl,h⟩ c hcF
    rcases h with ⟨_,h⟩ | ⟨b,off,F',vs,ha,hF,hb,hr,hcells⟩
    · simp [h] at hcF
    · subst hF
      rcases List.mem_cons.1 hcF with rfl | h
      · exact hb
      · exact reps_lt hr c h
end

instance:qV Int where
  size:=1
  rep:=fun _ F cs x=>F=[]∧cs=[.int .i64 x]
  len:=by rintro w F cs x ⟨_,rfl⟩;rfl
  one:=by rintro w F cs x ⟨_,rfl⟩ u hu;simp only [List.mem_singleton] at hu;subst hu;rfl
  stay:=by rintro w w' F cs x h _;exact h
  lt:=by rintro w F cs x ⟨rfl,_⟩ b hb;simp at hb

instance:qV Bool where
  size:=1
  rep:=fun _ F cs x=>F=[]∧cs=[.bool x]
  len:=by rintro w F cs x ⟨_,rfl⟩;rfl
  one:=by rintro w F cs x ⟨_,rfl⟩ u hu;simp only [List.mem_singleton] at hu;subst hu;rfl
  stay:=by rintro w w' F cs x h _;exact h
  lt:=by rintro w F cs x ⟨rfl,_⟩ b hb;simp at hb

theorem reps_ints {w:World}:∀ {F:yLN} {vs:List Value} {l:yLI},reps w F vs l→F=[]∧vs=l.map (Value.int .i64)
  | _,_,[],⟨hF,hv⟩=>⟨hF,hv⟩
  | _,_,x :: l,⟨F1,F2,c1,c2,hF,hv,h1,h2⟩=>by
    obtain ⟨e1,e2⟩:=reps_ints h2
    obtain ⟨k1,k2⟩:F1=[]∧c1=[.int .i64 x]:=h1
    subst e1 e2 k1 k2
    exact ⟨hF,hv⟩

theorem reps_of_ints (w:World):∀ (l:yLI),reps w [] (l.map (Value.int .i64)) l
  | []=>⟨rfl,rfl⟩
  | x :: l=>⟨[],[],[.int .i64 x],l.map (Value.int .i64),rfl,rfl,⟨rfl,rfl⟩,reps_of_ints w l⟩

theorem qO {α:Type} [qV α] {w:World} {F:yLN} {a:yOA} {m c:Nat} {l:List α} (h:qV.rep w F [.slice a m c] l):l.length≤9223372036854775807∧l.length≤c:=by
  obtain ⟨a',c',hc,h,_⟩:=h
  simp only [List.cons.injEq,Value.slice.injEq,and_true] at hc
  obtain ⟨_,_,rfl⟩:=hc
  exact h
abbrev Is {α:Type} [qV α] (w:World) (F:yLN) (v:Value) (x:α):Prop:=qV.rep w F [v] x

abbrev Ext (w w' :World):Prop:=Below w.heap.size w w'

theorem Ext.trans' {a b c:World} (h:Ext a b) (k:Ext b c):Ext a c:=h.trans (k.mono h.size)
end
section
open Go.RowKit
abbrev Env:=Nat→Value
def upd (ρ:Env) (d:Nat) (v:Value):Env:=fun i=>cond (Nat.beq i d) v (ρ i)
def env0 (l:List Value):Env:=fun i=>l.getD i undef
class Dfr where
  D:List Deferred
instance dfr0:Dfr:=⟨[]⟩
def mk [Dfr] (n:Nat) (ρ:Env):Act:={ tmps:=Array.ofFn (n:=n) (fun i=>ρ i),defers:=Dfr.D }
def ev (n:Nat) (ρ:Env):Operand→Value
  | .tmp t=>cond (Nat.blt t n) (ρ t) undef
  | .const v=>v
  | .global g=>.pointer (some ⟨g,0,none⟩)
  | .func f=>.func (.func f) #[] #[]

theorem upd_same (ρ:Env) (d:Nat) (v:Value):upd ρ d v d=v:=by simp [upd]
theorem upd_ne (ρ:Env) {d i:Nat} (v:Value) (h:i≠d):upd ρ d v i=ρ i:=by
  unfold upd
  have:Nat.beq i d=false:=by
    cases hb:Nat.beq i d with
    | false=>rfl
    | true=>exact absurd (Nat.eq_of_beq_eq_true hb) h
  rw [this];rfl
theorem upd_self {ρ:Env} {d:Nat} {v:Value} (h:ρ d=v):upd ρ d v=ρ:=by
  funext i
  by_cases hi:i=d
  · subst hi;rw [upd_same,h]
  · rw [upd_ne _ _ hi]

theorem zO {ρ ρ' :Env} {d:Nat} {v:Value} (h:ρ=ρ') (hd:ρ d=v):ρ=upd ρ' d v:=by subst h;exact (upd_self hd).symm

theorem yX [Dfr] (n:Nat) (ρ:Env):(mk n ρ).eval=ev n ρ:=by
  funext x
  cases x with
  | tmp t=>
    simp only [Act.eval,ev,mk]
    by_cases h:t < n
    · rw [show Nat.blt t n=true from Nat.ble_eq_true_of_le h]
      simp [h]
    · have hb:Nat.blt t n=false:=by
        cases hb:Nat.blt t n with
        | false=>rfl
        | true=>exact absurd (Nat.le_of_ble_eq_true hb) h
      rw [hb]
      simp [h]
  | const v=>rfl
  | global g=>rfl
  | func f=>rfl

theorem mk_put [Dfr] (n:Nat) (ρ:Env) (d:Nat) (v:Value):(mk n ρ).put (some d) v=mk n (upd ρ d v):=by
  simp only [Act.put,mk,Act.mk.injEq,and_true]
  apply Array.ext
  · simp
  · intro i h1 h2
    rw [Array.getElem_setIfInBounds (by simpa using h1)]
    simp only [Array.getElem_ofFn]
    by_cases hi:d=i
    · subst hi;simp [upd_same]
    · rw [if_neg hi,upd_ne _ _ (Ne.symm hi)]

section
variable {P : Program} {ops : Array Oper} {Q : Exit → Act → World → Prop} {n : Nat} {ρ : Env} {w : World} {rest : List Oper}

@[irreducible] def WL [Dfr] (P : Program) (ops : Array Oper) (Q : Exit → Act → World → Prop) (n : Nat) (l : List Oper) (ρ : Env) (w : World) : Prop := wpList P ops Q l (mk n ρ) w
theorem WL.of [Dfr] {l:List Oper} (h:wpList P ops Q l (mk n ρ) w):WL P ops Q n l ρ w:=by unfold WL;exact h
theorem WL.out [Dfr] {l:List Oper} (h:WL P ops Q n l ρ w):wpList P ops Q l (mk n ρ) w:=by unfold WL at h;exact h

theorem enter {f:FuncId} {fn:Func} {c:Code} {args:Array Value} {R:Ending→World→Prop}
    (hf:P.funcs[f]? =some fn) (hb:fn.body=some c) (hn:fn.ntmps=n) (hs:args.size≤n)
    (h:c.wp P (bodyPost P fn R) (mk n (env0 args.toList)) w):Calls P f args w R:=by
  refine calls_of_wp hf hb ?_
  have e:({ tmps:=args++Array.replicate (fn.ntmps - args.size) undef,defers:=[]}:Act)=mk n (env0 args.toList):=by
    simp only [mk,Act.mk.injEq]
    refine ⟨?_,rfl⟩
    apply Array.ext
    · simp [hn];omega
    · intro i h1 h2
      simp only [Array.getElem_ofFn,env0]
      by_cases hi:i < args.size
      · rw [Array.getElem_append_left hi]
        simp [List.getD_eq_getElem?_getD,hi]
      · rw [Array.getElem_append_right qg]
        simp [List.getD_eq_getElem?_getD,Array.getElem?_eq_none (show args.size≤i by omega)]
  rw [e]
  exact h

@[irreducible] def OW [Dfr] (P : Program) (Q : Exit → Act → World → Prop) (o : Oper) (n : Nat) (ρ : Env) (w : World) (K : Env → World → Prop) : Prop :=
  ∀ K' :Act→World→Prop,(∀ ρ w,K ρ w→K' (mk n ρ) w)→o.wp P (mk n ρ) w K' Q

theorem sw [Dfr] {dst:Option Nat} {op:Op} {ty:TypeId} {pos:String} {af:Array Edge} (h:OW P Q ⟨dst,op,ty,pos,af,none⟩ n ρ w fun ρ w=>WL P ops Q n rest ρ w):
    WL P ops Q n (⟨dst,op,ty,pos,af,none⟩ :: rest) ρ w:=by
  unfold OW at h
  exact WL.of (wpList_plain rfl fun K hK=>h K fun ρ w hk=>hK _ _ hk.out)

theorem xP [Dfr] {x y:Code} (h:x.wp P (Exit.then (y.wp P Q) Q) (mk n ρ) w):(x.seq y).wp P Q (mk n ρ) w:=wp_seq h
theorem xJ [Dfr] {id:Nat} {l:List Oper} (h:WL P l.toArray Q n l ρ w):(Code.region id l.toArray false).wp P Q (mk n ρ) w:=wp_region_lit h.out
theorem xN [Dfr] (h:Q .normal (mk n ρ) w):WL P ops Q n [] ρ w:=WL.of h
theorem xf [Dfr] (h:Q .normal (mk n ρ) w):Code.skip.wp P Q (mk n ρ) w:=wp_skip h
theorem c_ret [Dfr] (h:Q .ret (mk n ρ) w):Code.ret.wp P Q (mk n ρ) w:=wp_ret h
theorem c_exit [Dfr] {id:Nat} (h:Q (.exit id) (mk n ρ) w):(Code.exit id).wp P Q (mk n ρ) w:=wp_exit h
theorem xm [Dfr] {id:Nat} {c:Code} (h:c.wp P (Exit.inBlock id Q) (mk n ρ) w):(Code.block id c).wp P Q (mk n ρ) w:=wp_block h
theorem t_n {N:Act→World→Prop} {a:Act} (h:N a w):Exit.then N Q .normal a w:=h
theorem t_x {N:Act→World→Prop} {a:Act} {id:Nat} (h:Q (.exit id) a w):Exit.then N Q (.exit id) a w:=h
theorem t_r {N:Act→World→Prop} {a:Act} (h:Q .ret a w):Exit.then N Q .ret a w:=h
theorem b_n {a:Act} {id:Nat} (h:Q .normal a w):Exit.inBlock id Q .normal a w:=h
theorem b_r {a:Act} {id:Nat} (h:Q .ret a w):Exit.inBlock id Q .ret a w:=h
theorem b_x {a:Act} {id:Nat} (h:Q .normal a w):Exit.inBlock id Q (.exit id) a w:=by simpa [Exit.inBlock] using h
theorem xC [Dfr] {x:Operand} {y z:Code} (c:Bool) (hc:ev n ρ x=.bool c) (h1:c=true→y.wp P Q (mk n ρ) w) (h2:c=false→z.wp P Q (mk n ρ) w):
    (Code.cond x y z).wp P Q (mk n ρ) w:=wp_cond_split (t:=c) (by rw [yX];exact hc) h1 h2

theorem zK [Dfr] {c:Code} (I:Nat→Env→World→Prop) (m0:Nat) (h0:I m0 ρ w)
    (hs:∀ m ρ w,I m ρ w→c.wp P (Exit.then (fun a' w' =>∃ m' ρ',a' =mk n ρ' ∧m' < m∧I m' ρ' w') Q) (mk n ρ) w):c.loop.wp P Q (mk n ρ) w:=by
  refine wp_loop_ghost (fun m a w=>∃ ρ,a=mk n ρ∧I m ρ w) m0 ⟨ρ,rfl,h0⟩ ?_
  rintro m a w ⟨ρ,rfl,hI⟩
  refine Code.wp_mono ?_ (hs m ρ w hI)
  intro e a w h
  cases e with
  | normal=>obtain ⟨m',ρ',e1,e2,e3⟩:=h;exact ⟨m',e2,ρ',e1,e3⟩
  | exit _=>exact h
  | goto _=>exact h
  | ret=>exact h
  | panic _=>exact h
  | outgrown=>exact h
theorem xg [Dfr] {m m' :Nat} {I:Nat→Env→World→Prop} (hm:m' < m) (h:I m' ρ w):
    Exit.then (fun a' w' =>∃ m' ρ',a' =mk n ρ' ∧m' < m∧I m' ρ' w') Q .normal (mk n ρ) w:=⟨m',ρ,rfl,hm,h⟩

theorem ret0 {fn:Func} {R:Ending→World→Prop} (hr:fn.results=#[]) (h:R (.returned (.tuple #[])) w):bodyPost P fn R .normal (mk n ρ) w:=
  bodyPost_end (results_none hr _ _ _) rfl h
theorem ret0' {fn:Func} {R:Ending→World→Prop} (hr:fn.results=#[]) (h:R (.returned (.tuple #[])) w):bodyPost P fn R .ret (mk n ρ) w:=
  bodyPost_ret (results_none hr _ _ _) rfl h
theorem ret1 {fn:Func} {R:Ending→World→Prop} {t:Nat} (v:Value) (hr:fn.results=#[.tmp t]) (hv:ev n ρ (.tmp t)=v) (h:R (.returned v) w):bodyPost P fn R .ret (mk n ρ) w:=by
  refine bodyPost_ret (results_tmp hr _ _ _) rfl ?_
  have e:=congrFun (yX n ρ) (.tmp t)
  simp only [Act.eval] at e
  rw [e,hv]
  exact h
theorem ret2 {fn:Func} {R:Ending→World→Prop} {t u:Nat} (v x:Value) (hr:fn.results=#[.tmp t,.tmp u]) (hv:ev n ρ (.tmp t)=v) (hx:ev n ρ (.tmp u)=x) (h:R (.returned (.tuple #[v,x])) w):bodyPost P fn R .ret (mk n ρ) w:=by
  refine bodyPost_ret (results_tmp2 hr _ _ _) rfl ?_
  have e:=congrFun (yX n ρ) (.tmp t)
  have e' :=congrFun (yX n ρ) (.tmp u)
  simp only [Act.eval] at e e'
  rw [e,hv,e',hx]
  exact h
end
inductive Prv where
  | box (b:Nat) (cs:List Value) (t:TypeId)
  | row (v:Value) (e:TypeId) (size n:Nat) (xs:List Value)

def Prv.blk:Prv→Option Nat
  | .box b _ _=>some b
  | .row v _ _ _ _=>v.ownBlock

def Prv.ok (base:Nat) (w:World):Prv→Prop
  | .box b cs t=>base≤b∧w.heap[b]? =some (.cells cs.toArray t (0,0))
  | .row v e size n xs=>w.ownsRow base e size v n xs

theorem Prv.ok.lt {base:Nat} {w:World} {p:Prv} (h:p.ok base w) {b:Nat} (hb:p.blk=some b):base≤b∧b < w.heap.size:=by
  cases p with
  | box b' cs t=>
    simp only [Prv.blk,Option.some.injEq] at hb
    subst hb
    exact ⟨h.1,(Array.getElem?_eq_some_iff.1 h.2).1⟩
  | row v e size n xs=>exact World.ownsRow.lt h b hb

theorem Prv.ok.stay {base:Nat} {w w' :World} {p:Prv} (h:p.ok base w) (hs:∀ b,p.blk=some b→w'.heap[b]? =w.heap[b]?):p.ok base w' :=by
  cases p with
  | box b cs t=>exact ⟨h.1,(hs b rfl).trans h.2⟩
  | row v e size n xs=>
    refine ⟨h.1,?_⟩
    rcases h.2 with hn | ⟨g,cap,cur,rfl,hb,hg,rest⟩
    · exact Or.inl hn
    · exact Or.inr ⟨g,cap,cur,rfl,hb,(hs g rfl).trans hg,rest⟩

structure Fact where
  F:yLN
  φ:World→Prop
  stay:∀ w w',φ w→(∀ b∈F,w'.heap[b]? =w.heap[b]?)→φ w'

def jf (ps:List Prv) (i:Nat):Option Nat:=(ps[i]?).bind Prv.blk

structure St (W0 w:World) (ps:List Prv) (Γ:List Fact):Prop where
  base:Ext W0 w
  has:∀ p∈ps,p.ok W0.heap.size w
  dist:∀ i j b,jf ps i=some b→jf ps j=some b→i=j
  facts:∀ f∈Γ,f.φ w∧∀ b∈f.F,b < w.heap.size∧∀ i,jf ps i≠some b

section
variable {W0 w : World} {ps : List Prv} {Γ : List Fact}

theorem St.start (w:World):St w w [] []:=
  ⟨Below.refl _ _,by simp,by intro i j b h;simp [jf] at h,by simp⟩

theorem yh (H:St W0 w ps Γ) {i b:Nat} (h:jf ps i=some b):W0.heap.size≤b∧b < w.heap.size:=by
  unfold jf at h
  cases hp:ps[i]? with
  | none=>simp [hp] at h
  | some p=>
    simp only [hp,Option.bind_some] at h
    exact (H.has p (List.mem_of_getElem? hp)).lt h

theorem St.get (H:St W0 w ps Γ) (i:Nat) {f:Fact} (h:Γ[i]? =some f):f.φ w:=(H.facts f (List.mem_of_getElem? h)).1

theorem St.add (H:St W0 w ps Γ) (f:Fact) (h:f.φ w) (hF:∀ b∈f.F,b < w.heap.size∧∀ i,jf ps i≠some b):St W0 w ps (f :: Γ):=
  ⟨H.base,H.has,H.dist,fun g hg=>by
    rcases List.mem_cons.1 hg with rfl | hg
    · exact ⟨h,hF⟩
    · exact H.facts g hg⟩

theorem St.yj (H:St W0 w ps Γ) (i:Nat) {g:Fact} (hg:Γ[i]? =some g) (f:Fact) (h:f.φ w) (hF:∀ b∈f.F,b∈g.F):St W0 w ps (f :: Γ):=
  H.add f h fun b hb=>(H.facts g (List.mem_of_getElem? hg)).2 b (hF b hb)

theorem St.sub (H:St W0 w ps Γ) (Δ:List Fact) (h:∀ f∈Δ,f∈Γ):St W0 w ps Δ:=⟨H.base,H.has,H.dist,fun f hf=>H.facts f (h f hf)⟩

theorem St.change (H:St W0 w ps Γ) {w' :World} (i:Nat) {p p' :Prv} (hp:ps[i]? =some p)
    (hos:w'.os=w.os) (ht:w'.tape=w.tape) (ho:w'.output=w.output) (hz:w.heap.size≤w'.heap.size)
    (hs:∀ b,b < w.heap.size→p.blk≠some b→w'.heap[b]? =w.heap[b]?) (hok:p'.ok W0.heap.size w')
    (hb:p'.blk=p.blk∨p'.blk=none∨∃ b,p'.blk=some b∧w.heap.size≤b):St W0 w' (ps.set i p') Γ:=by
  have hi:i < ps.length:=by
    rcases Nat.lt_or_ge i ps.length with h | h
    · exact h
    · simp [h] at hp
  have hbi:jf ps i=p.blk:=by simp [jf,hp]
  have hset:∀ j,jf (ps.set i p') j=if j=i then p'.blk else jf ps j:=by
    intro j
    unfold jf
    by_cases hj:j=i
    · subst hj;simp [hi]
    · rw [List.getElem?_set_ne (Ne.symm hj),if_neg hj]
  have hnew:∀ j b,j≠i→jf ps j=some b→p'.blk≠some b:=by
    intro j b hj hjb he
    rcases hb with h | h | ⟨c,h,hc⟩
    · rw [h,← hbi] at he;exact hj (H.dist j i b hjb he)
    · rw [h] at he;cases he
    · rw [h] at he
      simp only [Option.some.injEq] at he
      subst he
      have:=(yh H hjb).2
      omega
  refine ⟨⟨hos.trans H.base.os,ht.trans H.base.tape,ho.trans H.base.output,Nat.le_trans H.base.size hz,fun k hk=>?_⟩,?_,?_,?_⟩
  · refine (hs k (Nat.lt_of_lt_of_le hk H.base.size) fun he=>?_).trans (H.base.block k hk)
    rw [← hbi] at he
    have:=(yh H he).1
    omega
  · intro q hq
    obtain ⟨j,hj⟩:=List.getElem?_of_mem hq
    by_cases hji:j=i
    · subst hji
      rw [List.getElem?_set_self hi] at hj
      simp only [Option.some.injEq] at hj
      subst hj
      exact hok
    · rw [List.getElem?_set_ne (Ne.symm hji)] at hj
      have hq' :=H.has q (List.mem_of_getElem? hj)
      refine hq'.stay fun b hqb=>hs b (hq'.lt hqb).2 fun he=>?_
      rw [← hbi] at he
      exact hji (H.dist j i b (by simp [jf,hj,hqb]) he)
  · intro j k b hj hk
    rw [hset] at hj hk
    by_cases h1:j=i <;> by_cases h2:k=i
    · rw [h1,h2]
    · rw [if_pos h1] at hj;rw [if_neg h2] at hk;exact absurd hj (hnew k b h2 hk)
    · rw [if_neg h1] at hj;rw [if_pos h2] at hk;exact absurd hk (hnew j b h1 hj)
    · rw [if_neg h1] at hj;rw [if_neg h2] at hk;exact H.dist j k b hj hk
  · intro f hf
    obtain ⟨h1,h2⟩:=H.facts f hf
    refine ⟨f.stay w w' h1 fun b hbF=>hs b (h2 b hbF).1 fun he=>?_,fun b hbF=>⟨Nat.lt_of_lt_of_le (h2 b hbF).1 hz,fun j he=>?_⟩⟩
    · rw [← hbi] at he;exact (h2 b hbF).2 i he
    · rw [hset] at he
      by_cases hj:j=i
      · rw [if_pos hj] at he
        rcases hb with h | h | ⟨c,h,hc⟩
        · rw [h,← hbi] at he;exact (h2 b hbF).2 i he
        · rw [h] at he;cases he
        · rw [h] at he
          simp only [Option.some.injEq] at he
          subst he
          have:=(h2 c hbF).1
          omega
      · rw [if_neg hj] at he;exact (h2 b hbF).2 j he

theorem St.ext (H:St W0 w ps Γ) {w' :World} (e:Ext w w'):St W0 w' ps Γ:=
  ⟨Ext.trans' H.base e,fun p hp=>(H.has p hp).stay fun b hb=>e.block b ((H.has p hp).lt hb).2,H.dist,
    fun f hf=>⟨f.stay w w' (H.facts f hf).1 fun b hb=>e.block b ((H.facts f hf).2 b hb).1,
      fun b hb=>⟨Nat.lt_of_lt_of_le ((H.facts f hf).2 b hb).1 e.size,((H.facts f hf).2 b hb).2⟩⟩⟩

theorem St.own (H:St W0 w ps Γ) {w' :World} (e:Ext w w') (p:Prv) (hp:p.ok W0.heap.size w') (hb:∀ b,p.blk=some b→w.heap.size≤b):St W0 w' (p :: ps) Γ:=by
  have H' :=H.ext e
  refine ⟨H'.base,fun q hq=>?_,?_,fun f hf=>⟨(H'.facts f hf).1,fun b hbF=>⟨((H'.facts f hf).2 b hbF).1,fun i=>?_⟩⟩⟩
  · rcases List.mem_cons.1 hq with rfl | hq
    · exact hp
    · exact H'.has q hq
  · intro i j b hi hj
    cases i with
    | zero=>
      cases j with
      | zero=>rfl
      | succ j=>
        have h1:=hb b (by simpa [jf] using hi)
        have h2:=(yh H (i:=j) (b:=b) (by simpa [jf] using hj)).2
        omega
    | succ i=>
      cases j with
      | zero=>
        have h1:=hb b (by simpa [jf] using hj)
        have h2:=(yh H (i:=i) (b:=b) (by simpa [jf] using hi)).2
        omega
      | succ j=>rw [H.dist i j b (by simpa [jf] using hi) (by simpa [jf] using hj)]
  · cases i with
    | zero=>
      intro he
      have h1:=hb b (by simpa [jf] using he)
      have h2:=((H.facts f hf).2 b hbF).1
      omega
    | succ i=>simpa [jf] using ((H'.facts f hf).2 b hbF).2 i

theorem ext_alloc (w:World) (o:Obj):Ext w (w.alloc o):=(Below.refl _ _).alloc (Nat.le_refl _) o
theorem ext_drew (w:World):Ext w w.drew:=(Below.refl _ _).drew

theorem St.alloc (H:St W0 w ps Γ) (cs:Array Value) (t:TypeId):St W0 (w.alloc (.cells cs t)) (.box w.heap.size cs.toList t :: ps) Γ:=
  H.own (ext_alloc _ _) _ ⟨H.base.size,by simpa using heap_alloc_new w (.cells cs t)⟩ (by intro b hb;simp only [Prv.blk,Option.some.injEq] at hb;omega)

theorem heap_setCell_same {w:World} {b off:Nat} {cs:Array Value} {t:TypeId} {fr:Nat×Nat} (h:w.heap[b]? =some (.cells cs t fr)) (v:Value):
    (w.setCell ⟨b,off,none⟩ v).heap[b]? =some (.cells (cs.setIfInBounds off v) t fr):=by
  simp [World.setCell,Array.getElem?_modify,h]

theorem St.set (H:St W0 w ps Γ) (i:Nat) {b:Nat} {cs:List Value} {t:TypeId} (hp:ps[i]? =some (.box b cs t)) (off:Nat) (v:Value):
    St W0 (w.setCell ⟨b,off,none⟩ v) (ps.set i (.box b (cs.set off v) t)) Γ:=by
  have hb:=H.has _ (List.mem_of_getElem? hp)
  refine H.change i hp rfl rfl rfl (by simp [World.setCell]) (fun c _ hc=>Below.heap_setCell _ _ _ _ ?_) ⟨hb.1,?_⟩ (Or.inl rfl)
  · intro e;exact hc (by simp [Prv.blk,e])
  · rw [heap_setCell_same hb.2]
    simp
end
def pv (ρ:Operand→Value):Op→Option Value
  | .move x=>some (ρ x)
  | .assign x=>some (ρ x)
  | .pick c a b=>match ρ c with | .bool t=>some (cond t (ρ a) (ρ b)) | _=>none
  | .nilCheck x=>match ρ x with | .pointer (some a)=>some (.pointer (some a)) | _=>none
  | .unOp .not _ x=>match ρ x with | .bool b=>some (.bool !b) | _=>none
  | .extract x i=>match ρ x with | .tuple vs=>vs[i]? | _=>none
  | .makeFunc f a c=>some (.func f (a.toList.map ρ).toArray (c.toList.map ρ).toArray)
  | .binOp .lss _ x y _=>match ρ x,ρ y with | .int .i64 a,.int .i64 b=>some (.bool (decide (a < b))) | _,_=>none
  | .binOp .leq _ x y _=>match ρ x,ρ y with | .int .i64 a,.int .i64 b=>some (.bool (decide (a≤b))) | _,_=>none
  | .binOp .gtr _ x y _=>match ρ x,ρ y with | .int .i64 a,.int .i64 b=>some (.bool (decide (a > b))) | _,_=>none
  | .binOp .geq _ x y _=>match ρ x,ρ y with | .int .i64 a,.int .i64 b=>some (.bool (decide (a≥b))) | _,_=>none
  | .binOp .eql _ x y _=>match ρ x,ρ y with | .int .i64 a,.int .i64 b=>some (.bool (a == b)) | .string a,.string b=>some (.bool (a.toList == b.toList)) | _,_=>none
  | .binOp .neq _ x y _=>match ρ x,ρ y with | .int .i64 a,.int .i64 b=>some (.bool (a != b)) | .string a,.string b=>some (.bool !(a.toList == b.toList)) | _,_=>none
  | _=>none

theorem pv_run {P:Program} {ρ:Operand→Value} {o:Oper} {v:Value} (h:pv ρ o.op=some v) (w:World):(execOp ρ o).run P w=.ok (.value v) w:=by
  unfold execOp
  cases ho:o.op <;> rw [ho] at h <;> simp only [pv] at h <;> try (cases h;done)
  case move x=>cases h;simp
  case assign x=>cases h;simp
  case pick c a b=>
    split at h <;> cases h
    rename_i t ht
    cases t <;> simp [ht,asBool]
  case nilCheck x=>
    split at h <;> cases h
    rename_i a ha
    simp [ha]
  case makeFunc f a c=>cases h;simp [Instr.makeFunc,← List.map_toArray]
  case extract x i=>
    split at h
    · rename_i vs hvs
      simp [hvs,Instr.extract,h]
    · cases h
  case unOp op t x=>
    cases op <;> simp only [pv] at h <;> try (cases h;done)
    split at h <;> cases h
    rename_i b hb
    simp [hb,Op.unary]
  case binOp op t x y u=>
    cases op <;> simp only [pv] at h <;> try (cases h;done)
    all_goals split at h
    all_goals first
      | (cases h;done)
      | (rename_i h1 h2;cases h;simp [h1,h2,eqGuard,binOp,Op.intCmp];done)
      | (rename_i h1 h2;cases h;simp [h1,h2,eqGuard,binOp,Op.stringOp];done)

section
variable {P : Program} {ops : Array Oper} {Q : Exit → Act → World → Prop} {n : Nat} {ρ : Env} {W0 w : World} {rest : List Oper} {ps : List Prv} {Γ : List Fact}
  {d:Nat} {op:Op} {ty:TypeId} {pos:String} {af:Array Edge} {K:Env→World→Prop}

theorem o_val [Dfr] {w' :World} (v:Value) (h:(execOp (ev n ρ) ⟨some d,op,ty,pos,af,none⟩).run P w=.ok (.value v) w') (k:K (upd ρ d v) w'):
    OW P Q ⟨some d,op,ty,pos,af,none⟩ n ρ w K:=by
  unfold OW
  intro K' hK
  unfold Oper.wp
  rw [yX,h]
  show K' ((mk n ρ).put (some d) v) w'
  rw [mk_put]
  exact hK _ _ k

theorem o_unit [Dfr] {w' :World} (h:(execOp (ev n ρ) ⟨none,op,ty,pos,af,none⟩).run P w=.ok .skip w') (k:K ρ w'):
    OW P Q ⟨none,op,ty,pos,af,none⟩ n ρ w K:=by
  unfold OW
  intro K' hK
  unfold Oper.wp
  rw [yX,h]
  exact hK _ _ k

theorem o_pure [Dfr] (v:Value) (h:pv (ev n ρ) op=some v) (k:K (upd ρ d v) w):OW P Q ⟨some d,op,ty,pos,af,none⟩ n ρ w K:=
  o_val v (pv_run (by exact h) w) k

theorem yielded_of [Dfr] {j e:Nat} {b:Bool} (hd:(ops[j]?).bind (·.dst)=some e) (hv:ev n ρ (.tmp e)=.bool b):yielded ops (mk n ρ).tmps j=some b:=by
  have hlt:e < n:=by
    rcases Nat.lt_or_ge e n with h | h
    · exact h
    · have hb:Nat.blt e n=false:=by
        cases hb:Nat.blt e n with
        | false=>rfl
        | true=>exact absurd (Nat.le_of_ble_eq_true hb) qg
      simp [ev,hb,undef] at hv
  have hv' :ρ e=.bool b:=by simpa [ev,show Nat.blt e n=true from Nat.ble_eq_true_of_le hlt] using hv
  simp [yielded,hd,mk,hlt,hv']

theorem yielded_un [Dfr] {j e:Nat} (hd:(ops[j]?).bind (·.dst)=some e) (hv:ev n ρ (.tmp e)=undef):yielded ops (mk n ρ).tmps j=none:=by
  rcases Nat.lt_or_ge e n with hlt | h
  · have hv' :ρ e=undef:=by simpa [ev,show Nat.blt e n=true from Nat.ble_eq_true_of_le hlt] using hv
    simp [yielded,hd,mk,hlt,hv',undef]
  · simp [yielded,hd,mk,show ¬ e < n by omega]

def dstAt:List Oper→Nat→Option Nat
  | [],_=>none
  | o :: _,0=>o.dst
  | _ :: l,j+1=>dstAt l j
theorem dstAt_eq:∀ (l:List Oper) (j:Nat),(l.toArray[j]?).bind (·.dst)=dstAt l j
  | [],j=>by simp [dstAt]
  | o :: l,0=>by simp [dstAt]
  | o :: l,j+1=>by
    have:=dstAt_eq l j
    simp only [List.getElem?_toArray,List.getElem?_cons_succ,dstAt] at this ⊢
    exact this

theorem qY [Dfr] {l:List Oper} {dst:Option Nat} {j:Nat} {b:Bool} (e:Nat) (hd:dstAt l j=some e) (hv:ev n ρ (.tmp e)=.bool b)
    (k:WL P l.toArray Q n (⟨dst,op,ty,pos,af,none⟩ :: rest) ρ w):WL P l.toArray Q n (⟨dst,op,ty,pos,af,some (j,b)⟩ :: rest) ρ w:=by
  have hw:Region.wanted ⟨dst,op,ty,pos,af,some (j,b)⟩ (yielded l.toArray (mk n ρ).tmps)=true:=by simp [Region.wanted,yielded_of ((dstAt_eq l j).trans hd) hv]
  replace k:=k.out
  refine WL.of ?_
  unfold wpList at k ⊢
  rw [if_pos hw]
  rw [if_pos (by rfl)] at k
  exact k

theorem wrap_in {a:Int} (h: -9223372036854775808≤a∧a≤9223372036854775807):IntKind.i64.wrap a=a:=by
  exact IntWalk.i64_in a h

theorem xX [Dfr] {x y:Operand} {t u:TypeId} (a b:Int) (hx:ev n ρ x=.int .i64 a) (hy:ev n ρ y=.int .i64 b) (h: -9223372036854775808≤a+b∧a+b≤9223372036854775807)
    (k:K (upd ρ d (.int .i64 (a+b))) w):OW P Q ⟨some d,.binOp .add t x y u,ty,pos,af,none⟩ n ρ w K:=
  o_val _ (by simp [execOp,hx,hy,eqGuard,binOp,Op.intArith,wrap_in h]) k
theorem o_sub [Dfr] {x y:Operand} {t u:TypeId} (a b:Int) (hx:ev n ρ x=.int .i64 a) (hy:ev n ρ y=.int .i64 b) (h: -9223372036854775808≤a - b∧a - b≤9223372036854775807)
    (k:K (upd ρ d (.int .i64 (a - b))) w):OW P Q ⟨some d,.binOp .sub t x y u,ty,pos,af,none⟩ n ρ w K:=
  o_val _ (by simp [execOp,hx,hy,eqGuard,binOp,Op.intArith,wrap_in h]) k
theorem o_mul [Dfr] {x y:Operand} {t u:TypeId} (a b:Int) (hx:ev n ρ x=.int .i64 a) (hy:ev n ρ y=.int .i64 b) (h: -9223372036854775808≤a * b∧a * b≤9223372036854775807)
    (k:K (upd ρ d (.int .i64 (a * b))) w):OW P Q ⟨some d,.binOp .mul t x y u,ty,pos,af,none⟩ n ρ w K:=
  o_val _ (by simp [execOp,hx,hy,eqGuard,binOp,Op.intArith,wrap_in h]) k

theorem o_len [Dfr] {x:Operand} {t e:TypeId} (hu:P.underlying t=some (.slice e)) (a:yOA) (m c:Nat) (hx:ev n ρ x=.slice a m c)
    (k:K (upd ρ d (.int .i64 m)) w):OW P Q ⟨some d,.call ⟨.builtin .len,#[x],#[t]⟩,ty,pos,af,none⟩ n ρ w K:=
  o_val _ (by simp [execOp,resolve,invoke,builtin,Builtin.len_,hx,run_underlying hu,goInt]) k
end
def TI (P:Program) (t:TypeId) (z:Value) (size bytes:Nat):Prop:=(P.info? t).map (fun i=>(i.zero,i.size,i.bytes))=some (some z,size,bytes)

theorem TI.sizeOf {P:Program} {t:TypeId} {z:Value} {m by' :Nat} (h:TI P t z m by') (w:World):(Go.sizeOf t).run P w=.ok m w:=by
  obtain ⟨i,hi,_,h2,_⟩:=info_parts h
  simp [Go.sizeOf,typeInfo,hi,h2]
theorem TI.zero {P:Program} {t:TypeId} {z:Value} {m by' :Nat} (h:TI P t z m by') (w:World):(zeroValue t).run P w=.ok z w:=by
  obtain ⟨i,hi,h1,_,_⟩:=info_parts h
  simp [zeroValue,typeInfo,hi,h1]

def zx (w:World) (F:yLN):Prop:=∀ b∈F,∃ cs t,w.heap[b]? =some (.cells cs t (0,0))
theorem zx.stay {w w' :World} {F:yLN} (h:zx w F) (hs:∀ b∈F,w'.heap[b]? =w.heap[b]?):zx w' F:=fun b hb=>by rw [hs b hb];exact h b hb
theorem zx.sub {w:World} {F G:yLN} (h:zx w F) (hs:∀ b∈G,b∈F):zx w G:=fun b hb=>h b (hs b hb)
theorem zx.app {w:World} {F G:yLN} (h:zx w F) (k:zx w G):zx w (F++G):=fun b hb=>by
  rcases List.mem_append.1 hb with h' | h'
  · exact h b h'
  · exact k b h'
theorem zx.nil (w:World):zx w []:=fun b hb=>by simp at hb

section
variable {α : Type} [qV α]
def isF (fr:Bool) (F:yLN) (v:Value) (x:α):Fact:=⟨F,fun w=>qV.rep w F [v] x∧(fr=true→zx w F),fun _ _ h hs=>⟨qV.stay h.1 hs,fun e=>(h.2 e).stay hs⟩⟩
def xW (fr:Bool) (F:yLN) (xs:List Value) (l:List α):Fact:=⟨F,fun w=>reps w F xs l∧(fr=true→zx w F),fun _ _ h hs=>⟨reps_stay h.1 hs,fun e=>(h.2 e).stay hs⟩⟩
end
def atF (b off:Nat) (cs:List Value):Fact:=⟨[b],fun w=>zM w b off cs,fun _ _ h hs=>cellsAt_stay h (hs b qo)⟩

section
variable {P : Program} {ops : Array Oper} {Q : Exit → Act → World → Prop} {n : Nat} {ρ : Env} {W0 w : World} {rest : List Oper} {ps : List Prv} {Γ : List Fact}
  {d:Nat} {ty:TypeId} {pos:String} {af:Array Edge} {K:Env→World→Prop}

theorem St.cell (H:St W0 w ps Γ) (i:Nat) {b:Nat} {cs:List Value} {t:TypeId} (hp:ps[i]? =some (.box b cs t)) {off:Nat} {v:Value} (hv:cs[off]? =some v):w.cell? ⟨b,off,none⟩=some v:=by
  have:=(H.has _ (List.mem_of_getElem? hp)).2
  rw [World.cell?,this]
  simpa using hv
theorem St.xU (H:St W0 w ps Γ) (i:Nat) {b off:Nat} {cs:List Value} (hf:Γ[i]? =some (atF b off cs)) (j:Nat) {v:Value} (hv:cs[j]? =some v):w.cell? ⟨b,off+j,none⟩=some v:=
  H.get i hf j v hv
theorem St.cells (H:St W0 w ps Γ) (i:Nat) {b:Nat} {cs:List Value} {t:TypeId} (hp:ps[i]? =some (.box b cs t)):zM w b 0 cs:=by
  intro j v hv
  rw [Nat.zero_add]
  exact H.cell i hp hv

theorem qN {w:World} {b off:Nat} {cs:List Value} (h:zM w b off cs) (j m:Nat):zM w b (off+j) ((cs.drop j).take m):=by
  intro i v hv
  rw [List.getElem?_take] at hv
  split at hv
  · rw [List.getElem?_drop] at hv
    rw [Nat.add_assoc]
    exact h (j+i) v hv
  · cases hv

theorem o_alloc [Dfr] {t:TypeId} {z:Value} {m by' :Nat} (H:St W0 w ps Γ) (ht:TI P t z m by')
    (k:∀ b w',St W0 w' (.box b z.cells.toList t :: ps) Γ→K (upd ρ d (.pointer (some ⟨b,0,none⟩))) w'):
    OW P Q ⟨some d,.alloc t,ty,pos,af,none⟩ n ρ w K:=
  o_val (w' :=w.alloc (.cells z.cells t)) _ (by simp [execOp,Instr.alloc,ht.zero,newVar,newRow]) (k _ _ (H.alloc _ _))

theorem o_box [Dfr] {t:TypeId} {x:Operand} (H:St W0 w ps Γ) (v:Value) (hx:ev n ρ x=v)
    (k:∀ b w',St W0 w' (.box b v.cells.toList t :: ps) Γ→K (upd ρ d (.pointer (some ⟨b,0,none⟩))) w'):
    OW P Q ⟨some d,.box t x,ty,pos,af,none⟩ n ρ w K:=
  o_val (w' :=w.alloc (.cells v.cells t)) _ (by simp [execOp,Instr.box,hx,newVar,newRow]) (k _ _ (H.alloc _ _))

theorem run_load1 {t:TypeId} {b off:Nat} {v:Value} (ha:∀ w,(isAgg t).run P w=.ok false w) (hc:w.cell? ⟨b,off,none⟩=some v):
    (Instr.loadAt t (.pointer (some ⟨b,off,none⟩))).run P w=.ok v w:=by
  simp [Instr.loadAt,Instr.sureAddr,loadVar,ha,hc]

theorem xY [Dfr] {t:TypeId} {x:Operand} {b off:Nat} (v:Value) (ha:∀ w,(isAgg t).run P w=.ok false w) (hx:ev n ρ x=.pointer (some ⟨b,off,none⟩))
    (hc:w.cell? ⟨b,off,none⟩=some v) (k:K (upd ρ d v) w):OW P Q ⟨some d,.load t x,ty,pos,af,none⟩ n ρ w K:=
  o_val v (by simp [execOp,hx,run_load1 ha hc]) k

theorem run_loadN {t:TypeId} {b off:Nat} {cs:List Value} (ha:∀ w,(isAgg t).run P w=.ok true w) (hs:∀ w,(Go.sizeOf t).run P w=.ok cs.length w)
    (hc:zM w b off cs):(Instr.loadAt t (.pointer (some ⟨b,off,none⟩))).run P w=.ok (.agg cs.toArray) w:=by
  have:=run_loadCells_list (P:=P) w ⟨b,off,none⟩ cs (fun j v hv=>by rw [Addr.add_mid];exact hc j v hv)
  simp [Instr.loadAt,Instr.sureAddr,loadVar,ha,hs,this]

theorem xZ [Dfr] {t:TypeId} {x:Operand} {b off:Nat} (cs:List Value) (ha:∀ w,(isAgg t).run P w=.ok true w) (hs:∀ w,(Go.sizeOf t).run P w=.ok cs.length w)
    (hx:ev n ρ x=.pointer (some ⟨b,off,none⟩)) (hc:zM w b off cs) (k:K (upd ρ d (.agg cs.toArray)) w):
    OW P Q ⟨some d,.load t x,ty,pos,af,none⟩ n ρ w K:=
  o_val _ (by simp [execOp,hx,run_loadN ha hs hc]) k

theorem o_field [Dfr] {t:TypeId} {x:Operand} {fs:Array Field} {i:Nat} {f:Field} {m:Nat} (b off j:Nat) (hu:P.underlying t=some (.struct fs)) (hf:fs[i]? =some f) (hj:f.offset=j)
    (hs:∀ w,(Go.sizeOf f.type).run P w=.ok (m+1) w) (hx:ev n ρ x=.pointer (some ⟨b,off,none⟩)) (k:K (upd ρ d (.pointer (some ⟨b,off+j,none⟩))) w):
    OW P Q ⟨some d,.fieldAddr t x i,ty,pos,af,none⟩ n ρ w K:=
  o_val _ (by subst hj;simp [execOp,hx,Instr.fieldAt,Instr.sureAddr,fieldPlace,run_underlying hu,hf,hs,Addr.add_mid]) k

theorem St.setAll (H:St W0 w ps Γ) (i:Nat) {b:Nat} {cs:List Value} {t:TypeId} (hp:ps[i]? =some (.box b cs t)) (cs' :List Value):
    St W0 (w.setRow b cs'.toArray) (ps.set i (.box b cs' t)) Γ:=by
  have hb:=H.has _ (List.mem_of_getElem? hp)
  refine H.change i hp rfl rfl rfl (by simp [World.setRow]) (fun c _ hc=>?_) ⟨hb.1,?_⟩ (Or.inl rfl)
  · have hne:b≠c:=fun e=>hc (by simp [Prv.blk,e])
    simp [World.setRow,Array.getElem?_modify,hne]
  · simp [World.setRow,Array.getElem?_modify,hb.2]

theorem o_store [Dfr] {t:TypeId} {x y:Operand} {b off:Nat} {cs:List Value} {tb:TypeId} (H:St W0 w ps Γ) (i:Nat) (hp:ps[i]? =some (.box b cs tb)) (v:Value)
    (hs:∀ w,(Go.sizeOf t).run P w=.ok v.cells.size w) (hx:ev n ρ x=.pointer (some ⟨b,off,none⟩)) (hy:ev n ρ y=v) (h1:∀ u∈v.cells.toList,u.oneCell' =true) (ho:off+v.cells.size≤cs.length)
    (k:∀ w',St W0 w' (ps.set i (.box b (cs.take off++v.cells.toList++cs.drop (off+v.cells.size)) tb)) Γ→K ρ w'):
    OW P Q ⟨none,.store t x y,ty,pos,af,none⟩ n ρ w K:=by
  have hb:=(H.has _ (List.mem_of_getElem? hp)).2
  have hr:=run_storeCells_at P b off tb v.cells.toList 0 cs.toArray w hb (by simpa using ho) h1
  refine o_unit (w' :=w.setRow b (cs.take off++v.cells.toList++cs.drop (off+v.cells.size)).toArray) ?_ (k _ (H.setAll i hp _))
  simp only [Nat.add_zero,Array.length_toList] at hr
  simp [execOp,hx,hy,Instr.storeAt,Instr.sureAddr,storeVar,hs,hr]

theorem Qw [Dfr] {t:TypeId} {x y:Operand} {b off:Nat} {cs:List Value} {tb:TypeId} (H:St W0 w ps Γ) (i:Nat) (hp:ps[i]? =some (.box b cs tb)) (v:Value)
    (hs:∀ w,(Go.sizeOf t).run P w=.ok 1 w) (hx:ev n ρ x=.pointer (some ⟨b,off,none⟩)) (hy:ev n ρ y=v) (h1:v.oneCell' =true) (ho:off < cs.length)
    (k:∀ w',St W0 w' (ps.set i (.box b (cs.set off v) tb)) Γ→K ρ w'):
    OW P Q ⟨none,.store t x y,ty,pos,af,none⟩ n ρ w K:=by
  have hc:v.cells=#[v]:=by cases v <;> first | rfl | (simp [Value.oneCell'] at h1)
  refine o_store H i hp v (by simpa [hc] using hs) hx hy (by simp [hc,h1]) (by simp [hc];omega) ?_
  simp only [hc,List.size_toArray,List.length_cons,List.length_nil,Nat.zero_add]
  rw [show cs.take off++[v]++cs.drop (off+1)=cs.set off v by rw [List.set_eq_take_append_cons_drop,if_pos ho];simp]
  exact k

variable {α : Type} [qV α] [Inhabited α]

theorem o_idxAt [Dfr] {x y:Operand} {t e:TypeId} {b off m c:Nat} {z:Value} {sz by' :Nat} (iv:Int) (hu:P.underlying t=some (.slice e)) (he:TI P e z sz by')
    (hx:ev n ρ x=.slice (some ⟨b,off,none⟩) m c) (hy:ev n ρ y=.int .i64 iv) (h0:0≤iv) (h1:iv < m)
    (k:K (upd ρ d (.pointer (some ⟨b,off+iv.toNat * sz,none⟩))) w):OW P Q ⟨some d,.indexAddr t x y,ty,pos,af,none⟩ n ρ w K:=
  o_val _ (by simp [execOp,hx,hy,Instr.indexAt,asIntOf,run_underlying hu,he.sizeOf,h0,h1,Addr.add_mid]) k

theorem o_call [Dfr] {x:Operand} {xs:Array Operand} {ts:Array TypeId} {f:FuncId} {fst caps:Array Value} {R:Value→World→Prop} (args:Array Value) (hv:ev n ρ x=.func (.func f) fst caps)
    (hargs:fst.toList++xs.toList.map (ev n ρ)++caps.toList=args.toList) (hf:∀ args w,(callFunc f args).run P w=.ok (.enter f args) w)
    (hc:Calls P f args w fun e w' =>∃ v,e=.returned v∧R v w' ∧Ext w w') (k:∀ v w',R v w' →Ext w w' →K (upd ρ d v) w'):
    OW P Q ⟨some d,.call ⟨.value x,xs,ts⟩,ty,pos,af,none⟩ n ρ w K:=by
  have hr:(execOp (ev n ρ) ⟨some d,.call ⟨.value x,xs,ts⟩,ty,pos,af,none⟩).run P w=.ok (.enter f args) w:=by
    have e:fst++xs.map (ev n ρ)++caps=args:=by apply Array.toList_inj.1;rw [← hargs];simp
    simp [execOp,resolve,Deferred.ofValue,hv,invoke,hf,e]
  unfold OW
  intro K' hK
  unfold Oper.wp
  rw [yX,hr]
  refine hc.mono fun e w' ⟨v,he,hR,hE⟩=>?_
  subst he
  show K' ((mk n ρ).put (some d) v) w'
  rw [mk_put]
  exact hK _ _ (k v w' hR hE)

theorem o_callV [Dfr] {x:Operand} {xs:Array Operand} {ts:Array TypeId} {f:FuncId} {caps:Array Value} {R:Value→World→Prop} (as0:List Value) (hv:ev n ρ x=.func (.func f) #[] caps)
    (hargs:xs.toList.map (ev n ρ)=as0) (hf:∀ args w,(callFunc f args).run P w=.ok (.enter f args) w)
    (hc:Calls P f (as0++caps.toList).toArray w fun e w' =>∃ v,e=.returned v∧R v w' ∧Ext w w') (k:∀ v w',R v w' →Ext w w' →K (upd ρ d v) w'):
    OW P Q ⟨some d,.call ⟨.value x,xs,ts⟩,ty,pos,af,none⟩ n ρ w K:=
  o_call _ hv (by rw [← hargs];simp) hf hc k
end

def Ret (R:Value→World→Prop) (w:World) (e:Ending) (w' :World):Prop:=∃ v,e=.returned v∧R v w' ∧Ext w w'

section
variable {α : Type} [qV α]
def IsNew (w0 w:World) (v:Value) (l:List α):Prop:=∃ a c F,v=.slice a l.length c∧qV.rep w F [v] l∧(∀ b∈F,w0.heap.size≤b)∧F.Nodup∧zx w F
def OwnNew (w0 w:World) (e:TypeId) (v:Value) (l:List α):Prop:=
  ∃ xs F,w.ownsRow w0.heap.size e (qV.size α) v l.length xs∧reps w F xs l∧(∀ b∈F,w0.heap.size≤b)∧(∀ b∈F,v.ownBlock≠some b)∧F.Nodup∧zx w F
end

theorem start_lt {α:Type} [qV α] {w:World} {F:yLN} {v:Value} {x:α} (h:qV.rep w F [v] x):∀ b∈F,b < w.heap.size∧∀ i,jf [] i≠some b:=
  fun b hb=>⟨qV.lt h b hb,fun i=>by simp [jf]⟩
theorem start_at {w:World} {b off:Nat} {v:Value} {cs:List Value} (h:zM w b off (v :: cs)):∀ c∈[b],c < w.heap.size∧∀ i,jf [] i≠some c:=by
  intro c hc
  simp only [List.mem_singleton] at hc
  subst hc
  exact ⟨World.block_lt_of_cell? w _ (h 0 v rfl),fun i=>by simp [jf]⟩

theorem St.arg {α:Type} [qV α] {w:World} {Γ:List Fact} {F:yLN} {v:Value} {x:α} (H:St w w [] Γ) (h:qV.rep w F [v] x):St w w [] (isF false F v x :: Γ):=H.add _ ⟨h,by simp⟩ (start_lt h)
theorem St.argAt {w:World} {Γ:List Fact} {b off:Nat} {v:Value} {cs:List Value} (H:St w w [] Γ) (h:zM w b off (v :: cs)):St w w [] (atF b off (v :: cs) :: Γ):=H.add _ h (start_at h)

theorem ne_of_beq_false {α:Type} [BEq α] [LawfulBEq α] {a b:α} (h:(a == b)=false):a≠b:=by simpa using h
theorem xA {α:Type} [BEq α] [LawfulBEq α] {a b:α} (h:(a != b)=false):a=b:=by simpa using h
theorem xB {b:Bool} (h:(!b)=true):b=false:=by simpa using h
theorem xq {b:Bool} (h:(!b)=false):b=true:=by simpa using h

section
variable {W0 w w' : World} {ps : List Prv} {Γ : List Fact}
theorem St.add_new {α:Type} [qV α] (H:St W0 w ps Γ) (e:Ext w w') {F:yLN} {v:Value} {x:α} (h:qV.rep w' F [v] x) (hF:∀ b∈F,w.heap.size≤b) (hfr:zx w' F):St W0 w' ps (isF true F v x :: Γ):=
  (H.ext e).add _ ⟨h,fun _=>hfr⟩ fun b hb=>⟨qV.lt h b hb,fun i hi=>by have:=(yh H hi).2;have:=hF b hb;omega⟩
end
section
variable {P : Program} {Q : Exit → Act → World → Prop} {n : Nat} {ρ : Env} {W0 w : World} {ps : List Prv} {Γ : List Fact}
  {d:Nat} {ty:TypeId} {pos:String} {af:Array Edge} {K:Env→World→Prop}

theorem madeCells_one (z:Value) (n:Nat):(madeCells #[z] n).toList=List.replicate n z:=by
  apply List.ext_getElem
  · simp [madeCells]
  · intro i h1 h2
    simp [madeCells,Nat.mod_one]

theorem o_make1 [Dfr] {t e:TypeId} {x y:Operand} {z:Value} {by' :Nat} (H:St W0 w ps Γ) (hu:P.underlying t=some (.slice e)) (he:TI P e z 1 by') (hz:z.cells=#[z]) (nn:Nat)
    (hx:ev n ρ x=.int .i64 nn) (hy:ev n ρ y=.int .i64 nn) (hb:by' * nn≤281474976710656) (hm:nn≤9223372036854775807)
    (k:∀ b w',St W0 w' (.box b (List.replicate nn z) e :: ps) Γ→K (upd ρ d (.slice (some ⟨b,0,none⟩) nn nn)) w'):
    OW P Q ⟨some d,.makeSlice t x y,ty,pos,af,none⟩ n ρ w K:=by
  obtain ⟨i,hi,h1,h2,h3⟩:=info_parts he
  have hr:=run_make (P:=P) (w:=w) t e i z hu hi h1 .i64 .i64 nn nn qg qg (by rw [h3];omega) qg
  refine o_val (w' :=w.alloc (.cells (madeCells z.cells ((nn:Int).toNat * i.size)) e)) _ (by simp [execOp,hx,hy,hr]) (k w.heap.size _ ?_)
  have:=H.alloc (madeCells z.cells ((nn:Int).toNat * i.size)) e
  rw [hz,h2] at this
  rw [hz,h2]
  simpa [madeCells_one] using this

theorem madeCells_rep (z:Array Value) (sz:Nat) (hz:z.size=sz) (h0:0 < sz) (n:Nat):(madeCells z (n * sz)).toList=(List.replicate n z.toList).flatten:=by
  simp only [madeCells,Array.toList_map,Array.toList_range,hz]
  induction n with
  | zero=>simp
  | succ n ih=>
    rw [Nat.add_mul,Nat.one_mul,List.range_add,List.map_append,ih,List.replicate_succ',List.flatten_append]
    congr 1
    simp only [List.map_map,List.flatten_cons,List.flatten_nil,List.append_nil]
    apply List.ext_getElem
    · simp [hz]
    · intro i h1 h2
      simp only [List.length_map,List.length_range] at h1
      have:(n * sz+i) % sz=i:=by rw [Nat.mul_comm,Nat.mul_add_mod];exact Nat.mod_eq_of_lt h1
      simp [this,hz,h1]

theorem o_makeN [Dfr] {t e:TypeId} {x y:Operand} {z:Value} {sz by' :Nat} (H:St W0 w ps Γ) (hu:P.underlying t=some (.slice e)) (he:TI P e z sz by') (hz:z.cells.size=sz) (h0:0 < sz) (nn:Nat)
    (hx:ev n ρ x=.int .i64 nn) (hy:ev n ρ y=.int .i64 nn) (hb:by' * nn≤281474976710656) (hm:nn≤9223372036854775807)
    (k:∀ b w',St W0 w' (.box b (List.replicate nn z.cells.toList).flatten e :: ps) Γ→K (upd ρ d (.slice (some ⟨b,0,none⟩) nn nn)) w'):
    OW P Q ⟨some d,.makeSlice t x y,ty,pos,af,none⟩ n ρ w K:=by
  obtain ⟨i,hi,h1,h2,h3⟩:=info_parts he
  have hr:=run_make (P:=P) (w:=w) t e i z hu hi h1 .i64 .i64 nn nn qg qg (by rw [h3];omega) qg
  refine o_val (w' :=w.alloc (.cells (madeCells z.cells ((nn:Int).toNat * i.size)) e)) _ (by simp [execOp,hx,hy,hr]) (k w.heap.size _ ?_)
  have:=H.alloc (madeCells z.cells ((nn:Int).toNat * i.size)) e
  rw [h2] at this ⊢
  simpa [madeCells_rep z.cells sz hz h0] using this

theorem fill_set {xs:List Value} {z v:Value} {n k off:Nat} (hx:xs.length=k) (ho:off=k) (hk:k < n):(xs++List.replicate (n - k) z).set off v=(xs++[v])++List.replicate (n - (k+1)) z:=by
  subst ho hx
  rw [List.set_append_right _ _ (Nat.le_refl _),Nat.sub_self,show n - xs.length=(n - (xs.length+1))+1 by omega,List.replicate_succ,List.set_cons_zero]
  simp
theorem fill_put {xs zs vs:List Value} {n k s off:Nat} (hx:xs.length=k * s) (ho:off=k * s) (hz:zs.length=s) (hv:vs.length=s) (hk:k < n):
    (xs++(List.replicate (n - k) zs).flatten).take off++vs++(xs++(List.replicate (n - k) zs).flatten).drop (off+s)=(xs++vs)++(List.replicate (n - (k+1)) zs).flatten:=by
  subst ho
  rw [← hx,List.take_left,List.drop_append,List.drop_of_length_le qg,List.nil_append,show n - k=(n - (k+1))+1 by omega,List.replicate_succ,List.flatten_cons,
    show xs.length+s - xs.length=zs.length by omega,List.drop_left]
theorem fill_room {n k s:Nat} (hk:k < n):k * s+s≤k * s+((List.replicate (n - k) (List.replicate s ())).flatten).length:=by
  rw [show n - k=(n - (k+1))+1 by omega,List.replicate_succ,List.flatten_cons,List.length_append]
  simp
theorem fill_end1 {xs:List Value} {z:Value} {n k:Nat} (h:n≤k):xs++List.replicate (n - k) z=xs:=by
  rw [Nat.sub_eq_zero_of_le h];simp
theorem fill_endN {xs zs:List Value} {n k:Nat} (h:n≤k):xs++(List.replicate (n - k) zs).flatten=xs:=by
  rw [Nat.sub_eq_zero_of_le h];simp

theorem jH [Dfr] {t e:TypeId} (H:St W0 w ps Γ) (hu:P.underlying t=some (.slice e)) {z:Value} {sz by' :Nat} (he:TI P e z sz by')
    (k:∀ b w',St W0 w' (.box b [] e :: ps) Γ→K (upd ρ d (.slice (some ⟨b,0,none⟩) 0 0)) w'):
    OW P Q ⟨some d,.buildSlice t 0 #[],ty,pos,af,none⟩ n ρ w K:=
  o_val (w' :=w.alloc (.cells #[] e)) _ (by simp [execOp,Instr.buildSlice,run_underlying hu,he.sizeOf,Instr.fill,newRow,Array.range_zero']) (k _ _ (H.alloc _ _))

theorem o_build1 [Dfr] {t e:TypeId} {x:Operand} (H:St W0 w ps Γ) (hu:P.underlying t=some (.slice e)) {z:Value} {sz by' :Nat} (he:TI P e z sz by') (h0:0 < sz) (hs:sz≤16777216) (v:Value)
    (hx:ev n ρ x=v) (hv:v.cells.size=sz) (k:∀ b w',St W0 w' (.box b v.cells.toList e :: ps) Γ→K (upd ρ d (.slice (some ⟨b,0,none⟩) 1 1)) w'):
    OW P Q ⟨some d,.buildSlice t 1 #[(0,x)],ty,pos,af,none⟩ n ρ w K:=by
  obtain ⟨i,hi,h1,h2,h3⟩:=info_parts he
  have hr:=run_buildSlice (P:=P) w t e 1 #[(0,v)] v.cells i z hu hi h1 (by rw [h2];omega) (by rw [h2];omega) (by
    have:=Great.fill_whole h0 [v] (madeCells z.cells (1 * sz)) (by simpa using hv) (by simp [madeCells])
    rw [h2]
    simpa [madeCells] using this)
  exact o_val (w' :=w.alloc (.cells v.cells e)) _ (by simp [execOp,hx,hr]) (k _ _ (H.alloc _ _))

end

section
variable {P : Program} {Q : Exit → Act → World → Prop} {n : Nat} {ρ : Env} {W0 w : World} {ps : List Prv} {Γ : List Fact}
  {d:Nat} {ty:TypeId} {pos:String} {af:Array Edge} {K:Env→World→Prop}

theorem St.nilRow (H:St W0 w ps Γ) (e:TypeId) (sz:Nat):St W0 w (.row (.slice none 0 0) e sz 0 [] :: ps) Γ:=
  H.own (Below.refl _ _) _ (World.ownsRow_nil _ _ _ _) (by intro b hb;simp [Prv.blk,Value.ownBlock] at hb)

theorem St.turn (H:St W0 w ps Γ) (i:Nat) {p p' :Prv} (hp:ps[i]? =some p) (hok:p.ok W0.heap.size w→p'.ok W0.heap.size w) (hb:p'.blk=p.blk):St W0 w (ps.set i p') Γ:=
  H.change i hp rfl rfl rfl (Nat.le_refl _) (fun _ _ _=>rfl) (hok (H.has _ (List.mem_of_getElem? hp))) (Or.inl hb)

theorem St.boxRow (H:St W0 w ps Γ) (i:Nat) {b:Nat} {cs:List Value} {e:TypeId} (hp:ps[i]? =some (.box b cs e)) (sz nn:Nat) (hl:cs.length=nn * sz) (hm:nn≤maxLen):
    St W0 w (ps.set i (.row (.slice (some ⟨b,0,none⟩) nn nn) e sz nn cs)) Γ:=
  H.turn i hp (fun h=>⟨hl,Or.inr ⟨b,nn,cs.toArray,rfl,h.1,h.2,Nat.le_refl _,hm,by simpa using hl,by rw [← hl];simp⟩⟩) rfl

theorem o_append [Dfr] {t e:TypeId} {s x:Operand} {v z:Value} {sz by' nn m c b:Nat} {xs cs:List Value} {tb:TypeId} (H:St W0 w ps Γ) (i:Nat) (hp:ps[i]? =some (.row v e sz nn xs)) (j:Nat) (hq:ps[j]? =some (.box b cs tb))
    (hu:P.underlying t=some (.slice e)) (he:TI P e z sz by') (hzs:z.cells.size=sz) (h0:0 < sz) (hs:ev n ρ s=v) (hx:ev n ρ x=.slice (some ⟨b,0,none⟩) m c) (hl:cs.length=m * sz)
    (h1:∀ u∈cs,u.oneCell' =true) (hm:nn+m≤maxLen) (hb:(nn+m) * by' ≤140737488355328)
    (k:∀ v' w',St W0 w' (ps.set i (.row v' e sz (nn+m) (xs++cs))) Γ→K (upd ρ d v') w'):
    OW P Q ⟨some d,.call ⟨.builtin .append,#[s,x],#[t,t]⟩,ty,pos,af,none⟩ n ρ w K:=by
  obtain ⟨i',hi,hz1,hz2,hz3⟩:=info_parts he
  have hown:w.ownsRow W0.heap.size e sz v nn xs:=H.has _ (List.mem_of_getElem? hp)
  obtain ⟨v',w',hr,ho,hg,_,hbl⟩:=run_append_own_at (P:=P) w W0.heap.size t ty e i' z sz by' hu hi hz1 hz2 hz3 hzs h0 v nn xs hown ⟨b,0,none⟩ m c cs hl
    (fun k' u hk=>by rw [Addr.add_mid];simpa using H.cells j hq k' u hk) h1 hm hb H.base.size
  refine o_val v' (by simp [execOp,resolve,invoke,builtin,hs,hx,hr]) (k v' w' ?_)
  refine H.change i hp hg.os hg.tape hg.output hg.size (fun c hc hne=>hg.block c hc (fun e' =>hne e'.symm)) ho ?_
  rcases hbl with h | h
  · exact Or.inl h
  · exact Or.inr (Or.inr ⟨_,h,Nat.le_refl _⟩)
end

section
variable {P : Program} {Q : Exit → Act → World → Prop} {n : Nat} {ρ : Env} {W0 w : World} {ps : List Prv} {Γ : List Fact}
  {d:Nat} {ty:TypeId} {pos:String} {af:Array Edge} {K:Env→World→Prop}

theorem run_append_none {t ty e:TypeId} {i:TypeInfo} (hu:P.underlying t=some (.slice e)) (hi:P.info? e=some i) {b:yOA} {n c c' :Nat} (hn:n≤c):
    (Builtin.append_ #[t,t] ty #[.slice b n c,.slice none 0 c']).run P w=.ok (.slice b n c) w:=by
  cases b <;> simp [Builtin.append_,run_underlying hu,sizeOf,typeInfo,hi,Builtin.lenOf,Builtin.firstCells,hn,loadCells,loadCellsFrom,storeCells]

theorem o_appendF [Dfr] {α:Type} [qV α] {t e:TypeId} {s x:Operand} {v z:Value} {by' nn m c:Nat} {a:yOA} {xs:List Value} {fr:Bool} {F:yLN} {l:List α} (H:St W0 w ps Γ) (i:Nat) (hp:ps[i]? =some (.row v e (qV.size α) nn xs))
    (j:Nat) (hf:Γ[j]? =some (isF fr F (.slice a m c) l)) (hu:P.underlying t=some (.slice e)) (he:TI P e z (qV.size α) by') (hzs:z.cells.size=qV.size α) (h0:0 < qV.size α) (hs:ev n ρ s=v)
    (hx:ev n ρ x=.slice a m c) (hm:nn+m≤maxLen) (hb:(nn+m) * by' ≤140737488355328)
    (k:∀ v' w' vs G,St W0 w' (ps.set i (.row v' e (qV.size α) (nn+m) (xs++vs))) (xW fr G vs l :: Γ)→(∀ b∈G,b∈F)→K (upd ρ d v') w'):
    OW P Q ⟨some d,.call ⟨.builtin .append,#[s,x],#[t,t]⟩,ty,pos,af,none⟩ n ρ w K:=by
  obtain ⟨i',hi,hz1,hz2,hz3⟩:=info_parts he
  have hown:w.ownsRow W0.heap.size e (qV.size α) v nn xs:=H.has _ (List.mem_of_getElem? hp)
  obtain ⟨⟨a',cap,hc,hl,h⟩,hfr⟩:=H.get j hf
  simp only [List.cons.injEq,Value.slice.injEq,and_true] at hc
  obtain ⟨rfl,rfl,rfl⟩:=hc
  have hfF:=(H.facts _ (List.mem_of_getElem? hf)).2
  rcases a with _ | ⟨b,off,sp⟩
  · -- nothing to append
    rcases h with ⟨rfl,rfl⟩ | ⟨b,off,F',vs,ha,_⟩
    · have hv:∃ b0 c0,v=.slice b0 nn c0∧nn≤c0:=by
        rcases hown.2 with ⟨rfl,rfl⟩ | ⟨g,cap',cur,rfl,_,_,hnc,_⟩
        · exact ⟨none,0,rfl,Nat.le_refl _⟩
        · exact ⟨_,_,rfl,hnc⟩
      obtain ⟨b0,c0,rfl,hnc⟩:=hv
      refine o_val (.slice b0 nn c0) (by simp [execOp,resolve,invoke,builtin,hs,hx,run_append_none hu hi hnc]) (k _ w [] [] ?_ qo)
      simp only [List.append_nil,List.length_nil,Nat.add_zero]
      have:ps.set i (.row (.slice b0 nn c0) e (qV.size α) nn xs)=ps:=by
        apply List.ext_getElem?
        intro j'
        by_cases hj:i=j'
        · subst hj
          rw [hp]
          have hi' :i < ps.length:=(List.getElem?_eq_some_iff.1 hp).1
          rw [List.getElem?_set_self hi']
        · rw [List.getElem?_set_ne hj]
      rw [this]
      exact H.add _ ⟨⟨rfl,rfl⟩,fun _=>zx.nil _⟩ (by simp [xW])
    · cases ha
  · rcases h with ⟨rfl,rfl⟩ | ⟨b',off',F',vs,ha,hF,hbl,hr,hcells⟩
    · obtain ⟨v',w',hr,ho,hg,_,hbl⟩:=run_append_own_at (P:=P) w W0.heap.size t ty e i' z _ by' hu hi hz1 hz2 hz3 hzs h0 v nn xs hown ⟨b,off,sp⟩ 0 c [] qo qo qo hm hb H.base.size
      refine o_val v' (by simp [execOp,resolve,invoke,builtin,hs,hx,hr]) (k v' w' [] [] ?_ qo)
      have H' :=H.change (p' :=.row v' e (qV.size α) (nn+0) (xs++[])) i hp hg.os hg.tape hg.output hg.size (fun c hc hne=>hg.block c hc (fun e' =>hne e'.symm)) ho (by
        rcases hbl with h | h
        · exact Or.inl h
        · exact Or.inr (Or.inr ⟨_,h,Nat.le_refl _⟩))
      exact H'.add _ ⟨⟨rfl,rfl⟩,fun _=>zx.nil _⟩ (by simp [xW])
    · simp only [Option.some.injEq,Addr.mk.injEq] at ha
      obtain ⟨rfl,rfl,rfl⟩:=ha
      obtain ⟨v',w',hrun,ho,hg,_,hbl'⟩:=run_append_own_at (P:=P) w W0.heap.size t ty e i' z _ by' hu hi hz1 hz2 hz3 hzs h0 v nn xs hown ⟨b,off,none⟩ l.length c vs (reps_len hr)
        (fun k' u hk=>by rw [Addr.add_mid];exact hcells k' u hk) (reps_cells hr) hm hb H.base.size
      refine o_val v' (by simp [execOp,resolve,invoke,builtin,hs,hx,hrun]) (k v' w' vs F' ?_ (by rw [hF];exact fun b hb=>List.mem_cons_of_mem _ hb))
      have H0:St W0 w ps (xW fr F' vs l :: Γ):=H.add _ ⟨hr,fun e=>(hfr e).sub (by rw [hF];exact fun b hb=>List.mem_cons_of_mem _ hb)⟩ fun b hb=>hfF b (by show b∈F;rw [hF];exact List.mem_cons_of_mem _ hb)
      exact H0.change i hp hg.os hg.tape hg.output hg.size (fun c hc hne=>hg.block c hc (fun e' =>hne e'.symm)) ho (by
        rcases hbl' with h | h
        · exact Or.inl h
        · exact Or.inr (Or.inr ⟨_,h,Nat.le_refl _⟩))

theorem o_appendInts [Dfr] {t e:TypeId} {s x:Operand} {v z:Value} {by' nn m c:Nat} {a:yOA} {xs:List Value} {fr:Bool} {F:yLN} {l:yLI} (H:St W0 w ps Γ) (i:Nat) (hp:ps[i]? =some (.row v e 1 nn xs))
    (j:Nat) (hf:Γ[j]? =some (isF fr F (.slice a m c) l)) (hu:P.underlying t=some (.slice e)) (he:TI P e z 1 by') (hzs:z.cells.size=1) (hs:ev n ρ s=v)
    (hx:ev n ρ x=.slice a m c) (hm:nn+m≤maxLen) (hb:(nn+m) * by' ≤140737488355328)
    (k:∀ v' w',St W0 w' (ps.set i (.row v' e 1 (nn+m) (xs++l.map (Value.int .i64)))) Γ→K (upd ρ d v') w'):
    OW P Q ⟨some d,.call ⟨.builtin .append,#[s,x],#[t,t]⟩,ty,pos,af,none⟩ n ρ w K:=
  o_appendF (α:=Int) H i hp j hf hu he hzs qj hs hx hm hb fun v' w' vs G H' _=>by
    obtain ⟨_,rfl⟩:=reps_ints (H'.get 0 rfl).1
    exact k v' w' (H'.sub _ fun f hf=>List.mem_cons_of_mem _ hf)

theorem run_eqB {P:Program} {t:TypeId} (hu:P.underlying t=some .bool) (a b:Bool) (w:World):(Op.equal t (.bool a) (.bool b)).run P w=.ok (a == b) w:=by
  have h:∀ d:Nat,(Op.equalIn (d+1) t (.bool a) (.bool b)).run P w=.ok (a == b) w:=fun d=>by simp [Op.equalIn,run_underlying hu]
  simp [Op.equal,Op.maxDepth,h 9999]
theorem o_eqnil [Dfr] {x:Operand} {t u e:TypeId} (hu:P.underlying t=some (.slice e)) (a:yOA) (m c:Nat) (hx:ev n ρ x=.slice a m c) (k:K (upd ρ d (.bool a.isNone)) w):
    OW P Q ⟨some d,.binOp .eql t x (.const (.slice none 0 0)) u,ty,pos,af,none⟩ n ρ w K:=
  o_val _ (by
    have hc:ev n ρ (.const (.slice none 0 0))=.slice none 0 0:=rfl
    simp [execOp,hx,hc,eqGuard,Lib.run_eql_slice_nil w t e a m c 0 0 hu]) k
end

section
variable {W0 w : World} {ps : List Prv} {Γ : List Fact}

theorem St.rowRep {α:Type} [qV α] (H:St W0 w ps Γ) (i:Nat) {v:Value} {e:TypeId} {nn:Nat} {xs:List Value} (hp:ps[i]? =some (.row v e (qV.size α) nn xs)) {F:yLN} {l:List α}
    (h:reps w F xs l) (hn:nn=l.length) (hF:∀ b∈F,W0.heap.size≤b):
    ∃ a c G,v=.slice a l.length c∧qV.rep w G [v] l∧∀ b∈G,W0.heap.size≤b:=by
  subst hn
  obtain ⟨hl,ho⟩:=(H.has _ (List.mem_of_getElem? hp):w.ownsRow W0.heap.size e (qV.size α) v l.length xs)
  rcases ho with ⟨rfl,h0⟩ | ⟨g,cap,cur,rfl,hb,hg,hnc,hcm,hcs,htake⟩
  · have:l=[]:=List.eq_nil_of_length_eq_zero h0
    subst this
    exact ⟨none,0,[],rfl,⟨none,0,rfl,by simp,Or.inl ⟨rfl,rfl⟩⟩,by simp⟩
  · refine ⟨_,cap,(if l=[] then [] else g :: F),rfl,⟨some ⟨g,0,none⟩,cap,rfl,by unfold maxLen at hcm;omega,?_⟩,?_⟩
    · by_cases h0:l=[]
      · exact Or.inl ⟨h0,by simp [h0]⟩
      · refine Or.inr ⟨g,0,F,xs,rfl,by simp [h0],(Array.getElem?_eq_some_iff.1 hg).1,h,?_⟩
        intro j u hj
        rw [Nat.zero_add,World.cell?,hg]
        rw [← htake,List.getElem?_take] at hj
        split at hj
        · simpa using hj
        · cases hj
    · intro b hbm
      split at hbm
      · simp at hbm
      · rcases List.mem_cons.1 hbm with rfl | hbm
        · exact hb
        · exact hF b hbm

theorem St.rowInts (H:St W0 w ps Γ) (i:Nat) {v:Value} {e:TypeId} {nn:Nat} {l:yLI} (hp:ps[i]? =some (.row v e 1 nn (l.map (Value.int .i64)))) (hn:nn=l.length):
    ∃ a c G,v=.slice a l.length c∧qV.rep w G [v] l∧∀ b∈G,W0.heap.size≤b:=
  H.rowRep (α:=Int) i hp (reps_of_ints w l) hn qo

theorem St.newInts (H:St W0 w ps Γ) (i:Nat) {v:Value} {e:TypeId} {nn:Nat} {l:yLI} (hp:ps[i]? =some (.row v e 1 nn (l.map (Value.int .i64)))) (hn:nn=l.length):OwnNew W0 w e v l:=by
  subst hn
  exact ⟨_,[],H.has _ (List.mem_of_getElem? hp),reps_of_ints w l,by simp,by simp,by simp,zx.nil _⟩

theorem St.newBools (H:St W0 w ps Γ) (i:Nat) {v:Value} {e:TypeId} {nn:Nat} {l:List Bool} (hp:ps[i]? =some (.row v e 1 nn (l.map Value.bool))) (hn:nn=l.length):OwnNew W0 w e v l:=by
  subst hn
  refine ⟨_,[],H.has _ (List.mem_of_getElem? hp),?_,by simp,by simp,by simp,zx.nil _⟩
  clear hp
  induction l with
  | nil=>exact ⟨rfl,rfl⟩
  | cons x l ih=>exact ⟨[],[],[.bool x],l.map Value.bool,rfl,rfl,⟨rfl,rfl⟩,ih⟩

theorem St.newRow {α:Type} [qV α] (H:St W0 w ps Γ) (i:Nat) {v:Value} {e:TypeId} {nn:Nat} {xs:List Value} (hp:ps[i]? =some (.row v e (qV.size α) nn xs)) (j:Nat) {F:yLN} {l:List α}
    (hf:Γ[j]? =some (xW true F xs l)) (hn:nn=l.length) (hF:∀ b∈F,W0.heap.size≤b) (hd:F.Nodup):OwnNew W0 w e v l:=by
  subst hn
  refine ⟨_,F,H.has _ (List.mem_of_getElem? hp),(H.get j hf).1,hF,fun b hb he=>((H.facts _ (List.mem_of_getElem? hf)).2 b hb).2 i ?_,hd,(H.get j hf).2 rfl⟩
  simpa [jf,hp,Prv.blk] using he

theorem St.addr {α:Type} [qV α] (H:St W0 w ps Γ) (i:Nat) {fr:Bool} {F:yLN} {a:yOA} {m c:Nat} {l:List α} (hf:Γ[i]? =some (isF fr F (.slice a m c) l)) (hl:0 < l.length):∃ b o,a=some ⟨b,o,none⟩:=by
  obtain ⟨⟨a',cap,hc,_,h⟩,_⟩:=H.get i hf
  simp only [List.cons.injEq,Value.slice.injEq,and_true] at hc
  obtain ⟨rfl,rfl,rfl⟩:=hc
  rcases h with ⟨rfl,_⟩ | ⟨b,off,F',vs,rfl,_⟩
  · simp at hl
  · exact ⟨b,off,rfl⟩

theorem St.elem {α:Type} [qV α] [Inhabited α] (H:St W0 w ps Γ) (i:Nat) {fr:Bool} {F:yLN} {b o m c:Nat} {l:List α} (hf:Γ[i]? =some (isF fr F (.slice (some ⟨b,o,none⟩) m c) l)) (iv:Int) (h0:0≤iv) (h1:iv < l.length):
    ∃ cs Fk,zM w b (o+iv.toNat * qV.size α) cs∧qV.rep w Fk cs (l[iv.toNat]!)∧∀ x∈b :: Fk,x∈F:=by
  obtain ⟨⟨a',cap,hc,hl,h⟩,_⟩:=H.get i hf
  simp only [List.cons.injEq,Value.slice.injEq,and_true] at hc
  obtain ⟨rfl,rfl,rfl⟩:=hc
  have hk:iv.toNat < l.length:=by omega
  rcases h with ⟨rfl,_⟩ | ⟨b',off,F',vs,ha,hF,hb,hr,hcells⟩
  · simp at hk
  · simp only [Option.some.injEq,Addr.mk.injEq,and_true] at ha
    obtain ⟨rfl,rfl⟩:=ha
    obtain ⟨F1,Fk,F2,v1,cs,v2,hFF,hvs,hv1,hcs,hrep,_,_⟩:=reps_get hr _ hk
    refine ⟨cs,Fk,?_,by rw [getElem!_pos l iv.toNat hk];exact hrep,?_⟩
    · rw [hvs] at hcells
      rw [← hv1]
      exact cells_mid hcells
    · intro x hx
      rw [hF,hFF]
      rcases List.mem_cons.1 hx with rfl | hx
      · exact List.mem_cons_self ..
      · exact List.mem_cons_of_mem _ (List.mem_append_left _ (List.mem_append_right _ hx))

theorem St.vY (H:St W0 w ps Γ) (i:Nat) {fr:Bool} {F:yLN} {b o m c:Nat} {l:yLI} (hf:Γ[i]? =some (isF fr F (.slice (some ⟨b,o,none⟩) m c) l)) (iv:Int) (h0:0≤iv) (h1:iv < l.length):
    w.cell? ⟨b,o+iv.toNat * 1,none⟩=some (.int .i64 (l[iv.toNat]!)):=by
  obtain ⟨cs,Fk,h2,h3,_⟩:=H.elem i hf iv h0 h1
  obtain ⟨_,rfl⟩:Fk=[]∧cs=[.int .i64 (l[iv.toNat]!)]:=h3
  exact h2 0 _ rfl
theorem St.Qn (H:St W0 w ps Γ) (i:Nat) {fr:Bool} {F:yLN} {b o m c:Nat} {l:List Bool} (hf:Γ[i]? =some (isF fr F (.slice (some ⟨b,o,none⟩) m c) l)) (iv:Int) (h0:0≤iv) (h1:iv < l.length):
    w.cell? ⟨b,o+iv.toNat * 1,none⟩=some (.bool (l[iv.toNat]!)):=by
  obtain ⟨cs,Fk,h2,h3,_⟩:=H.elem i hf iv h0 h1
  obtain ⟨_,rfl⟩:Fk=[]∧cs=[.bool (l[iv.toNat]!)]:=h3
  exact h2 0 _ rfl

theorem St.sel (H:St W0 w ps Γ) (ps' :List Prv) (hps:ps'.Sublist ps) (Γ' :List Fact) (hΓ:∀ f∈Γ',f∈Γ):St W0 w ps' Γ' :=by
  have hpair:ps.Pairwise fun p q=>∀ b,p.blk=some b→q.blk≠some b:=by
    rw [List.pairwise_iff_getElem]
    intro i j hi hj hij b h1 h2
    have:=H.dist i j b (by simp [jf,hi,h1]) (by simp [jf,hj,h2])
    omega
  have hpair' :=hpair.sublist hps
  refine ⟨H.base,fun p hp=>H.has p (hps.subset hp),?_,fun f hf=>⟨(H.facts f (hΓ f hf)).1,fun b hb=>⟨((H.facts f (hΓ f hf)).2 b hb).1,fun i hi=>?_⟩⟩⟩
  · intro i j b hi hj
    unfold jf at hi hj
    rw [List.pairwise_iff_getElem] at hpair'
    cases h1:ps'[i]? with
    | none=>simp [h1] at hi
    | some p=>
      cases h2:ps'[j]? with
      | none=>simp [h2] at hj
      | some q=>
        obtain ⟨hi',e1⟩:=List.getElem?_eq_some_iff.1 h1
        obtain ⟨hj',e2⟩:=List.getElem?_eq_some_iff.1 h2
        simp only [h1,Option.bind_some] at hi
        simp only [h2,Option.bind_some] at hj
        rcases Nat.lt_trichotomy i j with h | h | h
        · exact absurd (by rw [e2];exact hj) (hpair' i j hi' hj' h b (by rw [e1];exact hi))
        · exact h
        · exact absurd (by rw [e1];exact hi) (hpair' j i hj' hi' h b (by rw [e2];exact hj))
  · unfold jf at hi
    cases h1:ps'[i]? with
    | none=>simp [h1] at hi
    | some p=>
      simp only [h1,Option.bind_some] at hi
      obtain ⟨j,hj⟩:=List.getElem?_of_mem (hps.subset (List.mem_of_getElem? h1))
      exact ((H.facts f (hΓ f hf)).2 b hb).2 j (by simp [jf,hj,hi])
end

section
variable {W0 w w' : World} {ps : List Prv} {Γ : List Fact}

theorem OwnNew.isNew {α:Type} [qV α] {w0 w:World} {e:TypeId} {v:Value} {l:List α} (h:OwnNew w0 w e v l):IsNew w0 w v l:=by
  obtain ⟨xs,F,ho,hr,hF,hd,hnd,hfr⟩:=h
  obtain ⟨hl,ho'⟩:=ho
  rcases ho' with ⟨rfl,h0⟩ | ⟨g,cap,cur,rfl,hb,hg,hnc,hcm,hcs,htake⟩
  · have:l=[]:=List.eq_nil_of_length_eq_zero h0
    subst this
    exact ⟨none,0,[],rfl,⟨none,0,rfl,by simp,Or.inl ⟨rfl,rfl⟩⟩,by simp,by simp,zx.nil _⟩
  · refine ⟨_,cap,(if l=[] then [] else g :: F),rfl,⟨some ⟨g,0,none⟩,cap,rfl,by unfold maxLen at hcm;omega,?_⟩,?_,?_,?_⟩
    · by_cases h0:l=[]
      · exact Or.inl ⟨h0,by simp [h0]⟩
      · refine Or.inr ⟨g,0,F,xs,rfl,by simp [h0],(Array.getElem?_eq_some_iff.1 hg).1,hr,?_⟩
        intro j u hj
        rw [Nat.zero_add,World.cell?,hg]
        rw [← htake,List.getElem?_take] at hj
        split at hj
        · simpa using hj
        · cases hj
    · intro b hbm
      split at hbm
      · simp at hbm
      · rcases List.mem_cons.1 hbm with rfl | hbm
        · exact hb
        · exact hF b hbm
    · split
      · simp
      · exact List.nodup_cons.2 ⟨fun hg' =>hd g hg' rfl,hnd⟩
    · split
      · exact zx.nil _
      · intro b hb'
        rcases List.mem_cons.1 hb' with rfl | hb'
        · exact ⟨_,_,hg⟩
        · exact hfr b hb'

theorem St.add_is {α:Type} [qV α] (H:St W0 w ps Γ) (e:Ext w w') {v:Value} {l:List α} (h:IsNew w w' v l):
    ∃ a c F,v=.slice a l.length c∧((∀ b∈F,w.heap.size≤b)∧F.Nodup)∧St W0 w' ps (isF true F (.slice a l.length c) l :: Γ):=by
  obtain ⟨a,c,F,rfl,hr,hF,hd,hfr⟩:=h
  exact ⟨a,c,F,rfl,⟨hF,hd⟩,H.add_new e hr hF hfr⟩

theorem ownsRow_up {w:World} {B B' :Nat} {e:TypeId} {sz n:Nat} {v:Value} {xs:List Value} (h:w.ownsRow B e sz v n xs) (hb:B' ≤B):w.ownsRow B' e sz v n xs:=by
  refine ⟨h.1,?_⟩
  rcases h.2 with h | ⟨g,cap,cur,h1,h2,r⟩
  · exact Or.inl h
  · exact Or.inr ⟨g,cap,cur,h1,Nat.le_trans hb h2,r⟩

theorem St.zg (H:St W0 w ps Γ) (e:Ext w w') {v:Value} {t:TypeId} {l:yLI} (h:OwnNew w w' t v l):
    St W0 w' (.row v t 1 l.length (l.map (Value.int .i64)) :: ps) Γ:=by
  obtain ⟨xs,F,ho,hr,hF,_⟩:=h
  obtain ⟨_,rfl⟩:=reps_ints hr
  exact H.own e (.row v t _ l.length _) (ownsRow_up ho H.base.size) fun b hb=>(World.ownsRow.lt ho b hb).1
end

def AllOf {α:Type} (p:α→Prop):List α→Prop
  | []=>True
  | x :: l=>p x∧AllOf p l
theorem all_of {α:Type} {p:α→Prop}:∀ {l:List α},AllOf p l→∀ x∈l,p x
  | [],_,x,h=>by cases h
  | y :: l,h,x,hx=>by
    rcases List.mem_cons.1 hx with rfl | hx
    · exact h.1
    · exact all_of h.2 x hx
theorem nodup_snoc {F G:yLN} {n:Nat} (h:F.Nodup) (k:G.Nodup) (hF:∀ b∈F,b < n) (hG:∀ b∈G,n≤b):(F++G).Nodup:=
  List.nodup_append.2 ⟨h,k,fun a ha b hb e=>by have:=hF a ha;have:=hG b hb;omega⟩
theorem St.repsLt {α:Type} [qV α] {W0 w:World} {ps:List Prv} {Γ:List Fact} (H:St W0 w ps Γ) (i:Nat) {fr:Bool} {F:yLN} {xs:List Value} {l:List α} (hf:Γ[i]? =some (xW fr F xs l)):∀ b∈F,b < w.heap.size:=
  fun b hb=>((H.facts _ (List.mem_of_getElem? hf)).2 b hb).1
theorem all_app {F G:yLN} {p:Nat→Prop} (h:∀ b∈F,p b) (k:∀ b∈G,p b):∀ b∈F++G,p b:=fun b hb=>by
  rcases List.mem_append.1 hb with h' | h'
  · exact h b h'
  · exact k b h'
theorem St.isLt {α:Type} [qV α] {W0 w:World} {ps:List Prv} {Γ:List Fact} (H:St W0 w ps Γ) (i:Nat) {fr:Bool} {F:yLN} {v:Value} {l:α} (hf:Γ[i]? =some (isF fr F v l)):∀ b∈F,b < w.heap.size:=
  fun b hb=>((H.facts _ (List.mem_of_getElem? hf)).2 b hb).1
theorem fresh_snoc {F G:yLN} {n:Nat} (h:∀ b∈F,n≤b) (k:∀ b∈G,n≤b):∀ b∈F++G,n≤b:=fun b hb=>by
  rcases List.mem_append.1 hb with h' | h'
  · exact h b h'
  · exact k b h'

section
variable {W0 w : World} {ps : List Prv} {Γ : List Fact}
theorem St.jC {α:Type} [qV α] (H:St W0 w ps Γ):St W0 w ps (xW true [] [] ([]:List α) :: Γ):=H.add _ ⟨⟨rfl,rfl⟩,fun _=>zx.nil _⟩ (by simp [xW])
theorem St.jy {α:Type} [qV α] (H:St W0 w ps Γ) (i:Nat) {fr:Bool} {F:yLN} {xs:List Value} {l:List α} (hf:Γ[i]? =some (xW fr F xs l)) (j:Nat) {G:yLN} {v:Value} {x:α} (hg:Γ[j]? =some (isF fr G v x)):
    St W0 w ps (xW fr (F++G) (xs++[v]) (l++[x]) :: Γ):=by
  refine H.add _ ⟨yO (H.get i hf).1 (reps_one (H.get j hg).1),fun e=>((H.get i hf).2 e).app ((H.get j hg).2 e)⟩ fun b hb=>?_
  rcases List.mem_append.1 hb with h | h
  · exact (H.facts _ (List.mem_of_getElem? hf)).2 b h
  · exact (H.facts _ (List.mem_of_getElem? hg)).2 b h
end

theorem ownNew_nil {α:Type} [qV α] (w0 w:World) (e:TypeId):OwnNew w0 w e (.slice none 0 0) ([]:List α):=
  ⟨[],[],World.ownsRow_nil _ _ _ _,⟨rfl,rfl⟩,by simp,by simp,by simp,zx.nil _⟩
theorem St.nilOf {α:Type} [qV α] {W0 w:World} {ps:List Prv} {Γ:List Fact} (H:St W0 w ps Γ) (i:Nat) {fr:Bool} {F:yLN} {a:yOA} {m c:Nat} {l:List α} (hf:Γ[i]? =some (isF fr F (.slice a m c) l)) (ha:a.isNone=true):l=[]:=by
  obtain ⟨⟨a',cap,hc,_,h⟩,_⟩:=H.get i hf
  simp only [List.cons.injEq,Value.slice.injEq,and_true] at hc
  obtain ⟨rfl,rfl,rfl⟩:=hc
  rcases h with ⟨rfl,_⟩ | ⟨b,off,F',vs,rfl,_⟩
  · rfl
  · simp at ha

section
variable {P : Program} {n : Nat} {ρ : Env} {W0 w : World} {ps : List Prv} {Γ : List Fact}
theorem retC {fn:Func} {R:Ending→World→Prop} {t T b:Nat} {cs:List Value} {tb:TypeId} (H:St W0 w ps Γ) (i:Nat) (hp:ps[i]? =some (.box b cs tb)) (hr:fn.results=#[.cell t T])
    (ha:∀ w,(isAgg T).run P w=.ok true w) (hs:∀ w,(Go.sizeOf T).run P w=.ok cs.length w) (hv:ev n ρ (.tmp t)=.pointer (some ⟨b,0,none⟩)) (h:R (.returned (.agg cs.toArray)) w):bodyPost P fn R .ret (mk n ρ) w:=by
  have hl:=run_loadCells_list (P:=P) w ⟨b,0,none⟩ cs (fun j v hv=>by rw [Addr.add_mid];exact H.cells i hp j v hv)
  have e:=congrFun (yX n ρ) (.tmp t)
  simp only [Act.eval,Array.getD_eq_getD_getElem?] at e
  rw [hv] at e
  exact bodyPost_ret (v:=.agg cs.toArray) (by simp [results,hr,e,asAddr,loadVar,ha,hs,hl]) rfl h
theorem retC2 {fn:Func} {R:Ending→World→Prop} {t u T b:Nat} {cs:List Value} {tb:TypeId} (H:St W0 w ps Γ) (i:Nat) (hp:ps[i]? =some (.box b cs tb)) (x:Value) (hr:fn.results=#[.cell t T,.tmp u])
    (ha:∀ w,(isAgg T).run P w=.ok true w) (hs:∀ w,(Go.sizeOf T).run P w=.ok cs.length w) (hv:ev n ρ (.tmp t)=.pointer (some ⟨b,0,none⟩)) (hx:ev n ρ (.tmp u)=x)
    (h:R (.returned (.tuple #[.agg cs.toArray,x])) w):bodyPost P fn R .ret (mk n ρ) w:=by
  have hl:=run_loadCells_list (P:=P) w ⟨b,0,none⟩ cs (fun j v hv=>by rw [Addr.add_mid];exact H.cells i hp j v hv)
  have e:=congrFun (yX n ρ) (.tmp t)
  have e' :=congrFun (yX n ρ) (.tmp u)
  simp only [Act.eval,Array.getD_eq_getD_getElem?] at e e'
  rw [hv] at e
  rw [hx] at e'
  exact bodyPost_ret (v:=.tuple #[.agg cs.toArray,x]) (by simp [results,hr,e,e',asAddr,loadVar,ha,hs,hl]) rfl h
end

section
variable {P : Program} {Q : Exit → Act → World → Prop} {n : Nat} {ρ : Env} {w : World} {S : World → Prop} {l : List Oper} {fuel : Nat} {listed : Array Bool}

@[irreducible] def RW [Dfr] (P : Program) (l : List Oper) (Q : Exit → Act → World → Prop) (S : World → Prop) (n fuel : Nat) (listed : Array Bool) (ρ : Env) (w : World) : Prop :=
  wpAnyH P .any l.toArray Q S fuel listed (mk n ρ) w

theorem c_draw [Dfr] {id:Nat} (S:World→Prop) (hm:P.follows .mixedOrders=true) (hS:S w.drew) (h:RW P l Q S n l.toArray.size (Array.replicate l.toArray.size false) ρ w.drew):
    (Code.region id l.toArray true).wp P Q (mk n ρ) w:=
  wp_region_held_drew hm hS fun _=>by unfold RW at h;exact h

theorem r_take [Dfr] {d:Nat} {op:Op} {ty:TypeId} {pos:String} {af:Array Edge} (i:Nat) (v:Value) (hi:l.toArray[i]? =some ⟨some d,op,ty,pos,af,none⟩) (hsel:Region.noSelect l.toArray=true)
    (hfree:Region.free .any l.toArray listed i=true) (hready:(Region.ready .any l.toArray listed).contains i=true) (hQ:∀ c a w,Q (.panic c) (a.put (some d) v) w→Q (.panic c) a w)
    (hy:∀ w',S w' →(execOp (ev n ρ) ⟨some d,op,ty,pos,af,none⟩).run P w' =.ok (.value v) w') (hS:S w) (h:RW P l Q S n fuel (listed.setIfInBounds i true) (upd ρ d v) w):
    RW P l Q S n (fuel+1) listed ρ w:=by
  unfold RW at h ⊢
  refine wpAnyH_take hi hsel hfree hready hQ (Or.inl ⟨rfl,fun w' hw' =>by rw [yX];exact hy w' hw'⟩) hS ?_
  show wpAnyH P .any l.toArray Q S fuel _ ((mk n ρ).put (some d) v) w
  rw [mk_put]
  exact h

theorem r_takeG [Dfr] {d j e:Nat} {b:Bool} {op:Op} {ty:TypeId} {pos:String} {af:Array Edge} (i:Nat) (v:Value) (hi:l.toArray[i]? =some ⟨some d,op,ty,pos,af,some (j,b)⟩) (hsel:Region.noSelect l.toArray=true)
    (hfree:Region.free .any l.toArray listed i=true) (hready:(Region.ready .any l.toArray listed).contains i=true) (hQ:∀ c a w,Q (.panic c) (a.put (some d) v) w→Q (.panic c) a w)
    (hd:dstAt l j=some e) (hv:ev n ρ (.tmp e)=.bool b)
    (hy:∀ w',S w' →(execOp (ev n ρ) ⟨some d,op,ty,pos,af,some (j,b)⟩).run P w' =.ok (.value v) w') (hS:S w) (h:RW P l Q S n fuel (listed.setIfInBounds i true) (upd ρ d v) w):
    RW P l Q S n (fuel+1) listed ρ w:=by
  unfold RW at h ⊢
  refine wpAnyH_take hi hsel hfree hready hQ (Or.inl ⟨by simp [Region.wanted,yielded_of ((dstAt_eq l j).trans hd) hv],fun w' hw' =>by rw [yX];exact hy w' hw'⟩) hS ?_
  show wpAnyH P .any l.toArray Q S fuel _ ((mk n ρ).put (some d) v) w
  rw [mk_put]
  exact h

theorem xI [Dfr] (hr:Region.ready .any l.toArray listed=[]) (h:Q .normal (mk n ρ) w):RW P l Q S n fuel listed ρ w:=by
  unfold RW
  exact wpAnyH_done hr h fuel

theorem yz [Dfr] (rs:yLN) (hr:Region.ready .any l.toArray listed=rs) (hne:rs≠[]) (h:AllReadyH P .any l.toArray Q S fuel listed (mk n ρ) w rs):RW P l Q S n (fuel+1) listed ρ w:=by
  unfold RW
  exact wpAnyH_ready hr hne h

theorem r_op [Dfr] {dst:Option Nat} {op:Op} {ty:TypeId} {pos:String} {af:Array Edge} {i:Nat} {rs:yLN} (hi:l.toArray[i]? =some ⟨dst,op,ty,pos,af,none⟩)
    (h:OW P Q ⟨dst,op,ty,pos,af,none⟩ n ρ w fun ρ w=>S w∧RW P l Q S n fuel (listed.setIfInBounds i true) ρ w) (hs:AllReadyH P .any l.toArray Q S fuel listed (mk n ρ) w rs):
    AllReadyH P .any l.toArray Q S fuel listed (mk n ρ) w (i :: rs):=by
  refine AllReadyH.cons hi (fun K' hK=>?_) hs
  unfold OW at h
  rw [if_pos (by rfl)]
  refine h K' fun ρ' w' ⟨h1,h2⟩=>hK.out _ _ h1 fun _=>?_
  unfold RW at h2
  exact h2

theorem r_opG [Dfr] {dst:Option Nat} {op:Op} {ty:TypeId} {pos:String} {af:Array Edge} {i j e:Nat} {b:Bool} {rs:yLN} (hi:l.toArray[i]? =some ⟨dst,op,ty,pos,af,some (j,b)⟩)
    (hd:dstAt l j=some e) (hv:ev n ρ (.tmp e)=.bool b)
    (h:OW P Q ⟨dst,op,ty,pos,af,none⟩ n ρ w fun ρ w=>S w∧RW P l Q S n fuel (listed.setIfInBounds i true) ρ w) (hs:AllReadyH P .any l.toArray Q S fuel listed (mk n ρ) w rs):
    AllReadyH P .any l.toArray Q S fuel listed (mk n ρ) w (i :: rs):=by
  refine AllReadyH.cons hi (fun K' hK=>?_) hs
  unfold OW at h
  rw [if_pos (by simp [Region.wanted,yielded_of ((dstAt_eq l j).trans hd) hv])]
  have:=h K' fun ρ' w' ⟨h1,h2⟩=>hK.out _ _ h1 fun _=>(by unfold RW at h2;exact h2)
  exact this

section
variable {d : Nat} {ty : TypeId} {pos : String} {af : Array Edge} {gd : Option (Nat × Bool)}
theorem y_pure {op:Op} {v:Value} (h:pv (ev n ρ) op=some v):∀ w',S w' →(execOp (ev n ρ) ⟨some d,op,ty,pos,af,gd⟩).run P w' =.ok (.value v) w' :=
  fun w' _=>pv_run (by exact h) w'
theorem y_add {x y:Operand} {t u:TypeId} (a b:Int) (hx:ev n ρ x=.int .i64 a) (hy:ev n ρ y=.int .i64 b) (h: -9223372036854775808≤a+b∧a+b≤9223372036854775807):
    ∀ w',S w' →(execOp (ev n ρ) ⟨some d,.binOp .add t x y u,ty,pos,af,gd⟩).run P w' =.ok (.value (.int .i64 (a+b))) w' :=
  fun w' _=>by simp [execOp,hx,hy,eqGuard,binOp,Op.intArith,wrap_in h]
theorem y_sub {x y:Operand} {t u:TypeId} (a b:Int) (hx:ev n ρ x=.int .i64 a) (hy:ev n ρ y=.int .i64 b) (h: -9223372036854775808≤a - b∧a - b≤9223372036854775807):
    ∀ w',S w' →(execOp (ev n ρ) ⟨some d,.binOp .sub t x y u,ty,pos,af,gd⟩).run P w' =.ok (.value (.int .i64 (a - b))) w' :=
  fun w' _=>by simp [execOp,hx,hy,eqGuard,binOp,Op.intArith,wrap_in h]
theorem y_mul {x y:Operand} {t u:TypeId} (a b:Int) (hx:ev n ρ x=.int .i64 a) (hy:ev n ρ y=.int .i64 b) (h: -9223372036854775808≤a * b∧a * b≤9223372036854775807):
    ∀ w',S w' →(execOp (ev n ρ) ⟨some d,.binOp .mul t x y u,ty,pos,af,gd⟩).run P w' =.ok (.value (.int .i64 (a * b))) w' :=
  fun w' _=>by simp [execOp,hx,hy,eqGuard,binOp,Op.intArith,wrap_in h]
theorem y_neB {x y:Operand} {t u:TypeId} (hu:P.underlying t=some .bool) (a b:Bool) (hx:ev n ρ x=.bool a) (hy:ev n ρ y=.bool b):
    ∀ w',S w' →(execOp (ev n ρ) ⟨some d,.binOp .neq t x y u,ty,pos,af,gd⟩).run P w' =.ok (.value (.bool (a != b))) w' :=
  fun w' _=>by simp [execOp,hx,hy,eqGuard,binOp,run_eqB hu,bne]
theorem y_len {x:Operand} {t e:TypeId} (hu:P.underlying t=some (.slice e)) (a:yOA) (m c:Nat) (hx:ev n ρ x=.slice a m c):
    ∀ w',S w' →(execOp (ev n ρ) ⟨some d,.call ⟨.builtin .len,#[x],#[t]⟩,ty,pos,af,gd⟩).run P w' =.ok (.value (.int .i64 m)) w' :=
  fun w' _=>by simp [execOp,resolve,invoke,builtin,Builtin.len_,hx,run_underlying hu,goInt]
theorem y_field {t:TypeId} {x:Operand} {fs:Array Field} {i:Nat} {f:Field} {m:Nat} (b off j:Nat) (hu:P.underlying t=some (.struct fs)) (hf:fs[i]? =some f) (hj:f.offset=j)
    (hs:∀ w,(Go.sizeOf f.type).run P w=.ok (m+1) w) (hx:ev n ρ x=.pointer (some ⟨b,off,none⟩)):
    ∀ w',S w' →(execOp (ev n ρ) ⟨some d,.fieldAddr t x i,ty,pos,af,gd⟩).run P w' =.ok (.value (.pointer (some ⟨b,off+j,none⟩))) w' :=
  fun w' _=>by subst hj;simp [execOp,hx,Instr.fieldAt,Instr.sureAddr,fieldPlace,run_underlying hu,hf,hs,Addr.add_mid]
theorem y_idxAt {x y:Operand} {t e:TypeId} (b off m c:Nat) {z:Value} {sz by' :Nat} (iv:Int) (hu:P.underlying t=some (.slice e)) (he:TI P e z sz by')
    (hx:ev n ρ x=.slice (some ⟨b,off,none⟩) m c) (hy:ev n ρ y=.int .i64 iv) (h0:0≤iv) (h1:iv < m):
    ∀ w',S w' →(execOp (ev n ρ) ⟨some d,.indexAddr t x y,ty,pos,af,gd⟩).run P w' =.ok (.value (.pointer (some ⟨b,off+iv.toNat * sz,none⟩))) w' :=
  fun w' _=>by simp [execOp,hx,hy,Instr.indexAt,asIntOf,run_underlying hu,he.sizeOf,h0,h1,Addr.add_mid]
theorem y_load1 {t:TypeId} {x:Operand} {b off:Nat} {v:Value} (ha:∀ w,(isAgg t).run P w=.ok false w) (hx:ev n ρ x=.pointer (some ⟨b,off,none⟩))
    (hc:∀ w',S w' →w'.cell? ⟨b,off,none⟩=some v):∀ w',S w' →(execOp (ev n ρ) ⟨some d,.load t x,ty,pos,af,gd⟩).run P w' =.ok (.value v) w' :=
  fun w' h=>by simp [execOp,hx,run_load1 ha (hc w' h)]
theorem Qc {t:TypeId} {x:Operand} {b off:Nat} {cs:List Value} (ha:∀ w,(isAgg t).run P w=.ok true w) (hs:∀ w,(Go.sizeOf t).run P w=.ok cs.length w)
    (hx:ev n ρ x=.pointer (some ⟨b,off,none⟩)) (hc:∀ w',S w' →zM w' b off cs):∀ w',S w' →(execOp (ev n ρ) ⟨some d,.load t x,ty,pos,af,gd⟩).run P w' =.ok (.value (.agg cs.toArray)) w' :=
  fun w' h=>by simp [execOp,hx,run_loadN ha hs (hc w' h)]
end

theorem yA [Dfr]:AllReadyH P .any l.toArray Q S fuel listed (mk n ρ) w []:=AllReadyH.nil
end
end
section

def inR (n lo hi:Int):Bool:=decide (lo≤n) && decide (n≤hi)
theorem inR_no {n lo hi:Int} (h:¬ lo≤n):inR n lo hi=false:=by simp [inR,h]
theorem inR_yes {n lo hi:Int} (h:lo≤n):inR n lo hi=decide (n≤hi):=by simp [inR,h]
theorem QB {n lo hi:Int}:inR n lo hi=true↔lo≤n∧n≤hi:=by simp [inR]
theorem inR_not {n lo hi:Int} (h:inR n lo hi=false):¬ (lo≤n∧n≤hi):=fun h' =>by rw [QB.2 h'] at h;cases h

theorem QD {α:Type} [Inhabited α] {l m:List α} {k:Nat} (hl:l.length=m.length) (hk:k < l.length) (h:l.take k=m.take k) (h1:l[k]! =m[k]!):l.take (k+1)=m.take (k+1):=by
  rw [List.take_succ_eq_append_getElem hk,List.take_succ_eq_append_getElem qg,h]
  rw [getElem!_pos l k hk,getElem!_pos m k qg] at h1
  rw [h1]
theorem vN {α:Type} {l m:List α} {k:Nat} (hl:l.length=m.length) (hk:l.length≤k) (h:l.take k=m.take k):l=m:=by
  rwa [List.take_of_length_le hk,List.take_of_length_le qg] at h
theorem vX {α:Type} [Inhabited α] {l m:List α} {k:Nat} (h:l[k]! ≠m[k]!):l≠m:=fun e=>h (by rw [e])

theorem take_snoc {α:Type} [Inhabited α] {l:List α} {k:Nat} (hk:k < l.length):l.take k++[l[k]!]=l.take (k+1):=by
  rw [List.take_succ_eq_append_getElem hk,getElem!_pos l k hk]
theorem map_take_snoc {α β:Type} [Inhabited α] {l:List α} (f:α→β) {k:Nat} (hk:k < l.length):(l.take k).map f++[f (l[k]!)]=(l.take (k+1)).map f:=by
  rw [← take_snoc hk];simp

def Small (l:yLI):Prop:=l.length≤1000000∧∀ k,k < l.length→ -1000000000≤l[k]! ∧l[k]! ≤1000000000
def Mid (l:yLI):Prop:=l.length≤1000000∧∀ k,k < l.length→ -1000000000000000≤l[k]! ∧l[k]! ≤1000000000000000
def sumTo (l:yLI):Nat→Int
  | 0=>0
  | k+1=>sumTo l k+l[k]!
def yM (l:yLI):Int:=sumTo l l.length
theorem sumTo_bd {l:yLI} (h:Small l):∀ k,k≤l.length→ -(1000000000 * (k:Int))≤sumTo l k∧sumTo l k≤1000000000 * (k:Int)
  | 0,_=>by simp [sumTo]
  | k+1,hk=>by
    have h1:=sumTo_bd h k qg
    have h2:=h.2 k qg
    simp only [sumTo]
    omega
theorem sumTo_small {l:yLI} (h:Small l) {k:Nat} (hk:k≤l.length): -1000000000000000≤sumTo l k∧sumTo l k≤1000000000000000:=by
  have h1:=sumTo_bd h k hk
  have h2:=h.1
  omega

def firstIdx (g:Nat→Bool) (n:Nat):Int:=match (List.range n).find? g with | some k=>k | none=> -1
theorem firstIdx_some {g:Nat→Bool} {n k:Nat} (hk:k < n) (h:∀ j,j < k→g j=false) (h1:g k=true):firstIdx g n=k:=by
  have:(List.range n).find? g=some k:=by
    rw [List.find?_range_eq_some]
    exact ⟨h1,by simpa using hk,fun j hj=>by simp [h j hj]⟩
  simp [firstIdx,this]
theorem firstIdx_none {g:Nat→Bool} {n:Nat} (h:∀ j,j < n→g j=false):firstIdx g n= -1:=by
  have:(List.range n).find? g=none:=by
    rw [List.find?_range_eq_none]
    exact fun j hj=>by simp [h j hj]
  simp [firstIdx,this]
def noneTo (g:Nat→Bool) (k:Nat):Prop:=∀ j,j < k→g j=false
theorem noneTo_succ {g:Nat→Bool} {k:Nat} (h:noneTo g k) (h1:g k=false):noneTo g (k+1):=fun j hj=>by
  by_cases hjk:j=k
  · subst hjk;exact h1
  · exact h j qg
open Classical in
noncomputable def anyTo (g:Nat→Bool) (n:Nat):Bool:=decide (∃ k,k < n∧g k=true)
theorem anyTo_first (g:Nat→Bool) (n:Nat):decide (firstIdx g n≥0)=anyTo g n:=by
  by_cases h:∃ k,k < n∧g k=true
  · have hs:((List.range n).find? g).isSome:=by
      rw [List.find?_isSome]
      obtain ⟨k,h1,h2⟩:=h
      exact ⟨k,by simpa using h1,h2⟩
    obtain ⟨k,hk⟩:=Option.isSome_iff_exists.1 hs
    simp [firstIdx,hk,anyTo,h]
  · have:(List.range n).find? g=none:=by
      rw [List.find?_range_eq_none]
      intro j hj
      cases hg:g j with
      | false=>rfl
      | true=>exact absurd ⟨j,hj,hg⟩ h
    simp [firstIdx,this,anyTo,h]
theorem anyTo_iff {g:Nat→Bool} {n:Nat}:anyTo g n=true↔∃ k,k < n∧g k=true:=by simp [anyTo]
theorem anyTo_false {g:Nat→Bool} {n:Nat}:anyTo g n=false↔noneTo g n:=by
  rw [← Bool.not_eq_true,anyTo_iff]
  constructor
  · intro h j hj
    cases hg:g j with
    | false=>rfl
    | true=>exact absurd ⟨j,hj,hg⟩ h
  · rintro h ⟨k,h1,h2⟩
    rw [h k h1] at h2;cases h2

def isCnt (n:Int):Bool:=inR n 0 1000
def tabTo (g:Nat→Int) (k:Nat):yLI:=(List.range k).map g
theorem tabTo_succ (g:Nat→Int) (k:Nat):tabTo g (k+1)=tabTo g k++[g k]:=by simp [tabTo,List.range_succ]
@[simp] theorem tabTo_len (g : Nat → Int) (k : Nat) : (tabTo g k).length = k := by simp [tabTo]
def SmallT (m:yLI) (t:Int):Prop:=∀ k,k < m.length→ -1000000000000000≤t * m[k]! ∧t * m[k]! ≤1000000000000000
def plusTo (l m:yLI) (t:Int) (k:Nat):yLI:=(List.range k).map fun j=>l[j]! +t * m[j]!
def zo (l m:yLI) (t:Int):yLI:=plusTo l m t l.length
theorem plusL_len (l m:yLI) (t:Int):(zo l m t).length=l.length:=by simp [zo,plusTo]
noncomputable def dec (p:Prop):Bool:=@decide p (Classical.propDecidable p)
theorem yw {p:Prop} (h:p):dec p=true:=by simp [dec,h]
theorem zf {p:Prop} (h:¬ p):dec p=false:=by simp [dec,h]
theorem zZ {p:Prop} (h:dec p=true):p:=by simpa [dec] using h
theorem zy {p:Prop} (h:dec p=false):¬ p:=by simpa [dec] using h
theorem dec_eq {p:Prop} {b:Bool} (h:b=true↔p):b=dec p:=by
  cases b
  · exact (zf fun hp=>by simp at h;exact h hp).symm
  · exact (yw (h.1 rfl)).symm
theorem dec_congr {p q:Prop} (h:p↔q):dec p=dec q:=by rw [show p=q from propext h]

def Counts (l:yLI) (k:Nat):Prop:=∀ j,j < k→0≤l[j]! ∧l[j]! ≤1000
theorem Counts.zero (l:yLI):Counts l 0:=fun j hj=>by omega
theorem Counts.succ {l:yLI} {k:Nat} (h:Counts l k) (h1:0≤l[k]! ∧l[k]! ≤1000):Counts l (k+1):=fun j hj=>by
  by_cases e:j=k
  · subst e;exact h1
  · exact h j qg
def BagAny (l:yLI):Prop:=Counts l l.length∧1≤l.length∧l.length≤8
def jI (n:Int) (l:yLI):Prop:=BagAny l∧(l.length:Int)=n
theorem Qs {l:yLI} (h:BagAny l):Small l:=⟨by have:=h.2.2;omega,fun k hk=>by have:=h.1 k hk;omega⟩

theorem jJ {n:Int} {l:yLI} (h:jI n l):Small l:=Qs h.1
theorem isCnt_iff {n:Int}:isCnt n=true↔0≤n∧n≤1000:=QB
theorem anyCnt_iff {l:yLI}:(!anyTo (fun k=> !isCnt (l[k]!)) l.length)=true↔Counts l l.length:=by
  rw [Bool.not_eq_true',anyTo_false]
  constructor
  · intro h j hj
    have:=h j hj
    simp only [Bool.not_eq_false'] at this
    exact isCnt_iff.1 this
  · intro h j hj
    simp only [Bool.not_eq_false']
    exact isCnt_iff.2 (h j hj)

def szR (n:Nat) (left:Int):Int:=if (n:Int)≤left then left - n else -1
theorem zS (n:Nat) (left:Int):((n:Int)≤left∧szR n left=left - n)∨(left < n∧szR n left= -1):=by
  unfold szR;split <;> omega
class Tot (α:Type) where
  tot:α→Nat
open Go.Proofs.YtkgdkfkgnodheaaGreat.Tot (tot)
instance:Tot Int:=⟨fun _=>0⟩
instance:Tot Bool:=⟨fun _=>0⟩
section
variable {α : Type} [Tot α] [Inhabited α]
def totTo (l:List α):Nat→Nat
  | 0=>0
  | k+1=>totTo l k+tot (l[k]!)
instance:Tot (List α):=⟨fun l=>l.length+totTo l l.length⟩
theorem totTo_mono {l:List α}:∀ {k m:Nat},k≤m→totTo l k≤totTo l m
  | k, 0, h => by obtain rfl : k = 0 := by omega
                  exact Nat.le_refl _
  | k,m+1,h=>by
    by_cases e:k=m+1
    · subst e;exact Nat.le_refl _
    · exact Nat.le_trans (totTo_mono (by omega:k≤m)) (Nat.le_add_right _ _)
theorem tot_list (l:List α):tot l=l.length+totTo l l.length:=rfl
theorem tot_get {l:List α} {k:Nat} (h:k < l.length):l.length+totTo l k+tot (l[k]!)≤tot l:=by
  have h1:totTo l (k+1)≤totTo l l.length:=totTo_mono h
  have h2:totTo l (k+1)=totTo l k+tot (l[k]!):=rfl
  rw [tot_list];omega
theorem totTo_succ (l:List α) (k:Nat):totTo l (k+1)=totTo l k+tot (l[k]!):=rfl
theorem totTo_zero (l:List α):totTo l 0=0:=rfl
theorem len_tot (l:List α):l.length≤tot l:=Nat.le_add_right _ _
end
theorem tot_ints (l:yLI):tot l=l.length:=by
  have:∀ k,totTo l k=0:=fun k=>by induction k with | zero=>rfl | succ k ih=>rw [totTo_succ,ih];rfl
  rw [tot_list,this];rfl
theorem tot_bools (l:List Bool):tot l=l.length:=by
  have:∀ k,totTo l k=0:=fun k=>by induction k with | zero=>rfl | succ k ih=>rw [totTo_succ,ih];rfl
  rw [tot_list,this];rfl
end
open Go.Proofs.YtkgdkfkgnodheaaGreat.Tot (tot)
section
open Go.RowKit
structure Chg (F:yLN) (w w' :World):Prop where
  os:w'.os=w.os
  tape:w'.tape=w.tape
  output:w'.output=w.output
  size:w.heap.size≤w'.heap.size
  block:∀ k,k < w.heap.size→k∉F→w'.heap[k]? =w.heap[k]?

theorem Chg.refl (F:yLN) (w:World):Chg F w w:=⟨rfl,rfl,rfl,Nat.le_refl _,fun _ _ _=>rfl⟩
theorem Chg.mono {F G:yLN} {w w' :World} (h:Chg F w w') (hs:∀ b∈F,b∈G):Chg G w w' :=⟨h.os,h.tape,h.output,h.size,fun k hk hn=>h.block k hk fun hb=>hn (hs k hb)⟩
theorem Chg.trans {F:yLN} {a b c:World} (h:Chg F a b) (k:Chg F b c):Chg F a c:=
  ⟨k.os.trans h.os,k.tape.trans h.tape,k.output.trans h.output,Nat.le_trans h.size k.size,fun i hi hn=>(k.block i (Nat.lt_of_lt_of_le hi h.size) hn).trans (h.block i hi hn)⟩
theorem Chg.ofExt {F:yLN} {w w' :World} (h:Ext w w'):Chg F w w' :=⟨h.os,h.tape,h.output,h.size,fun k hk _=>h.block k hk⟩
theorem Chg.toExt {F:yLN} {W w w' :World} (h:Chg F w w') (e:Ext W w) (hF:∀ b∈F,W.heap.size≤b):Ext W w' :=
  ⟨h.os.trans e.os,h.tape.trans e.tape,h.output.trans e.output,Nat.le_trans e.size h.size,fun k hk=>
    (h.block k (Nat.lt_of_lt_of_le hk e.size) fun hb=>absurd (hF k hb) qg).trans (e.block k hk)⟩

theorem Chg.rebase {F:yLN} {W w w' :World} (h:Ext W w) (e:Chg F w w'):∃ W',Chg F W W' ∧W'.heap.size=W.heap.size∧Ext W' w' :=by
  refine ⟨{ W with heap:=W.heap.mapIdx fun i o=>if i∈F then (w'.heap[i]?).getD o else o },⟨rfl,rfl,rfl,by simp,fun k hk hn=>?_⟩,by simp,⟨e.os.trans h.os,e.tape.trans h.tape,e.output.trans h.output,?_,fun k hk=>?_⟩⟩
  · simp [hk,hn]
  · simpa using Nat.le_trans h.size e.size
  · have hk' :k < W.heap.size:=by simpa using hk
    by_cases hF:k∈F
    · have h2:k < w'.heap.size:=Nat.lt_of_lt_of_le hk' (Nat.le_trans h.size e.size)
      simp [hk',hF,h2]
    · have h1:=(e.block k (Nat.lt_of_lt_of_le hk' h.size) hF).trans (h.block k hk')
      rw [h1]
      simp [hk',hF]

section
variable {W w w' : World} {ps : List Prv} {Γ : List Fact}

theorem St.chg {F:yLN} (H:St W w ps Γ) (e:Chg F w w') (hF:∀ b∈F,∀ i,jf ps i≠some b) (Δ:List Fact) (hΔ:∀ f∈Δ,f∈Γ∧∀ b∈f.F,b∉F):
    ∃ W',Chg F W W' ∧St W' w' ps Δ:=by
  obtain ⟨W',h1,h2,h3⟩:=Chg.rebase H.base e
  refine ⟨W',h1,h3,fun p hp=>?_,H.dist,fun f hf=>?_⟩
  · rw [h2]
    refine (H.has p hp).stay fun b hb=>e.block b ((H.has p hp).lt hb).2 fun hbF=>?_
    obtain ⟨i,hi⟩:=List.getElem?_of_mem hp
    exact hF b hbF i (by simp [jf,hi,hb])
  · obtain ⟨hΓ,hd⟩:=hΔ f hf
    exact ⟨f.stay w w' (H.facts f hΓ).1 fun b hb=>e.block b ((H.facts f hΓ).2 b hb).1 (hd b hb),
      fun b hb=>⟨Nat.lt_of_lt_of_le ((H.facts f hΓ).2 b hb).1 e.size,((H.facts f hΓ).2 b hb).2⟩⟩
theorem St.chgNew {F:yLN} (H:St W w ps Γ) (e:Chg F w w') (hF:∀ b∈F,∀ i,jf ps i≠some b) (hN:∀ b∈F,W.heap.size≤b) (Δ:List Fact) (hΔ:∀ f∈Δ,f∈Γ∧∀ b∈f.F,b∉F):
    St W w' ps Δ:=by
  refine ⟨e.toExt H.base hN,fun p hp=>?_,H.dist,fun f hf=>?_⟩
  · refine (H.has p hp).stay fun b hb=>e.block b ((H.has p hp).lt hb).2 fun hbF=>?_
    obtain ⟨i,hi⟩:=List.getElem?_of_mem hp
    exact hF b hbF i (by simp [jf,hi,hb])
  · obtain ⟨hΓ,hd⟩:=hΔ f hf
    exact ⟨f.stay w w' (H.facts f hΓ).1 fun b hb=>e.block b ((H.facts f hΓ).2 b hb).1 (hd b hb),
      fun b hb=>⟨Nat.lt_of_lt_of_le ((H.facts f hΓ).2 b hb).1 e.size,((H.facts f hΓ).2 b hb).2⟩⟩

theorem flat_disj {L:List yLN} (h:L.flatten.Nodup) {i j:Nat} (hij:i≠j) {A B:yLN} (hi:L[i]? =some A) (hj:L[j]? =some B):∀ b∈A,b∉B:=by
  have hp:=(List.pairwise_flatten.1 h).2
  rw [List.pairwise_iff_getElem] at hp
  obtain ⟨hi',rfl⟩:=List.getElem?_eq_some_iff.1 hi
  obtain ⟨hj',rfl⟩:=List.getElem?_eq_some_iff.1 hj
  intro b hb hb'
  rcases Nat.lt_or_ge i j with h1 | h1
  · exact hp i j hi' hj' h1 b hb b hb' rfl
  · exact hp j i hj' hi' qg b hb' b hb rfl

theorem St.chgAt (H:St W w ps Γ) (N:(Γ.map Fact.F).flatten.Nodup) (i:Nat) {f:Fact} (hf:Γ[i]? =some f) (f' :Fact) (hF:f'.F=f.F) (e:Chg f.F w w') (h' :f'.φ w'):
    ∃ W',Chg f.F W W' ∧St W' w' ps (Γ.set i f'):=by
  have hmem:=List.mem_of_getElem? hf
  obtain ⟨W',h1,h2⟩:=H.chg e (fun b hb=>((H.facts f hmem).2 b hb).2) (Γ.eraseIdx i) (fun g hg=>by
    obtain ⟨j,hj,hgj⟩:=List.mem_eraseIdx_iff_getElem?.1 hg
    exact ⟨List.mem_of_getElem? hgj,flat_disj N hj (by simp [hgj]) (by simp [hf])⟩)
  have h3:=h2.add f' h' (fun b hb=>by
    rw [hF] at hb
    exact ⟨Nat.lt_of_lt_of_le ((H.facts f hmem).2 b hb).1 e.size,((H.facts f hmem).2 b hb).2⟩)
  refine ⟨W',h1,h3.sub _ fun g hg=>?_⟩
  obtain ⟨j,hj⟩:=List.getElem?_of_mem hg
  by_cases hij:i=j
  · subst hij
    have hlt:i < Γ.length:=(List.getElem?_eq_some_iff.1 hf).1
    rw [List.getElem?_set_self hlt] at hj
    simp only [Option.some.injEq] at hj
    subst hj
    exact List.mem_cons_self ..
  · rw [List.getElem?_set_ne hij] at hj
    exact List.mem_cons_of_mem _ (List.mem_eraseIdx_iff_getElem?.2 ⟨j,fun h=>hij h.symm,hj⟩)
end

section
variable {α : Type} [qV α]
def holeF (b o:Nat) (xs1 cs xs2:List Value) (F1 F2:yLN) (l1 l2:List α):Fact:=
  ⟨b :: (F1++F2),fun w=>zM w b o (xs1++cs++xs2)∧reps w F1 xs1 l1∧reps w F2 xs2 l2∧zx w (b :: (F1++F2)),
    fun _ _ h hs=>⟨cellsAt_stay h.1 (hs b qo),reps_stay h.2.1 (fun b hb=>hs b (by simp [hb])),reps_stay h.2.2.1 (fun b hb=>hs b (by simp [hb])),h.2.2.2.stay hs⟩⟩

theorem reps_at [Inhabited α] {w:World}:∀ {F:yLN} {vs:List Value} {l:List α} (_:reps w F vs l) (k:Nat) (_:k < l.length),
    ∃ F1 Fk F2 v1 ck v2,F=F1++Fk++F2∧vs=v1++ck++v2∧reps w F1 v1 (l.take k)∧qV.rep w Fk ck (l[k]!)∧reps w F2 v2 (l.drop (k+1))
  | _,_,[],_,k,hk=>by simp at hk
  | _,_,x :: l,⟨F1,F2,c1,c2,hF,hv,h1,h2⟩,0,_=>⟨[],F1,F2,[],c1,c2,by simpa using hF,by simpa using hv,⟨rfl,rfl⟩,by simpa using h1,by simpa using h2⟩
  | _,_,x :: l,⟨F1,F2,c1,c2,hF,hv,h1,h2⟩,k+1,hk=>by
    obtain ⟨G1,Gk,G2,v1,ck,v2,e1,e2,r1,r2,r3⟩:=reps_at h2 k (by simpa using hk)
    subst hF hv e1 e2
    exact ⟨F1++G1,Gk,G2,c1++v1,ck,v2,by simp,by simp,⟨F1,G1,c1,v1,rfl,rfl,h1,r1⟩,by simpa using r2,by simpa using r3⟩

variable {W w : World} {ps : List Prv} {Γ : List Fact}
theorem St.openAt [Inhabited α] {F:yLN} {b o m c:Nat} {l:List α} (H:St W w ps (isF true F (.slice (some ⟨b,o,none⟩) m c) l :: Γ)) (k:Nat) (hk:k < l.length):
    ∃ cs xs1 xs2 F1 Fk F2,F=b :: (F1++Fk++F2)∧xs1.length=k * qV.size α∧qV.rep w Fk cs (l[k]!)∧zx w Fk∧(∀ x∈Fk,x < w.heap.size∧∀ i,jf ps i≠some x)∧
      St W w ps (holeF b o xs1 cs xs2 F1 F2 (l.take k) (l.drop (k+1)) :: Γ):=by
  obtain ⟨⟨a,cap,hc,_,hrest⟩,hfr⟩:=H.get 0 rfl
  rcases hrest with ⟨rfl,_⟩ | ⟨b',off,F',vs,ha,hFF,hb,hr,hcells⟩
  · simp at hk
  simp only [List.cons.injEq,Value.slice.injEq,and_true] at hc
  obtain ⟨hab,_,_⟩:=hc
  rw [ha] at hab
  simp only [Option.some.injEq,Addr.mk.injEq,and_true] at hab
  obtain ⟨rfl,rfl⟩:=hab
  obtain ⟨F1,Fk,F2,v1,ck,v2,e1,e2,r1,r2,r3⟩:=reps_at hr k hk
  subst hFF e1 e2
  have hall:=(H.facts _ (List.mem_cons_self ..)).2
  refine ⟨ck,v1,v2,F1,Fk,F2,rfl,?_,r2,(hfr rfl).sub (by intro x hx;simp [hx]),fun x hx=>hall x (by simp [isF,hx]),?_⟩
  · have:=reps_len r1
    rw [this,List.length_take,Nat.min_eq_left qg]
  · refine (H.sub Γ (fun f hf=>List.mem_cons_of_mem _ hf)).add _ ⟨hcells,r1,r3,(hfr rfl).sub ?_⟩ fun x hx=>hall x ?_
    · intro x hx
      simp only [List.mem_cons,List.mem_append] at hx ⊢
      rcases hx with h | h | h <;> simp [h]
    · simp only [holeF,isF,List.mem_cons,List.mem_append] at hx ⊢
      rcases hx with h | h | h <;> simp [h]

theorem St.closeAt {b o m c:Nat} {xs1 cs xs2:List Value} {F1 Fk F2:yLN} {l1 l2:List α} {y:α} (H:St W w ps (holeF b o xs1 cs xs2 F1 F2 l1 l2 :: Γ))
    (hr:qV.rep w Fk cs y) (hfr:zx w Fk) (hlt:∀ x∈Fk,x < w.heap.size∧∀ i,jf ps i≠some x) (l:List α) (hl:l1++[y]++l2=l) (hm:l.length=m) (hx:l.length≤9223372036854775807∧l.length≤c):
    St W w ps [isF true (b :: (F1++Fk++F2)) (.slice (some ⟨b,o,none⟩) m c) l]:=by
  obtain ⟨h1,h2,h3,h4⟩:=H.get 0 rfl
  have hall:=(H.facts _ (List.mem_cons_self ..)).2
  subst hl hm
  refine (H.sub [] qo).add _ ⟨⟨some ⟨b,o,none⟩,c,rfl,hx,Or.inr ⟨b,o,F1++Fk++F2,xs1++cs++xs2,rfl,rfl,(hall b (by simp [holeF])).1,yO (yO h2 (reps_one hr)) h3,h1⟩⟩,fun _=>?_⟩ ?_
  · intro x hx
    simp only [List.mem_cons,List.mem_append] at hx
    rcases hx with h | (h | h) | h
    · exact h4 x (by simp [h])
    · exact h4 x (by simp [h])
    · exact hfr x h
    · exact h4 x (by simp [h])
  · intro x hx
    simp only [isF,List.mem_cons,List.mem_append] at hx
    rcases hx with h | (h | h) | h
    · exact hall x (by simp [holeF,h])
    · exact hall x (by simp [holeF,h])
    · exact hlt x h
    · exact hall x (by simp [holeF,h])

theorem St.holeCell {b o:Nat} {xs1 cs xs2:List Value} {F1 F2:yLN} {l1 l2:List α} (H:St W w ps (holeF b o xs1 cs xs2 F1 F2 l1 l2 :: Γ)) (p j:Nat) (hp:xs1.length=p) {v:Value} (hv:cs[j]? =some v):
    w.cell? ⟨b,o+p+j,none⟩=some v:=by
  subst hp
  have h:=(H.get 0 rfl).1
  rw [Nat.add_assoc]
  refine h (xs1.length+j) v ?_
  rw [List.append_assoc,List.getElem?_append_right qg,Nat.add_sub_cancel_left]
  obtain ⟨hj,_⟩:=List.getElem?_eq_some_iff.1 hv
  rw [List.getElem?_append_left hj,hv]

theorem cell_setRow {w:World} {b:Nat} {c0:Array Value} {t:TypeId} (h:w.heap[b]? =some (.cells c0 t (0,0))) (c1:Array Value) (i:Nat):(w.setRow b c1).cell? ⟨b,i,none⟩=c1[i]? :=by
  simp [World.cell?,World.setRow,Array.getElem?_modify,h]
theorem cell_row {w:World} {b:Nat} {c0:Array Value} {t:TypeId} (h:w.heap[b]? =some (.cells c0 t (0,0))) (i:Nat):w.cell? ⟨b,i,none⟩=c0[i]? :=by
  simp [World.cell?,h]

variable {P : Program} {Q : Exit → Act → World → Prop} {n : Nat} {ρ : Env} {d : Nat} {ty : TypeId} {pos : String} {af : Array Edge} {K : Env → World → Prop}

theorem o_storeHole [Dfr] {t:TypeId} {x y:Operand} {b o:Nat} {xs1 cs xs2:List Value} {F1 F2:yLN} {l1 l2:List α} (H:St W w ps (holeF b o xs1 cs xs2 F1 F2 l1 l2 :: Γ))
    (N:((holeF b o xs1 cs xs2 F1 F2 l1 l2 :: Γ).map Fact.F).flatten.Nodup) (p j:Nat) (hp:xs1.length=p) (v:Value)
    (hs:∀ w,(Go.sizeOf t).run P w=.ok 1 w) (hx:ev n ρ x=.pointer (some ⟨b,o+p+j,none⟩)) (hy:ev n ρ y=v) (h1:v.oneCell' =true) (hj:j < cs.length)
    (k:∀ w' W',Chg (b :: (F1++F2)) W W' →St W' w' ps (holeF b o xs1 (cs.set j v) xs2 F1 F2 l1 l2 :: Γ)→K ρ w'):
    OW P Q ⟨none,.store t x y,ty,pos,af,none⟩ n ρ w K:=by
  have hc:v.cells=#[v]:=by cases v <;> first | rfl | (simp [Value.oneCell'] at h1)
  obtain ⟨g1,g2,g3,g4⟩:=H.get 0 rfl
  obtain ⟨c0,tb,hb⟩:=g4 b qo
  have hcell:c0[o+p+j]? =some (cs[j]'hj):=by
    rw [← cell_row hb]
    exact H.holeCell p j hp (by simp [hj])
  have ho:o+p+j < c0.size:=by
    rcases Nat.lt_or_ge (o+p+j) c0.size with h | h
    · exact h
    · rw [Array.getElem?_eq_none h] at hcell;cases hcell
  have hr:=run_storeCells_at P b (o+p+j) tb v.cells.toList 0 c0 w hb (by simp [hc];omega) (by simp [hc,h1])
  have hrow:∃ c1:Array Value,(∀ i,c1[i]? =if i=o+p+j then some v else c0[i]?)∧(execOp (ev n ρ) ⟨none,.store t x y,ty,pos,af,none⟩).run P w=.ok .skip (w.setRow b c1):=by
    refine ⟨(c0.toList.set (o+p+j) v).toArray,fun i=>?_,?_⟩
    · simp only [List.getElem?_toArray,List.getElem?_set,Array.length_toList]
      by_cases h:o+p+j=i
      · subst h;simp [ho]
      · rw [if_neg h,if_neg (fun h' =>h h'.symm),Array.getElem?_toList]
    · simp only [hc,Nat.add_zero,List.length_cons,List.length_nil,Nat.zero_add] at hr
      rw [show c0.toList.take (o+p+j)++[v]++c0.toList.drop (o+p+j+1)=c0.toList.set (o+p+j) v by rw [List.set_eq_take_append_cons_drop,if_pos (by simpa using ho)];simp] at hr
      simp [execOp,hx,hy,Instr.storeAt,Instr.sureAddr,storeVar,hs,hc,hr]
  obtain ⟨c1,hc1,hrun⟩:=hrow
  have e:Chg (b :: (F1++F2)) w (w.setRow b c1):=by
    refine ⟨rfl,rfl,rfl,by simp [World.setRow],fun i _ hi=>?_⟩
    have:b≠i:=fun h=>hi (by simp [h])
    simp [World.setRow,Array.getElem?_modify,this]
  have hnd:b∉F1++F2:=by
    have:=(List.pairwise_flatten.1 N).1 (b :: (F1++F2)) (by simp [holeF])
    exact (List.nodup_cons.1 this).1
  have hstay:∀ i∈F1++F2,(w.setRow b c1).heap[i]? =w.heap[i]? :=fun i hi=>by
    have:b≠i:=fun h=>hnd (h▸hi)
    simp [World.setRow,Array.getElem?_modify,this]
  have hA:zM (w.setRow b c1) b o (xs1++cs.set j v++xs2):=by
    intro i u hu
    rw [cell_setRow hb,hc1]
    subst hp
    by_cases hi:i=xs1.length+j
    · subst hi
      rw [if_pos qg]
      rw [List.append_assoc,List.getElem?_append_right qg,Nat.add_sub_cancel_left,List.getElem?_append_left (by simpa using hj),List.getElem?_set_self hj] at hu
      exact hu
    · rw [if_neg qg,← cell_row hb]
      refine g1 i u ?_
      rw [← hu]
      rcases Nat.lt_or_ge i xs1.length with h2 | h2
      · rw [List.append_assoc,List.append_assoc,List.getElem?_append_left h2,List.getElem?_append_left h2]
      · rw [List.append_assoc,List.append_assoc,List.getElem?_append_right h2,List.getElem?_append_right h2]
        rcases Nat.lt_or_ge (i - xs1.length) cs.length with h3 | h3
        · rw [List.getElem?_append_left h3,List.getElem?_append_left (by simpa using h3),List.getElem?_set_ne qg]
        · rw [List.getElem?_append_right h3,List.getElem?_append_right (by simpa using h3),List.length_set]
  have hB:zx (w.setRow b c1) (b :: (F1++F2)):=by
    intro i hi
    by_cases hbi:b=i
    · subst hbi
      exact ⟨c1,tb,by simp [World.setRow,Array.getElem?_modify,hb]⟩
    · obtain ⟨c2,t2,h2⟩:=g4 i hi
      exact ⟨c2,t2,by simp [World.setRow,Array.getElem?_modify,hbi,h2]⟩
  obtain ⟨W',hW,H'⟩:=H.chgAt N 0 rfl (holeF b o xs1 (cs.set j v) xs2 F1 F2 l1 l2) rfl e ⟨hA,reps_stay g2 (fun i hi=>hstay i (by simp [hi])),reps_stay g3 (fun i hi=>hstay i (by simp [hi])),hB⟩
  exact o_unit hrun (k _ _ hW H')
end

def RetM (R:Value→World→Prop) (F:yLN) (w:World) (e:Ending) (w' :World):Prop:=∃ v,e=.returned v∧R v w' ∧Chg F w w'
section
variable {P : Program} {Q : Exit → Act → World → Prop} {n : Nat} {ρ : Env} {w : World} {d : Nat} {ty : TypeId} {pos : String} {af : Array Edge} {K : Env → World → Prop}
theorem o_callM [Dfr] {x:Operand} {xs:Array Operand} {ts:Array TypeId} {f:FuncId} {fst caps:Array Value} {R:Value→World→Prop} {F:yLN} (args:Array Value) (hv:ev n ρ x=.func (.func f) fst caps)
    (hargs:fst.toList++xs.toList.map (ev n ρ)++caps.toList=args.toList) (hf:∀ args w,(callFunc f args).run P w=.ok (.enter f args) w)
    (hc:Calls P f args w (RetM R F w)) (k:∀ v w',R v w' →Chg F w w' →K (upd ρ d v) w'):
    OW P Q ⟨some d,.call ⟨.value x,xs,ts⟩,ty,pos,af,none⟩ n ρ w K:=by
  have hr:(execOp (ev n ρ) ⟨some d,.call ⟨.value x,xs,ts⟩,ty,pos,af,none⟩).run P w=.ok (.enter f args) w:=by
    have e:fst++xs.map (ev n ρ)++caps=args:=by apply Array.toList_inj.1;rw [← hargs];simp
    simp [execOp,resolve,Deferred.ofValue,hv,invoke,hf,e]
  unfold OW
  intro K' hK
  unfold Oper.wp
  rw [yX,hr]
  refine hc.mono fun e w' ⟨v,he,hR,hE⟩=>?_
  subst he
  show K' ((mk n ρ).put (some d) v) w'
  rw [mk_put]
  exact hK _ _ (k v w' hR hE)
theorem o_rem [Dfr] {x y:Operand} {t u:TypeId} (a b:Int) (hx:ev n ρ x=.int .i64 a) (hy:ev n ρ y=.int .i64 b) (h0:0≤a) (h1:0 < b) (h2:a≤9223372036854775807) (k:K (upd ρ d (.int .i64 (a % b))) w):
    OW P Q ⟨some d,.binOp .rem t x y u,ty,pos,af,none⟩ n ρ w K:=
  o_val _ (by
    have e:a.tmod b=a % b:=Int.tmod_eq_emod_of_nonneg h0
    simp [execOp,hx,hy,eqGuard,binOp,Op.intDiv,show b≠0 by omega,e]) k
end

class Mark (α:Type) where
  cnt:α→Nat
  mrk:α→Int→α
  mkd:α→Int→Prop
  mkd_mark:∀ x k,mkd (mrk x k) k
  cnt_mark:∀ x k,cnt (mrk x k)=cnt x
open Go.Proofs.YtkgdkfkgnodheaaGreat.Mark (cnt mrk mkd mkd_mark cnt_mark)
instance:Mark Int:=⟨fun _=>1,fun _ k=>k,fun x k=>x=k,fun _ _=>rfl,fun _ _=>rfl⟩
instance:Mark Bool:=⟨fun _=>1,fun _ k=>k % 3 == 0,fun x k=>x=(k % 3 == 0),fun _ _=>rfl,fun _ _=>rfl⟩
section
variable {α : Type} [Mark α] [Inhabited α]
def cntTo (l:List α):Nat→Nat
  | 0=>0
  | i+1=>cntTo l i+cnt (l[i]!)
theorem Qi (l:List α) (i:Nat):cntTo l (i+1)=cntTo l i+cnt (l[i]!):=rfl
def ji (l:List α) (k:Int) (i:Nat):List α:=(List.range i).map (fun j=>mrk (l[j]!) (k+(cntTo l j:Nat)))++l.drop i
theorem vS (l:List α) (k:Int) {i:Nat} (h:i≤l.length):(ji l k i).length=l.length:=by simp [ji];omega
theorem markTo_zero (l:List α) (k:Int):ji l k 0=l:=by simp [ji]
theorem markTo_get (l:List α) (k:Int) {i:Nat} (h:i < l.length):(ji l k i)[i]! =l[i]! :=by
  rw [getElem!_pos _ i (by rw [vS l k qg];exact h),getElem!_pos l i h]
  simp [ji,List.getElem_append]
theorem markTo_step (l:List α) (k:Int) {i:Nat} (h:i < l.length):(ji l k i).take i++[mrk (l[i]!) (k+(cntTo l i:Nat))]++(ji l k i).drop (i+1)=ji l k (i+1):=by
  have h1:(ji l k i).take i=(List.range i).map (fun j=>mrk (l[j]!) (k+(cntTo l j:Nat))):=by
    rw [ji,List.take_append_of_le_length qo,List.take_of_length_le qo]
  have h2:(ji l k i).drop (i+1)=l.drop (i+1):=by
    rw [ji,List.drop_append,List.drop_of_length_le qo]
    simp
  rw [h1,h2,ji,List.range_succ]
  simp
def markL (l:List α) (k:Int):List α:=ji l k l.length
theorem markL_get (l:List α) (k:Int) {i:Nat} (h:i < l.length):(markL l k)[i]! =mrk (l[i]!) (k+(cntTo l i:Nat)):=by
  rw [getElem!_pos _ i (by rw [markL,vS l k (Nat.le_refl _)];exact h)]
  simp [markL,ji,List.getElem_append,h]
theorem cntTo_markL (l:List α) (k:Int):∀ i,i≤l.length→cntTo (markL l k) i=cntTo l i
  | 0,_=>rfl
  | i+1,h=>by rw [Qi,Qi,cntTo_markL l k i qg,markL_get l k qg,cnt_mark]
instance:Mark (List α) where
  cnt l:=cntTo l l.length
  mrk:=markL
  mkd l k:=∀ i,i < l.length→mkd (l[i]!) (k+(cntTo l i:Nat))
  mkd_mark l k i hi:=by
    have hi' :i < l.length:=by simpa [markL,ji] using hi
    rw [markL_get l k hi',cntTo_markL l k i qg]
    exact mkd_mark _ _
  cnt_mark l k:=by
    show cntTo (markL l k) (markL l k).length=cntTo l l.length
    rw [show (markL l k).length=l.length from vS l k (Nat.le_refl _),cntTo_markL l k _ (Nat.le_refl _)]
theorem cntTo_mono {l:List α}:∀ {k m:Nat},k≤m→cntTo l k≤cntTo l m
  | k, 0, h => by obtain rfl : k = 0 := by omega
                  exact Nat.le_refl _
  | k,m+1,h=>by
    by_cases e:k=m+1
    · subst e;exact Nat.le_refl _
    · exact Nat.le_trans (cntTo_mono (by omega:k≤m)) (Nat.le_add_right _ _)
theorem cnt_list (l:List α):cnt l=cntTo l l.length:=rfl
theorem cnt_get {l:List α} {k:Nat} (h:k < l.length):cntTo l k+cnt (l[k]!)≤cnt l:=by
  have h1:cntTo l (k+1)≤cntTo l l.length:=cntTo_mono h
  rw [Qi] at h1
  exact h1
end
theorem nodup_hole {b:Nat} {F1 G F2:yLN} (h:(b :: (F1++G++F2)).Nodup):(b :: (F1++F2)++G).Nodup:=by
  refine (List.Perm.nodup_iff ?_).1 h
  refine List.Perm.cons b ?_
  show (F1++G++F2).Perm (F1++F2++G)
  rw [List.append_assoc,List.append_assoc]
  exact List.Perm.append_left F1 List.perm_append_comm
theorem hole_sub (b:Nat) (F1 G F2:yLN):∀ z∈b :: (F1++F2),z∈b :: (F1++G++F2):=by
  intro z hz
  simp only [List.mem_cons,List.mem_append] at hz ⊢
  rcases hz with h | h | h <;> simp [h]
theorem QK {L:List yLN} (h:L.flatten.Nodup) (i:Nat) {A:yLN} (hi:L[i]? =some A):A.Nodup:=(List.pairwise_flatten.1 h).1 A (List.mem_of_getElem? hi)
theorem St.ltOwn {W w:World} {ps:List Prv} {Γ:List Fact} (H:St W w ps Γ) (i:Nat) {f:Fact} (hf:Γ[i]? =some f):∀ x∈f.F,x < w.heap.size∧∀ i,jf ps i≠some x:=(H.facts f (List.mem_of_getElem? hf)).2
section
variable {P : Program} {Q : Exit → Act → World → Prop} {n : Nat} {ρ : Env} {W w : World} {d : Nat} {ty : TypeId} {pos : String} {af : Array Edge} {K : Env → World → Prop} {ps : List Prv} {Γ : List Fact}
theorem o_tail [Dfr] {α:Type} [qV α] {x:Operand} {t e:TypeId} {z:Value} {by' :Nat} {fr:Bool} {F:yLN} {a:yOA} {m c:Nat} {l:List α} (H:St W w ps Γ) (i:Nat) (hf:Γ[i]? =some (isF fr F (.slice a m c) l)) (kk:Nat)
    (hu:P.underlying t=some (.slice e)) (he:TI P e z (qV.size α) by') (hx:ev n ρ x=.slice a m c) (hk:kk≤l.length)
    (k:∀ a' G,(∀ b∈G,b∈F)→St W w ps (isF fr G (.slice a' (l.drop kk).length (c - kk)) (l.drop kk) :: Γ)→K (upd ρ d (.slice a' (l.drop kk).length (c - kk))) w):
    OW P Q ⟨some d,.slice t x (some (.const (.int .i64 (kk:Int)))) none none,ty,pos,af,none⟩ n ρ w K:=by
  obtain ⟨⟨a0,c0,hc,⟨hl,hcap⟩,h⟩,hfr⟩:=H.get i hf
  simp only [List.cons.injEq,Value.slice.injEq,and_true] at hc
  obtain ⟨rfl,rfl,rfl⟩:=hc
  have hev:ev n ρ (.const (.int .i64 (kk:Int)))=.int .i64 (kk:Int):=rfl
  have hrun:(execOp (ev n ρ) ⟨some d,.slice t x (some (.const (.int .i64 (kk:Int)))) none none,ty,pos,af,none⟩).run P w=
      .ok (.value (.slice (if c=kk then a else a.map (·.add (kk * qV.size α))) (l.length - kk) (c - kk))) w:=by
    simp [execOp,hx,hev,Instr.sliceAt,Instr.slice,Instr.sliceBounds,Instr.sliceBound,asIntOf,run_underlying hu,he.sizeOf,hk]
  have hlen:(l.drop kk).length=l.length - kk:=List.length_drop
  rcases h with ⟨h0,hF⟩ | ⟨b,off,F',vs,ha,hF,hb,hr,hcells⟩
  · refine o_val _ hrun ?_
    rw [← hlen]
    refine k _ [] qo (H.add _ ⟨⟨_,_,rfl,⟨by omega,by omega⟩,Or.inl ⟨by simp [h0],rfl⟩⟩,fun _=>zx.nil _⟩ (by simp [isF]))
  · subst ha
    rw [← List.take_append_drop kk l] at hr
    obtain ⟨F1,F2,v1,v2,e1,e2,r1,r2⟩:=reps_split _ hr
    have hv1:v1.length=kk * qV.size α:=by rw [reps_len r1,List.length_take,Nat.min_eq_left hk]
    have hsub:∀ z∈b :: F2,z∈F:=by
      intro z hz
      rw [hF,e1]
      simp only [List.mem_cons,List.mem_append] at hz ⊢
      rcases hz with h | h <;> simp [h]
    refine o_val _ hrun ?_
    rw [← hlen]
    by_cases hck:c=kk
    · have hnil:l.drop kk=[]:=List.drop_eq_nil_of_le qg
      refine k _ [] qo (H.add _ ⟨⟨_,_,rfl,⟨by omega,by omega⟩,Or.inl ⟨hnil,rfl⟩⟩,fun _=>zx.nil _⟩ (by simp [isF]))
    · rw [if_neg hck]
      refine k _ (b :: F2) hsub (H.yj i hf _ ⟨⟨_,_,rfl,⟨by omega,by omega⟩,Or.inr ⟨b,off+kk * qV.size α,F2,v2,by simp [Addr.add_mid],rfl,hb,r2,?_⟩⟩,fun e=>(hfr e).sub hsub⟩ hsub)
      intro j v hv
      rw [Nat.add_assoc]
      refine hcells (kk * qV.size α+j) v ?_
      rw [e2,List.getElem?_append_right qg,hv1,Nat.add_sub_cancel_left]
      exact hv
end
abbrev pp (b o:Nat):Value:=.pointer (some ⟨b,o,none⟩)
abbrev aa (b o:Nat):yOA:=some ⟨b,o,none⟩

section
variable {P : Program} {ops : Array Oper} {Q : Exit → Act → World → Prop} {n : Nat} {ρ : Env} {W0 w : World} {rest : List Oper} {ps : List Prv} {Γ : List Fact}
  {d:Nat} {op:Op} {ty:TypeId} {pos:String} {af:Array Edge} {K:Env→World→Prop} {S:World→Prop} {l:List Oper} {fuel:Nat} {listed:Array Bool}

theorem sp [Dfr] (v:Value) (k:WL P ops Q n rest (upd ρ d v) w) (h:pv (ev n ρ) op=some v:=by exact rfl):WL P ops Q n (⟨some d,op,ty,pos,af,none⟩ :: rest) ρ w:=
  sw (o_pure v h k)

def pvs (n:Nat):List Value→List Oper→Env→Prop
  | [],_,_=>True
  | v :: vs,⟨some d,op,_,_,_,none⟩ :: os,ρ=>pv (ev n ρ) op=some v∧pvs n vs os (upd ρ d v)
  | _ :: _,_,_=>False
def updP:List Value→List Oper→Env→Env
  | v :: vs,o :: os,ρ=>updP vs os (upd ρ (o.dst.getD 0) v)
  | _,_,ρ=>ρ
theorem sps [Dfr]:∀ (vs:List Value) {os:List Oper} {ρ:Env} (_:WL P ops Q n (os.drop vs.length) (updP vs os ρ) w) (_:pvs n vs os ρ:=by (repeat refine And.intro rfl ?_);exact trivial),WL P ops Q n os ρ w
  | [],[],_,k,_=>by simpa [updP] using k
  | [],o :: os,_,k,_=>by simpa [updP] using k
  | v :: vs,[],_,_,h=>h.elim
  | v :: vs,⟨none,op,ty,pos,af,gd⟩ :: os,_,_,h=>h.elim
  | v :: vs,⟨some d,op,ty,pos,af,some g⟩ :: os,_,_,h=>h.elim
  | v :: vs,⟨some d,op,ty,pos,af,none⟩ :: os,ρ,k,h=>sp v (sps vs (by simpa [updP] using k) h.2) h.1

theorem vK [Dfr] {id:Nat} (hm:P.follows .mixedOrders=true) (H:St W0 w ps Γ)
    (h:St W0 w.drew ps Γ→RW P l Q (fun w=>St W0 w ps Γ) n l.toArray.size (Array.replicate l.toArray.size false) ρ w.drew):(Code.region id l.toArray true).wp P Q (mk n ρ) w:=
  c_draw (fun w=>St W0 w ps Γ) hm (H.ext (ext_drew _)) (h (H.ext (ext_drew _)))

def takeOk (l:List Oper) (listed:Array Bool) (i:Nat):Bool:=Region.noSelect l.toArray && (Region.free .any l.toArray listed i && (Region.ready .any l.toArray listed).contains i)
def NoPanic (Q:Exit→Act→World→Prop) (d:Nat) (v:Value):Prop:=∀ c a w,Q (.panic c) (a.put (some d) v) w→Q (.panic c) a w
theorem Qv {i:Nat} (h:takeOk l listed i=true):Region.noSelect l.toArray=true∧Region.free .any l.toArray listed i=true∧(Region.ready .any l.toArray listed).contains i=true:=by
  simp only [takeOk,Bool.and_eq_true] at h
  exact h

theorem rt [Dfr] (i:Nat) (v:Value) (hy:∀ w',S w' →(execOp (ev n ρ) ⟨some d,op,ty,pos,af,none⟩).run P w' =.ok (.value v) w') (hS:S w)
    (h:RW P l Q S n fuel (listed.setIfInBounds i true) (upd ρ d v) w) (hi:l.toArray[i]? =some ⟨some d,op,ty,pos,af,none⟩:=by exact rfl) (hk:takeOk l listed i=true:=by kernel_rfl)
    (hQ:NoPanic Q d v:=by exact fun _ _ _ h=>h):RW P l Q S n (fuel+1) listed ρ w:=
  r_take i v hi (Qv hk).1 (Qv hk).2.1 (Qv hk).2.2 hQ hy hS h
theorem rtp [Dfr] (i:Nat) (v:Value) (hS:S w) (h:RW P l Q S n fuel (listed.setIfInBounds i true) (upd ρ d v) w) (hi:l.toArray[i]? =some ⟨some d,op,ty,pos,af,none⟩:=by exact rfl)
    (hp:pv (ev n ρ) op=some v:=by exact rfl) (hk:takeOk l listed i=true:=by kernel_rfl) (hQ:NoPanic Q d v:=by exact fun _ _ _ h=>h):RW P l Q S n (fuel+1) listed ρ w:=
  rt i v (y_pure hp) hS h hi hk hQ
theorem rg [Dfr] {j:Nat} {b:Bool} (i:Nat) (v:Value) (e:Nat) (hy:∀ w',S w' →(execOp (ev n ρ) ⟨some d,op,ty,pos,af,some (j,b)⟩).run P w' =.ok (.value v) w') (hS:S w)
    (h:RW P l Q S n fuel (listed.setIfInBounds i true) (upd ρ d v) w) (hi:l.toArray[i]? =some ⟨some d,op,ty,pos,af,some (j,b)⟩:=by exact rfl) (hk:takeOk l listed i=true:=by kernel_rfl)
    (hd:dstAt l j=some e:=by exact rfl) (hv:ev n ρ (.tmp e)=.bool b:=by exact rfl) (hQ:NoPanic Q d v:=by exact fun _ _ _ h=>h):RW P l Q S n (fuel+1) listed ρ w:=
  r_takeG i v hi (Qv hk).1 (Qv hk).2.1 (Qv hk).2.2 hQ hd hv hy hS h
theorem rgp [Dfr] {j:Nat} {b:Bool} (i:Nat) (v:Value) (e:Nat) (hS:S w) (h:RW P l Q S n fuel (listed.setIfInBounds i true) (upd ρ d v) w) (hi:l.toArray[i]? =some ⟨some d,op,ty,pos,af,some (j,b)⟩:=by exact rfl)
    (hp:pv (ev n ρ) op=some v:=by exact rfl) (hk:takeOk l listed i=true:=by kernel_rfl)
    (hd:dstAt l j=some e:=by exact rfl) (hv:ev n ρ (.tmp e)=.bool b:=by exact rfl) (hQ:NoPanic Q d v:=by exact fun _ _ _ h=>h):RW P l Q S n (fuel+1) listed ρ w:=
  rg i v e (y_pure hp) hS h hi hk hd hv hQ

def skipOk (n:Nat) (ρ:Env) (l:List Oper) (o:Oper):Bool:=
  match o.guard with
  | some (j,b)=>match dstAt l j with
    | some e=>match ev n ρ (.tmp e) with | .bool c=>c != b | .tuple vs=>vs.isEmpty | _=>false
    | none=>false
  | none=>false
theorem skipOk_wanted [Dfr] {o:Oper} (h:skipOk n ρ l o=true):Region.wanted o (yielded l.toArray (mk n ρ).tmps)=false:=by
  unfold skipOk at h
  unfold Region.wanted
  split at h
  · rename_i j b hg
    split at h
    · rename_i e he
      rw [hg]
      split at h
      · rename_i c hc
        simp [yielded_of ((dstAt_eq l j).trans he) hc]
        simpa using h
      · rename_i vs hc
        have:vs=#[]:=by simpa using h
        subst this
        simp [yielded_un ((dstAt_eq l j).trans he) hc]
      · cases h
    · cases h
  · cases h
def updU (ρ:Env):yLN→Env
  | []=>ρ
  | d :: ds=>updU (upd ρ d undef) ds
def chkL (n:Nat) (l:List Oper):List Oper→yLN→Env→Bool
  | _,[],_=>true
  | o :: os,d :: ds,ρ=>match o.dst with
    | some d' =>Nat.beq d' d && (skipOk n ρ l o && chkL n l os ds (upd ρ d undef))
    | none=>false
  | [],_ :: _,_=>false
theorem zG [Dfr]:∀ (ds:yLN) {os:List Oper} {ρ:Env} (_:WL P l.toArray Q n (os.drop ds.length) (updU ρ ds) w) (_:chkL n l os ds ρ=true:=by kernel_rfl),WL P l.toArray Q n os ρ w
  | [],_,_,k,_=>by simpa [updU] using k
  | d :: ds,[],ρ,_,h=>by simp [chkL] at h
  | d :: ds,⟨dst,op,ty,pos,af,gd⟩ :: os,ρ,k,h=>by
    unfold chkL at h
    split at h
    · rename_i d' hd
      simp only [Bool.and_eq_true] at h
      obtain ⟨h1,h2,h3⟩:=h
      have hd' :=Nat.eq_of_beq_eq_true h1
      simp only at hd
      subst hd hd'
      have hw:=skipOk_wanted h2
      have k' :=zG ds (os:=os) (ρ:=upd ρ d' undef) (by simpa [updU] using k) h3
      refine WL.of ?_
      unfold wpList
      rw [if_neg (by rw [hw];simp),mk_put]
      exact k'.out
    · cases h
def chkR (n:Nat) (l:List Oper):yLN→Array Bool→Env→Bool
  | [],_,_=>true
  | i :: is,listed,ρ=>match l.toArray[i]? with
    | some o=>match o.dst with
      | some d=>skipOk n ρ l o && (takeOk l listed i && chkR n l is (listed.setIfInBounds i true) (upd ρ d undef))
      | none=>false
    | none=>false
def updR (l:List Oper):yLN→Env→Env
  | [],ρ=>ρ
  | i :: is,ρ=>updR l is (upd ρ ((dstAt l i).getD 0) undef)
def lsts:yLN→Array Bool→Array Bool
  | [],a=>a
  | i :: is,a=>lsts is (a.setIfInBounds i true)
theorem zL [Dfr]:∀ (is:yLN) (m:Nat) {fuel:Nat} {listed:Array Bool} {ρ:Env} (_:S w) (_:RW P l Q S n fuel (lsts is listed) (updR l is ρ) w) (_:chkR n l is listed ρ=true:=by kernel_rfl) (_:is.length=m:=by exact rfl)
    (_:∀ d,NoPanic Q d undef:=by exact fun _ _ _ _ h=>h),RW P l Q S n (fuel+m) listed ρ w
  | [],m,_,_,_,_,k,_,hm,_=>by subst hm;exact k
  | i :: is,m,fuel,listed,ρ,hS,k,h,hm,hQ=>by
    subst hm
    unfold chkR at h
    split at h
    · rename_i o ho
      split at h
      · rename_i d hd
        simp only [Bool.and_eq_true] at h
        obtain ⟨h1,h2,h3⟩:=h
        have hw:=skipOk_wanted h1
        have e:dstAt l i=some d:=by rw [← dstAt_eq,ho];exact hd
        have k' :=zL is is.length (fuel:=fuel) (listed:=listed.setIfInBounds i true) (ρ:=upd ρ d undef) hS (by simpa [updR,lsts,e] using k) h3 rfl hQ
        show RW P l Q S n ((fuel+is.length)+1) listed ρ w
        obtain ⟨dst,op,ty,pos,af,gd⟩:=o
        simp only at hd
        subst hd
        unfold RW at k' ⊢
        refine wpAnyH_take ho (Qv h2).1 (Qv h2).2.1 (Qv h2).2.2 (hQ d) (Or.inr ⟨hw,rfl⟩) hS ?_
        show wpAnyH P .any l.toArray Q S _ _ ((mk n ρ).put (some d) undef) w
        rw [mk_put]
        exact k'
      · cases h
    · cases h
end
class FldC (P:Program) (t:TypeId) (i:Nat) (j:outParam Nat):Prop where
  out:∃ (fs:Array Field) (f:Field) (m:Nat),P.underlying t=some (.struct fs)∧fs[i]? =some f∧f.offset=j∧∀ w,(Go.sizeOf f.type).run P w=.ok (m+1) w
class SclC (P:Program) (t:TypeId):Prop where
  out:∀ w,(isAgg t).run P w=.ok false w
class SliC (P:Program) (t:TypeId) (e:outParam TypeId):Prop where
  out:P.underlying t=some (.slice e)
class TIC (P:Program) (t:TypeId) (z:outParam Value) (sz by' :outParam Nat):Prop where
  out:TI P t z sz by'
class Qb (P:Program) (f:FuncId):Prop where
  out:∀ args w,(callFunc f args).run P w=.ok (.enter f args) w

section
variable {P : Program} {ops : Array Oper} {Q : Exit → Act → World → Prop} {n : Nat} {ρ : Env} {W0 w : World} {rest : List Oper} {ps : List Prv} {Γ : List Fact}
  {d:Nat} {op:Op} {ty:TypeId} {pos:String} {af:Array Edge} {K:Env→World→Prop} {S:World→Prop} {l:List Oper} {fuel:Nat} {listed:Array Bool}

theorem en {f:FuncId} {fn:Func} {c:Code} {args:Array Value} {R:Ending→World→Prop} (hf:P.funcs[f]? =some fn) (hn:fn.ntmps=n) (h:c.wp P (bodyPost P fn R) (mk n (env0 args.toList)) w)
    (hb:fn.body=some c:=by exact rfl) (hs:args.size≤n:=by exact Nat.le_of_ble_eq_true rfl):Calls P f args w R:=enter hf hb hn hs h

theorem oF [Dfr] {t:TypeId} {x:Operand} {i j b off:Nat} [hF:FldC P t i j] (hx:ev n ρ x=.pointer (some ⟨b,off,none⟩)) (k:WL P ops Q n rest (upd ρ d (.pointer (some ⟨b,off+j,none⟩))) w):
    WL P ops Q n (⟨some d,.fieldAddr t x i,ty,pos,af,none⟩ :: rest) ρ w:=by
  obtain ⟨fs,f,m,h1,h2,h3,h4⟩:=hF.out
  exact sw (o_field b off j h1 h2 h3 h4 hx k)
theorem oL [Dfr] {t:TypeId} {x:Operand} {b off:Nat} {v:Value} [hA:SclC P t] (hx:ev n ρ x=.pointer (some ⟨b,off,none⟩)) (hc:w.cell? ⟨b,off,none⟩=some v) (k:WL P ops Q n rest (upd ρ d v) w):
    WL P ops Q n (⟨some d,.load t x,ty,pos,af,none⟩ :: rest) ρ w:=sw (xY v hA.out hx hc k)
theorem oN [Dfr] {x:Operand} {t e:TypeId} {a:yOA} {m c:Nat} [hS:SliC P t e] (hx:ev n ρ x=.slice a m c) (k:WL P ops Q n rest (upd ρ d (.int .i64 m)) w):
    WL P ops Q n (⟨some d,.call ⟨.builtin .len,#[x],#[t]⟩,ty,pos,af,none⟩ :: rest) ρ w:=sw (o_len hS.out a m c hx k)
theorem oI [Dfr] {x y:Operand} {t e:TypeId} {b off m c:Nat} {z:Value} {sz by' :Nat} {iv:Int} [hS:SliC P t e] [hT:TIC P e z sz by'] (hx:ev n ρ x=.slice (some ⟨b,off,none⟩) m c) (hy:ev n ρ y=.int .i64 iv)
    (k:WL P ops Q n rest (upd ρ d (.pointer (some ⟨b,off+iv.toNat * sz,none⟩))) w) (h0:0≤iv:=by omega) (h1:iv < m:=by omega):WL P ops Q n (⟨some d,.indexAddr t x y,ty,pos,af,none⟩ :: rest) ρ w:=
  sw (o_idxAt iv hS.out hT.out hx hy h0 h1 k)

theorem tF [Dfr] {t:TypeId} {x:Operand} {j k b off:Nat} (i:Nat) (hi:l.toArray[i]? =some ⟨some d,.fieldAddr t x j,ty,pos,af,none⟩) [hF:FldC P t j k] (hx:ev n ρ x=.pointer (some ⟨b,off,none⟩)) (hS:S w)
    (h:RW P l Q S n fuel (listed.setIfInBounds i true) (upd ρ d (.pointer (some ⟨b,off+k,none⟩))) w) (hk:takeOk l listed i=true:=by kernel_rfl)
    (hQ:NoPanic Q d (.pointer (some ⟨b,off+k,none⟩)):=by exact fun _ _ _ h=>h):RW P l Q S n (fuel+1) listed ρ w:=by
  obtain ⟨fs,f,m,h1,h2,h3,h4⟩:=hF.out
  exact rt i _ (y_field b off k h1 h2 h3 h4 hx) hS h hi hk hQ
theorem tL [Dfr] {t:TypeId} {x:Operand} {b off:Nat} {v:Value} (i:Nat) (hi:l.toArray[i]? =some ⟨some d,.load t x,ty,pos,af,none⟩) [hA:SclC P t] (hx:ev n ρ x=.pointer (some ⟨b,off,none⟩))
    (hc:∀ w',S w' →w'.cell? ⟨b,off,none⟩=some v) (hS:S w) (h:RW P l Q S n fuel (listed.setIfInBounds i true) (upd ρ d v) w) (hk:takeOk l listed i=true:=by kernel_rfl)
    (hQ:NoPanic Q d v:=by exact fun _ _ _ h=>h):RW P l Q S n (fuel+1) listed ρ w:=rt i v (y_load1 hA.out hx hc) hS h hi hk hQ
theorem tN [Dfr] {t e:TypeId} {x:Operand} {a:yOA} {m c:Nat} (i:Nat) (hi:l.toArray[i]? =some ⟨some d,.call ⟨.builtin .len,#[x],#[t]⟩,ty,pos,af,none⟩) [hL:SliC P t e] (hx:ev n ρ x=.slice a m c) (hS:S w)
    (h:RW P l Q S n fuel (listed.setIfInBounds i true) (upd ρ d (.int .i64 m)) w) (hk:takeOk l listed i=true:=by kernel_rfl) (hQ:NoPanic Q d (.int .i64 m):=by exact fun _ _ _ h=>h):
    RW P l Q S n (fuel+1) listed ρ w:=rt i _ (y_len hL.out a m c hx) hS h hi hk hQ
theorem tI [Dfr] {t e:TypeId} {x y:Operand} {b off m c:Nat} {z:Value} {sz by' :Nat} {iv:Int} (i:Nat) (hi:l.toArray[i]? =some ⟨some d,.indexAddr t x y,ty,pos,af,none⟩) [hL:SliC P t e] [hT:TIC P e z sz by']
    (hx:ev n ρ x=.slice (some ⟨b,off,none⟩) m c) (hy:ev n ρ y=.int .i64 iv) (hS:S w) (h:RW P l Q S n fuel (listed.setIfInBounds i true) (upd ρ d (.pointer (some ⟨b,off+iv.toNat * sz,none⟩))) w)
    (h0:0≤iv:=by omega) (h1:iv < m:=by omega) (hk:takeOk l listed i=true:=by kernel_rfl) (hQ:NoPanic Q d (.pointer (some ⟨b,off+iv.toNat * sz,none⟩)):=by exact fun _ _ _ h=>h):RW P l Q S n (fuel+1) listed ρ w:=
  rt i _ (y_idxAt b off m c iv hL.out hT.out hx hy h0 h1) hS h hi hk hQ

theorem gF [Dfr] {t:TypeId} {x:Operand} {j k b off i' e:Nat} {bb:Bool} (i:Nat) (hi:l.toArray[i]? =some ⟨some d,.fieldAddr t x j,ty,pos,af,some (i',bb)⟩) [hF:FldC P t j k] (hx:ev n ρ x=.pointer (some ⟨b,off,none⟩)) (hS:S w)
    (h:RW P l Q S n fuel (listed.setIfInBounds i true) (upd ρ d (.pointer (some ⟨b,off+k,none⟩))) w) (hk:takeOk l listed i=true:=by kernel_rfl)
    (hd:dstAt l i' =some e:=by exact rfl) (hv:ev n ρ (.tmp e)=.bool bb:=by exact rfl) (hQ:NoPanic Q d (.pointer (some ⟨b,off+k,none⟩)):=by exact fun _ _ _ h=>h):RW P l Q S n (fuel+1) listed ρ w:=by
  obtain ⟨fs,f,m,h1,h2,h3,h4⟩:=hF.out
  exact rg i _ e (y_field b off k h1 h2 h3 h4 hx) hS h hi hk hd hv hQ
theorem gL [Dfr] {t:TypeId} {x:Operand} {b off i' e:Nat} {bb:Bool} {v:Value} (i:Nat) (hi:l.toArray[i]? =some ⟨some d,.load t x,ty,pos,af,some (i',bb)⟩) [hA:SclC P t] (hx:ev n ρ x=.pointer (some ⟨b,off,none⟩))
    (hc:∀ w',S w' →w'.cell? ⟨b,off,none⟩=some v) (hS:S w) (h:RW P l Q S n fuel (listed.setIfInBounds i true) (upd ρ d v) w) (hk:takeOk l listed i=true:=by kernel_rfl)
    (hd:dstAt l i' =some e:=by exact rfl) (hv:ev n ρ (.tmp e)=.bool bb:=by exact rfl) (hQ:NoPanic Q d v:=by exact fun _ _ _ h=>h):RW P l Q S n (fuel+1) listed ρ w:=
  rg i v e (y_load1 hA.out hx hc) hS h hi hk hd hv hQ
theorem gN [Dfr] {t e' :TypeId} {x:Operand} {a:yOA} {m c i' e:Nat} {bb:Bool} (i:Nat) (hi:l.toArray[i]? =some ⟨some d,.call ⟨.builtin .len,#[x],#[t]⟩,ty,pos,af,some (i',bb)⟩) [hL:SliC P t e'] (hx:ev n ρ x=.slice a m c) (hS:S w)
    (h:RW P l Q S n fuel (listed.setIfInBounds i true) (upd ρ d (.int .i64 m)) w) (hk:takeOk l listed i=true:=by kernel_rfl)
    (hd:dstAt l i' =some e:=by exact rfl) (hv:ev n ρ (.tmp e)=.bool bb:=by exact rfl) (hQ:NoPanic Q d (.int .i64 m):=by exact fun _ _ _ h=>h):
    RW P l Q S n (fuel+1) listed ρ w:=rg i _ e (y_len hL.out a m c hx) hS h hi hk hd hv hQ
theorem gI [Dfr] {t e' :TypeId} {x y:Operand} {b off m c i' e:Nat} {bb:Bool} {z:Value} {sz by' :Nat} {iv:Int} (i:Nat) (hi:l.toArray[i]? =some ⟨some d,.indexAddr t x y,ty,pos,af,some (i',bb)⟩) [hL:SliC P t e'] [hT:TIC P e' z sz by']
    (hx:ev n ρ x=.slice (some ⟨b,off,none⟩) m c) (hy:ev n ρ y=.int .i64 iv) (hS:S w) (h:RW P l Q S n fuel (listed.setIfInBounds i true) (upd ρ d (.pointer (some ⟨b,off+iv.toNat * sz,none⟩))) w)
    (h0:0≤iv:=by omega) (h1:iv < m:=by omega) (hk:takeOk l listed i=true:=by kernel_rfl)
    (hd:dstAt l i' =some e:=by exact rfl) (hv:ev n ρ (.tmp e)=.bool bb:=by exact rfl) (hQ:NoPanic Q d (.pointer (some ⟨b,off+iv.toNat * sz,none⟩)):=by exact fun _ _ _ h=>h):RW P l Q S n (fuel+1) listed ρ w:=
  rg i _ e (y_idxAt b off m c iv hL.out hT.out hx hy h0 h1) hS h hi hk hd hv hQ

theorem oc [Dfr] {x:Operand} {xs:Array Operand} {ts:Array TypeId} {f:FuncId} {fst caps:Array Value} {R:Value→World→Prop} {args:Array Value} [hC:Qb P f]
    (hc:Calls P f args w fun e w' =>∃ v,e=.returned v∧R v w' ∧Ext w w') (k:∀ v w',R v w' →Ext w w' →K (upd ρ d v) w')
    (hv:ev n ρ x=.func (.func f) fst caps:=by exact rfl) (hargs:fst.toList++xs.toList.map (ev n ρ)++caps.toList=args.toList:=by exact rfl):
    OW P Q ⟨some d,.call ⟨.value x,xs,ts⟩,ty,pos,af,none⟩ n ρ w K:=o_call args hv hargs hC.out hc k
theorem oq [Dfr] {x:Operand} {xs:Array Operand} {ts:Array TypeId} {f:FuncId} {fst caps:Array Value} {val:Value} {args:Array Value} [hC:Qb P f]
    (hc:Calls P f args w (Ret (fun v _=>v=val) w)) (H:St W0 w ps Γ) (k:∀ w',St W0 w' ps Γ→K (upd ρ d val) w')
    (hv:ev n ρ x=.func (.func f) fst caps:=by exact rfl) (hargs:fst.toList++xs.toList.map (ev n ρ)++caps.toList=args.toList:=by exact rfl):
    OW P Q ⟨some d,.call ⟨.value x,xs,ts⟩,ty,pos,af,none⟩ n ρ w K:=oc hc (fun _ w' e h=>e▸k w' (H.ext h)) hv hargs
end
section
variable {W0 w : World} {ps : List Prv} {Γ : List Fact}
theorem St.vT (H:St W0 w ps Γ) (i:Nat) {fr:Bool} {F:yLN} {b o m c:Nat} {l:yLI} (hf:Γ[i]? =some (isF fr F (.slice (some ⟨b,o,none⟩) m c) l)) (k:Nat) (h1:k < l.length):
    w.cell? ⟨b,o+(k:Int).toNat * 1,none⟩=some (.int .i64 (l[k]!)):=H.vY i hf (k:Int) qg qg
theorem St.elemBoolN (H:St W0 w ps Γ) (i:Nat) {fr:Bool} {F:yLN} {b o m c:Nat} {l:List Bool} (hf:Γ[i]? =some (isF fr F (.slice (some ⟨b,o,none⟩) m c) l)) (k:Nat) (h1:k < l.length):
    w.cell? ⟨b,o+(k:Int).toNat * 1,none⟩=some (.bool (l[k]!)):=H.Qn i hf (k:Int) qg qg
end
section
variable {P : Program} {Q : Exit → Act → World → Prop} {n : Nat} {ρ : Env} {w : World} {x : Operand} {y z : Code}
theorem cD [Dfr] {p:Prop} [Decidable p] (hc:ev n ρ x=.bool (decide p)) (h1:p→y.wp P Q (mk n ρ) w) (h2:¬ p→z.wp P Q (mk n ρ) w):(Code.cond x y z).wp P Q (mk n ρ) w:=xC _ hc (fun h=>h1 (of_decide_eq_true h)) fun h=>h2 (of_decide_eq_false h)
theorem cE [Dfr] {a b:Int} (hc:ev n ρ x=.bool (a == b)) (h1:a=b→y.wp P Q (mk n ρ) w) (h2:a≠b→z.wp P Q (mk n ρ) w):(Code.cond x y z).wp P Q (mk n ρ) w:=xC _ hc (fun h=>h1 (eq_of_beq h)) fun h=>h2 (ne_of_beq_false h)
theorem cP [Dfr] {p:Prop} (hc:ev n ρ x=.bool (dec p)) (h1:p→y.wp P Q (mk n ρ) w) (h2:¬ p→z.wp P Q (mk n ρ) w):(Code.cond x y z).wp P Q (mk n ρ) w:=xC _ hc (fun h=>h1 (zZ h)) fun h=>h2 (zy h)
theorem cQ [Dfr] {p:Prop} (hc:ev n ρ x=.bool (!(dec p))) (h1:¬ p→y.wp P Q (mk n ρ) w) (h2:p→z.wp P Q (mk n ρ) w):(Code.cond x y z).wp P Q (mk n ρ) w:=xC _ hc (fun h=>h1 (zy (xB h))) fun h=>h2 (zZ (xq h))
theorem ro [Dfr] {l:List Oper} {S:World→Prop} {fuel:Nat} {listed:Array Bool} {dst:Option Nat} {op:Op} {ty:TypeId} {pos:String} {af:Array Edge} (i:Nat) (hi:l.toArray[i]? =some ⟨dst,op,ty,pos,af,none⟩)
    (h:OW P Q ⟨dst,op,ty,pos,af,none⟩ n ρ w fun ρ w=>S w∧RW P l Q S n fuel (listed.setIfInBounds i true) ρ w) (hr:Region.ready .any l.toArray listed=[i]:=by kernel_rfl):RW P l Q S n (fuel+1) listed ρ w:=
  yz [i] hr qo (r_op hi h yA)
end
theorem uE1 {ρ:Env} {d1:Nat} {v1:Value} (h1:ρ d1=v1:=by rfl):ρ=upd ρ d1 v1:=zO rfl h1
theorem uE2 {ρ:Env} {d1 d2:Nat} {v1 v2:Value} (h1:ρ d1=v1:=by rfl) (h2:ρ d2=v2:=by rfl):ρ=upd (upd ρ d1 v1) d2 v2:=zO (zO rfl h1) h2
theorem uE3 {ρ:Env} {d1 d2 d3:Nat} {v1 v2 v3:Value} (h1:ρ d1=v1:=by rfl) (h2:ρ d2=v2:=by rfl) (h3:ρ d3=v3:=by rfl):ρ=upd (upd (upd ρ d1 v1) d2 v2) d3 v3:=zO (zO (zO rfl h1) h2) h3
theorem uE4 {ρ:Env} {d1 d2 d3 d4:Nat} {v1 v2 v3 v4:Value} (h1:ρ d1=v1:=by rfl) (h2:ρ d2=v2:=by rfl) (h3:ρ d3=v3:=by rfl) (h4:ρ d4=v4:=by rfl):ρ=upd (upd (upd (upd ρ d1 v1) d2 v2) d3 v3) d4 v4:=zO (zO (zO (zO rfl h1) h2) h3) h4
theorem uE5 {ρ:Env} {d1 d2 d3 d4 d5:Nat} {v1 v2 v3 v4 v5:Value} (h1:ρ d1=v1:=by rfl) (h2:ρ d2=v2:=by rfl) (h3:ρ d3=v3:=by rfl) (h4:ρ d4=v4:=by rfl) (h5:ρ d5=v5:=by rfl):ρ=upd (upd (upd (upd (upd ρ d1 v1) d2 v2) d3 v3) d4 v4) d5 v5:=zO (zO (zO (zO (zO rfl h1) h2) h3) h4) h5
theorem uE6 {ρ:Env} {d1 d2 d3 d4 d5 d6:Nat} {v1 v2 v3 v4 v5 v6:Value} (h1:ρ d1=v1:=by rfl) (h2:ρ d2=v2:=by rfl) (h3:ρ d3=v3:=by rfl) (h4:ρ d4=v4:=by rfl) (h5:ρ d5=v5:=by rfl) (h6:ρ d6=v6:=by rfl):ρ=upd (upd (upd (upd (upd (upd ρ d1 v1) d2 v2) d3 v3) d4 v4) d5 v5) d6 v6:=zO (zO (zO (zO (zO (zO rfl h1) h2) h3) h4) h5) h6
theorem uE7 {ρ:Env} {d1 d2 d3 d4 d5 d6 d7:Nat} {v1 v2 v3 v4 v5 v6 v7:Value} (h1:ρ d1=v1:=by rfl) (h2:ρ d2=v2:=by rfl) (h3:ρ d3=v3:=by rfl) (h4:ρ d4=v4:=by rfl) (h5:ρ d5=v5:=by rfl) (h6:ρ d6=v6:=by rfl) (h7:ρ d7=v7:=by rfl):ρ=upd (upd (upd (upd (upd (upd (upd ρ d1 v1) d2 v2) d3 v3) d4 v4) d5 v5) d6 v6) d7 v7:=zO (zO (zO (zO (zO (zO (zO rfl h1) h2) h3) h4) h5) h6) h7
theorem uE8 {ρ:Env} {d1 d2 d3 d4 d5 d6 d7 d8:Nat} {v1 v2 v3 v4 v5 v6 v7 v8:Value} (h1:ρ d1=v1:=by rfl) (h2:ρ d2=v2:=by rfl) (h3:ρ d3=v3:=by rfl) (h4:ρ d4=v4:=by rfl) (h5:ρ d5=v5:=by rfl) (h6:ρ d6=v6:=by rfl) (h7:ρ d7=v7:=by rfl) (h8:ρ d8=v8:=by rfl):ρ=upd (upd (upd (upd (upd (upd (upd (upd ρ d1 v1) d2 v2) d3 v3) d4 v4) d5 v5) d6 v6) d7 v7) d8 v8:=zO (zO (zO (zO (zO (zO (zO (zO rfl h1) h2) h3) h4) h5) h6) h7) h8
theorem uE9 {ρ:Env} {d1 d2 d3 d4 d5 d6 d7 d8 d9:Nat} {v1 v2 v3 v4 v5 v6 v7 v8 v9:Value} (h1:ρ d1=v1:=by rfl) (h2:ρ d2=v2:=by rfl) (h3:ρ d3=v3:=by rfl) (h4:ρ d4=v4:=by rfl) (h5:ρ d5=v5:=by rfl) (h6:ρ d6=v6:=by rfl) (h7:ρ d7=v7:=by rfl) (h8:ρ d8=v8:=by rfl) (h9:ρ d9=v9:=by rfl):ρ=upd (upd (upd (upd (upd (upd (upd (upd (upd ρ d1 v1) d2 v2) d3 v3) d4 v4) d5 v5) d6 v6) d7 v7) d8 v8) d9 v9:=zO (zO (zO (zO (zO (zO (zO (zO (zO rfl h1) h2) h3) h4) h5) h6) h7) h8) h9
theorem uE10 {ρ:Env} {d1 d2 d3 d4 d5 d6 d7 d8 d9 d10:Nat} {v1 v2 v3 v4 v5 v6 v7 v8 v9 v10:Value} (h1:ρ d1=v1:=by rfl) (h2:ρ d2=v2:=by rfl) (h3:ρ d3=v3:=by rfl) (h4:ρ d4=v4:=by rfl) (h5:ρ d5=v5:=by rfl) (h6:ρ d6=v6:=by rfl) (h7:ρ d7=v7:=by rfl) (h8:ρ d8=v8:=by rfl) (h9:ρ d9=v9:=by rfl) (h10:ρ d10=v10:=by rfl):ρ=upd (upd (upd (upd (upd (upd (upd (upd (upd (upd ρ d1 v1) d2 v2) d3 v3) d4 v4) d5 v5) d6 v6) d7 v7) d8 v8) d9 v9) d10 v10:=zO (zO (zO (zO (zO (zO (zO (zO (zO (zO rfl h1) h2) h3) h4) h5) h6) h7) h8) h9) h10
theorem uE11 {ρ:Env} {d1 d2 d3 d4 d5 d6 d7 d8 d9 d10 d11:Nat} {v1 v2 v3 v4 v5 v6 v7 v8 v9 v10 v11:Value} (h1:ρ d1=v1:=by rfl) (h2:ρ d2=v2:=by rfl) (h3:ρ d3=v3:=by rfl) (h4:ρ d4=v4:=by rfl) (h5:ρ d5=v5:=by rfl) (h6:ρ d6=v6:=by rfl) (h7:ρ d7=v7:=by rfl) (h8:ρ d8=v8:=by rfl) (h9:ρ d9=v9:=by rfl) (h10:ρ d10=v10:=by rfl) (h11:ρ d11=v11:=by rfl):ρ=upd (upd (upd (upd (upd (upd (upd (upd (upd (upd (upd ρ d1 v1) d2 v2) d3 v3) d4 v4) d5 v5) d6 v6) d7 v7) d8 v8) d9 v9) d10 v10) d11 v11:=zO (zO (zO (zO (zO (zO (zO (zO (zO (zO (zO rfl h1) h2) h3) h4) h5) h6) h7) h8) h9) h10) h11
abbrev rr (a:yOA) (n c:Nat) (e:TypeId) (sz:Nat) (xs:List Value):Prv:=.row (.slice a n c) e sz n xs
section
variable {α : Type} [qV α]
abbrev sF (fr:Bool) (F:yLN) (a:yOA) (c:Nat) (l:List α):Fact:=isF (α:=List α) fr F (.slice a l.length c) l
end
theorem St.dF {W0 w:World} {ps:List Prv} {Γ:List Fact} (H:St W0 w ps Γ) (k:Nat):St W0 w ps (Γ.drop k):=H.sub _ fun _ h=>List.mem_of_mem_drop h
section
variable {P : Program} {ops : Array Oper} {Q Q' : Exit → Act → World → Prop} {n : Nat} {ρ : Env} {w : World} {a : Act} {N N1 N2 N3 : Act → World → Prop} {id id1 : Nat} {l : List Oper} {y z : Code}
theorem zjn [Dfr] (h:N (mk n ρ) w):WL P ops (Exit.then N Q) n [] ρ w:=xN (t_n h)
theorem zcr [Dfr] (h:WL P l.toArray (Exit.then (y.wp P Q) Q) n l ρ w):((Code.region id l.toArray false).seq y).wp P Q (mk n ρ) w:=xP (xJ h)
theorem zjr [Dfr] (h:Q .ret (mk n ρ) w):WL P ops (Exit.then (Code.ret.wp P Q) Q') n [] ρ w:=zjn (c_ret h)
theorem zcc [Dfr] (h:WL P l.toArray (Exit.then (y.wp P (Exit.then (z.wp P Q) Q)) (Exit.then (z.wp P Q) Q)) n l ρ w):(((Code.region id l.toArray false).seq y).seq z).wp P Q (mk n ρ) w:=xP (zcr h)
theorem zjc [Dfr] (h:WL P l.toArray (Exit.then (y.wp P Q) Q) n l ρ w):WL P ops (Exit.then (((Code.region id l.toArray false).seq y).wp P Q) Q') n [] ρ w:=zjn (zcr h)
theorem zjcc [Dfr] (h:WL P l.toArray (Exit.then (y.wp P (Exit.then (z.wp P Q) Q)) (Exit.then (z.wp P Q) Q)) n l ρ w):WL P ops (Exit.then ((((Code.region id l.toArray false).seq y).seq z).wp P Q) Q') n [] ρ w:=zjn (zcc h)
theorem zx4 [Dfr] (h:N3 (mk n ρ) w):(Code.exit id).wp P (Exit.then N1 (Exit.then N2 (Exit.inBlock id (Exit.then N3 Q)))) (mk n ρ) w:=c_exit (t_x (t_x (b_x (t_n h))))
theorem zr5 (h:Q .ret a w):Exit.inBlock id (Exit.then N1 (Exit.then N2 (Exit.inBlock id1 (Exit.then N3 Q)))) .ret a w:=b_r (t_r (t_r (b_r (t_r h))))
end
section
variable {P : Program} {Q : Exit → Act → World → Prop} {n : Nat} {ρ : Env} {w : World} {l : List Oper} {S : World → Prop} {fuel fuel' : Nat} {listed listed' : Array Bool}
end
end
open Go.Proofs.YtkgdkfkgnodheaaGreat.Mark (cnt mrk mkd mkd_mark cnt_mark)
section
open Go.RowKit
set_option maxRecDepth 100000
set_option maxHeartbeats 4000000
theorem ti2:TI Tryz.prog 2 (.int .i64 0) 1 8:=by unfold TI;kernel_rfl
theorem ti3:TI Tryz.prog 3 (.int .i64 0) 1 8:=by unfold TI;kernel_rfl
theorem ti4:TI Tryz.prog 4 (.bool false) 1 1:=by unfold TI;kernel_rfl
theorem ti22:TI Tryz.prog 22 (.slice none 0 0) 1 24:=by unfold TI;kernel_rfl
theorem ti27:TI Tryz.prog 27 (.slice none 0 0) 1 24:=by unfold TI;kernel_rfl
theorem ti37:TI Tryz.prog 37 (.agg #[.int .i64 0,.slice none 0 0,.slice none 0 0,.slice none 0 0]) 4 80:=by unfold TI;kernel_rfl
theorem ti39:TI Tryz.prog 39 (.agg #[.slice none 0 0,.slice none 0 0]) 2 48:=by unfold TI;kernel_rfl
theorem ti85:TI Tryz.prog 85 (.agg #[.int .i64 0,.slice none 0 0,.slice none 0 0]) 3 56:=by unfold TI;kernel_rfl
theorem ti93:TI Tryz.prog 93 (.agg #[.int .i64 0,.slice none 0 0,.slice none 0 0]) 3 56:=by unfold TI;kernel_rfl
theorem ti99:TI Tryz.prog 99 (.nilFunc) 1 8:=by unfold TI;kernel_rfl
instance iS22:SliC Tryz.prog 22 2:=⟨Tryz.underlying22⟩
instance iT2:TIC Tryz.prog 2 (.int .i64 0) 1 8:=⟨ti2⟩
instance iA2:SclC Tryz.prog 2:=⟨Tryz.isAgg2⟩
instance iC130:Qb Tryz.prog 130:=⟨Tryz.call130⟩
instance iC54:Qb Tryz.prog 54:=⟨Tryz.call54⟩
instance iC55:Qb Tryz.prog 55:=⟨Tryz.call55⟩
instance iC113:Qb Tryz.prog 113:=⟨Tryz.call113⟩
instance iC111:Qb Tryz.prog 111:=⟨Tryz.call111⟩
instance iS23:SliC Tryz.prog 23 4:=⟨Tryz.underlying23⟩
instance iS27:SliC Tryz.prog 27 22:=⟨Tryz.underlying27⟩
instance iT22:TIC Tryz.prog 22 (.slice none 0 0) 1 24:=⟨ti22⟩
instance iA22:SclC Tryz.prog 22:=⟨Tryz.isAgg22⟩
instance iC29:Qb Tryz.prog 29:=⟨Tryz.call29⟩
instance iF85_1:FldC Tryz.prog 85 1 1:=⟨⟨_,_,_,Tryz.underlying85,rfl,rfl,Tryz.sizeOf22⟩⟩
instance iF85_2:FldC Tryz.prog 85 2 2:=⟨⟨_,_,_,Tryz.underlying85,rfl,rfl,Tryz.sizeOf22⟩⟩
instance iS24:SliC Tryz.prog 24 85:=⟨Tryz.underlying24⟩
instance iT85:TIC Tryz.prog 85 (.agg #[.int .i64 0,.slice none 0 0,.slice none 0 0]) 3 56:=⟨ti85⟩
instance iC57:Qb Tryz.prog 57:=⟨Tryz.call57⟩
instance iF26_1:FldC Tryz.prog 26 1 1:=⟨⟨_,_,_,Tryz.underlying26,rfl,rfl,Tryz.sizeOf22⟩⟩
instance iF26_2:FldC Tryz.prog 26 2 2:=⟨⟨_,_,_,Tryz.underlying26,rfl,rfl,Tryz.sizeOf23⟩⟩
instance iA23:SclC Tryz.prog 23:=⟨Tryz.isAgg23⟩
instance iC30:Qb Tryz.prog 30:=⟨Tryz.call30⟩
instance iF26_3:FldC Tryz.prog 26 3 3:=⟨⟨_,_,_,Tryz.underlying26,rfl,rfl,Tryz.sizeOf24⟩⟩
instance iA24:SclC Tryz.prog 24:=⟨Tryz.isAgg24⟩
instance iC31:Qb Tryz.prog 31:=⟨Tryz.call31⟩
instance iF29_0:FldC Tryz.prog 29 0 0:=⟨⟨_,_,_,Tryz.underlying29,rfl,rfl,Tryz.sizeOf27⟩⟩
instance iA27:SclC Tryz.prog 27:=⟨Tryz.isAgg27⟩
instance iC32:Qb Tryz.prog 32:=⟨Tryz.call32⟩
instance iF29_1:FldC Tryz.prog 29 1 1:=⟨⟨_,_,_,Tryz.underlying29,rfl,rfl,Tryz.sizeOf22⟩⟩
instance iT4:TIC Tryz.prog 4 (.bool false) 1 1:=⟨ti4⟩
instance iA4:SclC Tryz.prog 4:=⟨Tryz.isAgg4⟩
instance iC35:Qb Tryz.prog 35:=⟨Tryz.call35⟩
instance iF85_0:FldC Tryz.prog 85 0 0:=⟨⟨_,_,_,Tryz.underlying85,rfl,rfl,Tryz.sizeOf2⟩⟩
instance iF93_0:FldC Tryz.prog 93 0 0:=⟨⟨_,_,_,Tryz.underlying93,rfl,rfl,Tryz.sizeOf2⟩⟩
instance iF93_1:FldC Tryz.prog 93 1 1:=⟨⟨_,_,_,Tryz.underlying93,rfl,rfl,Tryz.sizeOf22⟩⟩
instance iF93_2:FldC Tryz.prog 93 2 2:=⟨⟨_,_,_,Tryz.underlying93,rfl,rfl,Tryz.sizeOf22⟩⟩
instance iC64:Qb Tryz.prog 64:=⟨Tryz.call64⟩
instance iS35:SliC Tryz.prog 35 93:=⟨Tryz.underlying35⟩
instance iT93:TIC Tryz.prog 93 (.agg #[.int .i64 0,.slice none 0 0,.slice none 0 0]) 3 56:=⟨ti93⟩
instance iF26_0:FldC Tryz.prog 26 0 0:=⟨⟨_,_,_,Tryz.underlying26,rfl,rfl,Tryz.sizeOf2⟩⟩
instance iF37_0:FldC Tryz.prog 37 0 0:=⟨⟨_,_,_,Tryz.underlying37,rfl,rfl,Tryz.sizeOf2⟩⟩
instance iF37_1:FldC Tryz.prog 37 1 1:=⟨⟨_,_,_,Tryz.underlying37,rfl,rfl,Tryz.sizeOf22⟩⟩
instance iC36:Qb Tryz.prog 36:=⟨Tryz.call36⟩
instance iF37_2:FldC Tryz.prog 37 2 2:=⟨⟨_,_,_,Tryz.underlying37,rfl,rfl,Tryz.sizeOf23⟩⟩
instance iC37:Qb Tryz.prog 37:=⟨Tryz.call37⟩
instance iF37_3:FldC Tryz.prog 37 3 3:=⟨⟨_,_,_,Tryz.underlying37,rfl,rfl,Tryz.sizeOf35⟩⟩
instance iC38:Qb Tryz.prog 38:=⟨Tryz.call38⟩
instance iF39_0:FldC Tryz.prog 39 0 0:=⟨⟨_,_,_,Tryz.underlying39,rfl,rfl,Tryz.sizeOf27⟩⟩
instance iF39_1:FldC Tryz.prog 39 1 1:=⟨⟨_,_,_,Tryz.underlying39,rfl,rfl,Tryz.sizeOf22⟩⟩
instance iC24:Qb Tryz.prog 24:=⟨Tryz.call24⟩
instance iC79:Qb Tryz.prog 79:=⟨Tryz.call79⟩
instance iC46:Qb Tryz.prog 46:=⟨Tryz.call46⟩
instance iA35:SclC Tryz.prog 35:=⟨Tryz.isAgg35⟩
instance iC47:Qb Tryz.prog 47:=⟨Tryz.call47⟩
instance iC13:Qb Tryz.prog 13:=⟨Tryz.call13⟩
instance iC50:Qb Tryz.prog 50:=⟨Tryz.call50⟩
instance iC102:Qb Tryz.prog 102:=⟨Tryz.call102⟩
instance iC53:Qb Tryz.prog 53:=⟨Tryz.call53⟩
instance iC101:Qb Tryz.prog 101:=⟨Tryz.call101⟩
instance iC80:Qb Tryz.prog 80:=⟨Tryz.call80⟩
instance iC81:Qb Tryz.prog 81:=⟨Tryz.call81⟩
instance iC58:Qb Tryz.prog 58:=⟨Tryz.call58⟩
instance iC59:Qb Tryz.prog 59:=⟨Tryz.call59⟩
instance iC107:Qb Tryz.prog 107:=⟨Tryz.call107⟩
instance iC93:Qb Tryz.prog 93:=⟨Tryz.call93⟩
instance iC56:Qb Tryz.prog 56:=⟨Tryz.call56⟩
instance iC110:Qb Tryz.prog 110:=⟨Tryz.call110⟩
instance iC88:Qb Tryz.prog 88:=⟨Tryz.call88⟩
instance iC70:Qb Tryz.prog 70:=⟨Tryz.call70⟩
instance iC65:Qb Tryz.prog 65:=⟨Tryz.call65⟩
instance iC66:Qb Tryz.prog 66:=⟨Tryz.call66⟩
instance iC84:Qb Tryz.prog 84:=⟨Tryz.call84⟩
instance iC105:Qb Tryz.prog 105:=⟨Tryz.call105⟩
instance iC82:Qb Tryz.prog 82:=⟨Tryz.call82⟩
instance iC128:Qb Tryz.prog 128:=⟨Tryz.call128⟩
instance iC127:Qb Tryz.prog 127:=⟨Tryz.call127⟩
instance iC68:Qb Tryz.prog 68:=⟨Tryz.call68⟩
instance iC69:Qb Tryz.prog 69:=⟨Tryz.call69⟩
instance iC89:Qb Tryz.prog 89:=⟨Tryz.call89⟩
instance iC90:Qb Tryz.prog 90:=⟨Tryz.call90⟩
instance iC91:Qb Tryz.prog 91:=⟨Tryz.call91⟩
instance iC92:Qb Tryz.prog 92:=⟨Tryz.call92⟩
instance iC98:Qb Tryz.prog 98:=⟨Tryz.call98⟩
instance iC74:Qb Tryz.prog 74:=⟨Tryz.call74⟩
instance iC96:Qb Tryz.prog 96:=⟨Tryz.call96⟩
instance iC106:Qb Tryz.prog 106:=⟨Tryz.call106⟩
instance iS32:SliC Tryz.prog 32 39:=⟨Tryz.underlying32⟩
instance iT39:TIC Tryz.prog 39 (.agg #[.slice none 0 0,.slice none 0 0]) 2 48:=⟨ti39⟩
instance iC87:Qb Tryz.prog 87:=⟨Tryz.call87⟩
instance iC76:Qb Tryz.prog 76:=⟨Tryz.call76⟩
instance iC85:Qb Tryz.prog 85:=⟨Tryz.call85⟩
instance iF109_0:FldC Tryz.prog 109 0 0:=⟨⟨_,_,_,Tryz.underlying109,rfl,rfl,Tryz.sizeOf60⟩⟩
instance iA60:SclC Tryz.prog 60:=⟨Tryz.isAgg60⟩
instance iF109_2:FldC Tryz.prog 109 2 2:=⟨⟨_,_,_,Tryz.underlying109,rfl,rfl,Tryz.sizeOf2⟩⟩
instance iF109_1:FldC Tryz.prog 109 1 1:=⟨⟨_,_,_,Tryz.underlying109,rfl,rfl,Tryz.sizeOf2⟩⟩
instance iC103:Qb Tryz.prog 103:=⟨Tryz.call103⟩
instance iF109_3:FldC Tryz.prog 109 3 3:=⟨⟨_,_,_,Tryz.underlying109,rfl,rfl,Tryz.sizeOf27⟩⟩
instance iA3:SclC Tryz.prog 3:=⟨Tryz.isAgg3⟩
instance iC72:Qb Tryz.prog 72:=⟨Tryz.call72⟩
instance iA99:SclC Tryz.prog 99:=⟨Tryz.isAgg99⟩
instance iC39:Qb Tryz.prog 39:=⟨Tryz.call39⟩
instance iC40:Qb Tryz.prog 40:=⟨Tryz.call40⟩
instance iC41:Qb Tryz.prog 41:=⟨Tryz.call41⟩
instance iC44:Qb Tryz.prog 44:=⟨Tryz.call44⟩
instance iC60:Qb Tryz.prog 60:=⟨Tryz.call60⟩
instance iC61:Qb Tryz.prog 61:=⟨Tryz.call61⟩
instance iC62:Qb Tryz.prog 62:=⟨Tryz.call62⟩
instance iC63:Qb Tryz.prog 63:=⟨Tryz.call63⟩
instance iC52:Qb Tryz.prog 52:=⟨Tryz.call52⟩
instance iC11:Qb Tryz.prog 11:=⟨Tryz.call11⟩
instance iC33:Qb Tryz.prog 33:=⟨Tryz.call33⟩
instance iC51:Qb Tryz.prog 51:=⟨Tryz.call51⟩
instance iC28:Qb Tryz.prog 28:=⟨Tryz.call28⟩
instance iC6:Qb Tryz.prog 6:=⟨Tryz.call6⟩
instance iC7:Qb Tryz.prog 7:=⟨Tryz.call7⟩
instance iC9:Qb Tryz.prog 9:=⟨Tryz.call9⟩
instance iC10:Qb Tryz.prog 10:=⟨Tryz.call10⟩
instance iC22:Qb Tryz.prog 22:=⟨Tryz.call22⟩
instance iC23:Qb Tryz.prog 23:=⟨Tryz.call23⟩
instance iC14:Qb Tryz.prog 14:=⟨Tryz.call14⟩
instance iC15:Qb Tryz.prog 15:=⟨Tryz.call15⟩
instance iC26:Qb Tryz.prog 26:=⟨Tryz.call26⟩
end
section
open Go.RowKit
set_option linter.unusedVariables false
set_option linter.unusedSimpArgs false
structure Fresh (B:Nat) (L:List yLN):Prop where
  nd:∀ F∈L,F.Nodup
  ge:∀ F∈L,∀ b∈F,B≤b
  dj:L.Pairwise fun F G=>∀ b∈F,b∉G

section
variable {B : Nat} {L : List yLN}
theorem Fresh.nil (B:Nat):Fresh B []:=⟨by simp,by simp,List.Pairwise.nil⟩
theorem Fresh.pick {L' :List yLN} (N:Fresh B L) (is:yLN) (he:is.map (fun i=>L[i]?)=L'.map some:=by exact rfl) (hd:is.Nodup:=by decide):Fresh B L' :=by
  have hmem:∀ F∈L',F∈L:=by
    intro F hF
    have:some F∈L'.map some:=List.mem_map_of_mem hF
    rw [← he] at this
    obtain ⟨i,_,hi⟩:=List.mem_map.1 this
    exact List.mem_of_getElem? hi
  refine ⟨fun F hF=>N.nd F (hmem F hF),fun F hF=>N.ge F (hmem F hF),?_⟩
  have hl:is.length=L'.length:=by simpa using congrArg List.length he
  have e:∀ k (hk:k < L'.length) (hk' :k < is.length),L[is[k]]? =some L'[k]:=by
    intro k hk hk'
    have h1:(is.map (fun i=>L[i]?))[k]? =(L'.map some)[k]? :=by rw [he]
    simpa [hk,hk'] using h1
  rw [List.pairwise_iff_getElem]
  intro i j hi hj hij b hb hb'
  have ei:=e i hi qg
  have ej:=e j hj qg
  have hne:is[i]'(by omega)≠is[j]'(by omega):=List.pairwise_iff_getElem.1 hd i j qg qg hij
  have hp:=N.dj
  rw [List.pairwise_iff_getElem] at hp
  obtain ⟨hi2,ei2⟩:=List.getElem?_eq_some_iff.1 ei
  obtain ⟨hj2,ej2⟩:=List.getElem?_eq_some_iff.1 ej
  rcases Nat.lt_or_gt_of_ne hne with h | h
  · exact hp _ _ hi2 hj2 h b (by rw [ei2];exact hb) (by rw [ej2];exact hb')
  · exact hp _ _ hj2 hi2 h b (by rw [ej2];exact hb') (by rw [ei2];exact hb)
theorem Fresh.cons (N:Fresh B L) {G:yLN} {T:Nat} (hg:(∀ b∈G,T≤b)∧G.Nodup) (hB:B≤T) (hl:∀ F∈L,∀ b∈F,b < T):Fresh B (G :: L):=
  ⟨fun F hF=>by
    rcases List.mem_cons.1 hF with rfl | h
    · exact hg.2
    · exact N.nd F h,fun F hF b hb=>by
    rcases List.mem_cons.1 hF with rfl | h
    · exact Nat.le_trans hB (hg.1 b hb)
    · exact N.ge F h b hb,List.pairwise_cons.2 ⟨fun F hF b hb hb' =>by have:=hl F hF b hb';have:=hg.1 b hb;omega,N.dj⟩⟩
theorem Fresh.emp (N:Fresh B L):Fresh B ([] :: L):=
  ⟨fun F hF=>by
    rcases List.mem_cons.1 hF with rfl | h
    · exact List.nodup_nil
    · exact N.nd F h,fun F hF b hb=>by
    rcases List.mem_cons.1 hF with rfl | h
    · simp at hb
    · exact N.ge F h b hb,List.pairwise_cons.2 ⟨fun F _ b hb=>by simp at hb,N.dj⟩⟩
theorem Fresh.repl {F G F' :yLN} (N:Fresh B (F :: G :: L)) (hs:(∀ b∈F',b∈F∨b∈G)∧(F.Nodup→G.Nodup→(∀ b∈F,b∉G)→F'.Nodup)):Fresh B (F' :: L):=by
  have h1:=List.pairwise_cons.1 N.dj
  have h2:=List.pairwise_cons.1 h1.2
  refine ⟨fun K hK=>?_,fun K hK b hb=>?_,List.pairwise_cons.2 ⟨fun K hK b hb=>?_,h2.2⟩⟩
  · rcases List.mem_cons.1 hK with rfl | h
    · exact hs.2 (N.nd F qo) (N.nd G qo) (h1.1 G qo)
    · exact N.nd K (by simp [h])
  · rcases List.mem_cons.1 hK with rfl | h
    · rcases hs.1 b hb with h | h
      · exact N.ge F qo b h
      · exact N.ge G qo b h
    · exact N.ge K (by simp [h]) b hb
  · rcases hs.1 b hb with h | h
    · exact h1.1 K (by simp [hK]) b h
    · exact h2.1 K hK b h
theorem Fresh.join {F G:yLN} (N:Fresh B (F :: G :: L)):Fresh B ((F++G) :: L):=
  N.repl ⟨fun b hb=>List.mem_append.1 hb,fun h1 h2 h3=>List.nodup_append.2 ⟨h1,h2,fun a ha b hb e=>h3 a ha (e▸hb)⟩⟩
theorem Fresh.less {F F' :yLN} (N:Fresh B (F :: L)) (hs:∀ b∈F',b∈F) (hn:F.Nodup→F'.Nodup):Fresh B (F' :: L):=by
  have h1:=List.pairwise_cons.1 N.dj
  refine ⟨fun K hK=>?_,fun K hK b hb=>?_,List.pairwise_cons.2 ⟨fun K hK b hb=>h1.1 K hK b (hs b hb),h1.2⟩⟩
  · rcases List.mem_cons.1 hK with rfl | h
    · exact hn (N.nd F qo)
    · exact N.nd K (by simp [h])
  · rcases List.mem_cons.1 hK with rfl | h
    · exact N.ge F qo b (hs b hb)
    · exact N.ge K (by simp [h]) b hb
theorem Fresh.one {F:yLN} (N:Fresh B (F :: L)):(∀ b∈F,B≤b)∧F.Nodup:=⟨N.ge F qo,N.nd F qo⟩
theorem Fresh.tail {F:yLN} (N:Fresh B (F :: L)):Fresh B L:=⟨fun K h=>N.nd K (by simp [h]),fun K h=>N.ge K (by simp [h]),(List.pairwise_cons.1 N.dj).2⟩
end

section
variable {W0 w w' : World} {ps : List Prv} {Γ : List Fact}

theorem St.ltN (H:St W0 w ps Γ) {L:List yLN} (is:yLN) (he:is.map (fun i=>(Γ[i]?).map Fact.F)=L.map some:=by exact rfl):∀ F∈L,∀ b∈F,b < w.heap.size:=by
  intro F hF b hb
  have:some F∈L.map some:=List.mem_map_of_mem hF
  rw [← he] at this
  obtain ⟨i,_,hi⟩:=List.mem_map.1 this
  cases hg:Γ[i]? with
  | none=>simp [hg] at hi
  | some f=>
    simp only [hg,Option.map_some,Option.some.injEq] at hi
    subst hi
    exact ((H.facts f (List.mem_of_getElem? hg)).2 b hb).1
theorem St.jL (H:St W0 w ps Γ) {L:List yLN} (is:yLN) (he:is.map (fun i=>(Γ[i]?).map Fact.F)=L.map some:=by exact rfl):∀ F∈L,∀ b∈F,∀ i,jf ps i≠some b:=by
  intro F hF b hb
  have:some F∈L.map some:=List.mem_map_of_mem hF
  rw [← he] at this
  obtain ⟨i,_,hi⟩:=List.mem_map.1 this
  cases hg:Γ[i]? with
  | none=>simp [hg] at hi
  | some f=>
    simp only [hg,Option.map_some,Option.some.injEq] at hi
    subst hi
    exact ((H.facts f (List.mem_of_getElem? hg)).2 b hb).2

theorem St.vO (H:St W0 w ps Γ) (k:Nat) {v:Value} {e:TypeId} {sz nn:Nat} {xs:List Value} (hp:ps[k]? =some (.row v e sz nn xs)):
    ∃ a c,v=.slice a nn c∧nn≤c∧nn≤9223372036854775807:=by
  have h:=(H.has _ (List.mem_of_getElem? hp):w.ownsRow W0.heap.size e sz v nn xs)
  rcases h.2 with ⟨rfl,rfl⟩ | ⟨g,cap,cur,rfl,_,_,h1,h2,_⟩
  · exact ⟨none,0,rfl,Nat.le_refl _,by omega⟩
  · exact ⟨_,cap,rfl,h1,by unfold maxLen at h2;omega⟩
theorem St.yg (H:St W0 w ps Γ) (k:Nat) {a:yOA} {c:Nat} {e:TypeId} {sz nn:Nat} {xs:List Value} (hp:ps[k]? =some (.row (.slice a nn c) e sz nn xs)) (h0:0 < nn):
    ∃ b,a=some ⟨b,0,none⟩:=by
  have h:=(H.has _ (List.mem_of_getElem? hp):w.ownsRow W0.heap.size e sz _ nn xs)
  rcases h.2 with ⟨_,rfl⟩ | ⟨g,cap,cur,h,_⟩
  · omega
  · simp only [Value.slice.injEq] at h
    exact ⟨g,h.1⟩
theorem St.rowLen (H:St W0 w ps Γ) (k:Nat) {v:Value} {e:TypeId} {sz nn:Nat} {xs:List Value} (hp:ps[k]? =some (.row v e sz nn xs)):xs.length=nn * sz:=
  (H.has _ (List.mem_of_getElem? hp):w.ownsRow W0.heap.size e sz v nn xs).1
theorem St.rowGet (H:St W0 w ps Γ) (k:Nat) {b c:Nat} {e:TypeId} {sz nn:Nat} {xs:List Value} (hp:ps[k]? =some (.row (.slice (some ⟨b,0,none⟩) nn c) e sz nn xs)) {i:Nat} {v:Value} (hv:xs[i]? =some v):
    w.cell? ⟨b,i,none⟩=some v:=by
  have h:=(H.has _ (List.mem_of_getElem? hp):w.ownsRow W0.heap.size e sz _ nn xs)
  have:=h.cells (g:=b) rfl i v hv
  rwa [Addr.add_mid,Nat.zero_add] at this
theorem ints_at {l:yLI} {iv:Int} {i:Nat} (h:iv.toNat=i) (h1:i < l.length):(l.map (Value.int .i64))[0+iv.toNat * 1]? =some (.int .i64 (l[i]!)):=by
  subst h
  simp [h1,getElem!_pos]
theorem bools_at {l:List Bool} {iv:Int} {i:Nat} (h:iv.toNat=i) (h1:i < l.length):(l.map Value.bool)[0+iv.toNat * 1]? =some (.bool (l[i]!)):=by
  subst h
  simp [h1,getElem!_pos]
theorem St.yE (H:St W0 w ps Γ) (k:Nat) {b c:Nat} {e:TypeId} {nn:Nat} {l:yLI} (hp:ps[k]? =some (.row (.slice (some ⟨b,0,none⟩) nn c) e 1 nn (l.map (Value.int .i64)))) {iv:Int} {i:Nat} (h:iv.toNat=i) (h1:i < nn):
    w.cell? ⟨b,0+iv.toNat * 1,none⟩=some (.int .i64 (l[i]!)):=by
  have hl:=H.rowLen k hp
  exact H.rowGet k hp (ints_at h (by simp at hl;omega))
theorem St.rowBool (H:St W0 w ps Γ) (k:Nat) {b c:Nat} {e:TypeId} {nn:Nat} {l:List Bool} (hp:ps[k]? =some (.row (.slice (some ⟨b,0,none⟩) nn c) e 1 nn (l.map Value.bool))) {iv:Int} {i:Nat} (h:iv.toNat=i) (h1:i < nn):
    w.cell? ⟨b,0+iv.toNat * 1,none⟩=some (.bool (l[i]!)):=by
  have hl:=H.rowLen k hp
  exact H.rowGet k hp (bools_at h (by simp at hl;omega))

theorem St.rowElem {α:Type} [qV α] [Inhabited α] (H:St W0 w ps Γ) (k:Nat) {b c:Nat} {e:TypeId} {nn:Nat} {xs:List Value} (hp:ps[k]? =some (.row (.slice (some ⟨b,0,none⟩) nn c) e (qV.size α) nn xs)) (j:Nat) {fr:Bool} {F:yLN} {l:List α}
    (hf:Γ[j]? =some (xW fr F xs l)) (hz:0 < qV.size α) {iv:Int} {i:Nat} (h:iv.toNat=i) (h1:i < nn):
    ∃ cs G,zM w b (0+iv.toNat * qV.size α) cs∧qV.rep w G cs (l[i]!)∧(∀ x∈G,x∈F)∧(fr=true→zx w G)∧∃ v1 v2,xs=v1++cs++v2∧v1.length=i * qV.size α:=by
  subst h
  obtain ⟨hr,hfr⟩:=H.get j hf
  have hl:=H.rowLen k hp
  have hl2:=reps_len hr
  have hlen:iv.toNat < l.length:=by
    have:nn=l.length:=Nat.eq_of_mul_eq_mul_right hz (hl.symm.trans hl2)
    omega
  obtain ⟨F1,Fk,F2,v1,cs,v2,hF,hv,hv1,hcs,hrep,_,_⟩:=reps_get hr _ hlen
  refine ⟨cs,Fk,fun i v hi=>?_,by rw [getElem!_pos l _ hlen];exact hrep,?_,fun e=>(hfr e).sub ?_,v1,v2,hv,hv1⟩
  · refine H.rowGet k hp ?_
    have hci:i < cs.length:=by
      rcases Nat.lt_or_ge i cs.length with h | h
      · exact h
      · simp [h] at hi
    rw [hv,List.append_assoc,Nat.zero_add,← hv1,List.getElem?_append_right qg,Nat.add_sub_cancel_left,List.getElem?_append_left hci,hi]
  · intro x hx;rw [hF];simp [hx]
  · intro x hx;rw [hF];simp [hx]
theorem St.zB {α:Type} [qV α] (H:St W0 w ps Γ) (k:Nat) {v:Value} {e:TypeId} {nn:Nat} {xs:List Value} (hp:ps[k]? =some (.row v e (qV.size α) nn xs)) (j:Nat) {fr:Bool} {F:yLN} {l:List α}
    (hf:Γ[j]? =some (xW fr F xs l)) (hz:0 < qV.size α):nn=l.length:=
  Nat.eq_of_mul_eq_mul_right hz ((H.rowLen k hp).symm.trans (reps_len (H.get j hf).1))
theorem St.jX {α:Type} [qV α] (H:St W0 w ps Γ) (k:Nat) {b c:Nat} {e:TypeId} {nn:Nat} {xs:List Value} (hp:ps[k]? =some (.row (.slice (some ⟨b,0,none⟩) nn c) e 1 nn xs)) (j:Nat) {fr:Bool} {F:yLN} {l:List (List α)}
    (hf:Γ[j]? =some (xW fr F xs l)) {iv:Int} (i:Nat) (h:iv.toNat=i) (h1:i < nn):
    ∃ (a:yOA) (c' :Nat) (G:yLN),(∀ x∈G,x∈F)∧w.cell? ⟨b,0+iv.toNat * 1,none⟩=some (.slice a (l[i]!).length c')∧St W0 w ps (isF fr G (.slice a (l[i]!).length c') (l[i]!) :: Γ):=by
  obtain ⟨cs,G,hc,hr,hsub,hfr,_⟩:=H.rowElem k hp j hf Nat.one_pos h h1
  obtain ⟨a,c',rfl,hx⟩:=id hr
  exact ⟨a,c',G,hsub,by simpa [qV.size] using hc 0 _ rfl,H.yj j hf _ ⟨hr,hfr⟩ hsub⟩

theorem ownsRow_set {B:Nat} {e:TypeId} {sz nn b c:Nat} {xs:List Value} (h:w.ownsRow B e sz (.slice (some ⟨b,0,none⟩) nn c) nn xs) (off:Nat) (us:List Value) (ho:off+us.length≤xs.length) (h1:∀ u∈us,u.oneCell' =true) {P:Program}:
    ∃ w',(storeCells ⟨b,off,none⟩ us).run P w=.ok () w' ∧w'.os=w.os∧w'.tape=w.tape∧w'.output=w.output∧w'.heap.size=w.heap.size∧(∀ i,b≠i→w'.heap[i]? =w.heap[i]?)∧
      w'.ownsRow B e sz (.slice (some ⟨b,0,none⟩) nn c) nn (xs.take off++us++xs.drop (off+us.length)):=by
  obtain ⟨hl,h | ⟨g,cap,cur,hv,hB,hg,hn,hm,hcs,ht⟩⟩:=h
  · simp at h
  simp only [Value.slice.injEq,Option.some.injEq,Addr.mk.injEq,and_true] at hv
  obtain ⟨rfl,_,rfl⟩:=hv
  have hcl:nn * sz≤cur.size:=by rw [hcs];exact Nat.mul_le_mul_right _ hn
  have hlx:xs.length=nn * sz:=hl
  have hle:off+us.length≤cur.size:=by omega
  have hr:=run_storeCells_at P b off e us 0 cur w hg qg h1
  simp only [Nat.add_zero] at hr
  have hxs:xs.take off++us++xs.drop (off+us.length)=(cur.toList.take off++us++cur.toList.drop (off+us.length)).take (nn * sz):=by
    subst ht
    apply List.ext_getElem?
    intro i
    simp only [List.getElem?_take,List.getElem?_append,List.length_append,List.length_take,List.getElem?_drop,Array.length_toList]
    rw [Nat.min_eq_left (show off≤cur.size by omega),Nat.min_eq_left (show nn * sz≤cur.size by omega),Nat.min_eq_left (show off≤nn * sz by omega)]
    by_cases hi:i < nn * sz
    · by_cases h1:i < off
      · simp [hi,h1,show i < off+us.length by omega]
      · by_cases h2:i < off+us.length
        · simp [hi,h1,h2]
        · have:off+us.length+(i - (off+us.length))=i:=by omega
          simp [hi,h2,this]
    · have h2:¬ i < off+us.length:=by omega
      have:off+us.length+(i - (off+us.length))=i:=by omega
      simp [hi,h2,this]
  refine ⟨w.setRow b (cur.toList.take off++us++cur.toList.drop (off+us.length)).toArray,hr,rfl,rfl,rfl,by simp [World.setRow],fun i hi=>by simp [World.setRow,Array.getElem?_modify,hi],?_,Or.inr ⟨b,c,(cur.toList.take off++us++cur.toList.drop (off+us.length)).toArray,rfl,hB,by simp [World.setRow,Array.getElem?_modify,hg],hn,hm,?_,?_⟩⟩
  · simp;omega
  · simp;omega
  · rw [hxs]
theorem St.rowSet (H:St W0 w ps Γ) (k:Nat) {b c:Nat} {e:TypeId} {sz nn:Nat} {xs:List Value} (hp:ps[k]? =some (.row (.slice (some ⟨b,0,none⟩) nn c) e sz nn xs)) (off:Nat) (us:List Value) (ho:off+us.length≤xs.length) (h1:∀ u∈us,u.oneCell' =true) {P:Program}:
    ∃ w',(storeCells ⟨b,off,none⟩ us).run P w=.ok () w' ∧St W0 w' (ps.set k (.row (.slice (some ⟨b,0,none⟩) nn c) e sz nn (xs.take off++us++xs.drop (off+us.length)))) Γ:=by
  have h:=(H.has _ (List.mem_of_getElem? hp):w.ownsRow W0.heap.size e sz _ nn xs)
  obtain ⟨w',hr,h1,h2,h3,h4,h5,h6⟩:=ownsRow_set h off us ho h1 (P:=P)
  exact ⟨w',hr,H.change k hp h1 h2 h3 qg (fun i _ hi=>h5 i fun e' =>hi (by simp [Prv.blk,Value.ownBlock,e'])) h6 (Or.inl rfl)⟩
end

section
variable {P : Program} {Q : Exit → Act → World → Prop} {n : Nat} {ρ : Env} {W0 w : World} {ps : List Prv} {Γ : List Fact}
  {d:Nat} {ty:TypeId} {pos:String} {af:Array Edge} {K:Env→World→Prop}
theorem o_storeRow [Dfr] {t:TypeId} {x y:Operand} {b c off:Nat} {e:TypeId} {sz nn:Nat} {xs:List Value} (H:St W0 w ps Γ) (k:Nat) (hp:ps[k]? =some (.row (.slice (some ⟨b,0,none⟩) nn c) e sz nn xs)) (v:Value)
    (hs:∀ w,(Go.sizeOf t).run P w=.ok v.cells.size w) (hx:ev n ρ x=.pointer (some ⟨b,off,none⟩)) (hy:ev n ρ y=v) (h1:∀ u∈v.cells.toList,u.oneCell' =true) (ho:off+v.cells.size≤xs.length)
    (kk:∀ w',St W0 w' (ps.set k (.row (.slice (some ⟨b,0,none⟩) nn c) e sz nn (xs.take off++v.cells.toList++xs.drop (off+v.cells.size)))) Γ→K ρ w'):
    OW P Q ⟨none,.store t x y,ty,pos,af,none⟩ n ρ w K:=by
  obtain ⟨w',hr,H'⟩:=H.rowSet k hp off v.cells.toList (by simpa using ho) h1 (P:=P)
  refine o_unit (w' :=w') ?_ (kk _ (by simpa using H'))
  simp [execOp,hx,hy,Instr.storeAt,Instr.sureAddr,storeVar,hs,hr]
theorem o_storeRow1 [Dfr] {t:TypeId} {x y:Operand} {b c:Nat} {e:TypeId} {nn:Nat} {xs:List Value} (H:St W0 w ps Γ) (k:Nat) (hp:ps[k]? =some (.row (.slice (some ⟨b,0,none⟩) nn c) e 1 nn xs)) {iv:Int} (v:Value)
    (hs:∀ w,(Go.sizeOf t).run P w=.ok 1 w) (hx:ev n ρ x=.pointer (some ⟨b,0+iv.toNat * 1,none⟩)) (hy:ev n ρ y=v) (h1:v.oneCell' =true) (h2:iv.toNat < nn)
    (kk:∀ w',St W0 w' (ps.set k (.row (.slice (some ⟨b,0,none⟩) nn c) e 1 nn (xs.set iv.toNat v))) Γ→K ρ w'):
    OW P Q ⟨none,.store t x y,ty,pos,af,none⟩ n ρ w K:=by
  have hc:v.cells=#[v]:=by cases v <;> first | rfl | (simp [Value.oneCell'] at h1)
  have hl:=H.rowLen k hp
  refine o_storeRow H k hp v (by simpa [hc] using hs) hx hy (by simp [hc,h1]) (by simp [hc];omega) ?_
  simp only [hc,List.size_toArray,List.length_cons,List.length_nil,Nat.zero_add,Nat.mul_one]
  rw [show xs.take iv.toNat++[v]++xs.drop (iv.toNat+1)=xs.set iv.toNat v by rw [List.set_eq_take_append_cons_drop,if_pos qg];simp]
  exact kk
theorem vg [Dfr] {t:TypeId} {x y:Operand} {b c:Nat} {e:TypeId} {nn:Nat} {l:yLI} (H:St W0 w ps Γ) (k:Nat) (hp:ps[k]? =some (.row (.slice (some ⟨b,0,none⟩) nn c) e 1 nn (l.map (Value.int .i64)))) {iv:Int} {i:Nat} (u:Int)
    (hs:∀ w,(Go.sizeOf t).run P w=.ok 1 w) (hx:ev n ρ x=.pointer (some ⟨b,0+iv.toNat * 1,none⟩)) (hy:ev n ρ y=.int .i64 u) (hi:iv.toNat=i) (h2:i < nn)
    (kk:∀ w',St W0 w' (ps.set k (.row (.slice (some ⟨b,0,none⟩) nn c) e 1 nn ((l.set i u).map (Value.int .i64)))) Γ→K ρ w'):
    OW P Q ⟨none,.store t x y,ty,pos,af,none⟩ n ρ w K:=by
  subst hi
  refine o_storeRow1 H k hp (.int .i64 u) hs hx hy rfl h2 fun w' H' =>kk w' ?_
  rwa [List.map_set]
theorem Qd [Dfr] {t:TypeId} {x y:Operand} {b c:Nat} {e:TypeId} {nn:Nat} {l:List Bool} (H:St W0 w ps Γ) (k:Nat) (hp:ps[k]? =some (.row (.slice (some ⟨b,0,none⟩) nn c) e 1 nn (l.map Value.bool))) {iv:Int} {i:Nat} (u:Bool)
    (hs:∀ w,(Go.sizeOf t).run P w=.ok 1 w) (hx:ev n ρ x=.pointer (some ⟨b,0+iv.toNat * 1,none⟩)) (hy:ev n ρ y=.bool u) (hi:iv.toNat=i) (h2:i < nn)
    (kk:∀ w',St W0 w' (ps.set k (.row (.slice (some ⟨b,0,none⟩) nn c) e 1 nn ((l.set i u).map Value.bool))) Γ→K ρ w'):
    OW P Q ⟨none,.store t x y,ty,pos,af,none⟩ n ρ w K:=by
  subst hi
  refine o_storeRow1 H k hp (.bool u) hs hx hy rfl h2 fun w' H' =>kk w' ?_
  rwa [List.map_set]

theorem reps_set {α:Type} [qV α] {w:World} {F:yLN} {xs:List Value} {l:List α} (h:reps w F xs l) {G:yLN} {cs:List Value} {y:α} (hy:qV.rep w G cs y) (k:Nat) (hk:k < l.length):
    ∃ F',reps w F' (xs.take (k * qV.size α)++cs++xs.drop (k * qV.size α+cs.length)) (l.set k y)∧(∀ b∈F',b∈F∨b∈G)∧(F.Nodup→G.Nodup→(∀ b∈F,b∉G)→F'.Nodup):=by
  obtain ⟨F1,Fk,F2,v1,ck,v2,hF,hv,hv1,hck,_,h1,h2⟩:=reps_get h k hk
  have hcl:=qV.len hy
  refine ⟨F1++G++F2,?_,fun b hb=>?_,fun n1 n2 n3=>?_⟩
  · subst hv
    rw [← hv1,List.append_assoc v1,List.take_left,hcl,← hck,List.drop_append,List.drop_of_length_le qg,List.nil_append,Nat.add_sub_cancel_left,List.drop_left,List.set_eq_take_append_cons_drop,if_pos hk,show List.take k l++y :: List.drop (k+1) l=List.take k l++[y]++List.drop (k+1) l by simp]
    exact yO (yO h1 (reps_one hy)) h2
  · simp only [List.mem_append] at hb
    rcases hb with (hb | hb) | hb
    · exact Or.inl (by rw [hF];simp [hb])
    · exact Or.inr hb
    · exact Or.inl (by rw [hF];simp [hb])
  · subst hF
    have n1' :=List.nodup_append.1 n1
    have n1a:=List.nodup_append.1 n1'.1
    refine List.nodup_append.2 ⟨List.nodup_append.2 ⟨n1a.1,n2,fun a ha b hb e=>n3 a (by simp [ha]) (e▸hb)⟩,n1'.2.1,fun a ha b hb e=>?_⟩
    subst e
    rcases List.mem_append.1 ha with ha | ha
    · exact n1'.2.2 a (by simp [ha]) a hb rfl
    · exact n3 a (by simp [hb]) ha
theorem jS [Dfr] {α:Type} [qV α] {t:TypeId} {x y:Operand} {b c:Nat} {e:TypeId} {nn:Nat} {xs:List Value} {fr fr' :Bool} {F G:yLN} {l:List α} {z:α} (f0:Bool) (H:St W0 w ps Γ) (k:Nat) (hp:ps[k]? =some (.row (.slice (some ⟨b,0,none⟩) nn c) e 1 nn xs))
    (j:Nat) (hf:Γ[j]? =some (xW fr F xs l)) (v:Value) (m:Nat) (hg:Γ[m]? =some (isF fr' G v z)) {iv:Int} {i:Nat} (hz:qV.size α=1)
    (hs:∀ w,(Go.sizeOf t).run P w=.ok 1 w) (hx:ev n ρ x=.pointer (some ⟨b,0+iv.toNat * 1,none⟩)) (hy:ev n ρ y=v) (hi:iv.toNat=i) (h2:i < nn) (h3:f0=true→fr=true∧fr' =true)
    (kk:∀ w' xs' F',((∀ b∈F',b∈F∨b∈G)∧(F.Nodup→G.Nodup→(∀ b∈F,b∉G)→F'.Nodup))→St W0 w' (ps.set k (.row (.slice (some ⟨b,0,none⟩) nn c) e 1 nn xs')) (xW f0 F' xs' (l.set i z) :: Γ)→K ρ w'):
    OW P Q ⟨none,.store t x y,ty,pos,af,none⟩ n ρ w K:=by
  subst hi
  have hone:v.oneCell' =true:=qV.one (H.get m hg).1 v qo
  have hn:nn=l.length:=H.zB (α:=α) k (by rw [hz];exact hp) j hf qg
  obtain ⟨F',hr,hs1,hs2⟩:=reps_set (H.get j hf).1 (H.get m hg).1 iv.toNat qg
  have hl:=H.rowLen k hp
  have e1:xs.take (iv.toNat * qV.size α)++[v]++xs.drop (iv.toNat * qV.size α+[v].length)=xs.set iv.toNat v:=by
    rw [hz,Nat.mul_one,List.set_eq_take_append_cons_drop,if_pos qg];simp
  rw [e1] at hr
  have H1:St W0 w ps (xW f0 F' (xs.set iv.toNat v) (l.set iv.toNat z) :: Γ):=by
    refine H.add _ ⟨hr,fun e b hb=>?_⟩ fun b hb=>?_
    · rcases hs1 b hb with h | h
      · exact (H.get j hf).2 (h3 e).1 b h
      · exact (H.get m hg).2 (h3 e).2 b h
    · rcases hs1 b hb with h | h
      · exact (H.facts _ (List.mem_of_getElem? hf)).2 b h
      · exact (H.facts _ (List.mem_of_getElem? hg)).2 b h
  exact o_storeRow1 H1 k hp v hs hx hy hone h2 fun w' H' =>kk w' _ F' ⟨hs1,hs2⟩ H'

theorem o_makeI [Dfr] {t e:TypeId} {x y:Operand} {by' :Nat} {iv:Int} (H:St W0 w ps Γ) (hu:P.underlying t=some (.slice e)) (he:TI P e (.int .i64 0) 1 by') (nn:Nat)
    (hx:ev n ρ x=.int .i64 iv) (hy:ev n ρ y=.int .i64 iv) (hn:iv=nn) (hb:by' * nn≤281474976710656) (hm:nn≤9223372036854775807)
    (k:∀ b w',St W0 w' (.row (.slice (some ⟨b,0,none⟩) nn nn) e 1 nn ((List.replicate nn (0:Int)).map (Value.int .i64)) :: ps) Γ→K (upd ρ d (.slice (some ⟨b,0,none⟩) nn nn)) w'):
    OW P Q ⟨some d,.makeSlice t x y,ty,pos,af,none⟩ n ρ w K:=by
  subst hn
  refine o_make1 H hu he rfl nn hx hy hb hm fun b w' H' =>k b w' ?_
  have:=H'.boxRow 0 rfl 1 nn qo qw
  simpa using this
theorem o_makeB [Dfr] {t e:TypeId} {x y:Operand} {by' :Nat} {iv:Int} (H:St W0 w ps Γ) (hu:P.underlying t=some (.slice e)) (he:TI P e (.bool false) 1 by') (nn:Nat)
    (hx:ev n ρ x=.int .i64 iv) (hy:ev n ρ y=.int .i64 iv) (hn:iv=nn) (hb:by' * nn≤281474976710656) (hm:nn≤9223372036854775807)
    (k:∀ b w',St W0 w' (.row (.slice (some ⟨b,0,none⟩) nn nn) e 1 nn ((List.replicate nn false).map Value.bool) :: ps) Γ→K (upd ρ d (.slice (some ⟨b,0,none⟩) nn nn)) w'):
    OW P Q ⟨some d,.makeSlice t x y,ty,pos,af,none⟩ n ρ w K:=by
  subst hn
  refine o_make1 H hu he rfl nn hx hy hb hm fun b w' H' =>k b w' ?_
  have:=H'.boxRow 0 rfl 1 nn qo qw
  simpa using this
end

section
variable {P : Program} {Q : Exit → Act → World → Prop} {n : Nat} {ρ : Env} {W0 w : World} {ps : List Prv} {Γ : List Fact}
  {d:Nat} {ty:TypeId} {pos:String} {af:Array Edge} {K:Env→World→Prop}
theorem set_at {p q:Prv} {i:Nat} (h:ps[i]? =some p):(ps.set i q)[i]? =some q:=by
  have:=(List.getElem?_eq_some_iff.1 h).1
  simp [this]
theorem zA [Dfr] {t e:TypeId} {s x:Operand} {v z:Value} {sz by' nn m c b:Nat} {xs cs:List Value} {tb:TypeId} (H:St W0 w ps Γ) (i:Nat) (hp:ps[i]? =some (.row v e sz nn xs)) (j:Nat) (hq:ps[j]? =some (.box b cs tb))
    (hu:P.underlying t=some (.slice e)) (he:TI P e z sz by') (hzs:z.cells.size=sz) (h0:0 < sz) (hs:ev n ρ s=v) (hx:ev n ρ x=.slice (some ⟨b,0,none⟩) m c) (hl:cs.length=m * sz)
    (h1:∀ u∈cs,u.oneCell' =true) (hm:nn+m≤maxLen) (hb:(nn+m) * by' ≤140737488355328)
    (k:∀ a c' w',St W0 w' (ps.set i (.row (.slice a (nn+m) c') e sz (nn+m) (xs++cs))) Γ→K (upd ρ d (.slice a (nn+m) c')) w'):
    OW P Q ⟨some d,.call ⟨.builtin .append,#[s,x],#[t,t]⟩,ty,pos,af,none⟩ n ρ w K:=
  o_append H i hp j hq hu he hzs h0 hs hx hl h1 hm hb fun v' w' H' =>by
    obtain ⟨a,c',rfl,_⟩:=H'.vO i (set_at hp)
    exact k a c' w' H'
theorem o_appendFR [Dfr] {α:Type} [qV α] {t e:TypeId} {s x:Operand} {v z:Value} {by' nn m c:Nat} {a:yOA} {xs:List Value} {fr:Bool} {F:yLN} {l:List α} (H:St W0 w ps Γ) (i:Nat) (hp:ps[i]? =some (.row v e (qV.size α) nn xs))
    (j:Nat) (hf:Γ[j]? =some (isF fr F (.slice a m c) l)) (hu:P.underlying t=some (.slice e)) (he:TI P e z (qV.size α) by') (hzs:z.cells.size=qV.size α) (h0:0 < qV.size α) (hs:ev n ρ s=v)
    (hx:ev n ρ x=.slice a m c) (hm:nn+m≤maxLen) (hb:(nn+m) * by' ≤140737488355328)
    (k:∀ a' c' w' vs G,St W0 w' (ps.set i (.row (.slice a' (nn+m) c') e (qV.size α) (nn+m) (xs++vs))) (xW fr G vs l :: Γ)→(∀ b∈G,b∈F)→K (upd ρ d (.slice a' (nn+m) c')) w'):
    OW P Q ⟨some d,.call ⟨.builtin .append,#[s,x],#[t,t]⟩,ty,pos,af,none⟩ n ρ w K:=
  o_appendF H i hp j hf hu he hzs h0 hs hx hm hb fun v' w' vs G H' hG=>by
    obtain ⟨a',c',rfl,_⟩:=H'.vO i (set_at hp)
    exact k a' c' w' vs G H' hG
theorem o_appendIR [Dfr] {t e:TypeId} {s x:Operand} {v z:Value} {by' nn m c:Nat} {a:yOA} {xs:List Value} {fr:Bool} {F:yLN} {l:yLI} (H:St W0 w ps Γ) (i:Nat) (hp:ps[i]? =some (.row v e 1 nn xs))
    (j:Nat) (hf:Γ[j]? =some (isF fr F (.slice a m c) l)) (hu:P.underlying t=some (.slice e)) (he:TI P e z 1 by') (hzs:z.cells.size=1) (hs:ev n ρ s=v)
    (hx:ev n ρ x=.slice a m c) (hm:nn+m≤maxLen) (hb:(nn+m) * by' ≤140737488355328)
    (k:∀ a' c' w',St W0 w' (ps.set i (.row (.slice a' (nn+m) c') e 1 (nn+m) (xs++l.map (Value.int .i64)))) Γ→K (upd ρ d (.slice a' (nn+m) c')) w'):
    OW P Q ⟨some d,.call ⟨.builtin .append,#[s,x],#[t,t]⟩,ty,pos,af,none⟩ n ρ w K:=
  o_appendInts H i hp j hf hu he hzs hs hx hm hb fun v' w' H' =>by
    obtain ⟨a',c',rfl,_⟩:=H'.vO i (set_at hp)
    exact k a' c' w' H'

theorem St.dead (H:St W0 w ps Γ) (k:Nat) {p:Prv} (hp:ps[k]? =some p):St W0 w (ps.set k (.row (.slice none 0 0) 0 1 0 [])) Γ:=
  H.change k hp rfl rfl rfl (Nat.le_refl _) (fun _ _ _=>rfl) (World.ownsRow_nil _ _ _ _) (Or.inr (Or.inl rfl))
theorem St.freeze {α:Type} [qV α] (H:St W0 w ps Γ) (k:Nat) {v:Value} {e:TypeId} {nn:Nat} {xs:List Value} (hp:ps[k]? =some (.row v e (qV.size α) nn xs)) (fr:Bool) {F:yLN} {l:List α}
    (hr:reps w F xs l) (hfr:fr=true→zx w F) (hF:∀ b∈F,b < w.heap.size∧∀ i,jf ps i≠some b) (hn:nn=l.length):
    ∃ G,(∀ b∈G,b∈F∨jf ps k=some b)∧(F.Nodup→G.Nodup)∧St W0 w (ps.set k (.row (.slice none 0 0) 0 1 0 [])) (isF fr G v l :: Γ):=by
  subst hn
  have ho:=(H.has _ (List.mem_of_getElem? hp):w.ownsRow W0.heap.size e (qV.size α) v l.length xs)
  have hset:∀ (b i:Nat),jf (ps.set k (.row (.slice none 0 0) 0 1 0 [])) i=some b→i≠k∧jf ps i=some b:=by
    intro b i h
    unfold jf at h ⊢
    by_cases hi:i=k
    · subst hi
      rw [set_at hp] at h
      simp [Prv.blk,Value.ownBlock] at h
    · rw [List.getElem?_set_ne (Ne.symm hi)] at h
      exact ⟨hi,h⟩
  rcases ho.2 with ⟨rfl,h0⟩ | ⟨g,cap,cur,rfl,hb,hg,hnc,hcm,hcs,htake⟩
  · have:l=[]:=List.eq_nil_of_length_eq_zero h0
    subst this
    exact ⟨[],by simp,by simp,(H.dead k hp).add _ ⟨⟨none,0,rfl,by simp,Or.inl ⟨rfl,rfl⟩⟩,fun _=>zx.nil _⟩ (by simp [isF])⟩
  · have hbk:jf ps k=some g:=by simp [jf,hp,Prv.blk,Value.ownBlock]
    have hcl:zM w g 0 xs:=by
      intro i u hi
      rw [Nat.zero_add,World.cell?,hg]
      rw [← htake,List.getElem?_take] at hi
      split at hi
      · simpa using hi
      · cases hi
    refine ⟨g :: F,fun b hb=>?_,fun hn=>List.nodup_cons.2 ⟨fun h=>(hF g h).2 k hbk,hn⟩,(H.dead k hp).add _ ⟨⟨_,cap,rfl,by unfold maxLen at hcm;omega,Or.inr ⟨g,0,F,xs,rfl,rfl,(Array.getElem?_eq_some_iff.1 hg).1,hr,hcl⟩⟩,fun e b hb=>?_⟩ fun b hb=>?_⟩
    · rcases List.mem_cons.1 hb with rfl | h
      · exact Or.inr hbk
      · exact Or.inl h
    · rcases List.mem_cons.1 hb with rfl | h
      · exact ⟨_,_,hg⟩
      · exact hfr e b h
    · rcases List.mem_cons.1 hb with rfl | h
      · exact ⟨(Array.getElem?_eq_some_iff.1 hg).1,fun i hi=>(hset b i hi).1 (H.dist i k b (hset b i hi).2 hbk)⟩
      · exact ⟨(hF b h).1,fun i hi=>(hF b h).2 i (hset b i hi).2⟩
theorem Fresh.ice {L:List yLN} {F G:yLN} (N:Fresh W0.heap.size (F :: L)) (H:St W0 w ps Γ) (k:Nat) (hs:∀ b∈G,b∈F∨jf ps k=some b) (hn:F.Nodup→G.Nodup) (ha:∀ K∈L,∀ b∈K,∀ i,jf ps i≠some b):Fresh W0.heap.size (G :: L):=by
  have h1:=List.pairwise_cons.1 N.dj
  refine ⟨fun K hK=>?_,fun K hK b hb=>?_,List.pairwise_cons.2 ⟨fun K hK b hb hbK=>?_,h1.2⟩⟩
  · rcases List.mem_cons.1 hK with rfl | h
    · exact hn (N.nd F qo)
    · exact N.nd K (by simp [h])
  · rcases List.mem_cons.1 hK with rfl | h
    · rcases hs b hb with h | h
      · exact N.ge F qo b h
      · exact (yh H h).1
    · exact N.ge K (by simp [h]) b hb
  · rcases hs b hb with h | h
    · exact h1.1 K hK b h hbK
    · exact ha K hK b hbK k h
theorem St.vw (H:St W0 w ps Γ) (k:Nat) {v:Value} {e:TypeId} {nn:Nat} {l:yLI} (hp:ps[k]? =some (.row v e 1 nn (l.map (Value.int .i64)))) {L:List yLN} (N:Fresh W0.heap.size L) (ha:∀ K∈L,∀ b∈K,∀ i,jf ps i≠some b):
    ∃ G,Fresh W0.heap.size (G :: L)∧nn=l.length∧St W0 w (ps.set k (.row (.slice none 0 0) 0 1 0 [])) (isF true G v l :: Γ):=by
  have hn:nn=l.length:=by have:=H.rowLen k hp;simp at this;omega
  obtain ⟨G,h1,h2,h3⟩:=H.freeze (α:=Int) k hp true (reps_of_ints w l) (fun _=>zx.nil _) qo hn
  exact ⟨G,N.emp.ice H k h1 h2 ha,hn,h3⟩
theorem St.freezeR {α:Type} [qV α] (H:St W0 w ps Γ) (k:Nat) {v:Value} {e:TypeId} {nn:Nat} {xs:List Value} (hp:ps[k]? =some (.row v e (qV.size α) nn xs)) (j:Nat) {fr:Bool} {F:yLN} {l:List α} (hf:Γ[j]? =some (xW fr F xs l)) (hz:0 < qV.size α):
    ∃ G,((∀ b∈G,b∈F∨jf ps k=some b)∧(F.Nodup→G.Nodup))∧nn=l.length∧St W0 w (ps.set k (.row (.slice none 0 0) 0 1 0 [])) (isF fr G v l :: Γ):=by
  have hn:=H.zB k hp j hf hz
  obtain ⟨G,h1,h2,h3⟩:=H.freeze (α:=α) k hp fr (H.get j hf).1 (H.get j hf).2 (H.facts _ (List.mem_of_getElem? hf)).2 hn
  exact ⟨G,⟨h1,h2⟩,hn,h3⟩

theorem St.Qa (H:St W0 w ps Γ) (k:Nat) {a:yOA} {c:Nat} {e:TypeId} {nn:Nat} {l:yLI} (hp:ps[k]? =some (.row (.slice a nn c) e 1 nn (l.map (Value.int .i64)))):∃ G,nn=l.length∧qV.rep w G [.slice a nn c] l:=by
  have hn:nn=l.length:=by have:=H.rowLen k hp;simp at this;omega
  obtain ⟨a',c',G,h1,h2,_⟩:=H.rowInts k hp hn
  exact ⟨G,hn,h2⟩
theorem St.rowIsR {α:Type} [qV α] (H:St W0 w ps Γ) (k:Nat) {a:yOA} {c:Nat} {e:TypeId} {nn:Nat} {xs:List Value} (hp:ps[k]? =some (.row (.slice a nn c) e (qV.size α) nn xs)) (j:Nat) {fr:Bool} {F:yLN} {l:List α} (hf:Γ[j]? =some (xW fr F xs l)) (hz:0 < qV.size α):
    ∃ G,nn=l.length∧qV.rep w G [.slice a nn c] l:=by
  have hn:=H.zB k hp j hf hz
  subst hn
  have ho:=(H.has _ (List.mem_of_getElem? hp):w.ownsRow W0.heap.size e (qV.size α) _ l.length xs)
  rcases ho.2 with ⟨hv,h0⟩ | ⟨g,cap,cur,hv,hb,hg,hnc,hcm,hcs,htake⟩
  · have:l=[]:=List.eq_nil_of_length_eq_zero h0
    subst this
    rw [hv]
    exact ⟨[],rfl,none,0,rfl,by simp,Or.inl ⟨rfl,rfl⟩⟩
  · rw [hv]
    refine ⟨g :: F,rfl,_,cap,rfl,by unfold maxLen at hcm;omega,Or.inr ⟨g,0,F,xs,rfl,rfl,(Array.getElem?_eq_some_iff.1 hg).1,(H.get j hf).1,?_⟩⟩
    intro i u hi
    rw [Nat.zero_add,World.cell?,hg]
    rw [← htake,List.getElem?_take] at hi
    split at hi
    · simpa using hi
    · cases hi

theorem jG [Dfr] {x:Operand} {xs:Array Operand} {ts:Array TypeId} {f:FuncId} {fst caps:Array Value} (args:Array Value) (hv:ev n ρ x=.func (.func f) fst caps)
    (hargs:fst.toList++xs.toList.map (ev n ρ)++caps.toList=args.toList) (hf:∀ args w,(callFunc f args).run P w=.ok (.enter f args) w)
    (hc:Calls P f args w fun e w' =>∃ v,e=.returned v∧K (upd ρ d v) w'):
    OW P Q ⟨some d,.call ⟨.value x,xs,ts⟩,ty,pos,af,none⟩ n ρ w K:=by
  have hr:(execOp (ev n ρ) ⟨some d,.call ⟨.value x,xs,ts⟩,ty,pos,af,none⟩).run P w=.ok (.enter f args) w:=by
    have e:fst++xs.map (ev n ρ)++caps=args:=by apply Array.toList_inj.1;rw [← hargs];simp
    simp [execOp,resolve,Deferred.ofValue,hv,invoke,hf,e]
  unfold OW
  intro K' hK
  unfold Oper.wp
  rw [yX,hr]
  refine hc.mono fun e w' ⟨v,he,hR⟩=>?_
  subst he
  show K' ((mk n ρ).put (some d) v) w'
  rw [mk_put]
  exact hK _ _ hR
end
theorem args_eq {P:Program} {f:FuncId} {as0 bs:Array Value} {w:World} {R:Ending→World→Prop} (h:as0=bs) (k:Calls P f bs w R):Calls P f as0 w R:=h▸k
section
variable {W0 w : World} {ps : List Prv} {Γ : List Fact}
theorem St.y9 (H:St W0 w ps Γ) (k:Nat) {v:Value} {e:TypeId} {nn:Nat} {l:yLI} (hp:ps[k]? =some (.row v e 1 nn (l.map (Value.int .i64)))):nn=l.length:=by
  have:=H.rowLen k hp;simp at this;omega
theorem St.rowNB (H:St W0 w ps Γ) (k:Nat) {v:Value} {e:TypeId} {nn:Nat} {l:List Bool} (hp:ps[k]? =some (.row v e 1 nn (l.map Value.bool))):nn=l.length:=by
  have:=H.rowLen k hp;simp at this;omega
theorem St.isLen {α:Type} [qV α] (H:St W0 w ps Γ) (k:Nat) {fr:Bool} {F:yLN} {a:yOA} {m c:Nat} {l:List α} (hf:Γ[k]? =some (isF fr F (.slice a m c) l)):m=l.length:=by
  obtain ⟨⟨a',c',hc,_⟩,_⟩:=H.get k hf
  simp only [List.cons.injEq,Value.slice.injEq,and_true] at hc
  exact hc.2.1
end
theorem snocI (l:yLI) (x:Int):l.map (Value.int .i64)++[.int .i64 x]=(l++[x]).map (Value.int .i64):=by simp
theorem catI (l m:yLI):l.map (Value.int .i64)++m.map (Value.int .i64)=(l++m).map (Value.int .i64):=by simp
theorem Fresh.split {B:Nat} {L:List yLN} {F G:yLN} (N:Fresh B ((F++G) :: L)):Fresh B (F :: G :: L):=by
  have h1:=List.pairwise_cons.1 N.dj
  have h2:=List.nodup_append.1 (N.nd (F++G) qo)
  refine ⟨fun K hK=>?_,fun K hK b hb=>?_,List.pairwise_cons.2 ⟨fun K hK b hb hbK=>?_,List.pairwise_cons.2 ⟨fun K hK b hb=>h1.1 K hK b (by simp [hb]),h1.2⟩⟩⟩
  · rcases List.mem_cons.1 hK with rfl | h
    · exact h2.1
    · rcases List.mem_cons.1 h with rfl | h
      · exact h2.2.1
      · exact N.nd K (by simp [h])
  · rcases List.mem_cons.1 hK with rfl | h
    · exact N.ge (K++G) qo b (by simp [hb])
    · rcases List.mem_cons.1 h with rfl | h
      · exact N.ge (F++K) qo b (by simp [hb])
      · exact N.ge K (by simp [h]) b hb
  · rcases List.mem_cons.1 hK with rfl | h
    · exact h2.2.2 b hb b hbK rfl
    · exact h1.1 K h b (by simp [hb]) hbK
section
variable {W0 w w' : World} {ps : List Prv} {Γ : List Fact}
theorem St.addNil {α:Type} [qV α] (H:St W0 w ps Γ):St W0 w ps (isF true [] (.slice none 0 0) ([]:List α) :: Γ):=
  H.add _ ⟨⟨none,0,rfl,by simp,Or.inl ⟨rfl,rfl⟩⟩,fun _=>zx.nil _⟩ (by simp [isF])
end
section
variable {P : Program} {Q : Exit → Act → World → Prop} {n : Nat} {ρ : Env} {W0 w : World} {ps : List Prv} {Γ : List Fact}
  {d:Nat} {ty:TypeId} {pos:String} {af:Array Edge} {K:Env→World→Prop}
end
theorem Fresh.swap {B:Nat} {L:List yLN} {F G:yLN} (N:Fresh B (F :: G :: L)):Fresh B (G :: F :: L):=by
  have h1:=List.pairwise_cons.1 N.dj
  have h2:=List.pairwise_cons.1 h1.2
  refine ⟨fun K hK=>N.nd K ?_,fun K hK=>N.ge K ?_,List.pairwise_cons.2 ⟨fun K hK b hb hbK=>?_,List.pairwise_cons.2 ⟨fun K hK=>h1.1 K (by simp [hK]),h2.2⟩⟩⟩
  · simp only [List.mem_cons] at hK ⊢
    rcases hK with h | h | h <;> simp [h]
  · simp only [List.mem_cons] at hK ⊢
    rcases hK with h | h | h <;> simp [h]
  · rcases List.mem_cons.1 hK with rfl | h
    · exact h1.1 G qo b hbK hb
    · exact h2.1 K h b hb hbK
section
variable {W0 w w' : World} {ps : List Prv} {Γ : List Fact}
theorem St.pick (H:St W0 w ps Γ) (is js:yLN) {ps' :List Prv} {Γ' :List Fact} (hi:is.map (fun i=>ps[i]?)=ps'.map some:=by exact rfl) (hj:js.map (fun i=>Γ[i]?)=Γ'.map some:=by exact rfl) (hd:is.Nodup:=by decide):St W0 w ps' Γ' :=by
  have hl:is.length=ps'.length:=by simpa using congrArg List.length hi
  have ei:∀ k (hk:k < ps'.length) (hk' :k < is.length),ps[is[k]]? =some ps'[k]:=by
    intro k hk hk'
    have h1:(is.map (fun i=>ps[i]?))[k]? =(ps'.map some)[k]? :=by rw [hi]
    simpa [hk,hk'] using h1
  have hblk:∀ k b,jf ps' k=some b→∃ hk:k < is.length,jf ps is[k]=some b:=by
    intro k b h
    unfold jf at h
    cases hp:ps'[k]? with
    | none=>simp [hp] at h
    | some p=>
      obtain ⟨hk,e⟩:=List.getElem?_eq_some_iff.1 hp
      refine ⟨by omega,?_⟩
      unfold jf
      rw [ei k hk qg,e]
      simpa [hp] using h
  refine ⟨H.base,fun p hp=>?_,fun i j b h1 h2=>?_,fun f hf=>?_⟩
  · have:some p∈ps'.map some:=List.mem_map_of_mem hp
    rw [← hi] at this
    obtain ⟨i,_,hi'⟩:=List.mem_map.1 this
    exact H.has p (List.mem_of_getElem? hi')
  · obtain ⟨hk1,e1⟩:=hblk i b h1
    obtain ⟨hk2,e2⟩:=hblk j b h2
    have e:=H.dist _ _ b e1 e2
    have hp:=List.pairwise_iff_getElem.1 hd
    rcases Nat.lt_trichotomy i j with h | h | h
    · exact absurd e (hp i j hk1 hk2 h)
    · exact h
    · exact absurd e.symm (hp j i hk2 hk1 h)
  · have:some f∈Γ'.map some:=List.mem_map_of_mem hf
    rw [← hj] at this
    obtain ⟨i,_,hi'⟩:=List.mem_map.1 this
    obtain ⟨h1,h2⟩:=H.facts f (List.mem_of_getElem? hi')
    exact ⟨h1,fun b hb=>⟨(h2 b hb).1,fun k hk=>by
      obtain ⟨hk',e⟩:=hblk k b hk
      exact (h2 b hb).2 _ e⟩⟩
theorem St.unfree {α:Type} [qV α] (H:St W0 w ps Γ) (j:Nat) {fr:Bool} {F:yLN} {xs:List Value} {l:List α} (hf:Γ[j]? =some (xW fr F xs l)):St W0 w ps (xW false F xs l :: Γ):=
  H.yj j hf _ ⟨(H.get j hf).1,by simp⟩ (fun b hb=>hb)
theorem St.unfreeI {α:Type} [qV α] (H:St W0 w ps Γ) (j:Nat) {fr:Bool} {F:yLN} {v:Value} {l:α} (hf:Γ[j]? =some (isF fr F v l)):St W0 w ps (isF false F v l :: Γ):=
  H.yj j hf _ ⟨(H.get j hf).1,by simp⟩ (fun b hb=>hb)
theorem St.repsCat {α:Type} [qV α] (H:St W0 w ps Γ) (f0:Bool) (j:Nat) {fr:Bool} {F:yLN} {xs:List Value} {l:List α} (hf:Γ[j]? =some (xW fr F xs l)) (m:Nat) {fr' :Bool} {G:yLN} {ys:List Value} {l' :List α} (hg:Γ[m]? =some (xW fr' G ys l')) (h3:f0=true→fr=true∧fr' =true):
    St W0 w ps (xW f0 (F++G) (xs++ys) (l++l') :: Γ):=by
  refine H.add _ ⟨yO (H.get j hf).1 (H.get m hg).1,fun e=>((H.get j hf).2 (h3 e).1).app ((H.get m hg).2 (h3 e).2)⟩ fun b hb=>?_
  rcases List.mem_append.1 hb with h | h
  · exact (H.facts _ (List.mem_of_getElem? hf)).2 b h
  · exact (H.facts _ (List.mem_of_getElem? hg)).2 b h
end
section
variable {P : Program} {Q : Exit → Act → World → Prop} {n : Nat} {ρ : Env} {W w : World} {d : Nat} {ty : TypeId} {pos : String} {af : Array Edge} {K : Env → World → Prop} {ps : List Prv} {Γ : List Fact} {S : World → Prop} {gd : Option (Nat × Bool)}
theorem o_build [Dfr] {t:TypeId} {xs:Array (Nat×Operand)} (cs:List Value) (parts:List (Nat×Value)) (k:K (upd ρ d (.agg cs.toArray)) w) (hx:xs.toList.map (fun p=>(p.1,ev n ρ p.2))=parts:=by exact rfl) (h:P.built t parts=some cs.toArray:=by kernel_rfl):
    OW P Q ⟨some d,.build t xs,ty,pos,af,none⟩ n ρ w K:=by
  subst hx
  refine o_val _ ?_ k
  have:=run_build (P:=P) w t (xs.map fun p=>(p.1,ev n ρ p.2)) cs.toArray (by simpa using h)
  simp [execOp,this]
theorem neg_i64 {a:Int} (h: -9223372036854775807≤a∧a≤9223372036854775807):IntKind.i64.wrap (-a)= -a:=wrap_in qg
theorem run_neg {P:Program} {w:World} {a:Int} (h: -9223372036854775807≤a∧a≤9223372036854775807):(Op.unary .neg (.int .i64 a)).run P w=.ok (.int .i64 (-a)) w:=by
  simp [Op.unary,Op.intArith,neg_i64 h]
theorem o_neg [Dfr] {x:Operand} {t:TypeId} (a:Int) (hx:ev n ρ x=.int .i64 a) (h: -9223372036854775807≤a∧a≤9223372036854775807) (k:K (upd ρ d (.int .i64 (-a))) w):OW P Q ⟨some d,.unOp .neg t x,ty,pos,af,none⟩ n ρ w K:=
  o_val _ (by simp [execOp,hx,run_neg h]) k
theorem y_neg {x:Operand} {t:TypeId} (a:Int) (hx:ev n ρ x=.int .i64 a) (h: -9223372036854775807≤a∧a≤9223372036854775807):∀ w',S w' →(execOp (ev n ρ) ⟨some d,.unOp .neg t x,ty,pos,af,gd⟩).run P w' =.ok (.value (.int .i64 (-a))) w' :=
  fun w' _=>by simp [execOp,hx,run_neg h]
theorem min_if (x y:Int):(if y < x then y else x)=min x y:=by omega
theorem o_min [Dfr] {x y:Operand} {ts:Array TypeId} (a b:Int) (hx:ev n ρ x=.int .i64 a) (hy:ev n ρ y=.int .i64 b) (k:K (upd ρ d (.int .i64 (min a b))) w):OW P Q ⟨some d,.call ⟨.builtin .min,#[x,y],ts⟩,ty,pos,af,none⟩ n ρ w K:=
  o_val _ (by rw [← min_if];simp [execOp,resolve,invoke,builtin,hx,hy,run_min_int2]) k
end
def Meet [Dfr] (A:Env→World→Prop) (n:Nat):Exit→Act→World→Prop
  | .normal,a,w=>∃ ρ,a=mk n ρ∧A ρ w
  | _,_,_=>False
theorem c_cut [Dfr] {P:Program} {Q:Exit→Act→World→Prop} {n:Nat} {ρ:Env} {w:World} {x:Code} (A:Env→World→Prop) (h1:x.wp P (Meet A n) (mk n ρ) w) (h2:∀ ρ w,A ρ w→Q .normal (mk n ρ) w):x.wp P Q (mk n ρ) w:=by
  refine Code.wp_mono ?_ h1
  intro e a w h
  cases e with
  | normal=>obtain ⟨ρ,rfl,hA⟩:=h;exact h2 ρ w hA
  | exit _=>exact h.elim
  | goto _=>exact h.elim
  | ret=>exact h.elim
  | panic _=>exact h.elim
  | outgrown=>exact h.elim
theorem meet [Dfr] {A:Env→World→Prop} {n:Nat} {ρ:Env} {w:World} (h:A ρ w):Meet A n .normal (mk n ρ) w:=⟨ρ,rfl,h⟩
theorem St.merge {W0 w0 w:World} {ps ps' :List Prv} {Γ Γ' :List Fact} (H:St W0 w0 ps Γ) (K:St w0 w ps' Γ') (M:Fresh w0.heap.size (Γ'.map Fact.F)):St W0 w (ps' ++ps) (Γ' ++Γ):=by
  have hge:∀ f∈Γ',∀ b∈f.F,w0.heap.size≤b:=fun f hf b hb=>M.ge f.F (List.mem_map_of_mem hf) b hb
  have hsplit:∀ i b,jf (ps' ++ps) i=some b→(i < ps'.length∧jf ps' i=some b∧w0.heap.size≤b)∨(ps'.length≤i∧jf ps (i - ps'.length)=some b∧b < w0.heap.size):=by
    intro i b h
    rcases Nat.lt_or_ge i ps'.length with hi | hi
    · have:jf ps' i=some b:=by unfold jf at h ⊢;rwa [List.getElem?_append_left hi] at h
      exact Or.inl ⟨hi,this,(yh K this).1⟩
    · have:jf ps (i - ps'.length)=some b:=by unfold jf at h ⊢;rwa [List.getElem?_append_right hi] at h
      exact Or.inr ⟨hi,this,(yh H this).2⟩
  refine ⟨Ext.trans' H.base K.base,fun p hp=>?_,fun i j b hi hj=>?_,fun f hf=>?_⟩
  · rcases List.mem_append.1 hp with h | h
    · have hk:=K.has p h
      cases p with
      | box b cs t=>exact ⟨Nat.le_trans H.base.size hk.1,hk.2⟩
      | row v e sz n xs=>exact ownsRow_up hk H.base.size
    · exact (H.has p h).stay fun b hb=>K.base.block b ((H.has p h).lt hb).2
  · rcases hsplit i b hi with ⟨h1,h2,h3⟩ | ⟨h1,h2,h3⟩ <;> rcases hsplit j b hj with ⟨k1,k2,k3⟩ | ⟨k1,k2,k3⟩
    · exact K.dist i j b h2 k2
    · omega
    · omega
    · have:=H.dist _ _ b h2 k2;omega
  · rcases List.mem_append.1 hf with h | h
    · obtain ⟨h1,h2⟩:=K.facts f h
      exact ⟨h1,fun b hb=>⟨(h2 b hb).1,fun i hi=>by
        rcases hsplit i b hi with ⟨_,k,_⟩ | ⟨_,_,k⟩
        · exact (h2 b hb).2 i k
        · have:=hge f h b hb;omega⟩⟩
    · obtain ⟨h1,h2⟩:=H.facts f h
      exact ⟨f.stay w0 w h1 fun b hb=>K.base.block b (h2 b hb).1,fun b hb=>⟨Nat.lt_of_lt_of_le (h2 b hb).1 K.base.size,fun i hi=>by
        rcases hsplit i b hi with ⟨_,_,k⟩ | ⟨_,k,_⟩
        · have:=(h2 b hb).1;omega
        · exact (h2 b hb).2 _ k⟩⟩
theorem Fresh.merge {B C:Nat} {L L' :List yLN} (N:Fresh B L) (h:B≤C) (hl:∀ F∈L,∀ b∈F,b < C) (M:Fresh C L'):Fresh B (L' ++L):=by
  refine ⟨fun F hF=>?_,fun F hF b hb=>?_,List.pairwise_append.2 ⟨M.dj,N.dj,fun F hF G hG b hb hbG=>by have:=M.ge F hF b hb;have:=hl G hG b hbG;omega⟩⟩
  · rcases List.mem_append.1 hF with k | k
    · exact M.nd F k
    · exact N.nd F k
  · rcases List.mem_append.1 hF with k | k
    · exact Nat.le_trans h (M.ge F k b hb)
    · exact N.ge F k b hb
theorem St.mergeIn {W0 w0 w:World} {ps ps' :List Prv} {Γ:List Fact} {f g:Fact} (H:St W0 w0 ps Γ) (K:St w0 w ps' [f]) (j:Nat) (hg:Γ[j]? =some g) (hF:∀ b∈f.F,b∈g.F):St W0 w (ps' ++ps) (f :: Γ):=by
  have H1:St W0 w (ps' ++ps) ([]++Γ):=St.merge H (K.sub [] qo) (Fresh.nil _)
  exact H1.yj j hg f (K.get 0 rfl) hF
theorem pick_some {α:Type} (l:List α):∀ (is:yLN),is.all (fun i=>Nat.blt i l.length)=true→is.map (fun i=>l[i]?)=(is.filterMap fun i=>l[i]?).map some
  | [],_=>rfl
  | i :: is,h=>by
    simp only [List.all_cons,Bool.and_eq_true] at h
    have hi:i < l.length:=by simpa [Nat.blt_eq] using h.1
    simp [List.getElem?_eq_getElem hi,pick_some l is h.2]
theorem St.zq {W0 w:World} {ps:List Prv} {Γ:List Fact} (H:St W0 w ps Γ) (is js:yLN) (hi:is.all (fun i=>Nat.blt i ps.length)=true:=by exact rfl) (hj:js.all (fun i=>Nat.blt i Γ.length)=true:=by exact rfl) (hd:is.Nodup:=by decide):
    St W0 w (is.filterMap fun i=>ps[i]?) (js.filterMap fun i=>Γ[i]?):=H.pick is js (pick_some ps is hi) (pick_some Γ js hj) hd
theorem jO [Dfr] {P:Program} {Q:Exit→Act→World→Prop} {n:Nat} {ρ:Env} {W0 w:World} {ps:List Prv} {Γ:List Fact} {l:List Oper} {id:Nat} (hm:P.follows .mixedOrders=true) (H:St W0 w ps Γ) (is:yLN)
    (k:St W0 w.drew ps Γ→RW P l Q (fun w=>St W0 w (is.filterMap fun i=>ps[i]?) Γ) n l.toArray.size (Array.replicate l.toArray.size false) ρ w.drew)
    (hi:is.all (fun i=>Nat.blt i ps.length)=true:=by exact rfl) (hd:is.Nodup:=by decide):(Code.region id l.toArray true).wp P Q (mk n ρ) w:=by
  have H' :=H.ext (ext_drew _)
  refine c_draw (fun w=>St W0 w (is.filterMap fun i=>ps[i]?) Γ) hm ?_ (k H')
  exact H'.pick is (List.range Γ.length) (pick_some ps is hi) (by
    apply List.ext_getElem?
    intro i
    rcases Nat.lt_or_ge i Γ.length with h | h
    · simp [h]
    · simp [h]) hd
theorem St.chgFacts {W w w' :World} {ps:List Prv} {Γ:List Fact} (H:St W w ps Γ) {Fs L A:List yLN} (N:Fresh W.heap.size (Fs++L)) (hA:∀ F∈A,∀ b∈F,b < W.heap.size) (e:Chg Fs.flatten w w')
    (is:yLN) (new:List Fact) (hnew:∀ f∈new,f.φ w') (js ks:yLN) {Δ:List Fact}
    (hi:is.map (fun i=>(Γ[i]?).map Fact.F)=Fs.map some:=by exact rfl) (hn:new.map Fact.F=Fs:=by exact rfl)
    (hj:js.map (fun i=>Γ[i]?)=Δ.map some:=by exact rfl) (hk:ks.map (fun i=>(L++A)[i]?)=(Δ.map Fact.F).map some:=by exact rfl):St W w' ps (new++Δ):=by
  have hlt:=H.ltN is hi
  have haw:=H.jL is hi
  have hN1:=(List.pairwise_append.1 N.dj).2.2
  have hfl:∀ b∈Fs.flatten,∃ F∈Fs,b∈F:=fun b hb=>List.mem_flatten.1 hb
  have hΔ:∀ f∈Δ,f∈Γ∧∀ b∈f.F,b∉Fs.flatten:=by
    intro f hf
    constructor
    · have:some f∈Δ.map some:=List.mem_map_of_mem hf
      rw [← hj] at this
      obtain ⟨i,_,hi'⟩:=List.mem_map.1 this
      exact List.mem_of_getElem? hi'
    · intro b hb hbF
      obtain ⟨G,hG,hbG⟩:=hfl b hbF
      have:some f.F∈(Δ.map Fact.F).map some:=List.mem_map_of_mem (List.mem_map_of_mem hf)
      rw [← hk] at this
      obtain ⟨i,_,hi'⟩:=List.mem_map.1 this
      rcases List.mem_append.1 (List.mem_of_getElem? hi') with h | h
      · exact hN1 G hG f.F h b hbG hb
      · have h1:=hA f.F h b hb
        have h2:=N.ge G (List.mem_append_left _ hG) b hbG
        omega
  have H1:St W w' ps Δ:=H.chgNew e (fun b hb i=>by obtain ⟨F,hF,hbF⟩:=hfl b hb;exact haw F hF b hbF i)
    (fun b hb=>by obtain ⟨F,hF,hbF⟩:=hfl b hb;exact N.ge F (List.mem_append_left _ hF) b hbF) Δ hΔ
  refine ⟨H1.base,H1.has,H1.dist,fun f hf=>?_⟩
  rcases List.mem_append.1 hf with h | h
  · have hFm:f.F∈Fs:=by rw [← hn];exact List.mem_map_of_mem h
    exact ⟨hnew f h,fun b hb=>⟨Nat.lt_of_lt_of_le (hlt f.F hFm b hb) e.size,haw f.F hFm b hb⟩⟩
  · exact H1.facts f h
section
variable {P : Program} {Q : Exit → Act → World → Prop} {n : Nat} {ρ : Env} {W0 w : World} {ps : List Prv} {Γ : List Fact}
  {d:Nat} {ty:TypeId} {pos:String} {af:Array Edge} {K:Env→World→Prop}
theorem jd [Dfr] {t:TypeId} {x:Operand} {v:Value} (H:St W0 w ps Γ) (cs:List Value) (k:∀ b w',St W0 w' (.box b cs t :: ps) Γ→K (upd ρ d (.pointer (some ⟨b,0,none⟩))) w')
    (hx:ev n ρ x=v:=by exact rfl) (hc:v.cells.toList=cs:=by exact rfl):OW P Q ⟨some d,.box t x,ty,pos,af,none⟩ n ρ w K:=by
  subst hc
  exact o_box H v hx k
theorem ja [Dfr] {t:TypeId} {z:Value} {m by' :Nat} (H:St W0 w ps Γ) (ht:TI P t z m by') (cs:List Value) (k:∀ b w',St W0 w' (.box b cs t :: ps) Γ→K (upd ρ d (.pointer (some ⟨b,0,none⟩))) w')
    (hc:z.cells.toList=cs:=by exact rfl):OW P Q ⟨some d,.alloc t,ty,pos,af,none⟩ n ρ w K:=by
  subst hc
  exact o_alloc H ht k
theorem jA [Dfr] {t:TypeId} {x y:Operand} {b off m:Nat} {v:Value} {cs:List Value} {tb:TypeId} (H:St W0 w ps Γ) (i:Nat) (cs' :List Value) (hs:∀ w,(Go.sizeOf t).run P w=.ok m w)
    (k:∀ w',St W0 w' (ps.set i (.box b cs' tb)) Γ→K ρ w') (hx:ev n ρ x=.pointer (some ⟨b,off,none⟩):=by exact rfl) (hy:ev n ρ y=v:=by exact rfl) (hm:v.cells.size=m:=by exact rfl) (hp:ps[i]? =some (.box b cs tb):=by exact rfl)
    (h1:cs'.all Value.oneCell' =true:=by exact rfl) (ho:off+v.cells.size≤cs.length:=by exact Nat.le_of_ble_eq_true rfl)
    (hc:cs.take off++v.cells.toList++cs.drop (off+v.cells.size)=cs' :=by exact rfl):OW P Q ⟨none,.store t x y,ty,pos,af,none⟩ n ρ w K:=by
  subst hc hm
  exact o_store H i hp v hs hx hy (fun u hu=>List.all_eq_true.1 h1 u (by simp at hu ⊢;simp [hu])) ho k
theorem vz [Dfr] {t:TypeId} {x y:Operand} {b off:Nat} {v:Value} {cs:List Value} {tb:TypeId} (H:St W0 w ps Γ) (i:Nat) (cs' :List Value) (hs:∀ w,(Go.sizeOf t).run P w=.ok 1 w)
    (k:∀ w',St W0 w' (ps.set i (.box b cs' tb)) Γ→K ρ w') (hx:ev n ρ x=.pointer (some ⟨b,off,none⟩):=by exact rfl) (hy:ev n ρ y=v:=by exact rfl) (hp:ps[i]? =some (.box b cs tb):=by exact rfl)
    (h1:v.oneCell' =true:=by exact rfl) (ho:off < cs.length:=by exact Nat.le_of_ble_eq_true rfl) (hc:cs.set off v=cs' :=by exact rfl):OW P Q ⟨none,.store t x y,ty,pos,af,none⟩ n ρ w K:=by
  subst hc
  exact Qw H i hp v hs hx hy h1 ho k
theorem zt [Dfr] {t e:TypeId} {x:Operand} {v:Value} (H:St W0 w ps Γ) (hu:P.underlying t=some (.slice e)) {z:Value} {sz by' :Nat} (he:TI P e z sz by') (cs:List Value)
    (k:∀ b w',St W0 w' (.box b cs e :: ps) Γ→K (upd ρ d (.slice (some ⟨b,0,none⟩) 1 1)) w') (hx:ev n ρ x=v:=by exact rfl) (h0:0 < sz:=by decide) (hs:sz≤16777216:=by decide) (hv:v.cells.size=sz:=by exact rfl) (hc:v.cells.toList=cs:=by exact rfl):
    OW P Q ⟨some d,.buildSlice t 1 #[(0,x)],ty,pos,af,none⟩ n ρ w K:=by
  subst hc
  exact o_build1 H hu he h0 hs v hx hv k
end
section
variable {W0 w : World} {ps : List Prv} {Γ : List Fact}
theorem St.nilRowI (H:St W0 w ps Γ) (e:TypeId):St W0 w (.row (.slice none 0 0) e 1 0 (([]:yLI).map (Value.int .i64)) :: ps) Γ:=H.nilRow e 1
theorem St.boxRowI (H:St W0 w ps Γ) (i:Nat) (l:yLI) (nn:Nat) {b:Nat} {e:TypeId} (hp:ps[i]? =some (.box b (l.map (Value.int .i64)) e):=by exact rfl) (hl:l.length=nn:=by exact rfl) (hm:nn≤maxLen:=by decide):
    St W0 w (ps.set i (.row (.slice (some ⟨b,0,none⟩) nn nn) e 1 nn (l.map (Value.int .i64)))) Γ:=H.boxRow i hp 1 nn (by simp [hl]) hm
def Qg:yLN→List Prv→List Prv
  | [],ps=>ps
  | i :: is,ps=>Qg is (ps.eraseIdx i)
theorem St.erases:∀ (is:yLN) {ps:List Prv},St W0 w ps Γ→St W0 w (Qg is ps) Γ
  | [],_,H=>H
  | i :: is,ps,H=>St.erases is (H.sel _ (List.eraseIdx_sublist ps i) _ fun f h=>h)
end
end
section
open Go.RowKit
section
variable {α : Type}
def pickL (l:List α) (n:Nat) (is:yLN):List α:=(is.filterMap fun i=>l[i]?)++l.drop n
def pickI (len n:Nat) (is:yLN):yLN:=is++(List.range (len - n)).map (·+n)
theorem pickI_map (l:List α) (n:Nat) (is:yLN) (h:is.all (fun i=>Nat.blt i n)=true) (hn:n≤l.length):(pickI l.length n is).map (fun i=>l[i]?)=(pickL l n is).map some:=by
  unfold pickI pickL
  rw [List.map_append,List.map_append]
  congr 1
  · refine pick_some l is ?_
    rw [List.all_eq_true] at h ⊢
    intro i hi
    have:=h i hi
    simp only [Nat.blt_eq] at this ⊢
    omega
  · apply List.ext_getElem?
    intro i
    rcases Nat.lt_or_ge i (l.length - n) with h1 | h1
    · simp [h1,Nat.add_comm]
    · simp [h1]
theorem pickI_nodup (len n:Nat) (is:yLN) (h:is.all (fun i=>Nat.blt i n)=true) (hd:is.Nodup):(pickI len n is).Nodup:=by
  unfold pickI
  refine List.nodup_append.2 ⟨hd,?_,?_⟩
  · exact List.Pairwise.map _ (fun a b (hab:a≠b)=>by omega) List.nodup_range
  · intro a ha b hb
    rw [List.all_eq_true] at h
    have:=h a ha
    simp only [Nat.blt_eq] at this
    obtain ⟨c,_,rfl⟩:=List.mem_map.1 hb
    omega
end

section
variable {W0 w : World} {ps : List Prv} {Γ : List Fact}
theorem St.QM (H:St W0 w ps Γ) (n m:Nat) (is js:yLN) (hn:n≤ps.length) (hm:m≤Γ.length) (hi:is.all (fun i=>Nat.blt i n)=true:=by exact rfl) (hj:js.all (fun i=>Nat.blt i m)=true:=by exact rfl) (hd:is.Nodup:=by decide):
    St W0 w (pickL ps n is) (pickL Γ m js):=
  H.pick (pickI ps.length n is) (pickI Γ.length m js) (pickI_map ps n is hi hn) (pickI_map Γ m js hj hm) (pickI_nodup _ _ _ hi hd)
theorem St.pickE {ps' :List Prv} {Γ' :List Fact} (H:St W0 w ps Γ) (n m:Nat) (is js:yLN) (hn:n≤ps.length) (hm:m≤Γ.length)
    (hp:pickL ps n is=ps' :=by simp only [pickL,List.filterMap_cons,List.filterMap_nil,List.getElem?_cons_zero,List.getElem?_cons_succ,List.drop_succ_cons,List.drop_zero,List.cons_append,List.nil_append];exact rfl)
    (hg:pickL Γ m js=Γ' :=by simp only [pickL,List.filterMap_cons,List.filterMap_nil,List.getElem?_cons_zero,List.getElem?_cons_succ,List.drop_succ_cons,List.drop_zero,List.cons_append,List.nil_append];exact rfl)
    (hi:is.all (fun i=>Nat.blt i n)=true:=by exact rfl) (hj:js.all (fun i=>Nat.blt i m)=true:=by exact rfl) (hd:is.Nodup:=by decide):St W0 w ps' Γ' :=hp▸hg▸H.QM n m is js hn hm hi hj hd
theorem Fresh.QM {B:Nat} {L:List yLN} (N:Fresh B L) (n:Nat) (is:yLN) (hn:n≤L.length) (hi:is.all (fun i=>Nat.blt i n)=true:=by exact rfl) (hd:is.Nodup:=by decide):Fresh B (pickL L n is):=
  N.pick (pickI L.length n is) (pickI_map L n is hi hn) (pickI_nodup _ _ _ hi hd)
def Kept (Ns:List yLN) (Γ:List Fact):Prop:=∀ F∈Ns,∃ f∈Γ,f.F=F
theorem Kept.up {Ns:List yLN} {Γ:List Fact} (h:Kept Ns Γ) (f:Fact):Kept Ns (f :: Γ):=fun F hF=>by
  obtain ⟨g,h1,h2⟩:=h F hF
  exact ⟨g,List.mem_cons_of_mem _ h1,h2⟩
theorem Kept.behind {Ns:List yLN} {Γ Γ' :List Fact} (h:Kept Ns Γ) (m:Nat) (e:Γ'.drop m=Γ):Kept Ns Γ' :=fun F hF=>by
  obtain ⟨g,h1,h2⟩:=h F hF
  exact ⟨g,List.mem_of_mem_drop (e▸h1),h2⟩
theorem Kept.nil (Γ:List Fact):Kept [] Γ:=fun F hF=>by cases hF
theorem Kept.cons {Ns:List yLN} {Γ:List Fact} (h:Kept Ns Γ) (i:Nat) {f:Fact} {F:yLN} (hf:Γ[i]? =some f) (e:f.F=F):Kept (F :: Ns) Γ:=fun G hG=>by
  rcases List.mem_cons.1 hG with rfl | hG
  · exact ⟨f,List.mem_of_getElem? hf,e⟩
  · exact h G hG
theorem St.ltK (H:St W0 w ps Γ) {Ns:List yLN} (h:Kept Ns Γ):∀ F∈Ns,∀ b∈F,b < w.heap.size:=fun F hF b hb=>by
  obtain ⟨f,h1,h2⟩:=h F hF
  exact ((H.facts f h1).2 b (h2▸hb)).1
theorem St.awayK (H:St W0 w ps Γ) {Ns:List yLN} (h:Kept Ns Γ):∀ F∈Ns,∀ b∈F,∀ i,jf ps i≠some b:=fun F hF b hb=>by
  obtain ⟨f,h1,h2⟩:=h F hF
  exact ((H.facts f h1).2 b (h2▸hb)).2
theorem all_two {L M:List yLN} {p:Nat→Prop} (h1:∀ F∈L,∀ b∈F,p b) (h2:∀ F∈M,∀ b∈F,p b):∀ F∈L++M,∀ b∈F,p b:=fun F hF b hb=>
  (List.mem_append.1 hF).elim (fun h=>h1 F h b hb) fun h=>h2 F h b hb
end

theorem c_drawK2 [Dfr] {P:Program} {Q:Exit→Act→World→Prop} {n:Nat} {ρ:Env} {W0 w:World} {ps:List Prv} {Γ:List Fact} {l:List Oper} {id:Nat} (hm:P.follows .mixedOrders=true) (H:St W0 w ps Γ) (is js:yLN)
    (k:St W0 w.drew ps Γ→RW P l Q (fun w=>St W0 w (is.filterMap fun i=>ps[i]?) (js.filterMap fun i=>Γ[i]?)) n l.toArray.size (Array.replicate l.toArray.size false) ρ w.drew)
    (hi:is.all (fun i=>Nat.blt i ps.length)=true:=by simp) (hj:js.all (fun i=>Nat.blt i Γ.length)=true:=by simp) (hd:is.Nodup:=by decide):(Code.region id l.toArray true).wp P Q (mk n ρ) w:=by
  have H' :=H.ext (ext_drew _)
  exact c_draw (fun w=>St W0 w (is.filterMap fun i=>ps[i]?) (js.filterMap fun i=>Γ[i]?)) hm (H'.pick is js (pick_some ps is hi) (pick_some Γ js hj) hd) (k H')

theorem o_callF [Dfr] {P:Program} {Q:Exit→Act→World→Prop} {n:Nat} {ρ:Env} {w:World} {d:Nat} {ty:TypeId} {pos:String} {af:Array Edge} {K:Env→World→Prop} {x:Operand} {xs:Array Operand} {ts:Array TypeId} {f:FuncId} {fst caps:Array Value} {R:Value→World→Prop} (args:Array Value) (hv:ev n ρ x=.func (.func f) fst caps)
    (hargs:fst.toList++xs.toList.map (ev n ρ)++caps.toList=args.toList) (hf:∀ args w,(callFunc f args).run P w=.ok (.enter f args) w)
    (hc:Calls P f args w fun e w' =>∃ v,e=.returned v∧R v w') (k:∀ v w',R v w' →K (upd ρ d v) w'):OW P Q ⟨some d,.call ⟨.value x,xs,ts⟩,ty,pos,af,none⟩ n ρ w K:=
  jG args hv hargs hf (hc.mono fun _ w' ⟨v,he,hR⟩=>⟨v,he,k v w' hR⟩)
structure OwnI (e:TypeId) where
  l:yLI
instance (e:TypeId):Inhabited (OwnI e):=⟨⟨[]⟩⟩
def OwnAt (e:TypeId) (w:World) (F:yLN) (v:Value) (l:yLI):Prop:=
  (v=.slice none 0 0∧l=[]∧F=[])∨∃ g cap cur,v=.slice (some ⟨g,0,none⟩) l.length cap∧F=[g]∧w.heap[g]? =some (.cells cur e (0,0))∧l.length≤cap∧cap≤maxLen∧cur.size=cap∧cur.toList.take l.length=l.map (Value.int .i64)
theorem OwnAt.slice {e:TypeId} {w:World} {F:yLN} {v:Value} {l:yLI} (h:OwnAt e w F v l):∃ a c,v=.slice a l.length c:=by
  rcases h with ⟨rfl,rfl,_⟩ | ⟨g,cap,cur,rfl,_⟩
  · exact ⟨none,0,rfl⟩
  · exact ⟨_,_,rfl⟩
instance (e:TypeId):qV (OwnI e) where
  size:=1
  rep:=fun w F cs x=>∃ v,cs=[v]∧OwnAt e w F v x.l
  len:=by rintro w F cs x ⟨v,rfl,_⟩;rfl
  one:=by
    rintro w F cs x ⟨v,rfl,h⟩ u hu
    simp only [List.mem_singleton] at hu
    subst hu
    obtain ⟨a,c,rfl⟩:=h.slice
    rfl
  lt:=by
    rintro w F cs x ⟨v,rfl,h⟩ b hb
    rcases h with ⟨_,_,rfl⟩ | ⟨g,cap,cur,_,rfl,hg,_⟩
    · simp at hb
    · obtain rfl:=List.mem_singleton.1 hb
      exact (Array.getElem?_eq_some_iff.1 hg).1
  stay:=by
    rintro w w' F cs x ⟨v,rfl,h⟩ hs
    refine ⟨v,rfl,?_⟩
    rcases h with h | ⟨g,cap,cur,h1,rfl,hg,h2⟩
    · exact Or.inl h
    · exact Or.inr ⟨g,cap,cur,h1,rfl,(hs g qo).trans hg,h2⟩

theorem OwnAt.rep {e:TypeId} {w:World} {F:yLN} {v:Value} {l:yLI} (h:OwnAt e w F v l):qV.rep w F [v] l:=by
  rcases h with ⟨rfl,rfl,rfl⟩ | ⟨g,cap,cur,rfl,rfl,hg,h1,h2,h3,h4⟩
  · exact ⟨none,0,rfl,by simp,Or.inl ⟨rfl,rfl⟩⟩
  · refine ⟨_,cap,rfl,by unfold maxLen at h2;omega,Or.inr ⟨g,0,[],_,rfl,rfl,(Array.getElem?_eq_some_iff.1 hg).1,reps_of_ints w l,?_⟩⟩
    intro i u hi
    rw [Nat.zero_add,World.cell?,hg]
    rw [← h4,List.getElem?_take] at hi
    split at hi
    · simpa using hi
    · cases hi
section
variable {W0 w : World} {ps : List Prv} {Γ : List Fact}
end

section
variable {P : Program} {Q : Exit → Act → World → Prop} {n : Nat} {ρ : Env} {W0 w : World} {ps : List Prv} {Γ : List Fact}
  {d:Nat} {ty:TypeId} {pos:String} {af:Array Edge} {K:Env→World→Prop}
end
end
section
open Go.Proofs.Tryz
open Go.RowKit
set_option linter.unusedVariables false
set_option linter.unusedSimpArgs false
set_option maxRecDepth 100000
set_option maxHeartbeats 4000000
variable {cl : Nat}
theorem QJ (w:World) (n:Int) (lo:Int) (hi:Int):Calls Tryz.prog 54 #[yI n,yI lo,yI hi] w (Ret (fun v w' =>v=.bool (inR n lo hi)) w):=by
 refine en func54 ntmps54 ?_
 have H:=St.start w
 refine zcr (sp (.bool false) (zjc (sps [yI n,yI lo,.bool (decide ((n:Int)≥lo)),.bool (decide ((n:Int)≥lo))] ?_)))
 cases h1:(decide ((n:Int)≥lo))
 ·skip
  replace h1:=of_decide_eq_false h1
  refine zG [11,12,13] (sps [.bool false,.bool false] (zjr (ret1 (.bool false) rfl rfl ⟨_,rfl,?_,H.base⟩)))
  rw [inR_no ‹_›]
 replace h1:=of_decide_eq_true h1
 refine qY 10 rfl rfl (sp (yI n) (qY 10 rfl rfl (sp (yI hi) (qY 10 rfl rfl (sps [.bool (decide ((n:Int)≤hi)),.bool (decide ((n:Int)≤hi)),.bool (decide ((n:Int)≤hi))] (zjr (ret1 (.bool (decide ((n:Int)≤hi))) rfl rfl ⟨_,rfl,?_,H.base⟩)))))))
 rw [inR_yes ‹_›]

theorem l00In_ok (w:World) (n:Int) (lo:Int) (hi:Int):Calls Tryz.prog 50 #[yI n,yI lo,yI hi] w (Ret (fun v w' =>v=.bool (inR n lo hi)) w):=by
 refine en func50 ntmps50 ?_
 have H:=St.start w
 refine zcr (sp (.bool false) (zjc (sps [yI n,yI lo,.bool (decide ((n:Int)≥lo)),.bool (decide ((n:Int)≥lo))] ?_)))
 cases h1:(decide ((n:Int)≥lo))
 ·skip
  replace h1:=of_decide_eq_false h1
  refine zG [11,12,13] (sps [.bool false,.bool false] (zjr (ret1 (.bool false) rfl rfl ⟨_,rfl,?_,H.base⟩)))
  rw [inR_no ‹_›]
 replace h1:=of_decide_eq_true h1
 refine qY 10 rfl rfl (sp (yI n) (qY 10 rfl rfl (sp (yI hi) (qY 10 rfl rfl (sps [.bool (decide ((n:Int)≤hi)),.bool (decide ((n:Int)≤hi)),.bool (decide ((n:Int)≤hi))] (zjr (ret1 (.bool (decide ((n:Int)≤hi))) rfl rfl ⟨_,rfl,?_,H.base⟩)))))))
 rw [inR_yes ‹_›]

theorem bagSize_ok (w:World) (l:yLI) {al:yOA} {Fl:yLN} (hl:qV.rep w Fl [.slice al l.length cl] l) (p0:Small l):Calls Tryz.prog 56 #[.slice al l.length cl] w (Ret (fun v w' =>v=yI (yM l)) w):=by
 refine en func56 ntmps56 ?_
 have H:=(St.start w).arg hl
 have nhl:=qO hl
 clear hl
 have p1:=p0.1
 refine zcr (sp (yI 0) (zjc (sp (yI 0) (zjcc (sp (.slice al l.length cl) (oN rfl (sp (yI 0) (zjn (xm ?_)))))))))
 refine zK (fun m' ρ w1=>∃ (zu:Env) (k:Nat),ρ=upd (upd (upd (upd (upd zu 2 (yI 0)) 3 (yI (sumTo l k))) 6 (.slice al l.length cl)) 7 (yI l.length)) 8 (yI k)∧(k≤l.length)∧m' =l.length - k∧St w w1 [] [sF false Fl al cl l]) (l.length - 0) ⟨_,0,uE5,qg,rfl,H⟩ ?_
 clear H
 rintro m' ρ w2 ⟨zu,k,rfl,i0,rfl,H⟩
 have hs:=sumTo_small p0 i0
 have hv:=p0.2 k
 refine zcr (sp (.bool (decide ((k:Int) < l.length))) (zjn (xP (cD rfl (fun h3=>?_) (fun h3=>?_)))))
 ·skip
  refine xf (t_n (xP (xm (zcr ?_))))
  obtain ⟨b4,o5,rfl⟩:=H.addr 0 rfl qg
  refine oI rfl rfl (oL rfl (H.vY 0 rfl k qg qg) (sp (yI (l[k]!)) (zjn (xJ (sps [yI (sumTo l k),yI (l[k]!)] (sw (xX (sumTo l k) (l[k]!) rfl rfl (by (have:=hv qg;omega)) (sp (yI ((sumTo l k)+(l[k]!))) (xN (b_n (t_n (xJ (sw (xX k 1 rfl rfl (by (have:=hv qg;omega)) (sp (yI (k+1)) (xN (xg (m' :=l.length - (k+1)) qg ⟨_,k+1,uE5,?_,rfl,H⟩)))))))))))))))))
  · omega
 refine zx4 (zcr (sps [yI (sumTo l k),yI (sumTo l k)] (zjr (ret1 (yI (sumTo l k)) rfl rfl ⟨_,rfl,?_,H.base⟩))))
 obtain rfl:k=l.length:=by omega
 rfl

theorem indexFuncI_ok (w:World) (l:yLI) (f:FuncId) (capsf:Array Value) (gf:Nat→Bool) {al:yOA} {Fl:yLN} (hl:qV.rep w Fl [.slice al l.length cl] l) (hff:∀ args w,(callFunc f args).run Tryz.prog w=.ok (.enter f args) w) (hoff:∀ k w',k < l.length→Ext w w' →Calls Tryz.prog f (([yI (l[k]!)]:List Value)++capsf.toList).toArray w' (Ret (fun v _=>v=.bool (gf k)) w')):Calls Tryz.prog 130 #[.slice al l.length cl,.func (.func f) #[] capsf] w (Ret (fun v w' =>v=yI (firstIdx gf l.length)) w):=by
 refine en func130 ntmps130 ?_
 have H:=(St.start w).arg hl
 have nhl:=qO hl
 clear hl
 refine zcr (sp (yI 0) (zjcc (sp (.slice al l.length cl) (oN rfl (sp (yI 0) (zjn (xm ?_)))))))
 refine zK (fun m' ρ w1=>∃ (zu:Env) (k:Nat),ρ=upd (upd (upd (upd zu 0 (.slice al l.length cl)) 1 (.func (.func f) #[] capsf)) 7 (yI l.length)) 8 (yI k)∧(k≤l.length)∧(noneTo gf k)∧m' =l.length - k∧St w w1 [] [sF false Fl al cl l]) (l.length - 0) ⟨_,0,uE4,qg,qy,rfl,H⟩ ?_
 clear H
 rintro m' ρ w2 ⟨zu,k,rfl,i0,i1,rfl,H⟩
 refine zcr (sp (.bool (decide ((k:Int) < l.length))) (zjn (xP (cD rfl (fun h3=>?_) (fun h3=>?_)))))
 ·skip
  refine xf (t_n (xP (xm (zcr (sps [yI k,yI k] (zjc (sps [.func (.func f) #[] capsf,.slice al l.length cl,yI k] ?_)))))))
  obtain ⟨b4,o5,rfl⟩:=H.addr 0 rfl qg
  refine oI rfl rfl (oL rfl (H.vY 0 rfl k qg qg) (sw (o_callV [yI (l[k]!)] rfl rfl hff (hoff k _ qg H.base) ?_)))
  rintro _ w6 rfl x7
  replace H:=H.ext x7
  refine zjn (xC (gf k) rfl (fun h8=>?_) (fun h8=>?_))
  ·skip
   refine zcr (sps [yI k,yI k] (zjr (zr5 (ret1 (yI k) rfl rfl ⟨_,rfl,?_,H.base⟩))))
   rw [firstIdx_some (k:=k) qg i1 ‹_›]
  refine xf (b_n (t_n (xJ (sw (xX k 1 rfl rfl qg (sp (yI (k+1)) (xN (xg (m' :=l.length - (k+1)) qg ⟨_,k+1,uE4,?_,?_,rfl,H⟩))))))))
  · omega
  · exact noneTo_succ ‹_› ‹_›
 refine zx4 (zcr (sp (yI (-1)) (zjr (ret1 (yI (-1)) rfl rfl ⟨_,rfl,?_,H.base⟩))))
 rw [firstIdx_none (fun j hj=>i1 j qg)]

theorem containsFuncI_ok (w:World) (l:yLI) (f:FuncId) (capsf:Array Value) (gf:Nat→Bool) {al:yOA} {Fl:yLN} (hl:qV.rep w Fl [.slice al l.length cl] l) (hff:∀ args w,(callFunc f args).run Tryz.prog w=.ok (.enter f args) w) (hoff:∀ k w',k < l.length→Ext w w' →Calls Tryz.prog f (([yI (l[k]!)]:List Value)++capsf.toList).toArray w' (Ret (fun v _=>v=.bool (gf k)) w')):Calls Tryz.prog 113 #[.slice al l.length cl,.func (.func f) #[] capsf] w (Ret (fun v w' =>v=.bool (anyTo gf l.length)) w):=by
 refine en func113 ntmps113 ?_
 have H:=(St.start w).arg hl
 have nhl:=qO hl
 clear hl
 refine zcr (sp (.bool false) (zjc (sps [.slice al l.length cl,.func (.func f) #[] capsf] (sw (oq (indexFuncI_ok _ l f capsf gf (H.get 0 rfl).1 hff hoff) H fun w1 H=>sps [.bool (decide ((firstIdx gf l.length:Int)≥0)),.bool (decide ((firstIdx gf l.length:Int)≥0))] (zjr (ret1 (.bool (decide ((firstIdx gf l.length:Int)≥0))) rfl rfl ⟨_,rfl,?_,H.base⟩)))))))
 rw [anyTo_first]

theorem validBag1_ok (w:World) (n:Int):Calls Tryz.prog 114 #[yI n] w (Ret (fun v w' =>v=.bool (!isCnt n)) w):=by
 refine en func114 ntmps114 ?_
 have H:=St.start w
 refine zcr (sp (.bool false) (zjc (sp (yI n) (sw (oq (QJ w n 0 1000) H fun w1 H=>sps [.bool (!(inR n 0 1000)),.bool (!(inR n 0 1000))] (zjr (ret1 (.bool (!(inR n 0 1000))) rfl rfl ⟨_,rfl,?_,H.base⟩)))))))
 rfl

theorem sizeI_ok (w:World) (l:yLI) {al:yOA} {Fl:yLN} (hl:qV.rep w Fl [.slice al l.length cl] l):Calls Tryz.prog 55 #[.slice al l.length cl] w (Ret (fun v w' =>v=yI (l.length:Int)) w):=by
 refine en func55 ntmps55 ?_
 have H:=(St.start w).arg hl
 have nhl:=qO hl
 clear hl
 refine zcr (sp (yI 0) (zjc (sp (.slice al l.length cl) (oN rfl (sp (yI l.length) (zjr (ret1 (yI l.length) rfl rfl ⟨_,rfl,?_,H.base⟩)))))))
 rfl

theorem validBag_ok (w:World) (kinds:Int) (l:yLI) {al:yOA} {Fl:yLN} (hl:qV.rep w Fl [.slice al l.length cl] l):Calls Tryz.prog 93 #[yI kinds,.slice al l.length cl] w (Ret (fun v w' =>v=.bool (dec (jI kinds l))) w):=by
 refine en func93 ntmps93 ?_
 have H:=(St.start w).arg hl
 have nhl:=qO hl
 clear hl
 refine zcr (sp (.bool false) (zjc (sp (yI kinds) (sw (oq (QJ w kinds 1 8) H fun w1 H=>sp (.bool (inR kinds 1 8)) ?_)))))
 cases h3:(inR kinds 1 8)
 ·skip
  replace h3:=inR_not h3
  refine zG [8,9,10,11] (sps [.bool false,.bool false] (zG [14,15,16] (sps [.bool false,.bool false] (zjr (ret1 (.bool false) rfl rfl ⟨_,rfl,?_,H.base⟩)))))
  rw [zf (fun h=>by have:=h.1.2;have:=h.2;omega)]
 replace h3:=QB.1 h3
 refine qY 7 rfl rfl (sp (.slice al l.length cl) (qY 7 rfl rfl (sw (oq (sizeI_ok _ l (H.get 0 rfl).1) H fun w4 H=>qY 7 rfl rfl (sp (yI kinds) (qY 7 rfl rfl (sps [.bool (((l.length:Int):Int) == kinds),.bool (((l.length:Int):Int) == kinds),.bool (((l.length:Int):Int) == kinds)] ?_)))))))
 cases h6:(((l.length:Int):Int) == kinds)
 ·skip
  replace h6:=ne_of_beq_false h6
  refine zG [14,15,16] (sps [.bool false,.bool false] (zjr (ret1 (.bool false) rfl rfl ⟨_,rfl,?_,H.base⟩)))
  rw [zf (fun h=>by have:=h.1.2;have:=h.2;omega)]
 replace h6:=eq_of_beq h6
 refine qY 13 rfl rfl (sp (.slice al l.length cl) (qY 13 rfl rfl (sw (oq (containsFuncI_ok _ l 114 #[] (fun k=> !isCnt (l[k]!)) (H.get 0 rfl).1 call114 (fun k w' hk e=>validBag1_ok w' _)) H fun w7 H=>qY 13 rfl rfl (sps [.bool (!(anyTo (fun k=> !isCnt (l[k]!)) l.length)),.bool (!(anyTo (fun k=> !isCnt (l[k]!)) l.length)),.bool (!(anyTo (fun k=> !isCnt (l[k]!)) l.length))] (zjr (ret1 (.bool (!(anyTo (fun k=> !isCnt (l[k]!)) l.length))) rfl rfl ⟨_,rfl,(congrArg Value.bool (dec_eq ?_)),H.base⟩)))))))
 rw [anyCnt_iff]
 exact ⟨fun h=>⟨⟨h,by omega,by omega⟩,by omega⟩,fun h=>h.1.1⟩
end
section
open Go.RowKit
set_option linter.unusedVariables false
set_option linter.unusedSimpArgs false
set_option maxRecDepth 100000
set_option maxHeartbeats 4000000
theorem slice_form {α:Type} [qV α] {w:World} {F:yLN} {v:Value} {l:List α} (h:qV.rep w F [v] l):∃ a c,v=.slice a l.length c:=by
  obtain ⟨a,c,hc,_⟩:=h
  simp only [List.cons.injEq,and_true] at hc
  exact ⟨a,c,hc⟩

theorem one_of {α:Type} [qV α] {w:World} {F:yLN} {v:Value} {x:α} (h:qV.rep w F [v] x):v.oneCell' =true:=qV.one h v (List.mem_singleton.2 rfl)

theorem St.Qm {α:Type} [qV α] {W0 w:World} {ps:List Prv} {Γ:List Fact} (H:St W0 w ps Γ) (i:Nat) {fr:Bool} {F:yLN} {b o m c:Nat} {l:List (List α)} (hf:Γ[i]? =some (isF fr F (.slice (some ⟨b,o,none⟩) m c) l)) (iv:Int) (k:Nat) (hk:iv.toNat=k) (h0:0≤iv) (h1:iv < l.length):
    ∃ (a' :yOA) (c' :Nat) (Fk:yLN),St W0 w ps (isF fr Fk (.slice a' (l[k]!).length c') (l[k]!) :: atF b (o+iv.toNat * 1) [.slice a' (l[k]!).length c'] :: Γ):=by
  obtain ⟨cs,Fk,hc,hr,hsub⟩:=H.elem i hf iv h0 h1
  have hfr:fr=true→zx w Fk:=fun e=>((H.get i hf).2 e).sub fun x hx=>hsub x (List.mem_cons_of_mem _ hx)
  rw [hk] at hr
  obtain ⟨a',c',rfl,_⟩:=id hr
  exact ⟨a',c',Fk,(H.yj i hf (atF b (o+iv.toNat * 1) _) hc (fun x hx=>hsub x (by simp only [atF,List.mem_singleton] at hx;subst hx;exact List.mem_cons_self ..))).yj (i+1) hf (isF fr Fk _ _) ⟨hr,hfr⟩ (fun x hx=>hsub x (List.mem_cons_of_mem _ hx))⟩

structure xM where
  qE:Int
  qU:yLI
  fIn:yLI
  deriving DecidableEq
instance:Inhabited xM:=⟨⟨0,[],[]⟩⟩
instance:Tot xM:=⟨fun x=>tot x.qU+tot x.fIn⟩
theorem tot_PassRuleD (x:xM):tot x=tot x.qU+tot x.fIn:=rfl

instance:qV xM where
  size:=3
  rep:=fun w F cs x=>∃ (vOut vIn:Value) (FOut FIn:yLN),cs=[.int .i64 x.qE,vOut,vIn]∧F=FOut++FIn∧qV.rep w FOut [vOut] x.qU∧qV.rep w FIn [vIn] x.fIn
  len:=by rintro w F cs x ⟨vOut,vIn,FOut,FIn,rfl,_,hOut,hIn⟩;rfl
  one:=by
    rintro w F cs x ⟨vOut,vIn,FOut,FIn,rfl,rfl,hOut,hIn⟩ u hu
    simp only [List.mem_cons,List.not_mem_nil,or_false] at hu
    rcases hu with rfl | rfl | rfl <;> first | rfl | exact one_of qm
  stay:=by
    rintro w w' F cs x ⟨vOut,vIn,FOut,FIn,rfl,rfl,hOut,hIn⟩ hs
    exact ⟨_,_,_,_,rfl,rfl,qV.stay hOut fun b hb=>hs b (by simp [hb]),qV.stay hIn fun b hb=>hs b (by simp [hb])⟩
  lt:=by
    rintro w F cs x ⟨vOut,vIn,FOut,FIn,rfl,rfl,hOut,hIn⟩ b hb
    simp only [List.mem_append] at hb
    rcases hb with (hb | hb)
    · exact qV.lt hOut b hb
    · exact qV.lt hIn b hb

theorem St.zW {W0 w:World} {ps:List Prv} {Γ:List Fact} (H:St W0 w ps Γ) (i:Nat) {fr:Bool} {F:yLN} {b o m c:Nat} {l:List xM} (hf:Γ[i]? =some (isF fr F (.slice (some ⟨b,o,none⟩) m c) l)) (iv:Int) (k:Nat) (hk:iv.toNat=k) (h0:0≤iv) (h1:iv < l.length):
    ∃ (aOut:yOA) (cOut:Nat) (FOut:yLN) (aIn:yOA) (cIn:Nat) (FIn:yLN),St W0 w ps (isF fr FOut (.slice aOut (l[k]!).qU.length cOut) (l[k]!).qU :: isF fr FIn (.slice aIn (l[k]!).fIn.length cIn) (l[k]!).fIn :: atF b (o+iv.toNat * 3) [.int .i64 (l[k]!).qE,.slice aOut (l[k]!).qU.length cOut,.slice aIn (l[k]!).fIn.length cIn] :: Γ):=by
  obtain ⟨cs,Fk,hc,hr,hsub⟩:=H.elem i hf iv h0 h1
  have hfr:fr=true→zx w Fk:=fun e=>((H.get i hf).2 e).sub fun x hx=>hsub x (List.mem_cons_of_mem _ hx)
  rw [hk] at hr
  obtain ⟨vOut,vIn,FOut,FIn,rfl,hFF,hOut,hIn⟩:=hr
  obtain ⟨aOut,cOut,rfl⟩:=slice_form hOut
  obtain ⟨aIn,cIn,rfl⟩:=slice_form hIn
  exact ⟨_,_,_,_,_,_,(((H.yj i hf (atF b (o+iv.toNat * 3) [.int .i64 (l[k]!).qE,.slice aOut (l[k]!).qU.length cOut,.slice aIn (l[k]!).fIn.length cIn]) hc (fun x hx=>hsub x (by simp only [atF,List.mem_singleton] at hx;subst hx;exact List.mem_cons_self ..))).yj (i+1) hf (isF fr FIn _ (l[k]!).fIn) ⟨hIn,fun e=>(hfr e).sub (by rw [hFF];intro x hx;simp [hx])⟩ (fun x hx=>hsub x (List.mem_cons_of_mem _ (hFF.symm▸(by have hx:x∈FIn:=hx;simp [hx]))))).yj (i+2) hf (isF fr FOut _ (l[k]!).qU) ⟨hOut,fun e=>(hfr e).sub (by rw [hFF];intro x hx;simp [hx])⟩ (fun x hx=>hsub x (List.mem_cons_of_mem _ (hFF.symm▸(by have hx:x∈FOut:=hx;simp [hx])))))⟩

def New_PassRuleD (w0 w:World) (v:Value) (x:xM):Prop:=
  ∃ (aOut:yOA) (cOut:Nat) (FOut:yLN) (aIn:yOA) (cIn:Nat) (FIn:yLN),v=.agg #[.int .i64 x.qE,.slice aOut x.qU.length cOut,.slice aIn x.fIn.length cIn]∧qV.rep w FOut [.slice aOut x.qU.length cOut] x.qU∧qV.rep w FIn [.slice aIn x.fIn.length cIn] x.fIn∧(∀ b∈(FOut++FIn),w0.heap.size≤b)∧(FOut++FIn).Nodup∧zx w (FOut++FIn)
theorem St.add_PassRuleD {W0 w w' :World} {ps:List Prv} {Γ:List Fact} (H:St W0 w ps Γ) (e:Ext w w') {v:Value} {x:xM} (h:New_PassRuleD w w' v x):
    ∃ (aOut:yOA) (cOut:Nat) (FOut:yLN) (aIn:yOA) (cIn:Nat) (FIn:yLN),v=.agg #[.int .i64 x.qE,.slice aOut x.qU.length cOut,.slice aIn x.fIn.length cIn]∧((∀ b∈(FOut++FIn),w.heap.size≤b)∧(FOut++FIn).Nodup)∧St W0 w' ps (isF true FOut (.slice aOut x.qU.length cOut) x.qU :: isF true FIn (.slice aIn x.fIn.length cIn) x.fIn :: Γ):=by
  obtain ⟨aOut,cOut,FOut,aIn,cIn,FIn,rfl,hOut,hIn,hF,hd,hfr⟩:=h
  refine ⟨_,_,_,_,_,_,rfl,⟨hF,hd⟩,?_⟩
  exact (((H.ext e).add (isF true FIn _ x.fIn) ⟨hIn,fun _=>hfr.sub (by intro b hb;simp [hb])⟩ (fun b hb=>⟨qV.lt hIn b hb,fun i hi=>by have h1:=(yh H hi).2;have h2:=hF b (by have hb:b∈FIn:=hb;simp [hb]);omega⟩)).add (isF true FOut _ x.qU) ⟨hOut,fun _=>hfr.sub (by intro b hb;simp [hb])⟩ (fun b hb=>⟨qV.lt hOut b hb,fun i hi=>by have h1:=(yh H hi).2;have h2:=hF b (by have hb:b∈FOut:=hb;simp [hb]);omega⟩))

theorem St.snoc_PassRuleD {W0 w:World} {ps:List Prv} {Γ:List Fact} (H:St W0 w ps Γ) (i:Nat) {fr:Bool} {F:yLN} {xs:List Value} {l:List xM} (hf:Γ[i]? =some (xW fr F xs l)) (xCell:Int) (iOut:Nat) {GOut:yLN} {vOut:Value} {xOut:yLI} (hOut:Γ[iOut]? =some (isF fr GOut vOut xOut)) (iIn:Nat) {GIn:yLN} {vIn:Value} {xIn:yLI} (hIn:Γ[iIn]? =some (isF fr GIn vIn xIn)):
    St W0 w ps (xW fr (F++(GOut++GIn)) (xs++[.int .i64 xCell,vOut,vIn]) (l++[⟨xCell,xOut,xIn⟩]) :: Γ):=by
  have hr:qV.rep w (GOut++GIn) [.int .i64 xCell,vOut,vIn] (⟨xCell,xOut,xIn⟩:xM):=⟨vOut,vIn,GOut,GIn,rfl,rfl,(H.get iOut hOut).1,(H.get iIn hIn).1⟩
  refine H.add _ ⟨yO (H.get i hf).1 (reps_one hr),fun e=>((H.get i hf).2 e).app ((((H.get iOut hOut).2 e).app ((H.get iIn hIn).2 e)))⟩ fun b hb=>?_
  rcases List.mem_append.1 hb with h | h
  · exact (H.facts _ (List.mem_of_getElem? hf)).2 b h
  · simp only [List.mem_append] at h
    rcases h with (h | h)
    · exact (H.facts _ (List.mem_of_getElem? hOut)).2 b h
    · exact (H.facts _ (List.mem_of_getElem? hIn)).2 b h

structure qW where
  qJ:Int
  qC:yLI
  qL:List Bool
  qB:List xM
  deriving DecidableEq
instance:Inhabited qW:=⟨⟨0,[],[],[]⟩⟩
instance:Tot qW:=⟨fun x=>tot x.qC+tot x.qL+tot x.qB⟩
theorem QI (x:qW):tot x=tot x.qC+tot x.qL+tot x.qB:=rfl

instance:qV qW where
  size:=4
  rep:=fun w F cs x=>∃ (vParents vFree vRules:Value) (yx FFree FRules:yLN),cs=[.int .i64 x.qJ,vParents,vFree,vRules]∧F=yx++FFree++FRules∧qV.rep w yx [vParents] x.qC∧qV.rep w FFree [vFree] x.qL∧qV.rep w FRules [vRules] x.qB
  len:=by rintro w F cs x ⟨vParents,vFree,vRules,yx,FFree,FRules,rfl,_,hParents,hFree,hRules⟩;rfl
  one:=by
    rintro w F cs x ⟨vParents,vFree,vRules,yx,FFree,FRules,rfl,rfl,hParents,hFree,hRules⟩ u hu
    simp only [List.mem_cons,List.not_mem_nil,or_false] at hu
    rcases hu with rfl | rfl | rfl | rfl <;> first | rfl | exact one_of qm
  stay:=by
    rintro w w' F cs x ⟨vParents,vFree,vRules,yx,FFree,FRules,rfl,rfl,hParents,hFree,hRules⟩ hs
    exact ⟨_,_,_,_,_,_,rfl,rfl,qV.stay hParents fun b hb=>hs b (by simp [hb]),qV.stay hFree fun b hb=>hs b (by simp [hb]),qV.stay hRules fun b hb=>hs b (by simp [hb])⟩
  lt:=by
    rintro w F cs x ⟨vParents,vFree,vRules,yx,FFree,FRules,rfl,rfl,hParents,hFree,hRules⟩ b hb
    simp only [List.mem_append] at hb
    rcases hb with ((hb | hb) | hb)
    · exact qV.lt hParents b hb
    · exact qV.lt hFree b hb
    · exact qV.lt hRules b hb

def New_PassingD (w0 w:World) (v:Value) (x:qW):Prop:=
  ∃ (aParents:yOA) (cParents:Nat) (yx:yLN) (aFree:yOA) (cFree:Nat) (FFree:yLN) (aRules:yOA) (cRules:Nat) (FRules:yLN),v=.agg #[.int .i64 x.qJ,.slice aParents x.qC.length cParents,.slice aFree x.qL.length cFree,.slice aRules x.qB.length cRules]∧qV.rep w yx [.slice aParents x.qC.length cParents] x.qC∧qV.rep w FFree [.slice aFree x.qL.length cFree] x.qL∧qV.rep w FRules [.slice aRules x.qB.length cRules] x.qB∧(∀ b∈(yx++FFree++FRules),w0.heap.size≤b)∧(yx++FFree++FRules).Nodup∧zx w (yx++FFree++FRules)
theorem St.add_PassingD {W0 w w' :World} {ps:List Prv} {Γ:List Fact} (H:St W0 w ps Γ) (e:Ext w w') {v:Value} {x:qW} (h:New_PassingD w w' v x):
    ∃ (aParents:yOA) (cParents:Nat) (yx:yLN) (aFree:yOA) (cFree:Nat) (FFree:yLN) (aRules:yOA) (cRules:Nat) (FRules:yLN),v=.agg #[.int .i64 x.qJ,.slice aParents x.qC.length cParents,.slice aFree x.qL.length cFree,.slice aRules x.qB.length cRules]∧((∀ b∈(yx++FFree++FRules),w.heap.size≤b)∧(yx++FFree++FRules).Nodup)∧St W0 w' ps (isF true yx (.slice aParents x.qC.length cParents) x.qC :: isF true FFree (.slice aFree x.qL.length cFree) x.qL :: isF true FRules (.slice aRules x.qB.length cRules) x.qB :: Γ):=by
  obtain ⟨aParents,cParents,yx,aFree,cFree,FFree,aRules,cRules,FRules,rfl,hParents,hFree,hRules,hF,hd,hfr⟩:=h
  refine ⟨_,_,_,_,_,_,_,_,_,rfl,⟨hF,hd⟩,?_⟩
  exact ((((H.ext e).add (isF true FRules _ x.qB) ⟨hRules,fun _=>hfr.sub (by intro b hb;simp [hb])⟩ (fun b hb=>⟨qV.lt hRules b hb,fun i hi=>by have h1:=(yh H hi).2;have h2:=hF b (by have hb:b∈FRules:=hb;simp [hb]);omega⟩)).add (isF true FFree _ x.qL) ⟨hFree,fun _=>hfr.sub (by intro b hb;simp [hb])⟩ (fun b hb=>⟨qV.lt hFree b hb,fun i hi=>by have h1:=(yh H hi).2;have h2:=hF b (by have hb:b∈FFree:=hb;simp [hb]);omega⟩)).add (isF true yx _ x.qC) ⟨hParents,fun _=>hfr.sub (by intro b hb;simp [hb])⟩ (fun b hb=>⟨qV.lt hParents b hb,fun i hi=>by have h1:=(yh H hi).2;have h2:=hF b (by have hb:b∈yx:=hb;simp [hb]);omega⟩))

structure qZ where
  qG:yLL
  qF:yLI
  deriving DecidableEq
instance:Inhabited qZ:=⟨⟨[],[]⟩⟩
instance:Tot qZ:=⟨fun x=>tot x.qG+tot x.qF⟩
theorem tot_StockD (x:qZ):tot x=tot x.qG+tot x.qF:=rfl

instance:qV qZ where
  size:=2
  rep:=fun w F cs x=>∃ (vCells vAround:Value) (FCells yl:yLN),cs=[vCells,vAround]∧F=FCells++yl∧qV.rep w FCells [vCells] x.qG∧qV.rep w yl [vAround] x.qF
  len:=by rintro w F cs x ⟨vCells,vAround,FCells,yl,rfl,_,hCells,QH⟩;rfl
  one:=by
    rintro w F cs x ⟨vCells,vAround,FCells,yl,rfl,rfl,hCells,QH⟩ u hu
    simp only [List.mem_cons,List.not_mem_nil,or_false] at hu
    rcases hu with rfl | rfl <;> first | rfl | exact one_of qm
  stay:=by
    rintro w w' F cs x ⟨vCells,vAround,FCells,yl,rfl,rfl,hCells,QH⟩ hs
    exact ⟨_,_,_,_,rfl,rfl,qV.stay hCells fun b hb=>hs b (by simp [hb]),qV.stay QH fun b hb=>hs b (by simp [hb])⟩
  lt:=by
    rintro w F cs x ⟨vCells,vAround,FCells,yl,rfl,rfl,hCells,QH⟩ b hb
    simp only [List.mem_append] at hb
    rcases hb with (hb | hb)
    · exact qV.lt hCells b hb
    · exact qV.lt QH b hb

theorem St.elem_StockD {W0 w:World} {ps:List Prv} {Γ:List Fact} (H:St W0 w ps Γ) (i:Nat) {fr:Bool} {F:yLN} {b o m c:Nat} {l:List qZ} (hf:Γ[i]? =some (isF fr F (.slice (some ⟨b,o,none⟩) m c) l)) (iv:Int) (k:Nat) (hk:iv.toNat=k) (h0:0≤iv) (h1:iv < l.length):
    ∃ (aCells:yOA) (cCells:Nat) (FCells:yLN) (aAround:yOA) (cAround:Nat) (yl:yLN),St W0 w ps (isF fr FCells (.slice aCells (l[k]!).qG.length cCells) (l[k]!).qG :: isF fr yl (.slice aAround (l[k]!).qF.length cAround) (l[k]!).qF :: atF b (o+iv.toNat * 2) [.slice aCells (l[k]!).qG.length cCells,.slice aAround (l[k]!).qF.length cAround] :: Γ):=by
  obtain ⟨cs,Fk,hc,hr,hsub⟩:=H.elem i hf iv h0 h1
  have hfr:fr=true→zx w Fk:=fun e=>((H.get i hf).2 e).sub fun x hx=>hsub x (List.mem_cons_of_mem _ hx)
  rw [hk] at hr
  obtain ⟨vCells,vAround,FCells,yl,rfl,hFF,hCells,QH⟩:=hr
  obtain ⟨aCells,cCells,rfl⟩:=slice_form hCells
  obtain ⟨aAround,cAround,rfl⟩:=slice_form QH
  exact ⟨_,_,_,_,_,_,(((H.yj i hf (atF b (o+iv.toNat * 2) [.slice aCells (l[k]!).qG.length cCells,.slice aAround (l[k]!).qF.length cAround]) hc (fun x hx=>hsub x (by simp only [atF,List.mem_singleton] at hx;subst hx;exact List.mem_cons_self ..))).yj (i+1) hf (isF fr yl _ (l[k]!).qF) ⟨QH,fun e=>(hfr e).sub (by rw [hFF];intro x hx;simp [hx])⟩ (fun x hx=>hsub x (List.mem_cons_of_mem _ (hFF.symm▸(by have hx:x∈yl:=hx;simp [hx]))))).yj (i+2) hf (isF fr FCells _ (l[k]!).qG) ⟨hCells,fun e=>(hfr e).sub (by rw [hFF];intro x hx;simp [hx])⟩ (fun x hx=>hsub x (List.mem_cons_of_mem _ (hFF.symm▸(by have hx:x∈FCells:=hx;simp [hx])))))⟩

def New_StockD (w0 w:World) (v:Value) (x:qZ):Prop:=
  ∃ (aCells:yOA) (cCells:Nat) (FCells:yLN) (aAround:yOA) (cAround:Nat) (yl:yLN),v=.agg #[.slice aCells x.qG.length cCells,.slice aAround x.qF.length cAround]∧qV.rep w FCells [.slice aCells x.qG.length cCells] x.qG∧qV.rep w yl [.slice aAround x.qF.length cAround] x.qF∧(∀ b∈(FCells++yl),w0.heap.size≤b)∧(FCells++yl).Nodup∧zx w (FCells++yl)
theorem St.add_StockD {W0 w w' :World} {ps:List Prv} {Γ:List Fact} (H:St W0 w ps Γ) (e:Ext w w') {v:Value} {x:qZ} (h:New_StockD w w' v x):
    ∃ (aCells:yOA) (cCells:Nat) (FCells:yLN) (aAround:yOA) (cAround:Nat) (yl:yLN),v=.agg #[.slice aCells x.qG.length cCells,.slice aAround x.qF.length cAround]∧((∀ b∈(FCells++yl),w.heap.size≤b)∧(FCells++yl).Nodup)∧St W0 w' ps (isF true FCells (.slice aCells x.qG.length cCells) x.qG :: isF true yl (.slice aAround x.qF.length cAround) x.qF :: Γ):=by
  obtain ⟨aCells,cCells,FCells,aAround,cAround,yl,rfl,hCells,QH,hF,hd,hfr⟩:=h
  refine ⟨_,_,_,_,_,_,rfl,⟨hF,hd⟩,?_⟩
  exact (((H.ext e).add (isF true yl _ x.qF) ⟨QH,fun _=>hfr.sub (by intro b hb;simp [hb])⟩ (fun b hb=>⟨qV.lt QH b hb,fun i hi=>by have h1:=(yh H hi).2;have h2:=hF b (by have hb:b∈yl:=hb;simp [hb]);omega⟩)).add (isF true FCells _ x.qG) ⟨hCells,fun _=>hfr.sub (by intro b hb;simp [hb])⟩ (fun b hb=>⟨qV.lt hCells b hb,fun i hi=>by have h1:=(yh H hi).2;have h2:=hF b (by have hb:b∈FCells:=hb;simp [hb]);omega⟩))

theorem St.snoc_StockD {W0 w:World} {ps:List Prv} {Γ:List Fact} (H:St W0 w ps Γ) (i:Nat) {fr:Bool} {F:yLN} {xs:List Value} {l:List qZ} (hf:Γ[i]? =some (xW fr F xs l)) (iCells:Nat) {GCells:yLN} {vCells:Value} {xCells:yLL} (hCells:Γ[iCells]? =some (isF fr GCells vCells xCells)) (iAround:Nat) {GAround:yLN} {vAround:Value} {xAround:yLI} (QH:Γ[iAround]? =some (isF fr GAround vAround xAround)):
    St W0 w ps (xW fr (F++(GCells++GAround)) (xs++[vCells,vAround]) (l++[⟨xCells,xAround⟩]) :: Γ):=by
  have hr:qV.rep w (GCells++GAround) [vCells,vAround] (⟨xCells,xAround⟩:qZ):=⟨vCells,vAround,GCells,GAround,rfl,rfl,(H.get iCells hCells).1,(H.get iAround QH).1⟩
  refine H.add _ ⟨yO (H.get i hf).1 (reps_one hr),fun e=>((H.get i hf).2 e).app ((((H.get iCells hCells).2 e).app ((H.get iAround QH).2 e)))⟩ fun b hb=>?_
  rcases List.mem_append.1 hb with h | h
  · exact (H.facts _ (List.mem_of_getElem? hf)).2 b h
  · simp only [List.mem_append] at h
    rcases h with (h | h)
    · exact (H.facts _ (List.mem_of_getElem? hCells)).2 b h
    · exact (H.facts _ (List.mem_of_getElem? QH)).2 b h
end
section
open Go.Proofs.Tryz
open Go.RowKit
set_option linter.unusedVariables false
set_option linter.unusedSimpArgs false
set_option maxRecDepth 100000
set_option maxHeartbeats 4000000
variable {cl cm : Nat}
theorem both_ok (w:World) (l:yLI) (m:yLI) (of:FuncId) (capsof:Array Value) (gof:Nat→Int) {al:yOA} {Fl:yLN} {am:yOA} {Fm:yLN} (hl:qV.rep w Fl [.slice al l.length cl] l) (hm:qV.rep w Fm [.slice am m.length cm] m) (p0:l.length≤m.length) (p1:l.length≤1000000) (hfof:∀ args w,(callFunc of args).run Tryz.prog w=.ok (.enter of args) w) (hofof:∀ k w',k < l.length→Ext w w' →Calls Tryz.prog of (([yI (l[k]!),yI (m[k]!)]:List Value)++capsof.toList).toArray w' (Ret (fun v _=>v=yI (gof k)) w')):Calls Tryz.prog 111 #[.slice al l.length cl,.slice am m.length cm,.func (.func of) #[] capsof] w (Ret (fun v w' =>OwnNew w w' 2 v (tabTo gof l.length)) w):=by
 refine en func111 ntmps111 ?_
 have H:=((St.start w).arg hm).arg hl
 have nhl:=qO hl
 have nhm:=qO hm
 clear hl hm
 refine zcr (sp yN (zjc (sw (jH H underlying22 ti2 fun b1 w2 H=>sp (.slice (aa b1 0) 0 0) (zjcc (sp (.slice al l.length cl) (oN rfl (sp (yI 0) (zjn (xm ?_))))))))))
 replace H:=H.boxRow 0 rfl 1 0 rfl qj
 replace H:St _ _ [rr (aa b1 0) 0 0 2 1 []] _:=H
 refine zK (fun m' ρ w3=>∃ (zu:Env) (k:Nat) (vr7:Value),ρ=upd (upd (upd (upd (upd (upd (upd zu 1 (.slice am m.length cm)) 2 (.func (.func of) #[] capsof)) 6 yN) 7 (vr7)) 11 (.slice al l.length cl)) 12 (yI l.length)) 13 (yI k)∧(k≤l.length)∧m' =l.length - k∧St w w3 [.row vr7 2 1 k ((tabTo gof k).map (Value.int .i64))] [sF false Fl al cl l,sF false Fm am cm m]) (l.length - 0) ⟨_,0,(.slice (aa b1 0) 0 0),uE7,qg,rfl,H⟩ ?_
 clear H
 rintro m' ρ w4 ⟨zu,k,vr7,rfl,i0,rfl,H⟩
 refine zcr (sp (.bool (decide ((k:Int) < l.length))) (zjn (xP (cD rfl (fun h5=>?_) (fun h5=>?_)))))
 ·skip
  refine xf (t_n (xP (xm (zcr (sp (yI k) ?_)))))
  obtain ⟨b6,o7,rfl⟩:=H.addr 0 rfl qg
  refine oI rfl rfl (oL rfl (H.vY 0 rfl k qg qg) (sps [yI k,yI (l[k]!)] (zjn (xJ (sps [vr7,.func (.func of) #[] capsof,yI (l[k]!),.slice am m.length cm,yI k] ?_)))))
  obtain ⟨b8,o9,rfl⟩:=H.addr 1 rfl qg
  refine oI rfl rfl (oL rfl (H.vY 1 rfl k qg qg) (sw (o_callV [yI (l[k]!),yI (m[k]!)] rfl rfl hfof (hofof k _ qg H.base) ?_)))
  rintro _ w10 rfl x11
  replace H:=H.ext x11
  refine sw (o_build1 H underlying22 ti2 qj qj (yI (gof k)) rfl rfl fun b12 w13 H=>sw (o_append H 1 rfl 0 rfl underlying22 ti2 rfl qj rfl rfl rfl qx qw qg fun v14 w15 H=>?_))
  replace H:St _ _ [.box b12 [yI (gof k)] 2,.row v14 2 1 (k+1) (((tabTo gof k).map (Value.int .i64))++[yI (gof k)])] _:=H
  refine sp (v14) (xN (b_n (t_n (xJ (sw (xX k 1 rfl rfl qg (sp (yI (k+1)) (xN ?_))))))))
  rw [show ((tabTo gof k).map (Value.int .i64))++[yI (gof k)]=(tabTo gof (k+1)).map (Value.int .i64) from by (rw [tabTo_succ];simp)] at H
  refine xg (m' :=l.length - (k+1)) qg ⟨_,k+1,v14,uE7,?_,rfl,H.sel _ (.cons _ (.refl _)) _ qo⟩
  · omega
 refine zx4 (zcr (sps [vr7,vr7] (zjr (ret1 (vr7) rfl rfl ⟨_,rfl,?_,H.base⟩))))
 obtain rfl:k=l.length:=by omega
 exact H.newInts 0 rfl qo

theorem plus1_ok (w:World) (x:Int) (y:Int) (t:Int) (bt ot:Nat) (hpt:zM w bt ot [yI t]) (p0: -1000000000000000≤x∧x≤1000000000000000) (p1: -1000000000000000≤t * y∧t * y≤1000000000000000):Calls Tryz.prog 112 #[yI x,yI y,pp bt ot] w (Ret (fun v w' =>v=yI (x+t * y)) w):=by
 refine en func112 ntmps112 ?_
 have H:=(St.start w).argAt hpt
 clear hpt
 refine zcr (sp (yI 0) (zjc (sp (yI x) (oL rfl (H.xU 0 rfl 0 rfl) (sp (yI y) (sw (o_mul t y rfl rfl qg (sw (xX x (t * y) rfl rfl qg (sp (yI (x+(t * y))) (zjr (ret1 (yI (x+(t * y))) rfl rfl ⟨_,rfl,?_,H.base⟩))))))))))))
 rfl

theorem plus_ok (w:World) (l:yLI) (m:yLI) (t:Int) {al:yOA} {Fl:yLN} {am:yOA} {Fm:yLN} (hl:qV.rep w Fl [.slice al l.length cl] l) (hm:qV.rep w Fm [.slice am m.length cm] m) (p0:l.length≤m.length) (p1:Mid l) (p2:SmallT m t):Calls Tryz.prog 92 #[.slice al l.length cl,.slice am m.length cm,yI t] w (Ret (fun v w' =>OwnNew w w' 2 v (zo l m t)) w):=by
 refine en func92 ntmps92 ?_
 have H:=((St.start w).arg hm).arg hl
 have nhl:=qO hl
 have nhm:=qO hm
 clear hl hm
 have p3:=p1.1
 refine zcr (sw (o_box H (yI t) rfl fun b1 w2 H=>?_))
 replace H:St _ _ [.box b1 [yI t] 2] _:=H
 refine sp yN (zjc (sps [.slice al l.length cl,.slice am m.length cm,.func (.func 112) #[] #[pp b1 0]] ?_))
 have szx4:=H.base.size
 refine sw (oc (both_ok _ l m 112 #[pp b1 0] (fun k=>l[k]! +t * m[k]!) (H.get 0 rfl).1 (H.get 1 rfl).1 qg qg call112 (fun k w' hk e=>plus1_ok w' _ _ t _ _ ((H.ext e).cells 0 rfl) (by have:=p1.2 k hk;omega) (p2 k qg))) ?_)
 rintro v5 w3 r5 x4
 replace H:=H.zg x4 r5
 refine sp (v5) (zjr (ret1 (v5) rfl rfl ⟨_,rfl,(H.newInts 0 rfl (by simp [plusL_len])),H.base⟩))

theorem yY (w:World) (l:yLI) {al:yOA} {Fl:yLN} (hl:qV.rep w Fl [.slice al l.length cl] l) (p0:l.length≤1000000):Calls Tryz.prog 82 #[.slice al l.length cl] w (Ret (fun v w' =>OwnNew w w' 2 v l) w):=by
 refine en func82 ntmps82 ?_
 have H:=(St.start w).arg hl
 have nhl:=qO hl
 clear hl
 refine zcr (sp yN (zjc (sw (jH H underlying22 ti2 fun b1 w2 H=>sp (.slice al l.length cl) ?_))))
 replace H:=H.boxRow 0 rfl 1 0 rfl qj
 refine sw (o_appendInts H 0 rfl 0 rfl underlying22 ti2 rfl rfl rfl qw qg fun v3 w4 H=>?_)
 replace H:St _ _ [.row v3 2 1 (0+l.length) ([]++l.map (Value.int .i64))] _:=H
 refine sp (v3) (zjr (ret1 (v3) rfl rfl ⟨_,rfl,(H.newInts 0 rfl qg),H.base⟩))

theorem cloneI_ok (w:World) (l:yLI) {al:yOA} {Fl:yLN} (hl:qV.rep w Fl [.slice al l.length cl] l) (p0:l.length≤1000000):Calls Tryz.prog 69 #[.slice al l.length cl] w (Ret (fun v w' =>OwnNew w w' 2 v l) w):=by
 refine en func69 ntmps69 ?_
 have H:=(St.start w).arg hl
 have nhl:=qO hl
 clear hl
 refine zcr (sp yN (zjcc (sp (.slice al l.length cl) (sw (o_eqnil underlying22 al l.length cl rfl (zjn (xC (al.isNone) rfl (fun h1=>?_) (fun h1=>?_))))))))
 ·skip
  refine zcr (sp yN (zjr (t_r (ret1 yN rfl rfl ⟨_,rfl,?_,H.base⟩))))
  obtain rfl:=H.nilOf 0 rfl ‹_›
  exact ownNew_nil _ _ _
 refine xf (t_n (zcr (sw (jH H underlying22 ti2 fun b2 w3 H=>sp (.slice al l.length cl) ?_))))
 replace H:=H.boxRow 0 rfl 1 0 rfl qj
 refine sw (o_appendInts H 0 rfl 0 rfl underlying22 ti2 rfl rfl rfl qw qg fun v4 w5 H=>?_)
 replace H:St _ _ [.row v4 2 1 (0+l.length) ([]++l.map (Value.int .i64))] _:=H
 refine sp (v4) (zjr (ret1 (v4) rfl rfl ⟨_,rfl,(H.newInts 0 rfl qg),H.base⟩))
end
end Go.Proofs.YtkgdkfkgnodheaaGreat
