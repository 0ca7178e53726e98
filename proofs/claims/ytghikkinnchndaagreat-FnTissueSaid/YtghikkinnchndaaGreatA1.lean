/- Walks and laws, printed by program and by hand: what each function comes to, for all arguments, part 1. -/
import Derived.WalkKit
import Derived.Deep.RegionHeld
import Derived.Deep.LoopGhost
import Derived.Deep.MidRow
import Derived.Great.BuildSlice
import Derived.Laws.MakeOwn
import Derived.Great.FillDense
import Derived.Maps.AppendAt
import Derived.Lib.SliceRun
import Derived.Laws.Small
import Derived.Laws.Tables
import Derived.Test.YtghikkinnchndaaGreatRows
namespace Go.Proofs.YtghikkinnchndaaGreat
theorem J{α:Sort _}{a:α}:a=a:=rfl
variable{B T b e9 c d d1 Ii LU RJ Y7 d14 d15 d16 d17 d18 d2 d3 d4 d5 d6 d7 d8 d9 i i' id j k m n nn o off sz:Nat}{P p:Prop}{W0 w w' w0:World}{alive:List Bool}{args oo fst:Array Value}{bb fr S4:Bool}{cs vs xs ys:List Value}{dst:Option Nat}{e e' t tb ty u:TypeId}{hi iv lo:Int}{ts:Array TypeId}{v v1 Hy LM RD LR Rs v15 v16 v17 v18 v2 v3 v4 v5 v6 v7 v8 v9 z:Value}{x y:Operand}
def zR(a n : Nat) : List Nat := List.range' a n
set_option linter.unusedVariables false
set_option linter.unusedSimpArgs false
set_option maxRecDepth 100000
set_option maxHeartbeats 4000000
open Go.RowKit
open Go.Proofs.Tryz
section
abbrev yLL:=List<|List Int
abbrev yLI:=List Int
abbrev yLN:=List Nat
abbrev yOA:=Option Addr
abbrev yI(x:Int):Value:=.int .i64 x
@[match_pattern]abbrev Sv(a:Option Addr)(n c:Nat):Value:=.slice a n c
@[match_pattern]abbrev Bv(b:Bool):Value:=.bool b
abbrev yN:Value:=.slice none 0 0
theorem qf(h:P:=by omega):P:=h
theorem qg(h:P:=by first|assumption|omega):P:=h
theorem qh(h:P:=by kernel_rfl):P:=h
theorem qj(h:P:=by decide):P:=h
theorem ql(h:P:=by assumption):P:=h
theorem qm(h:P:=by simp):P:=h
theorem qo(h:P:=by simp only[List.length_cons];omega):P:=h
theorem qp(h:P:=by unfold maxLen;omega):P:=h
theorem qw(h:P:=by simp[Value.oneCell',Value.cells]):P:=h
theorem qx(h:P:=by exact fun j hj=>by omega):P:=h
theorem qy(h:P:=by simp;omega):P:=h
theorem hid(h:p):Hid p:=h
def jO(w:World)(b off:Nat)(vs:List Value):Prop:=∀i v,vs[i]? =some v->w.cell? ⟨b,off+i,none⟩=some v
class qI(α:Type) where
 size:Nat
 rep:World->yLN->List Value->α->Prop
 len:∀ {w F cs x},rep w F cs x->cs.length=size
 stay:∀ {w w' F cs x},rep w F cs x->(∀b∈F,w'.heap[b]? =w.heap[b]?)->rep w' F cs x
 lt:∀ {w F cs x},rep w F cs x->∀b∈F,b<w.heap.size
 one:∀ {w F cs x},rep w F cs x->∀u∈cs,u.oneCell'=true
abbrev zP{α : Type}[qI<|List α](w : World)(F : List Nat)(a : Option Addr)(c : Nat)(l : List α) : Prop := qI.rep w F [.slice a l.length c] l
section
variable{α : Type}[qI α]
open qI
def reps(w:World):yLN->List Value->List α->Prop
 |F,vs,[]=>F=[]/\vs=[]
 |F,vs,x::l=>∃F1 F2 c1 c2,F=F1++F2/\vs=c1++c2/\rep w F1 c1 x/\reps w F2 c2 l
theorem reps_len{w:World}:∀ {F:yLN} {vs:List Value} {l:List α},reps w F vs l->vs.length=l.length*size α
 |_,_,[],⟨_,h⟩=>by simp[h]
 |_,_,x::l,⟨_,_,_,_,_,hv,h1,h2⟩=>by
  rw[hv,List.length_append,qI.len h1,reps_len h2,List.length_cons,Nat.add_mul,Nat.one_mul,Nat.add_comm]
theorem reps_stay{w w':World}:∀ {F:yLN} {vs:List Value} {l:List α},reps w F vs l->(∀b∈F,w'.heap[b]? =w.heap[b]?)->reps w' F vs l
 |_,_,[],h,_=>h
 |_,_,x::l,⟨F1,F2,c1,c2,hF,hv,h1,h2⟩,hs=>by
  subst hF
  exact⟨F1,F2,c1,c2,J,hv,qI.stay h1<|fun b hb=>hs b<|List.mem_append_left _ hb,reps_stay h2<|fun b hb=>hs b<|List.mem_append_right _ hb⟩
theorem reps_lt{w:World}:∀ {F:yLN} {vs:List Value} {l:List α},reps w F vs l->∀b∈F,b<w.heap.size
 |_,_,[],⟨hF,_⟩,b,hb=>by simp[hF] at hb
 |_,_,x::l,⟨F1,F2,c1,c2,hF,hv,h1,h2⟩,b,hb=>by
  subst hF
  rcases List.mem_append.1 hb with h|h
  ·exact qI.lt h1 b h
  ·exact reps_lt h2 b h
theorem reps_cells{w:World}:∀ {F:yLN} {vs:List Value} {l:List α},reps w F vs l->∀u∈vs,u.oneCell'=true
 |_,_,[],⟨_,hv⟩,u,hu=>by simp[hv] at hu
 |_,_,x::l,⟨F1,F2,c1,c2,hF,hv,h1,h2⟩,u,hu=>by
  rw[hv] at hu
  rcases List.mem_append.1 hu with h|h
  ·exact qI.one h1 u h
  ·exact reps_cells h2 u h
theorem Qc{w:World}:∀ {F G:yLN} {vs us:List Value} {l m:List α},reps w F vs l->reps w G us m->reps w (F++G) (vs++us) (l++m)
 |_,_,_,_,[],_,⟨hF,hv⟩,h=>by simpa [hF,hv] using h
 |_,G,_,us,x::l,m,⟨F1,F2,c1,c2,hF,hv,h1,h2⟩,h=>
  ⟨F1,F2++G,c1,c2++us,by rw[hF,List.append_assoc],by rw[hv,List.append_assoc],h1,Qc h2 h⟩
theorem reps_split{w:World}:∀ {F:yLN} {vs:List Value} (l:List α) {m:List α},reps w F vs (l++m)→
 ∃F1 F2 v1 v2,F=F1++F2/\vs=v1++v2/\reps w F1 v1 l/\reps w F2 v2 m
 |F,vs,[],m,h=>⟨[],F,[],vs,rfl,rfl,⟨rfl,rfl⟩,h⟩
 |_,_,x::l,m,⟨F1,F2,c1,c2,hF,hv,h1,h2⟩=>by
  obtain⟨G1,G2,v1,v2,hG,hw,k1,k2⟩:=reps_split l h2
  exact⟨F1++G1,G2,c1++v1,v2,by rw[hF,hG,List.append_assoc],by rw[hv,hw,List.append_assoc],⟨F1,G1,c1,v1,J,J,h1,k1⟩,k2⟩
theorem reps_one{F:yLN}{x:α}(h:rep w F cs x):reps w F cs [x]:=
 ⟨F,[],cs,[],by simp,by simp,h,rfl,rfl⟩
theorem reps_get{F:yLN}{l:List α}(h:reps w F vs l)(k:Nat)(hk:k<l.length):
 ∃F1 Fk F2 v1 cs v2,F=F1++Fk++F2/\vs=v1++cs++v2/\v1.length=k*size α/\cs.length=size α/\rep w Fk cs l[k]/\reps w F1 v1 (l.take k)/\reps w F2 v2 (l.drop<|k+1):=by
 have e:l=l.take k++(l[k]::l.drop (k+1)):=by rw[←List.drop_eq_getElem_cons hk,List.take_append_drop]
 rw[e] at h
 obtain⟨F1,F2,v1,v2,hF,hv,h1,Fk,F3,cs,v3,hF',hv',h2,h3⟩:=reps_split _ h
 refine⟨F1,Fk,F3,v1,cs,v3,by rw[hF,hF',List.append_assoc],by rw[hv,hv',List.append_assoc],?_,qI.len h2,h2,h1,h3⟩
 rw[reps_len h1,List.length_take_of_le qf]
theorem cells_mid{v1 v2:List Value}(h:jO w b off (v1++cs++v2)):jO w b (off+v1.length) cs:=by
 intro i v hv
 have hi:i<cs.length:=by
  rcases Nat.lt_or_ge i cs.length with h|h
  ·exact h
  ·simp[h] at hv
 have:=h (v1.length+i) v<|by rw[List.append_assoc,List.getElem?_append_right qf,Nat.add_sub_cancel_left,List.getElem?_append_left hi,hv]
 rwa [←Nat.add_assoc] at this
theorem cellsAt_stay(h:jO w b off vs)(hb:w'.heap[b]? =w.heap[b]?):jO w' b off vs:=
 fun i v hv=>(World.cell?_of_block (a:=⟨b,off+i,none⟩) hb).trans<|h i v hv
def RepSlice(w:World)(F:yLN)(cs:List Value)(l:List α):Prop:=
 ∃a gA,cs=[Sv a l.length gA]/\(l.length<=9223372036854775807/\l.length<=gA)/\((l=[]/\F=[])\/∃b off F' vs,a=some ⟨b,off,none⟩/\F=b::F' /\b<w.heap.size/\reps w F' vs l/\jO w b off vs)
instance:qI (List α) where
 size:=1
 rep:=RepSlice
 len:=by rintro w F cs x ⟨a,gA,rfl,_,_⟩;rfl
 one:=by rintro w F cs x ⟨a,gA,rfl,_,_⟩ u hu;simp only[List.mem_singleton] at hu;subst hu;rfl
 stay:=by
  rintro w w' F cs x ⟨a,gA,hc,hl,h⟩ hs
  refine⟨a,gA,hc,hl,?_⟩
  rcases h with h|⟨b,off,F',vs,ha,hF,hb,hr,hcells⟩
  ·exact Or.inl h
  ·subst hF
   have hbb:=hs b<|List.mem_cons_self ..
   refine Or.inr ⟨b,off,F',vs,ha,J,?_,reps_stay hr<|fun c hc=>hs c<|List.mem_cons_of_mem _ hc,cellsAt_stay hcells hbb⟩
   rcases Nat.lt_or_ge b w'.heap.size with h|h
   ·exact h
   ·rw[Array.getElem?_eq_none h] at hbb
    have:=Array.getElem?_eq_some_iff.2 ⟨hb,rfl⟩
    rw[this] at hbb
    cases hbb
 lt:=by
  rintro w F cs x ⟨a,gA,hc,hl,h⟩ c hcF
  rcases h with ⟨_,h⟩|⟨b,off,F',vs,ha,hF,hb,hr,hcells⟩
  ·simp[h] at hcF
  ·subst hF
   rcases List.mem_cons.1 hcF with rfl|h
   ·exact hb
   ·exact reps_lt hr c h
end
instance:qI Int where
 size:=1
 rep:=fun _ F cs x=>F=[]/\cs=[.int .i64 x]
 len:=by rintro w F cs x ⟨_,rfl⟩;rfl
 one:=by rintro w F cs x ⟨_,rfl⟩ u hu;simp only[List.mem_singleton] at hu;subst hu;rfl
 stay:=by rintro w w' F cs x h _;exact h
 lt:=by rintro w F cs x ⟨rfl,_⟩ b hb;simp at hb
instance:qI Bool where
 size:=1
 rep:=fun _ F cs x=>F=[]/\cs=[Bv x]
 len:=by rintro w F cs x ⟨_,rfl⟩;rfl
 one:=by rintro w F cs x ⟨_,rfl⟩ u hu;simp only[List.mem_singleton] at hu;subst hu;rfl
 stay:=by rintro w w' F cs x h _;exact h
 lt:=by rintro w F cs x ⟨rfl,_⟩ b hb;simp at hb
theorem reps_ints{w:World}:∀ {F:yLN} {vs:List Value} {l:yLI},reps w F vs l->F=[]/\vs=l.map (Value.int .i64)
 |_,_,[],⟨hF,hv⟩=>⟨hF,hv⟩
 |_,_,x::l,⟨F1,F2,c1,c2,hF,hv,h1,h2⟩=>by
  obtain⟨e1,e2⟩:=reps_ints h2
  obtain⟨k1,k2⟩:F1=[]/\c1=[.int .i64 x]:=h1
  subst e1 e2 k1 k2
  exact⟨hF,hv⟩
theorem reps_of_ints(w:World):∀(l:yLI),reps w [] (l.map<|Value.int .i64) l
 | []=>⟨rfl,rfl⟩
 |x::l=>⟨[],[],[.int .i64 x],l.map<|Value.int .i64,rfl,rfl,⟨rfl,rfl⟩,reps_of_ints w l⟩
theorem qN{α:Type}[qI α]{F:yLN}{a:yOA}{l:List α}(h:qI.rep w F [Sv a m c] l):l.length<=9223372036854775807/\l.length<=c:=by
 obtain⟨a',c',hc,h,_⟩:=h
 simp only[List.cons.injEq,Value.slice.injEq,and_true] at hc
 obtain⟨_,_,rfl⟩:=hc
 exact h
abbrev Is{α:Type}[qI α](w:World)(F:yLN)(v:Value)(x:α):Prop:=qI.rep w F [v] x
abbrev Ext(w w':World):Prop:=Below w.heap.size w w'
theorem Ext.trans'{a b c:World}(h:Ext a b)(k:Ext b c):Ext a c:=h.trans<|k.mono h.size
end
variable{F F' Fl Fm G rs:yLN}{L L':List yLN}{a al am:yOA}{l:yLI}
section
abbrev Env:=Nat->Value
def upd(ρ:Env)(d:Nat)(v:Value):Env:=fun i=>cond (Nat.beq i d) v<|ρ i
def env0(l:List Value):Env:=fun i=>l.getD i undef
class Dfr where
 D:List Deferred
instance dfr0:Dfr:=⟨[]⟩
def mk[Dfr](n:Nat)(ρ:Env):Act:={ tmps:=Array.ofFn (n:=n) (fun i=>ρ i),defers:=Dfr.D }
def ev(n:Nat)(ρ:Env):Operand->Value
 | .tmp t=>cond (Nat.blt t n) (ρ t) undef
 | .const v=>v
 | .global g=>.pointer<|some ⟨g,0,none⟩
 | .func f=>.func (.func f) #[] #[]
theorem upd_same(ρ:Env)(d:Nat)(v:Value):upd ρ d v d=v:=by simp[upd]
theorem upd_ne(ρ:Env)(v:Value)(h:i≠d):upd ρ d v i=ρ i:=by
 unfold upd
 have:Nat.beq i d=false:=by
  cases hb:Nat.beq i d with
  |false=>rfl
  |true=>exact absurd (Nat.eq_of_beq_eq_true hb) h
 rw[this];rfl
theorem upd_self{ρ:Env}(h:ρ d=v):upd ρ d v=ρ:=by
 funext i
 by_cases hi:i=d
 ·subst hi;rw[upd_same,h]
 ·rw[upd_ne _ _ hi]
theorem zt{ρ ρ':Env}(h:ρ=ρ')(hd:ρ d=v):ρ=upd ρ' d v:=by subst h;exact(upd_self hd).symm
theorem XV[Dfr](n:Nat)(ρ:Env):(mk n ρ).eval=ev n ρ:=by
 funext x
 cases x with
 |tmp t=>
  simp only[Act.eval,ev,mk]
  by_cases h:t<n
  ·rw[show Nat.blt t n=true from Nat.ble_eq_true_of_le h]
   simp[h]
  ·have hb:Nat.blt t n=false:=by
    cases hb:Nat.blt t n with
    |false=>rfl
    |true=>exact absurd (Nat.le_of_ble_eq_true hb) h
   rw[hb]
   simp[h]
 |const v=>rfl
 |global g=>rfl
 |func f=>rfl
theorem mk_put[Dfr](n:Nat)(ρ:Env)(d:Nat)(v:Value):(mk n ρ).put (some d) v=mk n (upd ρ d v):=by
 simp only[Act.put,mk,Act.mk.injEq,and_true]
 apply Array.ext
 ·simp
 ·intro i h1 h2
  rw[Array.getElem_setIfInBounds<|by simpa using h1]
  simp only[Array.getElem_ofFn]
  by_cases hi:d=i
  ·subst hi;simp[upd_same]
  ·rw[if_neg hi,upd_ne _ _<|Ne.symm hi]
section
variable{P : Program}{fb : Array Oper}{Q : Exit -> Act -> World -> Prop}{n : Nat}{ρ : Env}{w : World}{rest : List Oper}
@[irreducible] def WL[Dfr](P : Program)(fb : Array Oper)(Q : Exit -> Act -> World -> Prop)(n : Nat)(l : List Oper)(ρ : Env)(w : World) : Prop := wpList P fb Q l (mk n ρ) w
theorem WL.of[Dfr]{l:List Oper}(h:wpList P fb Q l (mk n ρ) w):WL P fb Q n l ρ w:=by unfold WL;exact h
theorem WL.out[Dfr]{l:List Oper}(h:WL P fb Q n l ρ w):wpList P fb Q l (mk n ρ) w:=by unfold WL at h;exact h
theorem enter{f:FuncId}{fn:Func}{c:Code}{R:Ending->World->Prop}
 (hf:P.funcs[f]? =some fn) (hb:fn.body=some c) (hn:fn.ntmps=n) (hs:args.size<=n)
 (h:c.wp P (bodyPost P fn R) (mk n<|env0 args.toList) w):Calls P f args w R:=by
 refine calls_of_wp hf hb ?_
 have e:({ tmps:=args++Array.replicate (fn.ntmps-args.size) undef,defers:=[]}:Act)=mk n (env0 args.toList):=by
  simp only[mk,Act.mk.injEq]
  refine⟨?_,J⟩
  apply Array.ext
  ·simp[hn];omega
  ·intro i h1 h2
   simp only[Array.getElem_ofFn,env0]
   by_cases hi:i<args.size
   ·rw[Array.getElem_append_left hi]
    simp[List.getD_eq_getElem?_getD,hi]
   ·rw[Array.getElem_append_right qf]
    simp[List.getD_eq_getElem?_getD,Array.getElem?_eq_none<|show args.size<=i by omega]
 rw[e]
 exact h
@[irreducible] def OW[Dfr](P : Program)(Q : Exit -> Act -> World -> Prop)(o : Oper)(n : Nat)(ρ : Env)(w : World)(K : Env -> World -> Prop) : Prop :=
 ∀K':Act->World->Prop,(∀ρ w,K ρ w->K' (mk n ρ) w)->o.wp P (mk n ρ) w K' Q
theorem sw[Dfr]{op:Op}{pos:String}{af:Array Edge}(h:OW P Q ⟨dst,op,ty,pos,af,none⟩ n ρ w fun ρ w=>WL P fb Q n rest ρ w):
 WL P fb Q n (⟨dst,op,ty,pos,af,none⟩::rest) ρ w:=by
 unfold OW at h
 exact WL.of<|wpList_plain J fun K hK=>h K fun ρ w hk=>hK _ _ hk.out
theorem xO[Dfr]{x y:Code}(h:x.wp P (Exit.then (y.wp P Q) Q) (mk n ρ) w):(x.seq y).wp P Q (mk n ρ) w:=wp_seq h
theorem zf[Dfr]{l:List Oper}(h:WL P l.toArray Q n l ρ w):(Code.region id l.toArray false).wp P Q (mk n ρ) w:=wp_region_lit h.out
theorem xX[Dfr](h:Q .normal (mk n ρ) w):WL P fb Q n [] ρ w:=WL.of h
theorem xe[Dfr](h:Q .normal (mk n ρ) w):Code.skip.wp P Q (mk n ρ) w:=wp_skip h
theorem c_ret[Dfr](h:Q .ret (mk n ρ) w):Code.ret.wp P Q (mk n ρ) w:=wp_ret h
theorem c_exit[Dfr](h:Q (.exit id) (mk n ρ) w):(Code.exit id).wp P Q (mk n ρ) w:=wp_exit h
theorem xg[Dfr]{c:Code}(h:c.wp P (Exit.inBlock id Q) (mk n ρ) w):(Code.block id c).wp P Q (mk n ρ) w:=wp_block h
theorem t_n{N:Act->World->Prop}{a:Act}(h:N a w):Exit.then N Q .normal a w:=h
theorem t_x{N:Act->World->Prop}{a:Act}(h:Q (.exit id) a w):Exit.then N Q (.exit id) a w:=h
theorem t_r{N:Act->World->Prop}{a:Act}(h:Q .ret a w):Exit.then N Q .ret a w:=h
theorem b_n{a:Act}(h:Q .normal a w):Exit.inBlock id Q .normal a w:=h
theorem b_r{a:Act}(h:Q .ret a w):Exit.inBlock id Q .ret a w:=h
theorem b_x{a:Act}(h:Q .normal a w):Exit.inBlock id Q (.exit id) a w:=by simpa [Exit.inBlock] using h
theorem b_o{a:Act}{id':Nat}(iw:Nat.beq id' id=false)(h:Q (.exit id') a w):Exit.inBlock id Q (.exit id') a w:=by
 have:id' ≠id:=fun e=>by subst e;simp at iw
 simpa [Exit.inBlock,this] using h
theorem vP[Dfr]{y z:Code}(c:Bool)(hc:ev n ρ x=Bv c)(h1:c=true->y.wp P Q (mk n ρ) w)(h2:c=false->z.wp P Q (mk n ρ) w):
 (Code.cond x y z).wp P Q (mk n ρ) w:=wp_cond_split (t:=c) (by rw[XV];exact hc) h1 h2
theorem vk[Dfr]{c:Code}(I:Nat->Env->World->Prop)(m0:Nat)(h0:I m0 ρ w)
 (hs:∀m ρ w,I m ρ w->c.wp P (Exit.then (fun a' w'=>∃m' ρ',a'=mk n ρ' /\m'<m/\I m' ρ' w') Q) (mk n ρ) w):c.loop.wp P Q (mk n ρ) w:=by
 refine wp_loop_ghost (fun m a w=>∃ρ,a=mk n ρ/\I m ρ w) m0 ⟨ρ,J,h0⟩ ?_
 rintro m a w ⟨ρ,rfl,hI⟩
 refine Code.wp_mono ?_<|hs m ρ w hI
 intro e a w h
 cases e with
 |normal=>obtain⟨m',ρ',e1,e2,e3⟩:=h;exact⟨m',e2,ρ',e1,e3⟩
 |exit _=>exact h
 |goto _=>exact h
 |ret=>exact h
 |panic _=>exact h
 |outgrown=>exact h
theorem xu[Dfr]{m':Nat}{I:Nat->Env->World->Prop}(hm:m'<m)(h:I m' ρ w):
 Exit.then (fun a' w'=>∃m' ρ',a'=mk n ρ' /\m'<m/\I m' ρ' w') Q .normal (mk n ρ) w:=⟨m',ρ,rfl,hm,h⟩
theorem ret0{fn:Func}{R:Ending->World->Prop}(hr:fn.results=#[])(h:R (.returned<|.tuple #[]) w):bodyPost P fn R .normal (mk n ρ) w:=
 bodyPost_end (results_none hr _ _ _) J h
theorem ret1{fn:Func}{R:Ending->World->Prop}{t:Nat}(v:Value)(hr:fn.results=#[.tmp t])(hv:ev n ρ (.tmp t)=v)(h:R (.returned v) w):bodyPost P fn R .ret (mk n ρ) w:=by
 refine bodyPost_ret (results_tmp hr _ _ _) J ?_
 have e:=congrFun (XV n ρ)<|.tmp t
 simp only[Act.eval] at e
 rw[e,hv]
 exact h
theorem ret2{fn:Func}{R:Ending->World->Prop}{t u:Nat}(v x:Value)(hr:fn.results=#[.tmp t,.tmp u])(hv:ev n ρ (.tmp t)=v)(hx:ev n ρ (.tmp u)=x)(h:R (.returned<|.tuple #[v,x]) w):bodyPost P fn R .ret (mk n ρ) w:=by
 refine bodyPost_ret (results_tmp2 hr _ _ _) J ?_
 have e:=congrFun (XV n ρ)<|.tmp t
 have e':=congrFun (XV n ρ)<|.tmp u
 simp only[Act.eval] at e e'
 rw[e,hv,e',hx]
 exact h
end
inductive Prv where
 |box (b:Nat) (cs:List Value) (t:TypeId)
 |row (v:Value) (e:TypeId) (size n:Nat) (xs:List Value)
def Prv.blk:Prv->Option Nat
 | .box b _ _=>some b
 | .row v _ _ _ _=>v.ownBlock
def Prv.ok(base:Nat)(w:World):Prv->Prop
 | .box b cs t=>base<=b/\w.heap[b]? =some (.cells cs.toArray t (0,0))
 | .row v e size n xs=>w.ownsRow base e size v n xs
theorem Prv.ok.lt{base:Nat}{w:World}{p:Prv}(h:p.ok base w){b:Nat}(hb:p.blk=some b):base<=b/\b<w.heap.size:=by
 cases p with
 |box b' cs t=>
  simp only[Prv.blk,Option.some.injEq] at hb
  subst hb
  exact⟨h.1,(Array.getElem?_eq_some_iff.1 h.2).1⟩
 |row v e size n xs=>exact World.ownsRow.lt h b hb
theorem Prv.ok.stay{base:Nat}{p:Prv}(h:p.ok base w)(hs:∀b,p.blk=some b->w'.heap[b]? =w.heap[b]?):p.ok base w':=by
 cases p with
 |box b cs t=>exact⟨h.1,(hs b rfl).trans h.2⟩
 |row v e size n xs=>
  refine⟨h.1,?_⟩
  rcases h.2 with hn|⟨g,gA,gE,rfl,hb,hg,rest⟩
  ·exact Or.inl hn
  ·exact Or.inr ⟨g,gA,gE,J,hb,(hs g J).trans hg,rest⟩
structure Fact where
 F:yLN
 φ:World->Prop
 stay:∀w w',φ w->(∀b∈F,w'.heap[b]? =w.heap[b]?)->φ w'
def yY(ps:List Prv)(i:Nat):Option Nat:=(ps[i]?).bind Prv.blk
structure St(W0 w:World)(ps:List Prv)(Γ:List Fact):Prop where
 base:Ext W0 w
 has:∀p∈ps,p.ok W0.heap.size w
 dist:∀i j b,yY ps i=some b->yY ps j=some b->i=j
 facts:∀f∈Γ,f.φ w/\∀b∈f.F,b<w.heap.size/\∀i,yY ps i≠some b
section
variable{W0 w : World}{ps : List Prv}{Γ : List Fact}
theorem St.start(w:World):St w w [] []:=
 ⟨Below.refl _ _,by simp,by intro i j b h;simp[yY] at h,by simp⟩
theorem blkAt_has(H:St W0 w ps Γ)(h:yY ps i=some b):W0.heap.size<=b/\b<w.heap.size:=by
 unfold yY at h
 cases hp:ps[i]? with
 |none=>simp[hp] at h
 |some p=>
  simp only[hp,Option.bind_some] at h
  exact(H.has p<|List.mem_of_getElem? hp).lt h
theorem St.get(H:St W0 w ps Γ)(i:Nat){f:Fact}(h:Γ[i]? =some f):f.φ w:=(H.facts f<|List.mem_of_getElem? h).1
theorem St.add(H:St W0 w ps Γ)(f:Fact)(h:f.φ w)(hF:∀b∈f.F,b<w.heap.size/\∀i,yY ps i≠some b):St W0 w ps (f::Γ):=
 ⟨H.base,H.has,H.dist,fun g hg=>by
  rcases List.mem_cons.1 hg with rfl|hg
  ·exact⟨h,hF⟩
  ·exact H.facts g hg⟩
theorem St.jR(H:St W0 w ps Γ)(i:Nat){g:Fact}(hg:Γ[i]? =some g)(f:Fact)(h:f.φ w)(hF:∀b∈f.F,b∈g.F):St W0 w ps (f::Γ):=
 H.add f h fun b hb=>(H.facts g<|List.mem_of_getElem? hg).2 b<|hF b hb
theorem St.sub(H:St W0 w ps Γ)(Δ:List Fact)(h:∀f∈Δ,f∈Γ):St W0 w ps Δ:=⟨H.base,H.has,H.dist,fun f hf=>H.facts f<|h f hf⟩
theorem St.change(H:St W0 w ps Γ)(i:Nat){p p':Prv}(hp:ps[i]? =some p)
 (hos:w'.os=w.os) (ht:w'.tape=w.tape) (ho:w'.output=w.output) (hz:w.heap.size<=w'.heap.size)
 (hs:∀b,b<w.heap.size->p.blk≠some b->w'.heap[b]? =w.heap[b]?) (hok:p'.ok W0.heap.size w')
 (hb:p'.blk=p.blk\/p'.blk=none\/∃b,p'.blk=some b/\w.heap.size<=b):St W0 w' (ps.set i p') Γ:=by
 have hi:i<ps.length:=by
  rcases Nat.lt_or_ge i ps.length with h|h
  ·exact h
  ·simp[h] at hp
 have hbi:yY ps i=p.blk:=by simp[yY,hp]
 have oJ:∀j,yY (ps.set i p') j=if j=i then p'.blk else yY ps j:=by
  intro j
  unfold yY
  by_cases hj:j=i
  ·subst hj;simp[hi]
  ·rw[List.getElem?_set_ne<|Ne.symm hj,if_neg hj]
 have alS:∀j b,j≠i->yY ps j=some b->p'.blk≠some b:=by
  intro j b hj hjb he
  rcases hb with h|h|⟨c,h,hc⟩
  ·rw[h,←hbi] at he;exact hj<|H.dist j i b hjb he
  ·rw[h] at he;cases he
  ·rw[h] at he
   simp only[Option.some.injEq] at he
   subst he
   have:=(blkAt_has H hjb).2
   omega
 refine⟨⟨hos.trans H.base.os,ht.trans H.base.tape,ho.trans H.base.output,Nat.le_trans H.base.size hz,fun k hk=>?_⟩,?_,?_,?_⟩
 ·refine(hs k (Nat.lt_of_lt_of_le hk H.base.size) fun he=>?_).trans (H.base.block k hk)
  rw[←hbi] at he
  have:=(blkAt_has H he).1
  omega
 ·intro q hq
  obtain⟨j,hj⟩:=List.getElem?_of_mem hq
  by_cases hji:j=i
  ·subst hji
   rw[List.getElem?_set_self hi] at hj
   simp only[Option.some.injEq] at hj
   subst hj
   exact hok
  ·rw[List.getElem?_set_ne<|Ne.symm hji] at hj
   have hq':=H.has q<|List.mem_of_getElem? hj
   refine hq'.stay fun b hqb=>hs b (hq'.lt hqb).2 fun he=>?_
   rw[←hbi] at he
   exact hji<|H.dist j i b (by simp[yY,hj,hqb]) he
 ·intro j k b hj hk
  rw[oJ] at hj hk
  by_cases h1:j=i <;> by_cases h2:k=i
  ·rw[h1,h2]
  ·rw[if_pos h1] at hj;rw[if_neg h2] at hk;exact absurd hj<|alS k b h2 hk
  ·rw[if_neg h1] at hj;rw[if_pos h2] at hk;exact absurd hk<|alS j b h1 hj
  ·rw[if_neg h1] at hj;rw[if_neg h2] at hk;exact H.dist j k b hj hk
 ·intro f hf
  obtain⟨h1,h2⟩:=H.facts f hf
  refine⟨f.stay w w' h1 fun b Ot=>hs b (h2 b Ot).1 fun he=>?_,fun b Ot=>⟨Nat.lt_of_lt_of_le (h2 b Ot).1 hz,fun j he=>?_⟩⟩
  ·rw[←hbi] at he;exact(h2 b Ot).2 i he
  ·rw[oJ] at he
   by_cases hj:j=i
   ·rw[if_pos hj] at he
    rcases hb with h|h|⟨c,h,hc⟩
    ·rw[h,←hbi] at he;exact(h2 b Ot).2 i he
    ·rw[h] at he;cases he
    ·rw[h] at he
     simp only[Option.some.injEq] at he
     subst he
     have:=(h2 c Ot).1
     omega
   ·rw[if_neg hj] at he;exact(h2 b Ot).2 j he
theorem St.ext(H:St W0 w ps Γ)(e:Ext w w'):St W0 w' ps Γ:=
 ⟨Ext.trans' H.base e,fun p hp=>(H.has p hp).stay fun b hb=>e.block b ((H.has p hp).lt hb).2,H.dist,
  fun f hf=>⟨f.stay w w' (H.facts f hf).1 fun b hb=>e.block b ((H.facts f hf).2 b hb).1,
   fun b hb=>⟨Nat.lt_of_lt_of_le ((H.facts f hf).2 b hb).1 e.size,((H.facts f hf).2 b hb).2⟩⟩⟩
theorem St.own(H:St W0 w ps Γ)(e:Ext w w')(p:Prv)(hp:p.ok W0.heap.size w')(hb:∀b,p.blk=some b->w.heap.size<=b):St W0 w' (p::ps) Γ:=by
 have H':=H.ext e
 refine⟨H'.base,fun q hq=>?_,?_,fun f hf=>⟨(H'.facts f hf).1,fun b Ot=>⟨((H'.facts f hf).2 b Ot).1,fun i=>?_⟩⟩⟩
 ·rcases List.mem_cons.1 hq with rfl|hq
  ·exact hp
  ·exact H'.has q hq
 ·intro i j b hi hj
  cases i with
  |zero=>
   cases j with
   |zero=>rfl
   |succ j=>
    have h1:=hb b<|by simpa [yY] using hi
    have h2:=(blkAt_has H (i:=j) (b:=b)<|by simpa [yY] using hj).2
    omega
  |succ i=>
   cases j with
   |zero=>
    have h1:=hb b<|by simpa [yY] using hj
    have h2:=(blkAt_has H (i:=i) (b:=b)<|by simpa [yY] using hi).2
    omega
   |succ j=>rw[H.dist i j b (by simpa [yY] using hi)<|by simpa [yY] using hj]
 ·cases i with
  |zero=>
   intro he
   have h1:=hb b<|by simpa [yY] using he
   have h2:=((H.facts f hf).2 b Ot).1
   omega
  |succ i=>simpa [yY] using ((H'.facts f hf).2 b Ot).2 i
theorem ext_alloc(w:World)(o:Obj):Ext w (w.alloc o):=(Below.refl _ _).alloc (Nat.le_refl _) o
theorem ext_drew(w:World):Ext w w.drew:=(Below.refl _ _).drew
theorem St.alloc(H:St W0 w ps Γ)(cs:Array Value)(t:TypeId):St W0 (w.alloc<|.cells cs t) (.box w.heap.size cs.toList t::ps) Γ:=
 H.own (ext_alloc _ _) _ ⟨H.base.size,by simpa using heap_alloc_new w (.cells cs t)⟩ (by intro b hb;simp only[Prv.blk,Option.some.injEq] at hb;omega)
theorem heap_setCell_same{cs:Array Value}{fr:Nat×Nat}(h:w.heap[b]? =some (.cells cs t fr))(v:Value):
 (w.setCell ⟨b,off,none⟩ v).heap[b]? =some (.cells (cs.setIfInBounds off v) t fr):=by
 simp[World.setCell,Array.getElem?_modify,h]
theorem St.set(H:St W0 w ps Γ)(i:Nat){b:Nat}{cs:List Value}{t:TypeId}(hp:ps[i]? =some (.box b cs t))(off:Nat)(v:Value):
 St W0 (w.setCell ⟨b,off,none⟩ v) (ps.set i<|.box b (cs.set off v) t) Γ:=by
 have hb:=H.has _<|List.mem_of_getElem? hp
 refine H.change i hp J J J (by simp[World.setCell]) (fun c _ hc=>Below.heap_setCell _ _ _ _ ?_) ⟨hb.1,?_⟩<|Or.inl J
 ·intro e;exact hc (by simp[Prv.blk,e])
 ·rw[heap_setCell_same hb.2]
  simp
end
def pv(ρ:Operand->Value):Op->Option Value
 | .move x=>some<|ρ x
 | .assign x=>some<|ρ x
 | .pick c a b=>match ρ c with | .bool t=>some (cond t (ρ a) (ρ b))|_=>none
 | .nilCheck x=>match ρ x with | .pointer (some a)=>some (.pointer (some a))|_=>none
 | .unOp .not _ x=>match ρ x with | .bool b=>some (.bool !b)|_=>none
 | .extract x i=>match ρ x with | .tuple vs=>vs[i]?|_=>none
 | .makeFunc f a c=>some<|.func f (a.toList.map ρ).toArray (c.toList.map ρ).toArray
 | .binOp .lss _ x y _=>match ρ x,ρ y with | .int .i64 a,.int .i64 b=>some (Bv (decide (a<b)))|_,_=>none
 | .binOp .leq _ x y _=>match ρ x,ρ y with | .int .i64 a,.int .i64 b=>some (Bv (decide (a<=b)))|_,_=>none
 | .binOp .gtr _ x y _=>match ρ x,ρ y with | .int .i64 a,.int .i64 b=>some (Bv (decide (a>b)))|_,_=>none
 | .binOp .geq _ x y _=>match ρ x,ρ y with | .int .i64 a,.int .i64 b=>some (Bv (decide (a>=b)))|_,_=>none
 | .binOp .eql _ x y _=>match ρ x,ρ y with | .int .i64 a,.int .i64 b=>some (Bv (a == b)) | .string a,.string b=>some (Bv (a.toList == b.toList))|_,_=>none
 | .binOp .neq _ x y _=>match ρ x,ρ y with | .int .i64 a,.int .i64 b=>some (Bv (a != b)) | .string a,.string b=>some (Bv !(a.toList == b.toList))|_,_=>none
 |_=>none
theorem pv_run{P:Program}{ρ:Operand->Value}{o:Oper}(h:pv ρ o.op=some v)(w:World):(execOp ρ o).run P w=.ok (.value v) w:=by
 unfold execOp
 cases ho:o.op <;> rw[ho] at h <;> simp only[pv] at h <;> try (cases h;done)
 case move x=>cases h;simp
 case assign x=>cases h;simp
 case pick c a b=>
  split at h <;> cases h
  rename_i t ht
  cases t <;> simp[ht,asBool]
 case nilCheck x=>
  split at h <;> cases h
  rename_i a ha
  simp[ha]
 case makeFunc f a c=>cases h;simp[Instr.makeFunc,←List.map_toArray]
 case extract x i=>
  split at h
  ·rename_i vs Fe
   simp[Fe,Instr.extract,h]
  ·cases h
 case unOp op t x=>
  cases op <;> simp only[pv] at h <;> try (cases h;done)
  split at h <;> cases h
  rename_i b hb
  simp[hb,Op.unary]
 case binOp op t x y u=>
  cases op <;> simp only[pv] at h <;> try (cases h;done)
  all_goals split at h
  all_goals first
   |(cases h;done)
   |(rename_i h1 h2;cases h;simp[h1,h2,eqGuard,binOp,Op.intCmp];done)
   |(rename_i h1 h2;cases h;simp[h1,h2,eqGuard,binOp,Op.stringOp];done)
section
variable{P : Program}{fb : Array Oper}{Q : Exit -> Act -> World -> Prop}{n : Nat}{ρ : Env}{W0 w : World}{rest : List Oper}{ps : List Prv}{Γ : List Fact}
 {d:Nat} {op:Op} {ty:TypeId} {pos:String} {af:Array Edge} {K:Env->World->Prop}
theorem Xx[Dfr](v:Value)(h:(execOp (ev n ρ) ⟨some d,op,ty,pos,af,none⟩).run P w=.ok (.value v) w')(k:K (upd ρ d v) w'):
 OW P Q ⟨some d,op,ty,pos,af,none⟩ n ρ w K:=by
 unfold OW
 intro K' hK
 unfold Oper.wp
 rw[XV,h]
 show K' ((mk n ρ).put (some d) v) w'
 rw[mk_put]
 exact hK _ _ k
theorem o_unit[Dfr](h:(execOp (ev n ρ) ⟨none,op,ty,pos,af,none⟩).run P w=.ok .skip w')(k:K ρ w'):
 OW P Q ⟨none,op,ty,pos,af,none⟩ n ρ w K:=by
 unfold OW
 intro K' hK
 unfold Oper.wp
 rw[XV,h]
 exact hK _ _ k
theorem o_pure[Dfr](v:Value)(h:pv (ev n ρ) op=some v)(k:K (upd ρ d v) w):OW P Q ⟨some d,op,ty,pos,af,none⟩ n ρ w K:=
 Xx v (pv_run (by exact h) w) k
theorem yielded_of[Dfr]{e:Nat}{b:Bool}(hd:(fb[j]?).bind (·.dst)=some e)(hv:ev n ρ (.tmp e)=Bv b):yielded fb (mk n ρ).tmps j=some b:=by
 have nU:e<n:=by
  rcases Nat.lt_or_ge e n with h|h
  ·exact h
  ·have hb:Nat.blt e n=false:=by
    cases hb:Nat.blt e n with
    |false=>rfl
    |true=>exact absurd (Nat.le_of_ble_eq_true hb) qf
   simp[ev,hb,undef] at hv
 have hv':ρ e=Bv b:=by simpa [ev,show Nat.blt e n=true from Nat.ble_eq_true_of_le nU] using hv
 simp[yielded,hd,mk,nU,hv']
theorem yielded_un[Dfr]{e:Nat}(hd:(fb[j]?).bind (·.dst)=some e)(hv:ev n ρ (.tmp e)=undef):yielded fb (mk n ρ).tmps j=none:=by
 rcases Nat.lt_or_ge e n with nU|h
 ·have hv':ρ e=undef:=by simpa [ev,show Nat.blt e n=true from Nat.ble_eq_true_of_le nU] using hv
  simp[yielded,hd,mk,nU,hv',undef]
 ·simp[yielded,hd,mk,show ¬e<n by omega]
def dstAt:List Oper->Nat->Option Nat
 | [],_=>none
 |o::_,0=>o.dst
 |_::l,j+1=>dstAt l j
theorem dstAt_eq:∀(l:List Oper) (j:Nat),(l.toArray[j]?).bind (·.dst)=dstAt l j
 | [],j=>by simp[dstAt]
 |o::l,0=>by simp[dstAt]
 |o::l,j+1=>by
  have:=dstAt_eq l j
  simp only[List.getElem?_toArray,List.getElem?_cons_succ,dstAt] at this ⊢
  exact this
theorem qP[Dfr]{l:List Oper}{b:Bool}(e:Nat)(hd:dstAt l j=some e)(hv:ev n ρ (.tmp e)=Bv b)
 (k:WL P l.toArray Q n (⟨dst,op,ty,pos,af,none⟩::rest) ρ w):WL P l.toArray Q n (⟨dst,op,ty,pos,af,some (j,b)⟩::rest) ρ w:=by
 have hw:Region.wanted ⟨dst,op,ty,pos,af,some (j,b)⟩ (yielded l.toArray (mk n ρ).tmps)=true:=by simp[Region.wanted,yielded_of ((dstAt_eq l j).trans hd) hv]
 replace k:=k.out
 refine WL.of ?_
 unfold wpList at k ⊢
 rw[if_pos hw]
 rw[if_pos<|by rfl] at k
 exact k
theorem wrap_in{a:Int}(h: -9223372036854775808<=a/\a<=9223372036854775807):IntKind.i64.wrap a=a:=by
 exact IntWalk.i64_in a h
theorem zY[Dfr](a b:Int)(hx:ev n ρ x=.int .i64 a)(hy:ev n ρ y=.int .i64 b)(h: -9223372036854775808<=a+b/\a+b<=9223372036854775807)
 (k:K (upd ρ d<|.int .i64<|a+b) w):OW P Q ⟨some d,.binOp .add t x y u,ty,pos,af,none⟩ n ρ w K:=
 Xx _ (by simp[execOp,hx,hy,eqGuard,binOp,Op.intArith,wrap_in h]) k
theorem o_sub[Dfr](a b:Int)(hx:ev n ρ x=.int .i64 a)(hy:ev n ρ y=.int .i64 b)(h: -9223372036854775808<=a-b/\a-b<=9223372036854775807)
 (k:K (upd ρ d<|.int .i64<|a-b) w):OW P Q ⟨some d,.binOp .sub t x y u,ty,pos,af,none⟩ n ρ w K:=
 Xx _ (by simp[execOp,hx,hy,eqGuard,binOp,Op.intArith,wrap_in h]) k
theorem o_mul[Dfr](a b:Int)(hx:ev n ρ x=.int .i64 a)(hy:ev n ρ y=.int .i64 b)(h: -9223372036854775808<=a*b/\a*b<=9223372036854775807)
 (k:K (upd ρ d<|.int .i64<|a*b) w):OW P Q ⟨some d,.binOp .mul t x y u,ty,pos,af,none⟩ n ρ w K:=
 Xx _ (by simp[execOp,hx,hy,eqGuard,binOp,Op.intArith,wrap_in h]) k
theorem o_len[Dfr](hu:P.underlying t=some (.slice e))(a:yOA)(m c:Nat)(hx:ev n ρ x=Sv a m c)
 (k:K (upd ρ d<|.int .i64 m) w):OW P Q ⟨some d,.call ⟨.builtin .len,#[x],#[t]⟩,ty,pos,af,none⟩ n ρ w K:=
 Xx _ (by simp[execOp,resolve,invoke,builtin,Builtin.len_,hx,run_underlying hu,goInt]) k
end
def TI(P:Program)(t:TypeId)(z:Value)(size bytes:Nat):Prop:=(P.info? t).map (fun i=>(i.zero,i.size,i.bytes))=some (some z,size,bytes)
theorem TI.sizeOf{P:Program}{t:TypeId}{z:Value}{m e9 :Nat}(h:TI P t z m e9)(w:World):(Go.sizeOf t).run P w=.ok m w:=by
 obtain⟨i,hi,_,h2,_⟩:=info_parts h
 simp[Go.sizeOf,typeInfo,hi,h2]
theorem TI.zero{P:Program}(h:TI P t z m e9)(w:World):(zeroValue t).run P w=.ok z w:=by
 obtain⟨i,hi,h1,_,_⟩:=info_parts h
 simp[zeroValue,typeInfo,hi,h1]
def yc(w:World)(F:yLN):Prop:=∀b∈F,∃cs t,w.heap[b]? =some (.cells cs t (0,0))
theorem yc.stay(h:yc w F)(hs:∀b∈F,w'.heap[b]? =w.heap[b]?):yc w' F:=fun b hb=>by rw[hs b hb];exact h b hb
theorem yc.sub(h:yc w F)(hs:∀b∈G,b∈F):yc w G:=fun b hb=>h b<|hs b hb
theorem yc.app(h:yc w F)(k:yc w G):yc w (F++G):=fun b hb=>by
 rcases List.mem_append.1 hb with h'|h'
 ·exact h b h'
 ·exact k b h'
theorem yc.nil(w:World):yc w []:=fun b hb=>by simp at hb
section
variable{α : Type}[qI α]
def isF(fr:Bool)(F:yLN)(v:Value)(x:α):Fact:=⟨F,fun w=>qI.rep w F [v] x/\(fr=true->yc w F),fun _ _ h hs=>⟨qI.stay h.1 hs,fun e=>(h.2 e).stay hs⟩⟩
def qX(fr:Bool)(F:yLN)(xs:List Value)(l:List α):Fact:=⟨F,fun w=>reps w F xs l/\(fr=true->yc w F),fun _ _ h hs=>⟨reps_stay h.1 hs,fun e=>(h.2 e).stay hs⟩⟩
end
def atF(b off:Nat)(cs:List Value):Fact:=⟨[b],fun w=>jO w b off cs,fun _ _ h hs=>cellsAt_stay h<|hs b qm⟩
section
variable{P : Program}{fb : Array Oper}{Q : Exit -> Act -> World -> Prop}{n : Nat}{ρ : Env}{W0 w : World}{rest : List Oper}{ps : List Prv}{Γ : List Fact}
 {d:Nat} {ty:TypeId} {pos:String} {af:Array Edge} {K:Env->World->Prop}
theorem St.cell(H:St W0 w ps Γ)(i:Nat){b:Nat}{cs:List Value}{t:TypeId}(hp:ps[i]? =some (.box b cs t)){off:Nat}{v:Value}(hv:cs[off]? =some v):w.cell? ⟨b,off,none⟩=some v:=by
 have:=(H.has _<|List.mem_of_getElem? hp).2
 rw[World.cell?,this]
 simpa using hv
theorem St.zU(H:St W0 w ps Γ)(i:Nat)(hf:Γ[i]? =some (atF b off cs))(j:Nat)(hv:cs[j]? =some v):w.cell? ⟨b,off+j,none⟩=some v:=
 H.get i hf j v hv
theorem St.cells(H:St W0 w ps Γ)(i:Nat)(hp:ps[i]? =some (.box b cs t)):jO w b 0 cs:=by
 intro j v hv
 rw[Nat.zero_add]
 exact H.cell i hp hv
theorem qH(h:jO w b off cs)(j m:Nat):jO w b (off+j) ((cs.drop j).take m):=by
 intro i v hv
 rw[List.getElem?_take] at hv
 split at hv
 ·rw[List.getElem?_drop] at hv
  rw[Nat.add_assoc]
  exact h (j+i) v hv
 ·cases hv
theorem o_alloc[Dfr](H:St W0 w ps Γ)(ht:TI P t z m e9)
 (k:∀b w',St W0 w' (.box b z.cells.toList t::ps) Γ->K (upd ρ d<|.pointer<|some ⟨b,0,none⟩) w'):
 OW P Q ⟨some d,.alloc t,ty,pos,af,none⟩ n ρ w K:=
 Xx (w':=w.alloc<|.cells z.cells t) _ (by simp[execOp,Instr.alloc,ht.zero,newVar,newRow]) (k _ _<|H.alloc _ _)
theorem o_box[Dfr](H:St W0 w ps Γ)(v:Value)(hx:ev n ρ x=v)
 (k:∀b w',St W0 w' (.box b v.cells.toList t::ps) Γ->K (upd ρ d<|.pointer<|some ⟨b,0,none⟩) w'):
 OW P Q ⟨some d,.box t x,ty,pos,af,none⟩ n ρ w K:=
 Xx (w':=w.alloc<|.cells v.cells t) _ (by simp[execOp,Instr.box,hx,newVar,newRow]) (k _ _<|H.alloc _ _)
theorem run_load1(ha:∀w,(isAgg t).run P w=.ok false w)(hc:w.cell? ⟨b,off,none⟩=some v):
 (Instr.loadAt t<|.pointer<|some ⟨b,off,none⟩).run P w=.ok v w:=by
 simp[Instr.loadAt,Instr.sureAddr,loadVar,ha,hc]
theorem zx[Dfr](v:Value)(ha:∀w,(isAgg t).run P w=.ok false w)(hx:ev n ρ x=.pointer (some ⟨b,off,none⟩))
 (hc:w.cell? ⟨b,off,none⟩=some v) (k:K (upd ρ d v) w):OW P Q ⟨some d,.load t x,ty,pos,af,none⟩ n ρ w K:=
 Xx v (by simp[execOp,hx,run_load1 ha hc]) k
theorem run_loadN(ha:∀w,(isAgg t).run P w=.ok true w)(hs:∀w,(Go.sizeOf t).run P w=.ok cs.length w)
 (hc:jO w b off cs):(Instr.loadAt t<|.pointer<|some ⟨b,off,none⟩).run P w=.ok (.agg cs.toArray) w:=by
 have:=run_loadCells_list (P:=P) w ⟨b,off,none⟩ cs (fun j v hv=>by rw[Addr.add_mid];exact hc j v hv)
 simp[Instr.loadAt,Instr.sureAddr,loadVar,ha,hs,this]
theorem xW[Dfr](cs:List Value)(ha:∀w,(isAgg t).run P w=.ok true w)(hs:∀w,(Go.sizeOf t).run P w=.ok cs.length w)
 (hx:ev n ρ x=.pointer (some ⟨b,off,none⟩)) (hc:jO w b off cs) (k:K (upd ρ d<|.agg cs.toArray) w):
 OW P Q ⟨some d,.load t x,ty,pos,af,none⟩ n ρ w K:=
 Xx _ (by simp[execOp,hx,run_loadN ha hs hc]) k
theorem o_field[Dfr]{fs:Array Field}{f:Field}(b off j:Nat)(hu:P.underlying t=some (.struct fs))(hf:fs[i]? =some f)(hj:f.offset=j)
 (hs:∀w,(Go.sizeOf f.type).run P w=.ok (m+1) w) (hx:ev n ρ x=.pointer (some ⟨b,off,none⟩)) (k:K (upd ρ d<|.pointer<|some ⟨b,off+j,none⟩) w):
 OW P Q ⟨some d,.fieldAddr t x i,ty,pos,af,none⟩ n ρ w K:=
 Xx _ (by subst hj;simp[execOp,hx,Instr.fieldAt,Instr.sureAddr,fieldPlace,run_underlying hu,hf,hs,Addr.add_mid]) k
theorem St.setAll(H:St W0 w ps Γ)(i:Nat)(hp:ps[i]? =some (.box b cs t))(JG :List Value):
 St W0 (w.setRow b JG.toArray) (ps.set i<|.box b JG t) Γ:=by
 have hb:=H.has _<|List.mem_of_getElem? hp
 refine H.change i hp J J J (by simp[World.setRow]) (fun c _ hc=>?_) ⟨hb.1,?_⟩<|Or.inl J
 ·have iw:b≠c:=fun e=>hc (by simp[Prv.blk,e])
  simp[World.setRow,Array.getElem?_modify,iw]
 ·simp[World.setRow,Array.getElem?_modify,hb.2]
theorem o_store[Dfr](H:St W0 w ps Γ)(i:Nat)(hp:ps[i]? =some (.box b cs tb))(v:Value)
 (hs:∀w,(Go.sizeOf t).run P w=.ok v.cells.size w) (hx:ev n ρ x=.pointer (some ⟨b,off,none⟩)) (hy:ev n ρ y=v) (h1:∀u∈v.cells.toList,u.oneCell'=true) (ho:off+v.cells.size<=cs.length)
 (k:∀w',St W0 w' (ps.set i<|.box b (cs.take off++v.cells.toList++cs.drop (off+v.cells.size)) tb) Γ->K ρ w'):
 OW P Q ⟨none,.store t x y,ty,pos,af,none⟩ n ρ w K:=by
 have hb:=(H.has _<|List.mem_of_getElem? hp).2
 have hr:=run_storeCells_at P b off tb v.cells.toList 0 cs.toArray w hb (by simpa using ho) h1
 refine o_unit (w':=w.setRow b (cs.take off++v.cells.toList++cs.drop (off+v.cells.size)).toArray) ?_<|k _<|H.setAll i hp _
 simp only[Nat.add_zero,Array.length_toList] at hr
 simp[execOp,hx,hy,Instr.storeAt,Instr.sureAddr,storeVar,hs,hr]
theorem o_store1[Dfr](H:St W0 w ps Γ)(i:Nat)(hp:ps[i]? =some (.box b cs tb))(v:Value)
 (hs:∀w,(Go.sizeOf t).run P w=.ok 1 w) (hx:ev n ρ x=.pointer (some ⟨b,off,none⟩)) (hy:ev n ρ y=v) (h1:v.oneCell'=true) (ho:off<cs.length)
 (k:∀w',St W0 w' (ps.set i<|.box b (cs.set off v) tb) Γ->K ρ w'):
 OW P Q ⟨none,.store t x y,ty,pos,af,none⟩ n ρ w K:=by
 have hc:v.cells=#[v]:=by cases v <;> first|rfl|(simp[Value.oneCell'] at h1)
 refine o_store H i hp v (by simpa [hc] using hs) hx hy (by simp[hc,h1]) (by simp[hc];omega) ?_
 simp only[hc,List.size_toArray,List.length_cons,List.length_nil,Nat.zero_add]
 rw[show cs.take off++[v]++cs.drop (off+1)=cs.set off v by rw[List.set_eq_take_append_cons_drop,if_pos ho];simp]
 exact k
variable{α : Type}[qI α][Inhabited α]
theorem o_idxAt[Dfr](iv:Int)(hu:P.underlying t=some (.slice e))(he:TI P e z sz e9)
 (hx:ev n ρ x=Sv (some ⟨b,off,none⟩) m c) (hy:ev n ρ y=.int .i64 iv) (h0:0<=iv) (h1:iv<m)
 (k:K (upd ρ d<|.pointer<|some ⟨b,off+iv.toNat*sz,none⟩) w):OW P Q ⟨some d,.indexAddr t x y,ty,pos,af,none⟩ n ρ w K:=
 Xx _ (by simp[execOp,hx,hy,Instr.indexAt,asIntOf,run_underlying hu,he.sizeOf,h0,h1,Addr.add_mid]) k
theorem o_call[Dfr]{xs:Array Operand}{f:FuncId}{R:Value->World->Prop}(args:Array Value)(hv:ev n ρ x=.func (.func f) fst oo)
 (ni:fst.toList++xs.toList.map (ev n ρ)++oo.toList=args.toList) (hf:∀args w,(callFunc f args).run P w=.ok (.enter f args) w)
 (hc:Calls P f args w fun e w'=>∃v,e=.returned v/\R v w' /\Ext w w') (k:∀v w',R v w' ->Ext w w' ->K (upd ρ d v) w'):
 OW P Q ⟨some d,.call ⟨.value x,xs,ts⟩,ty,pos,af,none⟩ n ρ w K:=by
 have hr:(execOp (ev n ρ) ⟨some d,.call ⟨.value x,xs,ts⟩,ty,pos,af,none⟩).run P w=.ok (.enter f args) w:=by
  have e:fst++xs.map (ev n ρ)++oo=args:=by apply Array.toList_inj.1;rw[←ni];simp
  simp[execOp,resolve,Deferred.ofValue,hv,invoke,hf,e]
 unfold OW
 intro K' hK
 unfold Oper.wp
 rw[XV,hr]
 refine hc.mono fun e w' ⟨v,he,hR,hE⟩=>?_
 subst he
 show K' ((mk n ρ).put (some d) v) w'
 rw[mk_put]
 exact hK _ _<|k v w' hR hE
theorem o_callV[Dfr]{xs:Array Operand}{f:FuncId}{R:Value->World->Prop}(as0:List Value)(hv:ev n ρ x=.func (.func f) #[] oo)
 (ni:xs.toList.map (ev n ρ)=as0) (hf:∀args w,(callFunc f args).run P w=.ok (.enter f args) w)
 (hc:Calls P f (as0++oo.toList).toArray w fun e w'=>∃v,e=.returned v/\R v w' /\Ext w w') (k:∀v w',R v w' ->Ext w w' ->K (upd ρ d v) w'):
 OW P Q ⟨some d,.call ⟨.value x,xs,ts⟩,ty,pos,af,none⟩ n ρ w K:=
 o_call _ hv (by rw[←ni];simp) hf hc k
end
def Ret(R:Value->World->Prop)(w:World)(e:Ending)(w':World):Prop:=∃v,e=.returned v/\R v w' /\Ext w w'
section
variable{α : Type}[qI α]
def OwnNew(w0 w:World)(e:TypeId)(v:Value)(l:List α):Prop:=
 ∃xs F,w.ownsRow w0.heap.size e (qI.size α) v l.length xs/\reps w F xs l/\(∀b∈F,w0.heap.size<=b)/\(∀b∈F,v.ownBlock≠some b)/\F.Nodup/\yc w F
end
theorem start_lt{α:Type}[qI α]{x:α}(h:qI.rep w F [v] x):∀b∈F,b<w.heap.size/\∀i,yY [] i≠some b:=
 fun b hb=>⟨qI.lt h b hb,fun i=>by simp[yY]⟩
theorem start_at(h:jO w b off (v::cs)):∀c∈[b],c<w.heap.size/\∀i,yY [] i≠some c:=by
 intro c hc
 simp only[List.mem_singleton] at hc
 subst hc
 exact⟨World.block_lt_of_cell? w _<|h 0 v J,fun i=>by simp[yY]⟩
theorem St.arg{α:Type}[qI α]{Γ:List Fact}{x:α}(H:St w w [] Γ)(h:qI.rep w F [v] x):St w w [] (isF false F v x::Γ):=H.add _ ⟨h,by simp⟩<|start_lt h
theorem St.argAt{Γ:List Fact}(H:St w w [] Γ)(h:jO w b off (v::cs)):St w w [] (atF b off (v::cs)::Γ):=H.add _ h<|start_at h
theorem ne_of_beq_false{α:Type}[BEq α][LawfulBEq α]{a b:α}(h:(a == b)=false):a≠b:=by simpa using h
theorem zo{α:Type}[BEq α][LawfulBEq α]{a b:α}(h:(a != b)=false):a=b:=by simpa using h
theorem xF{b:Bool}(h:(!b)=true):b=false:=by simpa using h
theorem xw{b:Bool}(h:(!b)=false):b=true:=by simpa using h
section
variable{W0 w w': World}{ps : List Prv}{Γ : List Fact}
end
section
variable{P : Program}{Q : Exit -> Act -> World -> Prop}{n : Nat}{ρ : Env}{W0 w : World}{ps : List Prv}{Γ : List Fact}
 {d:Nat} {ty:TypeId} {pos:String} {af:Array Edge} {K:Env->World->Prop}
theorem madeCells_one(z:Value)(n:Nat):(madeCells #[z] n).toList=List.replicate n z:=by
 apply List.ext_getElem
 ·simp[madeCells]
 ·intro i h1 h2
  simp[madeCells,Nat.mod_one]
theorem o_make1[Dfr](H:St W0 w ps Γ)(hu:P.underlying t=some (.slice e))(he:TI P e z 1 e9)(hz:z.cells=#[z])(nn:Nat)
 (hx:ev n ρ x=.int .i64 nn) (hy:ev n ρ y=.int .i64 nn) (hb:e9*nn<=281474976710656) (hm:nn<=9223372036854775807)
 (k:∀b w',St W0 w' (.box b (List.replicate nn z) e::ps) Γ->K (upd ρ d<|Sv (some ⟨b,0,none⟩) nn nn) w'):
 OW P Q ⟨some d,.makeSlice t x y,ty,pos,af,none⟩ n ρ w K:=by
 obtain⟨i,hi,h1,h2,h3⟩:=info_parts he
 have hr:=run_make (P:=P) (w:=w) t e i z hu hi h1 .i64 .i64 nn nn qf qf (by rw[h3];omega) qf
 refine Xx (w':=w.alloc<|.cells (madeCells z.cells ((nn:Int).toNat*i.size)) e) _ (by simp[execOp,hx,hy,hr])<|k w.heap.size _ ?_
 have:=H.alloc (madeCells z.cells ((nn:Int).toNat*i.size)) e
 rw[hz,h2] at this
 rw[hz,h2]
 simpa [madeCells_one] using this
theorem jS[Dfr](H:St W0 w ps Γ)(hu:P.underlying t=some (.slice e))(he:TI P e z sz e9)
 (k:∀b w',St W0 w' (.box b [] e::ps) Γ->K (upd ρ d<|Sv (some ⟨b,0,none⟩) 0 0) w'):
 OW P Q ⟨some d,.buildSlice t 0 #[],ty,pos,af,none⟩ n ρ w K:=
 Xx (w':=w.alloc<|.cells #[] e) _ (by simp[execOp,Instr.buildSlice,run_underlying hu,he.sizeOf,Instr.fill,newRow,Array.range_zero']) (k _ _<|H.alloc _ _)
theorem o_build1[Dfr](H:St W0 w ps Γ)(hu:P.underlying t=some (.slice e))(he:TI P e z sz e9)(h0:0<sz)(hs:sz<=16777216)(v:Value)
 (hx:ev n ρ x=v) (hv:v.cells.size=sz) (k:∀b w',St W0 w' (.box b v.cells.toList e::ps) Γ->K (upd ρ d<|Sv (some ⟨b,0,none⟩) 1 1) w'):
 OW P Q ⟨some d,.buildSlice t 1 #[(0,x)],ty,pos,af,none⟩ n ρ w K:=by
 obtain⟨i,hi,h1,h2,h3⟩:=info_parts he
 have hr:=run_buildSlice (P:=P) w t e 1 #[(0,v)] v.cells i z hu hi h1 (by rw[h2];omega) (by rw[h2];omega) (by
  have:=Great.fill_whole h0 [v] (madeCells z.cells<|1*sz) (by simpa using hv) (by simp[madeCells])
  rw[h2]
  simpa [madeCells] using this)
 exact Xx (w':=w.alloc<|.cells v.cells e) _ (by simp[execOp,hx,hr])<|k _ _<|H.alloc _ _
theorem o_buildF[Dfr]{xs:Array (Nat×Operand)}(H:St W0 w ps Γ)(hu:P.underlying t=some (.slice e))(he:TI P e z 1 e9)(vs:List Value)
 (hx:xs.toList.map (fun p=>(p.1,ev n ρ p.2))=vs.zipIdx.map (fun p=>(p.2,p.1))) (hv:∀v∈vs,v.cells=#[v]) (hm:vs.length=m) (h0:0<m) (hs:m<=16777216)
 (k:∀b w',St W0 w' (.box b vs e::ps) Γ->K (upd ρ d<|Sv (some ⟨b,0,none⟩) m m) w'):
 OW P Q ⟨some d,.buildSlice t m xs,ty,pos,af,none⟩ n ρ w K:=by
 obtain⟨i,hi,h1,h2,h3⟩:=info_parts he
 have hr:=run_buildSlice (P:=P) w t e m (xs.map fun p=>(p.1,ev n ρ p.2)) vs.toArray i z hu hi h1 (by rw[h2];omega) (by rw[h2];omega) (by
  have:=Great.fill_flat vs (madeCells z.cells<|m*1) hv (by simp[madeCells,hm])
  rw[h2,Array.toList_map,hx]
  simpa [madeCells] using this)
 exact Xx (w':=w.alloc<|.cells vs.toArray e) _ (by simp[execOp,hr])<|k _ _<|H.alloc _ _
end
section
variable{P : Program}{Q : Exit -> Act -> World -> Prop}{n : Nat}{ρ : Env}{W0 w : World}{ps : List Prv}{Γ : List Fact}
 {d:Nat} {ty:TypeId} {pos:String} {af:Array Edge} {K:Env->World->Prop}
theorem St.nilRow(H:St W0 w ps Γ)(e:TypeId)(sz:Nat):St W0 w (.row (Sv none 0 0) e sz 0 []::ps) Γ:=
 H.own (Below.refl _ _) _ (World.ownsRow_nil _ _ _ _) (by intro b hb;simp[Prv.blk,Value.ownBlock] at hb)
theorem St.turn(H:St W0 w ps Γ)(i:Nat){p p':Prv}(hp:ps[i]? =some p)(hok:p.ok W0.heap.size w->p'.ok W0.heap.size w)(hb:p'.blk=p.blk):St W0 w (ps.set i p') Γ:=
 H.change i hp J J J (Nat.le_refl _) (fun _ _ _=>rfl) (hok<|H.has _<|List.mem_of_getElem? hp) (Or.inl hb)
theorem St.boxRow(H:St W0 w ps Γ)(i:Nat)(hp:ps[i]? =some (.box b cs e))(sz nn:Nat)(hl:cs.length=nn*sz)(hm:nn<=maxLen):
 St W0 w (ps.set i<|.row (Sv (some ⟨b,0,none⟩) nn nn) e sz nn cs) Γ:=
 H.turn i hp (fun h=>⟨hl,Or.inr ⟨b,nn,cs.toArray,rfl,h.1,h.2,Nat.le_refl _,hm,by simpa using hl,by rw[←hl];simp⟩⟩) J
theorem o_append[Dfr]{s:Operand}(H:St W0 w ps Γ)(i:Nat)(hp:ps[i]? =some (.row v e sz nn xs))(j:Nat)(hq:ps[j]? =some (.box b cs tb))
 (hu:P.underlying t=some (.slice e)) (he:TI P e z sz e9) (zm:z.cells.size=sz) (h0:0<sz) (hs:ev n ρ s=v) (hx:ev n ρ x=Sv (some ⟨b,0,none⟩) m c) (hl:cs.length=m*sz)
 (h1:∀u∈cs,u.oneCell'=true) (hm:nn+m<=maxLen) (hb:(nn+m)*e9 <=140737488355328)
 (k:∀v' w',St W0 w' (ps.set i<|.row v' e sz (nn+m)<|xs++cs) Γ->K (upd ρ d v') w'):
 OW P Q ⟨some d,.call ⟨.builtin .append,#[s,x],#[t,t]⟩,ty,pos,af,none⟩ n ρ w K:=by
 obtain⟨i',hi,Ue,MH,Tn⟩:=info_parts he
 have ee:w.ownsRow W0.heap.size e sz v nn xs:=H.has _<|List.mem_of_getElem? hp
 obtain⟨v',w',hr,ho,hg,_,hbl⟩:=run_append_own_at (P:=P) w W0.heap.size t ty e i' z sz e9 hu hi Ue MH Tn zm h0 v nn xs ee ⟨b,0,none⟩ m c cs hl
  (fun k' u hk=>by rw[Addr.add_mid];simpa using H.cells j hq k' u hk) h1 hm hb H.base.size
 refine Xx v' (by simp[execOp,resolve,invoke,builtin,hs,hx,hr])<|k v' w'<|H.change i hp hg.os hg.tape hg.output hg.size (fun c hc iw=>hg.block c hc<|fun e'=>iw e'.symm) ho ?_
 rcases hbl with h|h
 ·exact Or.inl h
 ·exact Or.inr<|Or.inr ⟨_,h,Nat.le_refl _⟩
end
section
variable{P : Program}{Q : Exit -> Act -> World -> Prop}{n : Nat}{ρ : Env}{W0 w : World}{ps : List Prv}{Γ : List Fact}
 {d:Nat} {ty:TypeId} {pos:String} {af:Array Edge} {K:Env->World->Prop}
theorem run_append_none{i:TypeInfo}(hu:P.underlying t=some (.slice e))(hi:P.info? e=some i){b:yOA}{c':Nat}(hn:n<=c):
 (Builtin.append_ #[t,t] ty #[Sv b n c,Sv none 0 c']).run P w=.ok (Sv b n c) w:=by
 cases b <;> simp[Builtin.append_,run_underlying hu,sizeOf,typeInfo,hi,Builtin.lenOf,Builtin.firstCells,hn,loadCells,loadCellsFrom,storeCells]
theorem o_appendF[Dfr]{α:Type}[qI α]{s:Operand}{l:List α}(H:St W0 w ps Γ)(i:Nat)(hp:ps[i]? =some (.row v e (qI.size α) nn xs))
 (j:Nat) (hf:Γ[j]? =some (isF fr F (Sv a m c) l)) (hu:P.underlying t=some (.slice e)) (he:TI P e z (qI.size α) e9) (zm:z.cells.size=qI.size α) (h0:0<qI.size α) (hs:ev n ρ s=v)
 (hx:ev n ρ x=Sv a m c) (hm:nn+m<=maxLen) (hb:(nn+m)*e9 <=140737488355328)
 (k:∀v' w' vs G,St W0 w' (ps.set i<|.row v' e (qI.size α) (nn+m)<|xs++vs) (qX fr G vs l::Γ)->(∀b∈G,b∈F)->K (upd ρ d v') w'):
 OW P Q ⟨some d,.call ⟨.builtin .append,#[s,x],#[t,t]⟩,ty,pos,af,none⟩ n ρ w K:=by
 obtain⟨i',hi,Ue,MH,Tn⟩:=info_parts he
 have ee:w.ownsRow W0.heap.size e (qI.size α) v nn xs:=H.has _<|List.mem_of_getElem? hp
 obtain⟨⟨a',gA,hc,hl,h⟩,eJ⟩:=H.get j hf
 simp only[List.cons.injEq,Value.slice.injEq,and_true] at hc
 obtain⟨rfl,rfl,rfl⟩:=hc
 have hfF:=(H.facts _<|List.mem_of_getElem? hf).2
 rcases a with _|⟨b,off,sp⟩
 ·rcases h with ⟨rfl,rfl⟩|⟨b,off,F',vs,ha,_⟩
  ·have hv:∃b0 c0,v=Sv b0 nn c0/\nn<=c0:=by
    rcases ee.2 with ⟨rfl,rfl⟩|⟨g,cap',gE,rfl,_,_,Zg,_⟩
    ·exact⟨none,0,J,Nat.le_refl _⟩
    ·exact⟨_,_,J,Zg⟩
   obtain⟨b0,c0,rfl,Zg⟩:=hv
   refine Xx (Sv b0 nn c0) (by simp[execOp,resolve,invoke,builtin,hs,hx,run_append_none hu hi Zg])<|k _ w [] [] ?_ qm
   simp only[List.append_nil,List.length_nil,Nat.add_zero]
   have:ps.set i (.row (Sv b0 nn c0) e (qI.size α) nn xs)=ps:=by
    apply List.ext_getElem?
    intro j'
    by_cases hj:i=j'
    ·subst hj
     rw[hp]
     have CU :i<ps.length:=(List.getElem?_eq_some_iff.1 hp).1
     rw[List.getElem?_set_self CU]
    ·rw[List.getElem?_set_ne hj]
   rw[this]
   exact H.add _ ⟨⟨J,J⟩,fun _=>yc.nil _⟩<|by simp[qX]
  ·cases ha
 ·rcases h with ⟨rfl,rfl⟩|⟨b',off',F',vs,ha,hF,hbl,hr,hcells⟩
  ·obtain⟨v',w',hr,ho,hg,_,hbl⟩:=run_append_own_at (P:=P) w W0.heap.size t ty e i' z _ e9 hu hi Ue MH Tn zm h0 v nn xs ee ⟨b,off,sp⟩ 0 c [] qm qm qm hm hb H.base.size
   refine Xx v' (by simp[execOp,resolve,invoke,builtin,hs,hx,hr])<|k v' w' [] [] ?_ qm
   have H':=H.change (p':=.row v' e (qI.size α) (nn+0)<|xs++[]) i hp hg.os hg.tape hg.output hg.size (fun c hc iw=>hg.block c hc<|fun e'=>iw e'.symm) ho (by
    rcases hbl with h|h
    ·exact Or.inl h
    ·exact Or.inr<|Or.inr ⟨_,h,Nat.le_refl _⟩)
   exact H'.add _ ⟨⟨J,J⟩,fun _=>yc.nil _⟩<|by simp[qX]
  ·simp only[Option.some.injEq,Addr.mk.injEq] at ha
   obtain⟨rfl,rfl,rfl⟩:=ha
   obtain⟨v',w',wo,ho,hg,_,axx⟩:=run_append_own_at (P:=P) w W0.heap.size t ty e i' z _ e9 hu hi Ue MH Tn zm h0 v nn xs ee ⟨b,off,none⟩ l.length c vs (reps_len hr)
    (fun k' u hk=>by rw[Addr.add_mid];exact hcells k' u hk) (reps_cells hr) hm hb H.base.size
   refine Xx v' (by simp[execOp,resolve,invoke,builtin,hs,hx,wo])<|k v' w' vs F' ?_<|by rw[hF];exact fun b hb=>List.mem_cons_of_mem _ hb
   have H0:St W0 w ps (qX fr F' vs l::Γ):=H.add _ ⟨hr,fun e=>(eJ e).sub<|by rw[hF];exact fun b hb=>List.mem_cons_of_mem _ hb⟩ fun b hb=>hfF b<|by show b∈F;rw[hF];exact List.mem_cons_of_mem _ hb
   exact H0.change i hp hg.os hg.tape hg.output hg.size (fun c hc iw=>hg.block c hc<|fun e'=>iw e'.symm) ho (by
    rcases axx with h|h
    ·exact Or.inl h
    ·exact Or.inr<|Or.inr ⟨_,h,Nat.le_refl _⟩)
theorem o_appendInts[Dfr]{s:Operand}(H:St W0 w ps Γ)(i:Nat)(hp:ps[i]? =some (.row v e 1 nn xs))
 (j:Nat) (hf:Γ[j]? =some (isF fr F (Sv a m c) l)) (hu:P.underlying t=some (.slice e)) (he:TI P e z 1 e9) (zm:z.cells.size=1) (hs:ev n ρ s=v)
 (hx:ev n ρ x=Sv a m c) (hm:nn+m<=maxLen) (hb:(nn+m)*e9 <=140737488355328)
 (k:∀v' w',St W0 w' (ps.set i<|.row v' e 1 (nn+m)<|xs++l.map (Value.int .i64)) Γ->K (upd ρ d v') w'):
 OW P Q ⟨some d,.call ⟨.builtin .append,#[s,x],#[t,t]⟩,ty,pos,af,none⟩ n ρ w K:=
 o_appendF (α:=Int) H i hp j hf hu he zm qj hs hx hm hb fun v' w' vs G H' _=>by
  obtain⟨_,rfl⟩:=reps_ints (H'.get 0 rfl).1
  exact k v' w'<|H'.sub _ fun f hf=>List.mem_cons_of_mem _ hf
theorem run_eqB{P:Program}(hu:P.underlying t=some .bool)(a b:Bool)(w:World):(Op.equal t (Bv a)<|Bv b).run P w=.ok (a == b) w:=by
 have h:∀d:Nat,(Op.equalIn (d+1) t (Bv a)<|Bv b).run P w=.ok (a == b) w:=fun d=>by simp[Op.equalIn,run_underlying hu]
 simp[Op.equal,Op.maxDepth,h 9999]
theorem o_eqB[Dfr](hu:P.underlying t=some .bool)(a b:Bool)(hx:ev n ρ x=Bv a)(hy:ev n ρ y=Bv b)(k:K (upd ρ d<|Bv<|a == b) w):
 OW P Q ⟨some d,.binOp .eql t x y u,ty,pos,af,none⟩ n ρ w K:=
 Xx _ (by simp[execOp,hx,hy,eqGuard,binOp,run_eqB hu]) k
theorem o_eqnil[Dfr](hu:P.underlying t=some (.slice e))(a:yOA)(m c:Nat)(hx:ev n ρ x=Sv a m c)(k:K (upd ρ d<|Bv a.isNone) w):
 OW P Q ⟨some d,.binOp .eql t x (.const<|Sv none 0 0) u,ty,pos,af,none⟩ n ρ w K:=
 Xx _ (by
  have hc:ev n ρ (.const<|Sv none 0 0)=Sv none 0 0:=rfl
  simp[execOp,hx,hc,eqGuard,Lib.run_eql_slice_nil w t e a m c 0 0 hu]) k
end
section
variable{W0 w : World}{ps : List Prv}{Γ : List Fact}
theorem St.rowRep{α:Type}[qI α](H:St W0 w ps Γ)(i:Nat)(hp:ps[i]? =some (.row v e (qI.size α) nn xs)){l:List α}
 (h:reps w F xs l) (hn:nn=l.length) (hF:∀b∈F,W0.heap.size<=b):
 ∃a c G,v=Sv a l.length c/\qI.rep w G [v] l/\∀b∈G,W0.heap.size<=b:=by
 subst hn
 obtain⟨hl,ho⟩:=(H.has _ (List.mem_of_getElem? hp):w.ownsRow W0.heap.size e (qI.size α) v l.length xs)
 rcases ho with ⟨rfl,h0⟩|⟨g,gA,gE,rfl,hb,hg,Zg,hcm,LJ,htake⟩
 ·have:l=[]:=List.eq_nil_of_length_eq_zero h0
  subst this
  exact⟨none,0,[],J,⟨none,0,J,by simp,Or.inl ⟨J,J⟩⟩,by simp⟩
 ·refine⟨_,gA,(if l=[] then [] else g::F),J,⟨some ⟨g,0,none⟩,gA,J,by unfold maxLen at hcm;omega,?_⟩,?_⟩
  ·by_cases h0:l=[]
   ·exact Or.inl ⟨h0,by simp[h0]⟩
   ·refine Or.inr ⟨g,0,F,xs,J,by simp[h0],(Array.getElem?_eq_some_iff.1 hg).1,h,?_⟩
    intro j u hj
    rw[Nat.zero_add,World.cell?,hg]
    rw[←htake,List.getElem?_take] at hj
    split at hj
    ·simpa using hj
    ·cases hj
  ·intro b hbm
   split at hbm
   ·simp at hbm
   ·rcases List.mem_cons.1 hbm with rfl|hbm
    ·exact hb
    ·exact hF b hbm
theorem St.rowInts(H:St W0 w ps Γ)(i:Nat)(hp:ps[i]? =some (.row v e 1 nn<|l.map<|Value.int .i64))(hn:nn=l.length):
 ∃a c G,v=Sv a l.length c/\qI.rep w G [v] l/\∀b∈G,W0.heap.size<=b:=
 H.rowRep (α:=Int) i hp (reps_of_ints w l) hn qm
theorem St.newInts(H:St W0 w ps Γ)(i:Nat)(hp:ps[i]? =some (.row v e 1 nn<|l.map<|Value.int .i64))(hn:nn=l.length):OwnNew W0 w e v l:=by
 subst hn
 exact⟨_,[],H.has _<|List.mem_of_getElem? hp,reps_of_ints w l,by simp,by simp,by simp,yc.nil _⟩
theorem St.newRow{α:Type}[qI α](H:St W0 w ps Γ)(i:Nat)(hp:ps[i]? =some (.row v e (qI.size α) nn xs))(j:Nat){l:List α}
 (hf:Γ[j]? =some (qX true F xs l)) (hn:nn=l.length) (hF:∀b∈F,W0.heap.size<=b) (hd:F.Nodup):OwnNew W0 w e v l:=by
 subst hn
 refine⟨_,F,H.has _<|List.mem_of_getElem? hp,(H.get j hf).1,hF,fun b hb he=>((H.facts _<|List.mem_of_getElem? hf).2 b hb).2 i ?_,hd,(H.get j hf).2 J⟩
 simpa [yY,hp,Prv.blk] using he
theorem St.addr{α:Type}[qI α](H:St W0 w ps Γ)(i:Nat){l:List α}(hf:Γ[i]? =some (isF fr F (Sv a m c) l))(hl:0<l.length):∃b o,a=some ⟨b,o,none⟩:=by
 obtain⟨⟨a',gA,hc,_,h⟩,_⟩:=H.get i hf
 simp only[List.cons.injEq,Value.slice.injEq,and_true] at hc
 obtain⟨rfl,rfl,rfl⟩:=hc
 rcases h with ⟨rfl,_⟩|⟨b,off,F',vs,rfl,_⟩
 ·simp at hl
 ·exact⟨b,off,J⟩
theorem St.elem{α:Type}[qI α][Inhabited α](H:St W0 w ps Γ)(i:Nat){l:List α}(hf:Γ[i]? =some (isF fr F (Sv (some ⟨b,o,none⟩) m c) l))(iv:Int)(h0:0<=iv)(h1:iv<l.length):
 ∃cs Fk,jO w b (o+iv.toNat*qI.size α) cs/\qI.rep w Fk cs (l[iv.toNat]!)/\∀x∈b::Fk,x∈F:=by
 obtain⟨⟨a',gA,hc,hl,h⟩,_⟩:=H.get i hf
 simp only[List.cons.injEq,Value.slice.injEq,and_true] at hc
 obtain⟨rfl,rfl,rfl⟩:=hc
 have hk:iv.toNat<l.length:=by omega
 rcases h with ⟨rfl,_⟩|⟨b',off,F',vs,ha,hF,hb,hr,hcells⟩
 ·simp at hk
 ·simp only[Option.some.injEq,Addr.mk.injEq,and_true] at ha
  obtain⟨rfl,rfl⟩:=ha
  obtain⟨F1,Fk,F2,v1,cs,v2,dA,Fe,E5,LJ,acL,_,_⟩:=reps_get hr _ hk
  refine⟨cs,Fk,?_,by rw[getElem!_pos l iv.toNat hk];exact acL,?_⟩
  ·rw[Fe] at hcells
   rw[←E5]
   exact cells_mid hcells
  ·intro x hx
   rw[hF,dA]
   rcases List.mem_cons.1 hx with rfl|hx
   ·exact List.mem_cons_self ..
   ·exact List.mem_cons_of_mem _<|List.mem_append_left _<|List.mem_append_right _ hx
theorem St.elemInt(H:St W0 w ps Γ)(i:Nat)(hf:Γ[i]? =some (isF fr F (Sv (some ⟨b,o,none⟩) m c) l))(iv:Int)(h0:0<=iv)(h1:iv<l.length):
 w.cell? ⟨b,o+iv.toNat*1,none⟩=some (.int .i64<|l[iv.toNat]!):=by
 obtain⟨cs,Fk,h2,h3,_⟩:=H.elem i hf iv h0 h1
 obtain⟨_,rfl⟩:Fk=[]/\cs=[.int .i64 l[iv.toNat]!]:=h3
 exact h2 0 _ J
theorem St.elemBool(H:St W0 w ps Γ)(i:Nat){l:List Bool}(hf:Γ[i]? =some (isF fr F (Sv (some ⟨b,o,none⟩) m c) l))(iv:Int)(h0:0<=iv)(h1:iv<l.length):
 w.cell? ⟨b,o+iv.toNat*1,none⟩=some (Bv<|l[iv.toNat]!):=by
 obtain⟨cs,Fk,h2,h3,_⟩:=H.elem i hf iv h0 h1
 obtain⟨_,rfl⟩:Fk=[]/\cs=[Bv l[iv.toNat]!]:=h3
 exact h2 0 _ J
theorem St.sel(H:St W0 w ps Γ)(nP :List Prv)(hps:nP.Sublist ps)(Γ':List Fact)(hΓ:∀f∈Γ',f∈Γ):St W0 w nP Γ':=by
 have aj5:ps.Pairwise fun p q=>∀b,p.blk=some b->q.blk≠some b:=by
  rw[List.pairwise_iff_getElem]
  intro i j hi hj hij b h1 h2
  have:=H.dist i j b (by simp[yY,hi,h1])<|by simp[yY,hj,h2]
  omega
 have Gv :=aj5.sublist hps
 refine⟨H.base,fun p hp=>H.has p<|hps.subset hp,?_,fun f hf=>⟨(H.facts f<|hΓ f hf).1,fun b hb=>⟨((H.facts f<|hΓ f hf).2 b hb).1,fun i hi=>?_⟩⟩⟩
 ·intro i j b hi hj
  unfold yY at hi hj
  rw[List.pairwise_iff_getElem] at Gv
  cases h1:nP[i]? with
  |none=>simp[h1] at hi
  |some p=>
   cases h2:nP[j]? with
   |none=>simp[h2] at hj
   |some q=>
    obtain⟨CU,e1⟩:=List.getElem?_eq_some_iff.1 h1
    obtain⟨RF,e2⟩:=List.getElem?_eq_some_iff.1 h2
    simp only[h1,Option.bind_some] at hi
    simp only[h2,Option.bind_some] at hj
    rcases Nat.lt_trichotomy i j with h|h|h
    ·exact absurd (by rw[e2];exact hj)<|Gv i j CU RF h b<|by rw[e1];exact hi
    ·exact h
    ·exact absurd (by rw[e1];exact hi)<|Gv j i RF CU h b<|by rw[e2];exact hj
 ·unfold yY at hi
  cases h1:nP[i]? with
  |none=>simp[h1] at hi
  |some p=>
   simp only[h1,Option.bind_some] at hi
   obtain⟨j,hj⟩:=List.getElem?_of_mem<|hps.subset<|List.mem_of_getElem? h1
   exact((H.facts f<|hΓ f hf).2 b hb).2 j<|by simp[yY,hj,hi]
end
section
variable{W0 w w': World}{ps : List Prv}{Γ : List Fact}
theorem ownsRow_up{B':Nat}(h:w.ownsRow B e sz v n xs)(hb:B' <=B):w.ownsRow B' e sz v n xs:=by
 refine⟨h.1,?_⟩
 rcases h.2 with h|⟨g,gA,gE,h1,h2,r⟩
 ·exact Or.inl h
 ·exact Or.inr ⟨g,gA,gE,h1,Nat.le_trans hb h2,r⟩
theorem St.zy(H:St W0 w ps Γ)(e:Ext w w')(h:OwnNew w w' t v l):
 St W0 w' (.row v t 1 l.length (l.map<|Value.int .i64)::ps) Γ:=by
 obtain⟨xs,F,ho,hr,hF,_⟩:=h
 obtain⟨_,rfl⟩:=reps_ints hr
 exact H.own e (.row v t _ l.length _) (ownsRow_up ho H.base.size) fun b hb=>(World.ownsRow.lt ho b hb).1
end
section
variable{W0 w : World}{ps : List Prv}{Γ : List Fact}
theorem St.yF{α:Type}[qI α](H:St W0 w ps Γ):St W0 w ps (qX true [] [] ([]:List α)::Γ):=H.add _ ⟨⟨rfl,rfl⟩,fun _=>yc.nil _⟩<|by simp[qX]
theorem St.QK{α:Type}[qI α](H:St W0 w ps Γ)(i:Nat){l:List α}(hf:Γ[i]? =some (qX fr F xs l))(j:Nat){x:α}(hg:Γ[j]? =some (isF fr G v x)):
 St W0 w ps (qX fr (F++G) (xs++[v]) (l++[x])::Γ):=by
 refine H.add _ ⟨Qc (H.get i hf).1<|reps_one (H.get j hg).1,fun e=>((H.get i hf).2 e).app ((H.get j hg).2 e)⟩ fun b hb=>?_
 rcases List.mem_append.1 hb with h|h
 ·exact(H.facts _<|List.mem_of_getElem? hf).2 b h
 ·exact(H.facts _<|List.mem_of_getElem? hg).2 b h
end
theorem ownNew_nil{α:Type}[qI α](w0 w:World)(e:TypeId):OwnNew w0 w e (Sv none 0 0) ([]:List α):=
 ⟨[],[],World.ownsRow_nil _ _ _ _,⟨rfl,rfl⟩,by simp,by simp,by simp,yc.nil _⟩
theorem St.nilOf{α:Type}[qI α]{ps:List Prv}{Γ:List Fact}(H:St W0 w ps Γ)(i:Nat){l:List α}(hf:Γ[i]? =some (isF fr F (Sv a m c) l))(ha:a.isNone=true):l=[]:=by
 obtain⟨⟨a',gA,hc,_,h⟩,_⟩:=H.get i hf
 simp only[List.cons.injEq,Value.slice.injEq,and_true] at hc
 obtain⟨rfl,rfl,rfl⟩:=hc
 rcases h with ⟨rfl,_⟩|⟨b,off,F',vs,rfl,_⟩
 ·rfl
 ·simp at ha
section
variable{P : Program}{n : Nat}{ρ : Env}{W0 w : World}{ps : List Prv}{Γ : List Fact}
theorem retC{fn:Func}{R:Ending->World->Prop}{t:Nat}(H:St W0 w ps Γ)(i:Nat)(hp:ps[i]? =some (.box b cs tb))(hr:fn.results=#[.cell t T])
 (ha:∀w,(isAgg T).run P w=.ok true w) (hs:∀w,(Go.sizeOf T).run P w=.ok cs.length w) (hv:ev n ρ (.tmp t)=.pointer (some ⟨b,0,none⟩)) (h:R (.returned<|.agg cs.toArray) w):bodyPost P fn R .ret (mk n ρ) w:=by
 have hl:=run_loadCells_list (P:=P) w ⟨b,0,none⟩ cs (fun j v hv=>by rw[Addr.add_mid];exact H.cells i hp j v hv)
 have e:=congrFun (XV n ρ)<|.tmp t
 simp only[Act.eval,Array.getD_eq_getD_getElem?] at e
 rw[hv] at e
 exact bodyPost_ret (v:=.agg cs.toArray) (by simp[results,hr,e,asAddr,loadVar,ha,hs,hl]) J h
theorem retC2{fn:Func}{R:Ending->World->Prop}{t u:Nat}(H:St W0 w ps Γ)(i:Nat)(hp:ps[i]? =some (.box b cs tb))(x:Value)(hr:fn.results=#[.cell t T,.tmp u])
 (ha:∀w,(isAgg T).run P w=.ok true w) (hs:∀w,(Go.sizeOf T).run P w=.ok cs.length w) (hv:ev n ρ (.tmp t)=.pointer (some ⟨b,0,none⟩)) (hx:ev n ρ (.tmp u)=x)
 (h:R (.returned<|.tuple #[.agg cs.toArray,x]) w):bodyPost P fn R .ret (mk n ρ) w:=by
 have hl:=run_loadCells_list (P:=P) w ⟨b,0,none⟩ cs (fun j v hv=>by rw[Addr.add_mid];exact H.cells i hp j v hv)
 have e:=congrFun (XV n ρ)<|.tmp t
 have e':=congrFun (XV n ρ)<|.tmp u
 simp only[Act.eval,Array.getD_eq_getD_getElem?] at e e'
 rw[hv] at e
 rw[hx] at e'
 exact bodyPost_ret (v:=.tuple #[.agg cs.toArray,x]) (by simp[results,hr,e,e',asAddr,loadVar,ha,hs,hl]) J h
end
section
variable{P : Program}{Q : Exit -> Act -> World -> Prop}{n : Nat}{ρ : Env}{w : World}{S : World -> Prop}{l : List Oper}{fuel : Nat}{ae : Array Bool}
@[irreducible] def RW[Dfr](P : Program)(l : List Oper)(Q : Exit -> Act -> World -> Prop)(S : World -> Prop)(n fuel : Nat)(ae : Array Bool)(ρ : Env)(w : World) : Prop :=
 wpAnyH P .any l.toArray Q S fuel ae (mk n ρ) w
theorem c_draw[Dfr](S:World->Prop)(hm:P.follows .mixedOrders=true)(hS:S w.drew)(h:RW P l Q S n l.toArray.size (Array.replicate l.toArray.size false) ρ w.drew):
 (Code.region id l.toArray true).wp P Q (mk n ρ) w:=
 wp_region_held_drew hm hS fun _=>by unfold RW at h;exact h
theorem r_take[Dfr]{op:Op}{pos:String}{af:Array Edge}(i:Nat)(v:Value)(hi:l.toArray[i]? =some ⟨some d,op,ty,pos,af,none⟩)(abP:Region.noSelect l.toArray=true)
 (Oi:Region.free .any l.toArray ae i=true) (Fg:(Region.ready .any l.toArray ae).contains i=true) (hQ:∀c a w,Q (.panic c) (a.put (some d) v) w->Q (.panic c) a w)
 (hy:∀w',S w' ->(execOp (ev n ρ) ⟨some d,op,ty,pos,af,none⟩).run P w'=.ok (.value v) w') (hS:S w) (h:RW P l Q S n fuel (ae.setIfInBounds i true) (upd ρ d v) w):
 RW P l Q S n (fuel+1) ae ρ w:=by
 unfold RW at h ⊢
 refine wpAnyH_take hi abP Oi Fg hQ (Or.inl ⟨J,fun w' hw'=>by rw[XV];exact hy w' hw'⟩) hS ?_
 show wpAnyH P .any l.toArray Q S fuel _ ((mk n ρ).put (some d) v) w
 rw[mk_put]
 exact h
theorem r_takeG[Dfr]{e:Nat}{b:Bool}{op:Op}{pos:String}{af:Array Edge}(i:Nat)(v:Value)(hi:l.toArray[i]? =some ⟨some d,op,ty,pos,af,some (j,b)⟩)(abP:Region.noSelect l.toArray=true)
 (Oi:Region.free .any l.toArray ae i=true) (Fg:(Region.ready .any l.toArray ae).contains i=true) (hQ:∀c a w,Q (.panic c) (a.put (some d) v) w->Q (.panic c) a w)
 (hd:dstAt l j=some e) (hv:ev n ρ (.tmp e)=Bv b)
 (hy:∀w',S w' ->(execOp (ev n ρ) ⟨some d,op,ty,pos,af,some (j,b)⟩).run P w'=.ok (.value v) w') (hS:S w) (h:RW P l Q S n fuel (ae.setIfInBounds i true) (upd ρ d v) w):
 RW P l Q S n (fuel+1) ae ρ w:=by
 unfold RW at h ⊢
 refine wpAnyH_take hi abP Oi Fg hQ (Or.inl ⟨by simp[Region.wanted,yielded_of ((dstAt_eq l j).trans hd) hv],fun w' hw'=>by rw[XV];exact hy w' hw'⟩) hS ?_
 show wpAnyH P .any l.toArray Q S fuel _ ((mk n ρ).put (some d) v) w
 rw[mk_put]
 exact h
theorem xx[Dfr](hr:Region.ready .any l.toArray ae=[])(h:Q .normal (mk n ρ) w):RW P l Q S n fuel ae ρ w:=by
 unfold RW
 exact wpAnyH_done hr h fuel
theorem jw[Dfr](rs:yLN)(hr:Region.ready .any l.toArray ae=rs)(iw:rs≠[])(h:AllReadyH P .any l.toArray Q S fuel ae (mk n ρ) w rs):RW P l Q S n (fuel+1) ae ρ w:=by
 unfold RW
 exact wpAnyH_ready hr iw h
theorem yl[Dfr]{op:Op}{pos:String}{af:Array Edge}(hi:l.toArray[i]? =some ⟨dst,op,ty,pos,af,none⟩)
 (h:OW P Q ⟨dst,op,ty,pos,af,none⟩ n ρ w fun ρ w=>S w/\RW P l Q S n fuel (ae.setIfInBounds i true) ρ w) (hs:AllReadyH P .any l.toArray Q S fuel ae (mk n ρ) w rs):
 AllReadyH P .any l.toArray Q S fuel ae (mk n ρ) w (i::rs):=by
 refine AllReadyH.cons hi (fun K' hK=>?_) hs
 unfold OW at h
 rw[if_pos<|by rfl]
 refine h K' fun ρ' w' ⟨h1,h2⟩=>hK.out _ _ h1 fun _=>?_
 unfold RW at h2
 exact h2
theorem Vu[Dfr]{op:Op}{pos:String}{af:Array Edge}{e:Nat}{b:Bool}(hi:l.toArray[i]? =some ⟨dst,op,ty,pos,af,some (j,b)⟩)
 (hd:dstAt l j=some e) (hv:ev n ρ (.tmp e)=Bv b)
 (h:OW P Q ⟨dst,op,ty,pos,af,none⟩ n ρ w fun ρ w=>S w/\RW P l Q S n fuel (ae.setIfInBounds i true) ρ w) (hs:AllReadyH P .any l.toArray Q S fuel ae (mk n ρ) w rs):
 AllReadyH P .any l.toArray Q S fuel ae (mk n ρ) w (i::rs):=by
 refine AllReadyH.cons hi (fun K' hK=>?_) hs
 unfold OW at h
 rw[if_pos<|by simp[Region.wanted,yielded_of ((dstAt_eq l j).trans hd) hv]]
 have:=h K' fun ρ' w' ⟨h1,h2⟩=>hK.out _ _ h1 fun _=>(by unfold RW at h2;exact h2)
 exact this
section
variable{d : Nat}{ty : TypeId}{pos : String}{af : Array Edge}{gd : Option (Nat × Bool)}
theorem y_pure{op:Op}(h:pv (ev n ρ) op=some v):∀w',S w' ->(execOp (ev n ρ) ⟨some d,op,ty,pos,af,gd⟩).run P w'=.ok (.value v) w':=
 fun w' _=>pv_run (by exact h) w'
theorem y_add(a b:Int)(hx:ev n ρ x=.int .i64 a)(hy:ev n ρ y=.int .i64 b)(h: -9223372036854775808<=a+b/\a+b<=9223372036854775807):
 ∀w',S w' ->(execOp (ev n ρ) ⟨some d,.binOp .add t x y u,ty,pos,af,gd⟩).run P w'=.ok (.value<|.int .i64<|a+b) w':=
 fun w' _=>by simp[execOp,hx,hy,eqGuard,binOp,Op.intArith,wrap_in h]
theorem y_sub(a b:Int)(hx:ev n ρ x=.int .i64 a)(hy:ev n ρ y=.int .i64 b)(h: -9223372036854775808<=a-b/\a-b<=9223372036854775807):
 ∀w',S w' ->(execOp (ev n ρ) ⟨some d,.binOp .sub t x y u,ty,pos,af,gd⟩).run P w'=.ok (.value<|.int .i64<|a-b) w':=
 fun w' _=>by simp[execOp,hx,hy,eqGuard,binOp,Op.intArith,wrap_in h]
theorem y_mul(a b:Int)(hx:ev n ρ x=.int .i64 a)(hy:ev n ρ y=.int .i64 b)(h: -9223372036854775808<=a*b/\a*b<=9223372036854775807):
 ∀w',S w' ->(execOp (ev n ρ) ⟨some d,.binOp .mul t x y u,ty,pos,af,gd⟩).run P w'=.ok (.value<|.int .i64<|a*b) w':=
 fun w' _=>by simp[execOp,hx,hy,eqGuard,binOp,Op.intArith,wrap_in h]
theorem y_len(hu:P.underlying t=some (.slice e))(a:yOA)(m c:Nat)(hx:ev n ρ x=Sv a m c):
 ∀w',S w' ->(execOp (ev n ρ) ⟨some d,.call ⟨.builtin .len,#[x],#[t]⟩,ty,pos,af,gd⟩).run P w'=.ok (.value<|.int .i64 m) w':=
 fun w' _=>by simp[execOp,resolve,invoke,builtin,Builtin.len_,hx,run_underlying hu,goInt]
theorem y_field{fs:Array Field}{f:Field}(b off j:Nat)(hu:P.underlying t=some (.struct fs))(hf:fs[i]? =some f)(hj:f.offset=j)
 (hs:∀w,(Go.sizeOf f.type).run P w=.ok (m+1) w) (hx:ev n ρ x=.pointer (some ⟨b,off,none⟩)):
 ∀w',S w' ->(execOp (ev n ρ) ⟨some d,.fieldAddr t x i,ty,pos,af,gd⟩).run P w'=.ok (.value<|.pointer<|some ⟨b,off+j,none⟩) w':=
 fun w' _=>by subst hj;simp[execOp,hx,Instr.fieldAt,Instr.sureAddr,fieldPlace,run_underlying hu,hf,hs,Addr.add_mid]
theorem y_idxAt(b off m c:Nat)(iv:Int)(hu:P.underlying t=some (.slice e))(he:TI P e z sz e9)
 (hx:ev n ρ x=Sv (some ⟨b,off,none⟩) m c) (hy:ev n ρ y=.int .i64 iv) (h0:0<=iv) (h1:iv<m):
 ∀w',S w' ->(execOp (ev n ρ) ⟨some d,.indexAddr t x y,ty,pos,af,gd⟩).run P w'=.ok (.value<|.pointer<|some ⟨b,off+iv.toNat*sz,none⟩) w':=
 fun w' _=>by simp[execOp,hx,hy,Instr.indexAt,asIntOf,run_underlying hu,he.sizeOf,h0,h1,Addr.add_mid]
theorem jZ(ha:∀w,(isAgg t).run P w=.ok false w)(hx:ev n ρ x=.pointer (some ⟨b,off,none⟩))
 (hc:∀w',S w' ->w'.cell? ⟨b,off,none⟩=some v):∀w',S w' ->(execOp (ev n ρ) ⟨some d,.load t x,ty,pos,af,gd⟩).run P w'=.ok (.value v) w':=
 fun w' h=>by simp[execOp,hx,run_load1 ha<|hc w' h]
theorem yP(ha:∀w,(isAgg t).run P w=.ok true w)(hs:∀w,(Go.sizeOf t).run P w=.ok cs.length w)
 (hx:ev n ρ x=.pointer (some ⟨b,off,none⟩)) (hc:∀w',S w' ->jO w' b off cs):∀w',S w' ->(execOp (ev n ρ) ⟨some d,.load t x,ty,pos,af,gd⟩).run P w'=.ok (.value<|.agg cs.toArray) w':=
 fun w' h=>by simp[execOp,hx,run_loadN ha hs<|hc w' h]
end
theorem jy[Dfr]:AllReadyH P .any l.toArray Q S fuel ae (mk n ρ) w []:=AllReadyH.nil
end
end
variable{f g:Fact}{ps nP:List Prv}{Γ Γ':List Fact}{ρ:Env}
section
def inR(n lo hi:Int):Bool:=decide (lo<=n) && decide (n<=hi)
theorem inR_no{n:Int}(h:¬lo<=n):inR n lo hi=false:=by simp[inR,h]
theorem inR_yes{n:Int}(h:lo<=n):inR n lo hi=decide (n<=hi):=by simp[inR,h]
theorem QW{n:Int}:inR n lo hi=true<->lo<=n/\n<=hi:=by simp[inR]
theorem Xl{n:Int}(h:inR n lo hi=false):¬(lo<=n/\n<=hi):=fun h'=>by rw[QW.2 h'] at h;cases h
def withinTo(l m:yLI)(j:Nat):Prop:=∀k,k<j->l[k]! <=m[k]!
theorem withinTo_zero(l m:yLI):withinTo l m 0:=fun k hk=>by omega
theorem withinTo_succ{m:yLI}(h:withinTo l m k)(h1:l[k]! <=m[k]!):withinTo l m (k+1):=fun j hj=>by
 by_cases hjk:j=k
 ·subst hjk;exact h1
 ·exact h j qf
open Classical in
noncomputable def within(l m:yLI):Bool:=decide<|withinTo l m l.length
theorem within_iff{m:yLI}:within l m=true<->withinTo l m l.length:=by simp[within]
theorem within_no{m:yLI}(h:l[k]!>m[k]!)(hk:k<l.length):within l m=false:=by
 cases hw:within l m with
 |false=>rfl
 |true=>have:=within_iff.1 hw k hk;omega
theorem within_yes{m:yLI}(h:withinTo l m k)(hk:l.length<=k):within l m=true:=within_iff.2 fun j hj=>h j qf
theorem eqTo_succ{α:Type}[Inhabited α]{l m:List α}(hl:l.length=m.length)(hk:k<l.length)(h:l.take k=m.take k)(h1:l[k]! =m[k]!):l.take (k+1)=m.take (k+1):=by
 rw[List.take_succ_eq_append_getElem hk,List.take_succ_eq_append_getElem qf,h]
 rw[getElem!_pos l k hk,getElem!_pos m k qf] at h1
 rw[h1]
theorem eq_of_take{α:Type}{l m:List α}(hl:l.length=m.length)(hk:l.length<=k)(h:l.take k=m.take k):l=m:=by
 rwa [List.take_of_length_le hk,List.take_of_length_le qf] at h
theorem ne_of_get{α:Type}[Inhabited α]{l m:List α}(h:l[k]! ≠m[k]!):l≠m:=fun e=>h<|by rw[e]
theorem take_snoc{α:Type}[Inhabited α]{l:List α}(hk:k<l.length):l.take k++[l[k]!]=l.take (k+1):=by
 rw[List.take_succ_eq_append_getElem hk,getElem!_pos l k hk]
def Small(l:yLI):Prop:=l.length<=1000000/\∀k,k<l.length-> -1000000000<=l[k]! /\l[k]! <=1000000000
def Mid(l:yLI):Prop:=l.length<=1000000/\∀k,k<l.length-> -1000000000000000<=l[k]! /\l[k]! <=1000000000000000
theorem Small.mid(h:Small l):Mid l:=⟨h.1,fun k hk=>by have:=h.2 k hk;omega⟩
def sumTo(l:yLI):Nat->Int
 |0=>0
 |k+1=>sumTo l k+l[k]!
def Yk(l:yLI):Int:=sumTo l l.length
theorem sumTo_bd{l:yLI}(h:Small l):∀k,k<=l.length-> -(1000000000*(k:Int))<=sumTo l k/\sumTo l k<=1000000000*(k:Int)
 |0,_=>by simp[sumTo]
 |k+1,hk=>by
  have h1:=sumTo_bd h k qf
  have h2:=h.2 k qf
  simp only[sumTo]
  omega
theorem sumTo_small(h:Small l)(hk:k<=l.length): -1000000000000000<=sumTo l k/\sumTo l k<=1000000000000000:=by
 have h1:=sumTo_bd h k hk
 have h2:=h.1
 omega
def firstIdx(g:Nat->Bool)(n:Nat):Int:=match (List.range n).find? g with|some k=>k|none=> -1
theorem firstIdx_some{g:Nat->Bool}(hk:k<n)(h:∀j,j<k->g j=false)(h1:g k=true):firstIdx g n=k:=by
 have:(List.range n).find? g=some k:=by
  rw[List.find?_range_eq_some]
  exact⟨h1,by simpa using hk,fun j hj=>by simp[h j hj]⟩
 simp[firstIdx,this]
theorem firstIdx_none{g:Nat->Bool}(h:∀j,j<n->g j=false):firstIdx g n= -1:=by
 have:(List.range n).find? g=none:=by
  rw[List.find?_range_eq_none]
  exact fun j hj=>by simp[h j hj]
 simp[firstIdx,this]
def noneTo(g:Nat->Bool)(k:Nat):Prop:=∀j,j<k->g j=false
theorem noneTo_succ{g:Nat->Bool}(h:noneTo g k)(h1:g k=false):noneTo g (k+1):=fun j hj=>by
 by_cases hjk:j=k
 ·subst hjk;exact h1
 ·exact h j qf
open Classical in
noncomputable def anyTo(g:Nat->Bool)(n:Nat):Bool:=decide (∃k,k<n/\g k=true)
theorem anyTo_first(g:Nat->Bool)(n:Nat):decide (firstIdx g n>=0)=anyTo g n:=by
 by_cases h:∃k,k<n/\g k=true
 ·have hs:((List.range n).find? g).isSome:=by
   rw[List.find?_isSome]
   obtain⟨k,h1,h2⟩:=h
   exact⟨k,by simpa using h1,h2⟩
  obtain⟨k,hk⟩:=Option.isSome_iff_exists.1 hs
  simp[firstIdx,hk,anyTo,h]
 ·have:(List.range n).find? g=none:=by
   rw[List.find?_range_eq_none]
   intro j hj
   cases hg:g j with
   |false=>rfl
   |true=>exact absurd ⟨j,hj,hg⟩ h
  simp[firstIdx,this,anyTo,h]
theorem anyTo_iff{g:Nat->Bool}:anyTo g n=true<->∃k,k<n/\g k=true:=by simp[anyTo]
theorem anyTo_false{g:Nat->Bool}:anyTo g n=false<->noneTo g n:=by
 rw[←Bool.not_eq_true,anyTo_iff]
 constructor
 ·intro h j hj
  cases hg:g j with
  |false=>rfl
  |true=>exact absurd ⟨j,hj,hg⟩ h
 ·rintro h ⟨k,h1,h2⟩
  rw[h k h1] at h2;cases h2
def isCnt(n:Int):Bool:=inR n 0 1000
def tabTo(g:Nat->Int)(k:Nat):yLI:=(List.range k).map g
theorem tabTo_succ(g:Nat->Int)(k:Nat):tabTo g (k+1)=tabTo g k++[g k]:=by simp[tabTo,List.range_succ]
@[simp] theorem tabTo_len(g : Nat -> Int)(k : Nat) : (tabTo g k).length = k := by simp[tabTo]
def XG(m:yLI)(t:Int):Prop:=∀k,k<m.length-> -1000000000000000<=t*m[k]! /\t*m[k]! <=1000000000000000
def plusTo(l m:yLI)(t:Int)(k:Nat):yLI:=(List.range k).map fun j=>l[j]! +t*m[j]!
def vX(l m:yLI)(t:Int):yLI:=plusTo l m t l.length
theorem plusTo_succ(l m:yLI)(t:Int)(k:Nat):plusTo l m t (k+1)=plusTo l m t k++[l[k]! +t*m[k]!]:=by simp[plusTo,List.range_succ]
theorem QL(l m:yLI)(t:Int):(vX l m t).length=l.length:=by simp[vX,plusTo]
noncomputable def dec(p:Prop):Bool:=@decide p<|Classical.propDecidable p
theorem QD(h:p):dec p=true:=by simp[dec,h]
theorem xH(h:¬p):dec p=false:=by simp[dec,h]
theorem Qy(h:dec p=true):p:=by simpa [dec] using h
theorem vS(h:dec p=false):¬p:=by simpa [dec] using h
theorem dec_eq{b:Bool}(h:b=true<->p):b=dec p:=by
 cases b
 ·exact(xH fun hp=>by simp at h;exact h hp).symm
 ·exact(QD<|h.1 J).symm
theorem dec_congr{q:Prop}(h:p<->q):dec p=dec q:=by rw[show p=q from propext h]
def Counts(l:yLI)(k:Nat):Prop:=∀j,j<k->0<=l[j]! /\l[j]! <=1000
theorem Counts.zero(l:yLI):Counts l 0:=fun j hj=>by omega
theorem Counts.succ(h:Counts l k)(h1:0<=l[k]! /\l[k]! <=1000):Counts l (k+1):=fun j hj=>by
 by_cases e:j=k
 ·subst e;exact h1
 ·exact h j qf
def Yj(l:yLI):Prop:=Counts l l.length/\1<=l.length/\l.length<=8
def jd(n:Int)(l:yLI):Prop:=Yj l/\(l.length:Int)=n
theorem XD(h:Yj l):Small l:=⟨by have:=h.2.2;omega,fun k hk=>by have:=h.1 k hk;omega⟩
theorem ja{n:Int}(h:jd n l):Small l:=XD h.1
theorem isCnt_iff{n:Int}:isCnt n=true<->0<=n/\n<=1000:=QW
theorem anyCnt_iff:(!anyTo (fun k=> !isCnt l[k]!) l.length)=true<->Counts l l.length:=by
 rw[Bool.not_eq_true',anyTo_false]
 constructor
 ·intro h j hj
  have:=h j hj
  simp only[Bool.not_eq_false'] at this
  exact isCnt_iff.1 this
 ·intro h j hj
  simp only[Bool.not_eq_false']
  exact isCnt_iff.2<|h j hj
class Tot(α:Type) where
 tot:α->Nat
open Go.Proofs.YtghikkinnchndaaGreat.Tot (tot)
instance:Tot Int:=⟨fun _=>0⟩
instance:Tot Bool:=⟨fun _=>0⟩
section
variable{α : Type}[Tot α][Inhabited α]
def totTo(l:List α):Nat->Nat
 |0=>0
 |k+1=>totTo l k+tot l[k]!
instance:Tot (List α):=⟨fun l=>l.length+totTo l l.length⟩
theorem tot_list(l:List α):tot l=l.length+totTo l l.length:=rfl
theorem totTo_succ(l:List α)(k:Nat):totTo l (k+1)=totTo l k+tot (l[k]!):=rfl
end
end
open Go.Proofs.YtghikkinnchndaaGreat.Tot (tot)
section
structure Chg(F:yLN)(w w':World):Prop where
 os:w'.os=w.os
 tape:w'.tape=w.tape
 output:w'.output=w.output
 size:w.heap.size<=w'.heap.size
 block:∀k,k<w.heap.size->k∉F->w'.heap[k]? =w.heap[k]?
theorem Chg.refl(F:yLN)(w:World):Chg F w w:=⟨rfl,rfl,rfl,Nat.le_refl _,fun _ _ _=>rfl⟩
theorem Chg.mono(h:Chg F w w')(hs:∀b∈F,b∈G):Chg G w w':=⟨h.os,h.tape,h.output,h.size,fun k hk hn=>h.block k hk fun hb=>hn<|hs k hb⟩
theorem Chg.trans{F:yLN}{a b c:World}(h:Chg F a b)(k:Chg F b c):Chg F a c:=
 ⟨k.os.trans h.os,k.tape.trans h.tape,k.output.trans h.output,Nat.le_trans h.size k.size,fun i hi hn=>(k.block i (Nat.lt_of_lt_of_le hi h.size) hn).trans<|h.block i hi hn⟩
theorem Chg.rebase{W:World}(h:Ext W w)(e:Chg F w w'):∃W',Chg F W W' /\W'.heap.size=W.heap.size/\Ext W' w':=by
 refine⟨{ W with heap:=W.heap.mapIdx fun i o=>if i∈F then (w'.heap[i]?).getD o else o },⟨J,J,J,by simp,fun k hk hn=>?_⟩,by simp,⟨e.os.trans h.os,e.tape.trans h.tape,e.output.trans h.output,?_,fun k hk=>?_⟩⟩
 ·simp[hk,hn]
 ·simpa using Nat.le_trans h.size e.size
 ·have CT :k<W.heap.size:=by simpa using hk
  by_cases hF:k∈F
  ·have h2:k<w'.heap.size:=Nat.lt_of_lt_of_le CT (Nat.le_trans h.size e.size)
   simp[CT,hF,h2]
  ·have h1:=(e.block k (Nat.lt_of_lt_of_le CT h.size) hF).trans (h.block k CT)
   rw[h1]
   simp[CT,hF]
section
variable{W w w': World}{ps : List Prv}{Γ : List Fact}
end
section
variable{α : Type}[qI α]
variable{W w : World}{ps : List Prv}{Γ : List Fact}
variable{P : Program}{Q : Exit -> Act -> World -> Prop}{n : Nat}{ρ : Env}{d : Nat}{ty : TypeId}{pos : String}{af : Array Edge}{K : Env -> World -> Prop}
end
section
variable{P : Program}{Q : Exit -> Act -> World -> Prop}{n : Nat}{ρ : Env}{w : World}{d : Nat}{ty : TypeId}{pos : String}{af : Array Edge}{K : Env -> World -> Prop}
theorem o_rem[Dfr](a b:Int)(hx:ev n ρ x=.int .i64 a)(hy:ev n ρ y=.int .i64 b)(h0:0<=a)(h1:0<b)(h2:a<=9223372036854775807)(k:K (upd ρ d<|.int .i64<|a % b) w):
 OW P Q ⟨some d,.binOp .rem t x y u,ty,pos,af,none⟩ n ρ w K:=
 Xx _ (by
  have e:a.tmod b=a % b:=Int.tmod_eq_emod_of_nonneg h0
  simp[execOp,hx,hy,eqGuard,binOp,Op.intDiv,show b≠0 by omega,e]) k
end
class Mark(α:Type) where
 dc:α->Nat
 mrk:α->Int->α
 mkd:α->Int->Prop
 mkd_mark:∀x k,mkd (mrk x k) k
 cnt_mark:∀x k,dc (mrk x k)=dc x
open Go.Proofs.YtghikkinnchndaaGreat.Mark (dc mrk mkd mkd_mark cnt_mark)
instance:Mark Int:=⟨fun _=>1,fun _ k=>k,fun x k=>x=k,fun _ _=>rfl,fun _ _=>rfl⟩
instance:Mark Bool:=⟨fun _=>1,fun _ k=>k % 3 == 0,fun x k=>x=(k % 3 == 0),fun _ _=>rfl,fun _ _=>rfl⟩
section
variable{α : Type}[Mark α][Inhabited α]
def cntTo(l:List α):Nat->Nat
 |0=>0
 |i+1=>cntTo l i+dc l[i]!
theorem cntTo_succ(l:List α)(i:Nat):cntTo l (i+1)=cntTo l i+dc (l[i]!):=rfl
def markTo(l:List α)(k:Int)(i:Nat):List α:=(List.range i).map (fun j=>mrk l[j]!<|k+(cntTo l j:Nat))++l.drop i
theorem markTo_len(l:List α)(k:Int)(h:i<=l.length):(markTo l k i).length=l.length:=by simp[markTo];omega
def markL(l:List α)(k:Int):List α:=markTo l k l.length
theorem markL_get(l:List α)(k:Int)(h:i<l.length):(markL l k)[i]! =mrk l[i]! (k+(cntTo l i:Nat)):=by
 rw[getElem!_pos _ i<|by rw[markL,markTo_len l k<|Nat.le_refl _];exact h]
 simp[markL,markTo,List.getElem_append,h]
theorem cntTo_markL(l:List α)(k:Int):∀i,i<=l.length->cntTo (markL l k) i=cntTo l i
 |0,_=>rfl
 |i+1,h=>by rw[cntTo_succ,cntTo_succ,cntTo_markL l k i qf,markL_get l k qf,cnt_mark]
instance:Mark (List α) where
 dc l:=cntTo l l.length
 mrk:=markL
 mkd l k:=∀i,i<l.length->mkd l[i]! (k+(cntTo l i:Nat))
 mkd_mark l k i hi:=by
  have CU :i<l.length:=by simpa [markL,markTo] using hi
  rw[markL_get l k CU,cntTo_markL l k i qf]
  exact mkd_mark _ _
 cnt_mark l k:=by
  show cntTo (markL l k) (markL l k).length=cntTo l l.length
  rw[show (markL l k).length=l.length from markTo_len l k<|Nat.le_refl _,cntTo_markL l k _<|Nat.le_refl _]
theorem cnt_list(l:List α):dc l=cntTo l l.length:=rfl
end
theorem ints_get(h:iv.toNat<l.length):(l.map<|Value.int .i64)[0+iv.toNat*1]? =some (.int .i64<|l[iv.toNat]!):=by
 rw[Nat.zero_add,Nat.mul_one,List.getElem?_map,List.getElem?_eq_getElem h,getElem!_pos l _ h];rfl
theorem ints_set{v:Int}:(l.map<|Value.int .i64).set (0+iv.toNat*1) (.int .i64 v)=(l.set iv.toNat v).map (Value.int .i64):=by
 rw[Nat.zero_add,Nat.mul_one,List.map_set]
theorem ints_lt(h:iv.toNat<l.length):0+iv.toNat*1<(l.map<|Value.int .i64).length:=by simpa using h
theorem ints_zero(n:Nat):List.replicate n (Value.int .i64 0)=(List.replicate n (0:Int)).map (Value.int .i64):=by simp
section
variable{P : Program}{Q : Exit -> Act -> World -> Prop}{n : Nat}{ρ : Env}{W w : World}{d : Nat}{ty : TypeId}{pos : String}{af : Array Edge}{K : Env -> World -> Prop}{ps : List Prv}{Γ : List Fact}
theorem o_tail[Dfr]{α:Type}[qI α]{l:List α}(H:St W w ps Γ)(i:Nat)(hf:Γ[i]? =some (isF fr F (Sv a m c) l))(kk:Nat)
 (hu:P.underlying t=some (.slice e)) (he:TI P e z (qI.size α) e9) (hx:ev n ρ x=Sv a m c) (hk:kk<=l.length)
 (k:∀a' G,(∀b∈G,b∈F)->St W w ps (isF fr G (Sv a' (l.drop kk).length<|c-kk) (l.drop kk)::Γ)->K (upd ρ d<|Sv a' (l.drop kk).length<|c-kk) w):
 OW P Q ⟨some d,.slice t x (some<|.const<|.int .i64 (kk:Int)) none none,ty,pos,af,none⟩ n ρ w K:=by
 obtain⟨⟨a0,c0,hc,⟨hl,UE⟩,h⟩,eJ⟩:=H.get i hf
 simp only[List.cons.injEq,Value.slice.injEq,and_true] at hc
 obtain⟨rfl,rfl,rfl⟩:=hc
 have hev:ev n ρ (.const<|.int .i64 (kk:Int))=.int .i64 (kk:Int):=rfl
 have wo:(execOp (ev n ρ) ⟨some d,.slice t x (some<|.const<|.int .i64 (kk:Int)) none none,ty,pos,af,none⟩).run P w=
  .ok (.value (Sv (if c=kk then a else a.map (·.add (kk*qI.size α))) (l.length-kk)<|c-kk)) w:=by
  simp[execOp,hx,hev,Instr.sliceAt,Instr.slice,Instr.sliceBounds,Instr.sliceBound,asIntOf,run_underlying hu,he.sizeOf,hk]
 have tJ:(l.drop kk).length=l.length-kk:=List.length_drop
 rcases h with ⟨h0,hF⟩|⟨b,off,F',vs,ha,hF,hb,hr,hcells⟩
 ·refine Xx _ wo ?_
  rw[←tJ]
  refine k _ [] qm<|H.add _ ⟨⟨_,_,J,⟨by omega,by omega⟩,Or.inl ⟨by simp[h0],J⟩⟩,fun _=>yc.nil _⟩<|by simp[isF]
 ·subst ha
  rw[←List.take_append_drop kk l] at hr
  obtain⟨F1,F2,v1,v2,e1,e2,r1,r2⟩:=reps_split _ hr
  have E5:v1.length=kk*qI.size α:=by rw[reps_len r1,List.length_take,Nat.min_eq_left hk]
  have bV:∀z∈b::F2,z∈F:=by
   intro z hz
   rw[hF,e1]
   simp only[List.mem_cons,List.mem_append] at hz ⊢
   rcases hz with h|h <;> simp[h]
  refine Xx _ wo ?_
  rw[←tJ]
  by_cases hck:c=kk
  ·have av9:l.drop kk=[]:=List.drop_eq_nil_of_le qf
   refine k _ [] qm<|H.add _ ⟨⟨_,_,J,⟨by omega,by omega⟩,Or.inl ⟨av9,J⟩⟩,fun _=>yc.nil _⟩<|by simp[isF]
  ·rw[if_neg hck]
   refine k _ (b::F2) bV<|H.jR i hf _ ⟨⟨_,_,J,⟨by omega,by omega⟩,Or.inr ⟨b,off+kk*qI.size α,F2,v2,by simp[Addr.add_mid],J,hb,r2,?_⟩⟩,fun e=>(eJ e).sub bV⟩ bV
   intro j v hv
   rw[Nat.add_assoc]
   refine hcells (kk*qI.size α+j) v ?_
   rw[e2,List.getElem?_append_right qf,E5,Nat.add_sub_cancel_left]
   exact hv
end
abbrev pp(b o:Nat):Value:=.pointer<|some ⟨b,o,none⟩
abbrev aa(b o:Nat):yOA:=some ⟨b,o,none⟩
section
variable{P : Program}{fb : Array Oper}{Q : Exit -> Act -> World -> Prop}{n : Nat}{ρ : Env}{W0 w : World}{rest : List Oper}{ps : List Prv}{Γ : List Fact}
 {d:Nat} {op:Op} {ty:TypeId} {pos:String} {af:Array Edge} {K:Env->World->Prop} {S:World->Prop} {l:List Oper} {fuel:Nat} {ae:Array Bool}
theorem sp[Dfr](v:Value)(k:WL P fb Q n rest (upd ρ d v) w)(h:pv (ev n ρ) op=some v:=by exact J):WL P fb Q n (⟨some d,op,ty,pos,af,none⟩::rest) ρ w:=
 sw (o_pure v h k)
def pvs(n:Nat):List Value->List Oper->Env->Prop
 | [],_,_=>True
 |v::vs,⟨some d,op,_,_,_,none⟩::os,ρ=>pv (ev n ρ) op=some v/\pvs n vs os (upd ρ d v)
 |_::_,_,_=>False
def updP:List Value->List Oper->Env->Env
 |v::vs,o::os,ρ=>updP vs os<|upd ρ (o.dst.getD 0) v
 |_,_,ρ=>ρ
theorem sps[Dfr]:∀(vs:List Value) {os:List Oper} {ρ:Env} (_:WL P fb Q n (os.drop vs.length) (updP vs os ρ) w) (_:pvs n vs os ρ:=by(repeat refine And.intro rfl ?_);exact trivial),WL P fb Q n os ρ w
 | [],[],_,k,_=>by simpa [updP] using k
 | [],o::os,_,k,_=>by simpa [updP] using k
 |v::vs,[],_,_,h=>h.elim
 |v::vs,⟨none,op,ty,pos,af,gd⟩::os,_,_,h=>h.elim
 |v::vs,⟨some d,op,ty,pos,af,some g⟩::os,_,_,h=>h.elim
 |v::vs,⟨some d,op,ty,pos,af,none⟩::os,ρ,k,h=>sp v (sps vs (by simpa [updP] using k) h.2) h.1
def updQ(n:Nat):Nat->List Oper->Env->Env
 |j+1,o::os,ρ=>updQ n j os<|upd ρ (o.dst.getD 0) ((pv (ev n ρ) o.op).getD undef)
 |_,_,ρ=>ρ
def okQ(n:Nat):Nat->List Oper->Env->Bool
 |0,_,_=>true
 |j+1,⟨some d,op,_,_,_,none⟩::os,ρ=>(pv (ev n ρ) op).isSome && okQ n j os (upd ρ d ((pv (ev n ρ) op).getD undef))
 |_,_,_=>false
theorem some_getD{v:Option Value}(h:v.isSome=true):v=some (v.getD undef):=by
 cases v with
 |none=>cases h
 |some x=>rfl
theorem sq[Dfr]:∀(j:Nat) {os:List Oper} {ρ:Env} (_:WL P fb Q n (os.drop j) (updQ n j os ρ) w) (_:okQ n j os ρ=true:=by exact J),WL P fb Q n os ρ w
 |0,os,_,k,_=>by simpa [updQ] using k
 |j+1,[],_,_,h=>by cases h
 |j+1,⟨none,op,ty,pos,af,gd⟩::os,_,_,h=>by cases h
 |j+1,⟨some d,op,ty,pos,af,some g⟩::os,_,_,h=>by cases h
 |j+1,⟨some d,op,ty,pos,af,none⟩::os,ρ,k,h=>by
  simp only[okQ,Bool.and_eq_true] at h
  exact sp _ (sq j (by simpa [updQ] using k) h.2)<|some_getD h.1
theorem QY[Dfr](hm:P.follows .mixedOrders=true)(H:St W0 w ps Γ)
 (h:St W0 w.drew ps Γ->RW P l Q (fun w=>St W0 w ps Γ) n l.toArray.size (Array.replicate l.toArray.size false) ρ w.drew):(Code.region id l.toArray true).wp P Q (mk n ρ) w:=
 c_draw (fun w=>St W0 w ps Γ) hm (H.ext<|ext_drew _) (h<|H.ext<|ext_drew _)
def takeOk(l:List Oper)(ae:Array Bool)(i:Nat):Bool:=Region.noSelect l.toArray && (Region.free .any l.toArray ae i && (Region.ready .any l.toArray ae).contains i)
def NoPanic(Q:Exit->Act->World->Prop)(d:Nat)(v:Value):Prop:=∀c a w,Q (.panic c) (a.put (some d) v) w->Q (.panic c) a w
theorem VL(h:takeOk l ae i=true):Region.noSelect l.toArray=true/\Region.free .any l.toArray ae i=true/\(Region.ready .any l.toArray ae).contains i=true:=by
 simp only[takeOk,Bool.and_eq_true] at h
 exact h
theorem rt[Dfr](i:Nat)(v:Value)(hy:∀w',S w' ->(execOp (ev n ρ) ⟨some d,op,ty,pos,af,none⟩).run P w'=.ok (.value v) w')(hS:S w)
 (h:RW P l Q S n fuel (ae.setIfInBounds i true) (upd ρ d v) w) (hi:l.toArray[i]? =some ⟨some d,op,ty,pos,af,none⟩:=by exact J) (hk:takeOk l ae i=true:=by kernel_rfl)
 (hQ:NoPanic Q d v:=by exact fun _ _ _ h=>h):RW P l Q S n (fuel+1) ae ρ w:=
 r_take i v hi (VL hk).1 (VL hk).2.1 (VL hk).2.2 hQ hy hS h
theorem rtp[Dfr](i:Nat)(v:Value)(hS:S w)(h:RW P l Q S n fuel (ae.setIfInBounds i true) (upd ρ d v) w)(hi:l.toArray[i]? =some ⟨some d,op,ty,pos,af,none⟩:=by exact J)
 (hp:pv (ev n ρ) op=some v:=by exact J) (hk:takeOk l ae i=true:=by kernel_rfl) (hQ:NoPanic Q d v:=by exact fun _ _ _ h=>h):RW P l Q S n (fuel+1) ae ρ w:=
 rt i v (y_pure hp) hS h hi hk hQ
theorem rg[Dfr]{b:Bool}(i:Nat)(v:Value)(e:Nat)(hy:∀w',S w' ->(execOp (ev n ρ) ⟨some d,op,ty,pos,af,some (j,b)⟩).run P w'=.ok (.value v) w')(hS:S w)
 (h:RW P l Q S n fuel (ae.setIfInBounds i true) (upd ρ d v) w) (hi:l.toArray[i]? =some ⟨some d,op,ty,pos,af,some (j,b)⟩:=by exact J) (hk:takeOk l ae i=true:=by kernel_rfl)
 (hd:dstAt l j=some e:=by exact J) (hv:ev n ρ (.tmp e)=Bv b:=by exact J) (hQ:NoPanic Q d v:=by exact fun _ _ _ h=>h):RW P l Q S n (fuel+1) ae ρ w:=
 r_takeG i v hi (VL hk).1 (VL hk).2.1 (VL hk).2.2 hQ hd hv hy hS h
theorem rgp[Dfr]{b:Bool}(i:Nat)(v:Value)(e:Nat)(hS:S w)(h:RW P l Q S n fuel (ae.setIfInBounds i true) (upd ρ d v) w)(hi:l.toArray[i]? =some ⟨some d,op,ty,pos,af,some (j,b)⟩:=by exact J)
 (hp:pv (ev n ρ) op=some v:=by exact J) (hk:takeOk l ae i=true:=by kernel_rfl)
 (hd:dstAt l j=some e:=by exact J) (hv:ev n ρ (.tmp e)=Bv b:=by exact J) (hQ:NoPanic Q d v:=by exact fun _ _ _ h=>h):RW P l Q S n (fuel+1) ae ρ w:=
 rg i v e (y_pure hp) hS h hi hk hd hv hQ
theorem rtl[Dfr](i:Nat)(hS:S w)(h:RW P l Q S n fuel (ae.setIfInBounds i true) (upd ρ d ((pv (ev n ρ) op).getD undef)) w)(hi:l.toArray[i]? =some ⟨some d,op,ty,pos,af,none⟩:=by exact J)
 (hp:(pv (ev n ρ) op).isSome=true:=by exact J) (hk:takeOk l ae i=true:=by kernel_rfl) (hQ:NoPanic Q d ((pv (ev n ρ) op).getD undef):=by exact fun _ _ _ h=>h):RW P l Q S n (fuel+1) ae ρ w:=
 rtp i _ hS h hi (some_getD hp) hk hQ
theorem rgl[Dfr]{b:Bool}(i:Nat)(e:Nat)(hS:S w)(h:RW P l Q S n fuel (ae.setIfInBounds i true) (upd ρ d ((pv (ev n ρ) op).getD undef)) w)(hi:l.toArray[i]? =some ⟨some d,op,ty,pos,af,some (j,b)⟩:=by exact J)
 (hp:(pv (ev n ρ) op).isSome=true:=by exact J) (hk:takeOk l ae i=true:=by kernel_rfl)
 (hd:dstAt l j=some e:=by exact J) (hv:ev n ρ (.tmp e)=Bv b:=by exact J) (hQ:NoPanic Q d ((pv (ev n ρ) op).getD undef):=by exact fun _ _ _ h=>h):RW P l Q S n (fuel+1) ae ρ w:=
 rgp i _ e hS h hi (some_getD hp) hk hd hv hQ
theorem retC3{fn:Func}{R:Ending->World->Prop}{t u u':Nat}(H:St W0 w ps Γ)(i:Nat)(hp:ps[i]? =some (.box b cs tb))(x y:Value)(hr:fn.results=#[.cell t T,.tmp u,.tmp u'])
 (ha:∀w,(isAgg T).run P w=.ok true w) (hs:∀w,(Go.sizeOf T).run P w=.ok cs.length w) (hv:ev n ρ (.tmp t)=.pointer (some ⟨b,0,none⟩)) (hx:ev n ρ (.tmp u)=x) (hy:ev n ρ (.tmp u')=y)
 (h:R (.returned<|.tuple #[.agg cs.toArray,x,y]) w):bodyPost P fn R .ret (mk n ρ) w:=by
 have hl:=run_loadCells_list (P:=P) w ⟨b,0,none⟩ cs (fun j v hv=>by rw[Addr.add_mid];exact H.cells i hp j v hv)
 have e:=congrFun (XV n ρ)<|.tmp t
 have e':=congrFun (XV n ρ)<|.tmp u
 have e'' :=congrFun (XV n ρ)<|.tmp u'
 simp only[Act.eval,Array.getD_eq_getD_getElem?] at e e' e''
 rw[hv] at e
 rw[hx] at e'
 rw[hy] at e''
 exact bodyPost_ret (v:=.tuple #[.agg cs.toArray,x,y]) (by simp[results,hr,e,e',e'',asAddr,loadVar,ha,hs,hl]) J h
def skipOk(n:Nat)(ρ:Env)(l:List Oper)(o:Oper):Bool:=
 match o.guard with
 |some (j,b)=>match dstAt l j with
  |some e=>match ev n ρ (.tmp e) with | .bool c=>c != b | .tuple vs=>vs.isEmpty|_=>false
  |none=>false
 |none=>false
theorem skipOk_wanted[Dfr]{o:Oper}(h:skipOk n ρ l o=true):Region.wanted o (yielded l.toArray (mk n ρ).tmps)=false:=by
 unfold skipOk at h
 unfold Region.wanted
 split at h
 ·rename_i j b hg
  split at h
  ·rename_i e he
   rw[hg]
   split at h
   ·rename_i c hc
    simp[yielded_of ((dstAt_eq l j).trans he) hc]
    simpa using h
   ·rename_i vs hc
    have:vs=#[]:=by simpa using h
    subst this
    simp[yielded_un ((dstAt_eq l j).trans he) hc]
   ·cases h
  ·cases h
 ·cases h
def updU(ρ:Env):yLN->Env
 | []=>ρ
 |d::ds=>updU (upd ρ d undef) ds
def chkL(n:Nat)(l:List Oper):List Oper->yLN->Env->Bool
 |_,[],_=>true
 |o::os,d::ds,ρ=>match o.dst with
  |some d'=>Nat.beq d' d && (skipOk n ρ l o && chkL n l os ds (upd ρ d undef))
  |none=>false
 | [],_::_,_=>false
theorem zk[Dfr]:∀(ds:yLN) {os:List Oper} {ρ:Env} (_:WL P l.toArray Q n (os.drop ds.length) (updU ρ ds) w) (_:chkL n l os ds ρ=true:=by kernel_rfl),WL P l.toArray Q n os ρ w
 | [],_,_,k,_=>by simpa [updU] using k
 |d::ds,[],ρ,_,h=>by simp[chkL] at h
 |d::ds,⟨dst,op,ty,pos,af,gd⟩::os,ρ,k,h=>by
  unfold chkL at h
  split at h
  ·rename_i d' hd
   simp only[Bool.and_eq_true] at h
   obtain⟨h1,h2,h3⟩:=h
   have hd':=Nat.eq_of_beq_eq_true h1
   simp only at hd
   subst hd hd'
   have hw:=skipOk_wanted h2
   have k':=zk ds (os:=os) (ρ:=upd ρ d' undef) (by simpa [updU] using k) h3
   refine WL.of ?_
   unfold wpList
   rw[if_neg<|by rw[hw];simp,mk_put]
   exact k'.out
  ·cases h
def chkR(n:Nat)(l:List Oper):yLN->Array Bool->Env->Bool
 | [],_,_=>true
 |i::is,ae,ρ=>match l.toArray[i]? with
  |some o=>match o.dst with
   |some d=>skipOk n ρ l o && (takeOk l ae i && chkR n l is (ae.setIfInBounds i true) (upd ρ d undef))
   |none=>false
  |none=>false
def updR(l:List Oper):yLN->Env->Env
 | [],ρ=>ρ
 |i::is,ρ=>updR l is<|upd ρ ((dstAt l i).getD 0) undef
def lsts:yLN->Array Bool->Array Bool
 | [],a=>a
 |i::is,a=>lsts is<|a.setIfInBounds i true
theorem vC[Dfr]:∀(is:yLN) (m:Nat) {fuel:Nat} {ae:Array Bool} {ρ:Env} (_:S w) (_:RW P l Q S n fuel (lsts is ae) (updR l is ρ) w) (_:chkR n l is ae ρ=true:=by kernel_rfl) (_:is.length=m:=by exact J)
 (_:∀d,NoPanic Q d undef:=by exact fun _ _ _ _ h=>h),RW P l Q S n (fuel+m) ae ρ w
 | [],m,_,_,_,_,k,_,hm,_=>by subst hm;exact k
 |i::is,m,fuel,ae,ρ,hS,k,h,hm,hQ=>by
  subst hm
  unfold chkR at h
  split at h
  ·rename_i o ho
   split at h
   ·rename_i d hd
    simp only[Bool.and_eq_true] at h
    obtain⟨h1,h2,h3⟩:=h
    have hw:=skipOk_wanted h1
    have e:dstAt l i=some d:=by rw[←dstAt_eq,ho];exact hd
    have k':=vC is is.length (fuel:=fuel) (ae:=ae.setIfInBounds i true) (ρ:=upd ρ d undef) hS (by simpa [updR,lsts,e] using k) h3 J hQ
    show RW P l Q S n ((fuel+is.length)+1) ae ρ w
    obtain⟨dst,op,ty,pos,af,gd⟩:=o
    simp only at hd
    subst hd
    unfold RW at k' ⊢
    refine wpAnyH_take ho (VL h2).1 (VL h2).2.1 (VL h2).2.2 (hQ d) (Or.inr ⟨hw,J⟩) hS ?_
    show wpAnyH P .any l.toArray Q S _ _ ((mk n ρ).put (some d) undef) w
    rw[mk_put]
    exact k'
   ·cases h
  ·cases h
end
end
open Go.Proofs.YtghikkinnchndaaGreat.Mark (dc mrk mkd mkd_mark cnt_mark)
section
structure Fresh(B:Nat)(L:List yLN):Prop where
 nd:∀F∈L,F.Nodup
 ge:∀F∈L,∀b∈F,B<=b
 dj:L.Pairwise fun F G=>∀b∈F,b∉G
section
variable{B : Nat}{L : List yLN}
theorem Fresh.nil(B:Nat):Fresh B []:=⟨by simp,by simp,List.Pairwise.nil⟩
theorem Fresh.pick(N:Fresh B L)(is:yLN)(he:is.map (fun i=>L[i]?)=L'.map some:=by exact J)(hd:is.Nodup:=by decide):Fresh B L':=by
 have ard:∀F∈L',F∈L:=by
  intro F hF
  have:some F∈L'.map some:=List.mem_map_of_mem hF
  rw[←he] at this
  obtain⟨i,_,hi⟩:=List.mem_map.1 this
  exact List.mem_of_getElem? hi
 refine⟨fun F hF=>N.nd F<|ard F hF,fun F hF=>N.ge F<|ard F hF,?_⟩
 have hl:is.length=L'.length:=by simpa using congrArg List.length he
 have e:∀k (hk:k<L'.length) (CT :k<is.length),L[is[k]]? =some L'[k]:=by
  intro k hk CT
  have h1:(is.map<|fun i=>L[i]?)[k]? =(L'.map some)[k]? :=by rw[he]
  simpa [hk,CT] using h1
 rw[List.pairwise_iff_getElem]
 intro i j hi hj hij b hb gw
 have ei:=e i hi qf
 have ej:=e j hj qf
 have iw:is[i]'(by omega)≠is[j]'(by omega):=List.pairwise_iff_getElem.1 hd i j qf qf hij
 have hp:=N.dj
 rw[List.pairwise_iff_getElem] at hp
 obtain⟨hi2,ei2⟩:=List.getElem?_eq_some_iff.1 ei
 obtain⟨hj2,ej2⟩:=List.getElem?_eq_some_iff.1 ej
 rcases Nat.lt_or_gt_of_ne iw with h|h
 ·exact hp _ _ hi2 hj2 h b (by rw[ei2];exact hb)<|by rw[ej2];exact gw
 ·exact hp _ _ hj2 hi2 h b (by rw[ej2];exact gw)<|by rw[ei2];exact hb
theorem Fresh.cons(N:Fresh B L)(hg:(∀b∈G,T<=b)/\G.Nodup)(hB:B<=T)(hl:∀F∈L,∀b∈F,b<T):Fresh B (G::L):=
 ⟨fun F hF=>by
  rcases List.mem_cons.1 hF with rfl|h
  ·exact hg.2
  ·exact N.nd F h,fun F hF b hb=>by
  rcases List.mem_cons.1 hF with rfl|h
  ·exact Nat.le_trans hB (hg.1 b hb)
  ·exact N.ge F h b hb,List.pairwise_cons.2 ⟨fun F hF b hb gw =>by have:=hl F hF b gw;have:=hg.1 b hb;omega,N.dj⟩⟩
theorem Fresh.emp(N:Fresh B L):Fresh B ([]::L):=
 ⟨fun F hF=>by
  rcases List.mem_cons.1 hF with rfl|h
  ·exact List.nodup_nil
  ·exact N.nd F h,fun F hF b hb=>by
  rcases List.mem_cons.1 hF with rfl|h
  ·simp at hb
  ·exact N.ge F h b hb,List.pairwise_cons.2 ⟨fun F _ b hb=>by simp at hb,N.dj⟩⟩
theorem Fresh.repl(N:Fresh B (F::G::L))(hs:(∀b∈F',b∈F\/b∈G)/\(F.Nodup->G.Nodup->(∀b∈F,b∉G)->F'.Nodup)):Fresh B (F'::L):=by
 have h1:=List.pairwise_cons.1 N.dj
 have h2:=List.pairwise_cons.1 h1.2
 refine⟨fun K hK=>?_,fun K hK b hb=>?_,List.pairwise_cons.2 ⟨fun K hK b hb=>?_,h2.2⟩⟩
 ·rcases List.mem_cons.1 hK with rfl|h
  ·exact hs.2 (N.nd F qm) (N.nd G qm)<|h1.1 G qm
  ·exact N.nd K<|by simp[h]
 ·rcases List.mem_cons.1 hK with rfl|h
  ·rcases hs.1 b hb with h|h
   ·exact N.ge F qm b h
   ·exact N.ge G qm b h
  ·exact N.ge K (by simp[h]) b hb
 ·rcases hs.1 b hb with h|h
  ·exact h1.1 K (by simp[hK]) b h
  ·exact h2.1 K hK b h
theorem Fresh.join(N:Fresh B (F::G::L)):Fresh B ((F++G)::L):=
 N.repl ⟨fun b hb=>List.mem_append.1 hb,fun h1 h2 h3=>List.nodup_append.2 ⟨h1,h2,fun a ha b hb e=>h3 a ha<|e▸hb⟩⟩
theorem Fresh.less(N:Fresh B (F::L))(hs:∀b∈F',b∈F)(hn:F.Nodup->F'.Nodup):Fresh B (F'::L):=by
 have h1:=List.pairwise_cons.1 N.dj
 refine⟨fun K hK=>?_,fun K hK b hb=>?_,List.pairwise_cons.2 ⟨fun K hK b hb=>h1.1 K hK b<|hs b hb,h1.2⟩⟩
 ·rcases List.mem_cons.1 hK with rfl|h
  ·exact hn<|N.nd F qm
  ·exact N.nd K<|by simp[h]
 ·rcases List.mem_cons.1 hK with rfl|h
  ·exact N.ge F qm b<|hs b hb
  ·exact N.ge K (by simp[h]) b hb
theorem Fresh.one(N:Fresh B (F::L)):(∀b∈F,B<=b)/\F.Nodup:=⟨N.ge F qm,N.nd F qm⟩
theorem Fresh.tail(N:Fresh B (F::L)):Fresh B L:=⟨fun K h=>N.nd K<|by simp[h],fun K h=>N.ge K<|by simp[h],(List.pairwise_cons.1 N.dj).2⟩
end
section
variable{W0 w w': World}{ps : List Prv}{Γ : List Fact}
theorem St.ltN(H:St W0 w ps Γ)(is:yLN)(he:is.map (fun i=>(Γ[i]?).map Fact.F)=L.map some:=by exact J):∀F∈L,∀b∈F,b<w.heap.size:=by
 intro F hF b hb
 have:some F∈L.map some:=List.mem_map_of_mem hF
 rw[←he] at this
 obtain⟨i,_,hi⟩:=List.mem_map.1 this
 cases hg:Γ[i]? with
 |none=>simp[hg] at hi
 |some f=>
  simp only[hg,Option.map_some,Option.some.injEq] at hi
  subst hi
  exact((H.facts f<|List.mem_of_getElem? hg).2 b hb).1
theorem St.XE(H:St W0 w ps Γ)(is:yLN)(he:is.map (fun i=>(Γ[i]?).map Fact.F)=L.map some:=by exact J):∀F∈L,∀b∈F,∀i,yY ps i≠some b:=by
 intro F hF b hb
 have:some F∈L.map some:=List.mem_map_of_mem hF
 rw[←he] at this
 obtain⟨i,_,hi⟩:=List.mem_map.1 this
 cases hg:Γ[i]? with
 |none=>simp[hg] at hi
 |some f=>
  simp only[hg,Option.map_some,Option.some.injEq] at hi
  subst hi
  exact((H.facts f<|List.mem_of_getElem? hg).2 b hb).2
theorem St.jB(H:St W0 w ps Γ)(k:Nat)(hp:ps[k]? =some (.row v e sz nn xs)):
 ∃a c,v=Sv a nn c/\nn<=c/\nn<=9223372036854775807:=by
 have h:=(H.has _ (List.mem_of_getElem? hp):w.ownsRow W0.heap.size e sz v nn xs)
 rcases h.2 with ⟨rfl,rfl⟩|⟨g,gA,gE,rfl,_,_,h1,h2,_⟩
 ·exact⟨none,0,J,Nat.le_refl _,by omega⟩
 ·exact⟨_,gA,J,h1,by unfold maxLen at h2;omega⟩
theorem St.jm(H:St W0 w ps Γ)(k:Nat)(hp:ps[k]? =some (.row (Sv a nn c) e sz nn xs))(h0:0<nn):
 ∃b,a=some ⟨b,0,none⟩:=by
 have h:=(H.has _ (List.mem_of_getElem? hp):w.ownsRow W0.heap.size e sz _ nn xs)
 rcases h.2 with ⟨_,rfl⟩|⟨g,gA,gE,h,_⟩
 ·omega
 ·simp only[Value.slice.injEq] at h
  exact⟨g,h.1⟩
theorem St.rowLen(H:St W0 w ps Γ)(k:Nat)(hp:ps[k]? =some (.row v e sz nn xs)):xs.length=nn*sz:=
 (H.has _ (List.mem_of_getElem? hp):w.ownsRow W0.heap.size e sz v nn xs).1
theorem St.rowGet(H:St W0 w ps Γ)(k:Nat)(hp:ps[k]? =some (.row (Sv (some ⟨b,0,none⟩) nn c) e sz nn xs))(hv:xs[i]? =some v):
 w.cell? ⟨b,i,none⟩=some v:=by
 have h:=(H.has _ (List.mem_of_getElem? hp):w.ownsRow W0.heap.size e sz _ nn xs)
 have:=h.cells (g:=b) J i v hv
 rwa [Addr.add_mid,Nat.zero_add] at this
theorem ints_at(h:iv.toNat=i)(h1:i<l.length):(l.map<|Value.int .i64)[0+iv.toNat*1]? =some (.int .i64<|l[i]!):=by
 subst h
 simp[h1,getElem!_pos]
theorem bools_at{l:List Bool}(h:iv.toNat=i)(h1:i<l.length):(l.map Value.bool)[0+iv.toNat*1]? =some (Bv<|l[i]!):=by
 subst h
 simp[h1,getElem!_pos]
theorem St.Vx(H:St W0 w ps Γ)(k:Nat)(hp:ps[k]? =some (.row (Sv (some ⟨b,0,none⟩) nn c) e 1 nn<|l.map<|Value.int .i64))(h:iv.toNat=i)(h1:i<nn):
 w.cell? ⟨b,0+iv.toNat*1,none⟩=some (.int .i64<|l[i]!):=by
 have hl:=H.rowLen k hp
 exact H.rowGet k hp<|ints_at h (by simp at hl;omega)
theorem St.rowBool(H:St W0 w ps Γ)(k:Nat){l:List Bool}(hp:ps[k]? =some (.row (Sv (some ⟨b,0,none⟩) nn c) e 1 nn<|l.map Value.bool))(h:iv.toNat=i)(h1:i<nn):
 w.cell? ⟨b,0+iv.toNat*1,none⟩=some (Bv<|l[i]!):=by
 have hl:=H.rowLen k hp
 exact H.rowGet k hp<|bools_at h (by simp at hl;omega)
theorem St.rowElem{α:Type}[qI α][Inhabited α](H:St W0 w ps Γ)(k:Nat)(hp:ps[k]? =some (.row (Sv (some ⟨b,0,none⟩) nn c) e (qI.size α) nn xs))(j:Nat){l:List α}
 (hf:Γ[j]? =some (qX fr F xs l)) (hz:0<qI.size α) {iv:Int} {i:Nat} (h:iv.toNat=i) (h1:i<nn):
 ∃cs G,jO w b (0+iv.toNat*qI.size α) cs/\qI.rep w G cs (l[i]!)/\(∀x∈G,x∈F)/\(fr=true->yc w G)/\∃v1 v2,xs=v1++cs++v2/\v1.length=i*qI.size α:=by
 subst h
 obtain⟨hr,eJ⟩:=H.get j hf
 have hl:=H.rowLen k hp
 have hl2:=reps_len hr
 have tJ:iv.toNat<l.length:=by
  have:nn=l.length:=Nat.eq_of_mul_eq_mul_right hz<|hl.symm.trans hl2
  omega
 obtain⟨F1,Fk,F2,v1,cs,v2,hF,hv,E5,LJ,acL,_,_⟩:=reps_get hr _ tJ
 refine⟨cs,Fk,fun i v hi=>?_,by rw[getElem!_pos l _ tJ];exact acL,?_,fun e=>(eJ e).sub ?_,v1,v2,hv,E5⟩
 ·refine H.rowGet k hp ?_
  have hci:i<cs.length:=by
   rcases Nat.lt_or_ge i cs.length with h|h
   ·exact h
   ·simp[h] at hi
  rw[hv,List.append_assoc,Nat.zero_add,←E5,List.getElem?_append_right qf,Nat.add_sub_cancel_left,List.getElem?_append_left hci,hi]
 ·intro x hx;rw[hF];simp[hx]
 ·intro x hx;rw[hF];simp[hx]
theorem St.xf{α:Type}[qI α](H:St W0 w ps Γ)(k:Nat)(hp:ps[k]? =some (.row v e (qI.size α) nn xs))(j:Nat){l:List α}
 (hf:Γ[j]? =some (qX fr F xs l)) (hz:0<qI.size α):nn=l.length:=
 Nat.eq_of_mul_eq_mul_right hz ((H.rowLen k hp).symm.trans<|reps_len (H.get j hf).1)
theorem St.Qa{α:Type}[qI α](H:St W0 w ps Γ)(k:Nat)(hp:ps[k]? =some (.row (Sv (some ⟨b,0,none⟩) nn c) e 1 nn xs))(j:Nat){l:List (List α)}
 (hf:Γ[j]? =some (qX fr F xs l)) {iv:Int} (i:Nat) (h:iv.toNat=i) (h1:i<nn):
 ∃(a:yOA) (c':Nat) (G:yLN),(∀x∈G,x∈F)/\w.cell? ⟨b,0+iv.toNat*1,none⟩=some (Sv a l[i]!.length c')/\St W0 w ps (isF fr G (Sv a l[i]!.length c') (l[i]!)::Γ):=by
 obtain⟨cs,G,hc,hr,bV,eJ,_⟩:=H.rowElem k hp j hf Nat.one_pos h h1
 obtain⟨a,c',rfl,hx⟩:=id hr
 exact⟨a,c',G,bV,by simpa [qI.size] using hc 0 _ J,H.jR j hf _ ⟨hr,eJ⟩ bV⟩
theorem ownsRow_set(h:w.ownsRow B e sz (Sv (some ⟨b,0,none⟩) nn c) nn xs)(off:Nat)(us:List Value)(ho:off+us.length<=xs.length)(h1:∀u∈us,u.oneCell'=true){P:Program}:
 ∃w',(storeCells ⟨b,off,none⟩ us).run P w=.ok () w' /\w'.os=w.os/\w'.tape=w.tape/\w'.output=w.output/\w'.heap.size=w.heap.size/\(∀i,b≠i->w'.heap[i]? =w.heap[i]?)∧
  w'.ownsRow B e sz (Sv (some ⟨b,0,none⟩) nn c) nn (xs.take off++us++xs.drop (off+us.length)):=by
 obtain⟨hl,h|⟨g,gA,gE,hv,hB,hg,hn,hm,LJ,ht⟩⟩:=h
 ·simp at h
 simp only[Value.slice.injEq,Option.some.injEq,Addr.mk.injEq,and_true] at hv
 obtain⟨rfl,_,rfl⟩:=hv
 have SS:nn*sz<=gE.size:=by rw[LJ];exact Nat.mul_le_mul_right _ hn
 have hlx:xs.length=nn*sz:=hl
 have hle:off+us.length<=gE.size:=by omega
 have hr:=run_storeCells_at P b off e us 0 gE w hg qf h1
 simp only[Nat.add_zero] at hr
 have hxs:xs.take off++us++xs.drop (off+us.length)=(gE.toList.take off++us++gE.toList.drop (off+us.length)).take (nn*sz):=by
  subst ht
  apply List.ext_getElem?
  intro i
  simp only[List.getElem?_take,List.getElem?_append,List.length_append,List.length_take,List.getElem?_drop,Array.length_toList]
  rw[Nat.min_eq_left<|show off<=gE.size by omega,Nat.min_eq_left<|show nn*sz<=gE.size by omega,Nat.min_eq_left<|show off<=nn*sz by omega]
  by_cases hi:i<nn*sz
  ·by_cases h1:i<off
   ·simp[hi,h1,show i<off+us.length by omega]
   ·by_cases h2:i<off+us.length
    ·simp[hi,h1,h2]
    ·have:off+us.length+(i-(off+us.length))=i:=by omega
     simp[hi,h2,this]
  ·have h2:¬i<off+us.length:=by omega
   have:off+us.length+(i-(off+us.length))=i:=by omega
   simp[hi,h2,this]
 refine⟨w.setRow b (gE.toList.take off++us++gE.toList.drop (off+us.length)).toArray,hr,J,J,J,by simp[World.setRow],fun i hi=>by simp[World.setRow,Array.getElem?_modify,hi],?_,Or.inr ⟨b,c,(gE.toList.take off++us++gE.toList.drop (off+us.length)).toArray,J,hB,by simp[World.setRow,Array.getElem?_modify,hg],hn,hm,?_,?_⟩⟩
 ·simp;omega
 ·simp;omega
 ·rw[hxs]
theorem St.rowSet(H:St W0 w ps Γ)(k:Nat)(hp:ps[k]? =some (.row (Sv (some ⟨b,0,none⟩) nn c) e sz nn xs))(off:Nat)(us:List Value)(ho:off+us.length<=xs.length)(h1:∀u∈us,u.oneCell'=true){P:Program}:
 ∃w',(storeCells ⟨b,off,none⟩ us).run P w=.ok () w' /\St W0 w' (ps.set k<|.row (Sv (some ⟨b,0,none⟩) nn c) e sz nn<|xs.take off++us++xs.drop (off+us.length)) Γ:=by
 have h:=(H.has _ (List.mem_of_getElem? hp):w.ownsRow W0.heap.size e sz _ nn xs)
 obtain⟨w',hr,h1,h2,h3,h4,h5,h6⟩:=ownsRow_set h off us ho h1 (P:=P)
 exact⟨w',hr,H.change k hp h1 h2 h3 qf (fun i _ hi=>h5 i fun e'=>hi<|by simp[Prv.blk,Value.ownBlock,e']) h6<|Or.inl J⟩
end
section
variable{P : Program}{Q : Exit -> Act -> World -> Prop}{n : Nat}{ρ : Env}{W0 w : World}{ps : List Prv}{Γ : List Fact}
 {d:Nat} {ty:TypeId} {pos:String} {af:Array Edge} {K:Env->World->Prop}
theorem o_storeRow[Dfr](H:St W0 w ps Γ)(k:Nat)(hp:ps[k]? =some (.row (Sv (some ⟨b,0,none⟩) nn c) e sz nn xs))(v:Value)
 (hs:∀w,(Go.sizeOf t).run P w=.ok v.cells.size w) (hx:ev n ρ x=.pointer (some ⟨b,off,none⟩)) (hy:ev n ρ y=v) (h1:∀u∈v.cells.toList,u.oneCell'=true) (ho:off+v.cells.size<=xs.length)
 (kk:∀w',St W0 w' (ps.set k<|.row (Sv (some ⟨b,0,none⟩) nn c) e sz nn<|xs.take off++v.cells.toList++xs.drop (off+v.cells.size)) Γ->K ρ w'):
 OW P Q ⟨none,.store t x y,ty,pos,af,none⟩ n ρ w K:=by
 obtain⟨w',hr,H'⟩:=H.rowSet k hp off v.cells.toList (by simpa using ho) h1 (P:=P)
 refine o_unit (w':=w') ?_<|kk _<|by simpa using H'
 simp[execOp,hx,hy,Instr.storeAt,Instr.sureAddr,storeVar,hs,hr]
theorem o_storeRow1[Dfr](H:St W0 w ps Γ)(k:Nat)(hp:ps[k]? =some (.row (Sv (some ⟨b,0,none⟩) nn c) e 1 nn xs))(v:Value)
 (hs:∀w,(Go.sizeOf t).run P w=.ok 1 w) (hx:ev n ρ x=.pointer (some ⟨b,0+iv.toNat*1,none⟩)) (hy:ev n ρ y=v) (h1:v.oneCell'=true) (h2:iv.toNat<nn)
 (kk:∀w',St W0 w' (ps.set k<|.row (Sv (some ⟨b,0,none⟩) nn c) e 1 nn<|xs.set iv.toNat v) Γ->K ρ w'):
 OW P Q ⟨none,.store t x y,ty,pos,af,none⟩ n ρ w K:=by
 have hc:v.cells=#[v]:=by cases v <;> first|rfl|(simp[Value.oneCell'] at h1)
 have hl:=H.rowLen k hp
 refine o_storeRow H k hp v (by simpa [hc] using hs) hx hy (by simp[hc,h1]) (by simp[hc];omega) ?_
 simp only[hc,List.size_toArray,List.length_cons,List.length_nil,Nat.zero_add,Nat.mul_one]
 rw[show xs.take iv.toNat++[v]++xs.drop (iv.toNat+1)=xs.set iv.toNat v by rw[List.set_eq_take_append_cons_drop,if_pos qf];simp]
 exact kk
theorem o_storeInt[Dfr](H:St W0 w ps Γ)(k:Nat)(hp:ps[k]? =some (.row (Sv (some ⟨b,0,none⟩) nn c) e 1 nn<|l.map<|Value.int .i64))(u:Int)
 (hs:∀w,(Go.sizeOf t).run P w=.ok 1 w) (hx:ev n ρ x=.pointer (some ⟨b,0+iv.toNat*1,none⟩)) (hy:ev n ρ y=.int .i64 u) (hi:iv.toNat=i) (h2:i<nn)
 (kk:∀w',St W0 w' (ps.set k<|.row (Sv (some ⟨b,0,none⟩) nn c) e 1 nn ((l.set i u).map<|Value.int .i64)) Γ->K ρ w'):
 OW P Q ⟨none,.store t x y,ty,pos,af,none⟩ n ρ w K:=by
 subst hi
 refine o_storeRow1 H k hp (.int .i64 u) hs hx hy J h2 fun w' H'=>kk w' ?_
 rwa [List.map_set]
theorem XI[Dfr]{l:List Bool}(H:St W0 w ps Γ)(k:Nat)(hp:ps[k]? =some (.row (Sv (some ⟨b,0,none⟩) nn c) e 1 nn<|l.map Value.bool))(u:Bool)
 (hs:∀w,(Go.sizeOf t).run P w=.ok 1 w) (hx:ev n ρ x=.pointer (some ⟨b,0+iv.toNat*1,none⟩)) (hy:ev n ρ y=Bv u) (hi:iv.toNat=i) (h2:i<nn)
 (kk:∀w',St W0 w' (ps.set k<|.row (Sv (some ⟨b,0,none⟩) nn c) e 1 nn ((l.set i u).map Value.bool)) Γ->K ρ w'):
 OW P Q ⟨none,.store t x y,ty,pos,af,none⟩ n ρ w K:=by
 subst hi
 refine o_storeRow1 H k hp (Bv u) hs hx hy J h2 fun w' H'=>kk w' ?_
 rwa [List.map_set]
theorem reps_set{α:Type}[qI α]{l:List α}(h:reps w F xs l){y:α}(hy:qI.rep w G cs y)(k:Nat)(hk:k<l.length):
 ∃F',reps w F' (xs.take (k*qI.size α)++cs++xs.drop (k*qI.size α+cs.length)) (l.set k y)/\(∀b∈F',b∈F\/b∈G)/\(F.Nodup->G.Nodup->(∀b∈F,b∉G)->F'.Nodup):=by
 obtain⟨F1,Fk,F2,v1,ck,v2,hF,hv,E5,hck,_,h1,h2⟩:=reps_get h k hk
 have SS:=qI.len hy
 refine⟨F1++G++F2,?_,fun b hb=>?_,fun n1 n2 n3=>?_⟩
 ·subst hv
  rw[←E5,List.append_assoc v1,List.take_left,SS,←hck,List.drop_append,List.drop_of_length_le qf,List.nil_append,Nat.add_sub_cancel_left,List.drop_left,List.set_eq_take_append_cons_drop,if_pos hk,show List.take k l++y::List.drop (k+1) l=List.take k l++[y]++List.drop (k+1) l by simp]
  exact Qc (Qc h1<|reps_one hy) h2
 ·simp only[List.mem_append] at hb
  rcases hb with (hb|hb)|hb
  ·exact Or.inl<|by rw[hF];simp[hb]
  ·exact Or.inr hb
  ·exact Or.inl<|by rw[hF];simp[hb]
 ·subst hF
  have n1':=List.nodup_append.1 n1
  have n1a:=List.nodup_append.1 n1'.1
  refine List.nodup_append.2 ⟨List.nodup_append.2 ⟨n1a.1,n2,fun a ha b hb e=>n3 a (by simp[ha])<|e▸hb⟩,n1'.2.1,fun a ha b hb e=>?_⟩
  subst e
  rcases List.mem_append.1 ha with ha|ha
  ·exact n1'.2.2 a (by simp[ha]) a hb J
  ·exact n3 a (by simp[hb]) ha
theorem jJ[Dfr]{α:Type}[qI α]{l:List α}{z:α}(f0:Bool)(H:St W0 w ps Γ)(k:Nat)(hp:ps[k]? =some (.row (Sv (some ⟨b,0,none⟩) nn c) e 1 nn xs))
 (j:Nat) (hf:Γ[j]? =some (qX fr F xs l)) (v:Value) (m:Nat) (hg:Γ[m]? =some (isF S4 G v z)) {iv:Int} {i:Nat} (hz:qI.size α=1)
 (hs:∀w,(Go.sizeOf t).run P w=.ok 1 w) (hx:ev n ρ x=.pointer (some ⟨b,0+iv.toNat*1,none⟩)) (hy:ev n ρ y=v) (hi:iv.toNat=i) (h2:i<nn) (h3:f0=true->fr=true/\S4 =true)
 (kk:∀w' A7 F',((∀b∈F',b∈F\/b∈G)/\(F.Nodup->G.Nodup->(∀b∈F,b∉G)->F'.Nodup))->St W0 w' (ps.set k<|.row (Sv (some ⟨b,0,none⟩) nn c) e 1 nn A7) (qX f0 F' A7 (l.set i z)::Γ)->K ρ w'):
 OW P Q ⟨none,.store t x y,ty,pos,af,none⟩ n ρ w K:=by
 subst hi
 have Kr:v.oneCell'=true:=qI.one (H.get m hg).1 v qm
 have hn:nn=l.length:=H.xf (α:=α) k (by rw[hz];exact hp) j hf qf
 obtain⟨F',hr,hs1,hs2⟩:=reps_set (H.get j hf).1 (H.get m hg).1 iv.toNat qf
 have hl:=H.rowLen k hp
 have e1:xs.take (iv.toNat*qI.size α)++[v]++xs.drop (iv.toNat*qI.size α+[v].length)=xs.set iv.toNat v:=by
  rw[hz,Nat.mul_one,List.set_eq_take_append_cons_drop,if_pos qf];simp
 rw[e1] at hr
 have H1:St W0 w ps (qX f0 F' (xs.set iv.toNat v) (l.set iv.toNat z)::Γ):=by
  refine H.add _ ⟨hr,fun e b hb=>?_⟩ fun b hb=>?_
  ·rcases hs1 b hb with h|h
   ·exact(H.get j hf).2 (h3 e).1 b h
   ·exact(H.get m hg).2 (h3 e).2 b h
  ·rcases hs1 b hb with h|h
   ·exact(H.facts _<|List.mem_of_getElem? hf).2 b h
   ·exact(H.facts _<|List.mem_of_getElem? hg).2 b h
 exact o_storeRow1 H1 k hp v hs hx hy Kr h2 fun w' H'=>kk w' _ F' ⟨hs1,hs2⟩ H'
theorem jQ[Dfr](H:St W0 w ps Γ)(hu:P.underlying t=some (.slice e))(he:TI P e (.int .i64 0) 1 e9)(nn:Nat)
 (hx:ev n ρ x=.int .i64 iv) (hy:ev n ρ y=.int .i64 iv) (hn:iv=nn) (hb:e9*nn<=281474976710656) (hm:nn<=9223372036854775807)
 (k:∀b w',St W0 w' (.row (Sv (some ⟨b,0,none⟩) nn nn) e 1 nn ((List.replicate nn (0:Int)).map<|Value.int .i64)::ps) Γ->K (upd ρ d<|Sv (some ⟨b,0,none⟩) nn nn) w'):
 OW P Q ⟨some d,.makeSlice t x y,ty,pos,af,none⟩ n ρ w K:=by
 subst hn
 refine o_make1 H hu he J nn hx hy hb hm fun b w' H'=>k b w' ?_
 have:=H'.boxRow 0 J 1 nn qm qp
 simpa using this
theorem o_makeB[Dfr](H:St W0 w ps Γ)(hu:P.underlying t=some (.slice e))(he:TI P e (Bv false) 1 e9)(nn:Nat)
 (hx:ev n ρ x=.int .i64 iv) (hy:ev n ρ y=.int .i64 iv) (hn:iv=nn) (hb:e9*nn<=281474976710656) (hm:nn<=9223372036854775807)
 (k:∀b w',St W0 w' (.row (Sv (some ⟨b,0,none⟩) nn nn) e 1 nn ((List.replicate nn false).map Value.bool)::ps) Γ->K (upd ρ d<|Sv (some ⟨b,0,none⟩) nn nn) w'):
 OW P Q ⟨some d,.makeSlice t x y,ty,pos,af,none⟩ n ρ w K:=by
 subst hn
 refine o_make1 H hu he J nn hx hy hb hm fun b w' H'=>k b w' ?_
 have:=H'.boxRow 0 J 1 nn qm qp
 simpa using this
end
section
variable{P : Program}{Q : Exit -> Act -> World -> Prop}{n : Nat}{ρ : Env}{W0 w : World}{ps : List Prv}{Γ : List Fact}
 {d:Nat} {ty:TypeId} {pos:String} {af:Array Edge} {K:Env->World->Prop}
theorem set_at{p q:Prv}(h:ps[i]? =some p):(ps.set i q)[i]? =some q:=by
 have:=(List.getElem?_eq_some_iff.1 h).1
 simp[this]
theorem zQ[Dfr]{s:Operand}(H:St W0 w ps Γ)(i:Nat)(hp:ps[i]? =some (.row v e sz nn xs))(j:Nat)(hq:ps[j]? =some (.box b cs tb))
 (hu:P.underlying t=some (.slice e)) (he:TI P e z sz e9) (zm:z.cells.size=sz) (h0:0<sz) (hs:ev n ρ s=v) (hx:ev n ρ x=Sv (some ⟨b,0,none⟩) m c) (hl:cs.length=m*sz)
 (h1:∀u∈cs,u.oneCell'=true) (hm:nn+m<=maxLen) (hb:(nn+m)*e9 <=140737488355328)
 (k:∀a c' w',St W0 w' (ps.set i<|.row (Sv a (nn+m) c') e sz (nn+m)<|xs++cs) Γ->K (upd ρ d<|Sv a (nn+m) c') w'):
 OW P Q ⟨some d,.call ⟨.builtin .append,#[s,x],#[t,t]⟩,ty,pos,af,none⟩ n ρ w K:=
 o_append H i hp j hq hu he zm h0 hs hx hl h1 hm hb fun v' w' H'=>by
  obtain⟨a,c',rfl,_⟩:=H'.jB i<|set_at hp
  exact k a c' w' H'
theorem o_appendFR[Dfr]{α:Type}[qI α]{s:Operand}{l:List α}(H:St W0 w ps Γ)(i:Nat)(hp:ps[i]? =some (.row v e (qI.size α) nn xs))
 (j:Nat) (hf:Γ[j]? =some (isF fr F (Sv a m c) l)) (hu:P.underlying t=some (.slice e)) (he:TI P e z (qI.size α) e9) (zm:z.cells.size=qI.size α) (h0:0<qI.size α) (hs:ev n ρ s=v)
 (hx:ev n ρ x=Sv a m c) (hm:nn+m<=maxLen) (hb:(nn+m)*e9 <=140737488355328)
 (k:∀a' c' w' vs G,St W0 w' (ps.set i<|.row (Sv a' (nn+m) c') e (qI.size α) (nn+m)<|xs++vs) (qX fr G vs l::Γ)->(∀b∈G,b∈F)->K (upd ρ d<|Sv a' (nn+m) c') w'):
 OW P Q ⟨some d,.call ⟨.builtin .append,#[s,x],#[t,t]⟩,ty,pos,af,none⟩ n ρ w K:=
 o_appendF H i hp j hf hu he zm h0 hs hx hm hb fun v' w' vs G H' hG=>by
  obtain⟨a',c',rfl,_⟩:=H'.jB i<|set_at hp
  exact k a' c' w' vs G H' hG
theorem St.dead(H:St W0 w ps Γ)(k:Nat){p:Prv}(hp:ps[k]? =some p):St W0 w (ps.set k<|.row (Sv none 0 0) 0 1 0 []) Γ:=
 H.change k hp J J J (Nat.le_refl _) (fun _ _ _=>rfl) (World.ownsRow_nil _ _ _ _) (Or.inr<|Or.inl J)
theorem St.freeze{α:Type}[qI α](H:St W0 w ps Γ)(k:Nat)(hp:ps[k]? =some (.row v e (qI.size α) nn xs))(fr:Bool){l:List α}
 (hr:reps w F xs l) (eJ:fr=true->yc w F) (hF:∀b∈F,b<w.heap.size/\∀i,yY ps i≠some b) (hn:nn=l.length):
 ∃G,(∀b∈G,b∈F\/yY ps k=some b)/\(F.Nodup->G.Nodup)/\St W0 w (ps.set k<|.row (Sv none 0 0) 0 1 0 []) (isF fr G v l::Γ):=by
 subst hn
 have ho:=(H.has _ (List.mem_of_getElem? hp):w.ownsRow W0.heap.size e (qI.size α) v l.length xs)
 have oJ:∀(b i:Nat),yY (ps.set k<|.row (Sv none 0 0) 0 1 0 []) i=some b->i≠k/\yY ps i=some b:=by
  intro b i h
  unfold yY at h ⊢
  by_cases hi:i=k
  ·subst hi
   rw[set_at hp] at h
   simp[Prv.blk,Value.ownBlock] at h
  ·rw[List.getElem?_set_ne<|Ne.symm hi] at h
   exact⟨hi,h⟩
 rcases ho.2 with ⟨rfl,h0⟩|⟨g,gA,gE,rfl,hb,hg,Zg,hcm,LJ,htake⟩
 ·have:l=[]:=List.eq_nil_of_length_eq_zero h0
  subst this
  exact⟨[],by simp,by simp,(H.dead k hp).add _ ⟨⟨none,0,J,by simp,Or.inl ⟨J,J⟩⟩,fun _=>yc.nil _⟩<|by simp[isF]⟩
 ·have hbk:yY ps k=some g:=by simp[yY,hp,Prv.blk,Value.ownBlock]
  have SS:jO w g 0 xs:=by
   intro i u hi
   rw[Nat.zero_add,World.cell?,hg]
   rw[←htake,List.getElem?_take] at hi
   split at hi
   ·simpa using hi
   ·cases hi
  refine⟨g::F,fun b hb=>?_,fun hn=>List.nodup_cons.2 ⟨fun h=>(hF g h).2 k hbk,hn⟩,(H.dead k hp).add _ ⟨⟨_,gA,J,by unfold maxLen at hcm;omega,Or.inr ⟨g,0,F,xs,J,J,(Array.getElem?_eq_some_iff.1 hg).1,hr,SS⟩⟩,fun e b hb=>?_⟩ fun b hb=>?_⟩
  ·rcases List.mem_cons.1 hb with rfl|h
   ·exact Or.inr hbk
   ·exact Or.inl h
  ·rcases List.mem_cons.1 hb with rfl|h
   ·exact⟨_,_,hg⟩
   ·exact eJ e b h
  ·rcases List.mem_cons.1 hb with rfl|h
   ·exact⟨(Array.getElem?_eq_some_iff.1 hg).1,fun i hi=>(oJ b i hi).1<|H.dist i k b (oJ b i hi).2 hbk⟩
   ·exact⟨(hF b h).1,fun i hi=>(hF b h).2 i (oJ b i hi).2⟩
theorem reps_of_bools(w:World):∀(l:List Bool),reps w [] (l.map Value.bool) l
 | []=>⟨rfl,rfl⟩
 |x::l=>⟨[],[],[Bv x],l.map Value.bool,rfl,rfl,⟨rfl,rfl⟩,reps_of_bools w l⟩
theorem Fresh.ice(N:Fresh W0.heap.size (F::L))(H:St W0 w ps Γ)(k:Nat)(hs:∀b∈G,b∈F\/yY ps k=some b)(hn:F.Nodup->G.Nodup)(ha:∀K∈L,∀b∈K,∀i,yY ps i≠some b):Fresh W0.heap.size (G::L):=by
 have h1:=List.pairwise_cons.1 N.dj
 refine⟨fun K hK=>?_,fun K hK b hb=>?_,List.pairwise_cons.2 ⟨fun K hK b hb WJ=>?_,h1.2⟩⟩
 ·rcases List.mem_cons.1 hK with rfl|h
  ·exact hn<|N.nd F qm
  ·exact N.nd K<|by simp[h]
 ·rcases List.mem_cons.1 hK with rfl|h
  ·rcases hs b hb with h|h
   ·exact N.ge F qm b h
   ·exact(blkAt_has H h).1
  ·exact N.ge K (by simp[h]) b hb
 ·rcases hs b hb with h|h
  ·exact h1.1 K hK b h WJ
  ·exact ha K hK b WJ k h
theorem St.vJ(H:St W0 w ps Γ)(k:Nat)(hp:ps[k]? =some (.row v e 1 nn<|l.map<|Value.int .i64))(N:Fresh W0.heap.size L)(ha:∀K∈L,∀b∈K,∀i,yY ps i≠some b):
 ∃G,Fresh W0.heap.size (G::L)/\nn=l.length/\St W0 w (ps.set k<|.row (Sv none 0 0) 0 1 0 []) (isF true G v l::Γ):=by
 have hn:nn=l.length:=by have:=H.rowLen k hp;simp at this;omega
 obtain⟨G,h1,h2,h3⟩:=H.freeze (α:=Int) k hp true (reps_of_ints w l) (fun _=>yc.nil _) qm hn
 exact⟨G,N.emp.ice H k h1 h2 ha,hn,h3⟩
theorem St.freezeB(H:St W0 w ps Γ)(k:Nat){l:List Bool}(hp:ps[k]? =some (.row v e 1 nn<|l.map Value.bool))(N:Fresh W0.heap.size L)(ha:∀K∈L,∀b∈K,∀i,yY ps i≠some b):
 ∃G,Fresh W0.heap.size (G::L)/\nn=l.length/\St W0 w (ps.set k<|.row (Sv none 0 0) 0 1 0 []) (isF true G v l::Γ):=by
 have hn:nn=l.length:=by have:=H.rowLen k hp;simp at this;omega
 obtain⟨G,h1,h2,h3⟩:=H.freeze (α:=Bool) k hp true (reps_of_bools w l) (fun _=>yc.nil _) qm hn
 exact⟨G,N.emp.ice H k h1 h2 ha,hn,h3⟩
theorem St.ji{α:Type}[qI α](H:St W0 w ps Γ)(k:Nat)(hp:ps[k]? =some (.row v e (qI.size α) nn xs))(j:Nat){l:List α}(hf:Γ[j]? =some (qX fr F xs l))(hz:0<qI.size α):
 ∃G,((∀b∈G,b∈F\/yY ps k=some b)/\(F.Nodup->G.Nodup))/\nn=l.length/\St W0 w (ps.set k<|.row (Sv none 0 0) 0 1 0 []) (isF fr G v l::Γ):=by
 have hn:=H.xf k hp j hf hz
 obtain⟨G,h1,h2,h3⟩:=H.freeze (α:=α) k hp fr (H.get j hf).1 (H.get j hf).2 (H.facts _<|List.mem_of_getElem? hf).2 hn
 exact⟨G,⟨h1,h2⟩,hn,h3⟩
theorem St.Xv(H:St W0 w ps Γ)(k:Nat)(hp:ps[k]? =some (.row (Sv a nn c) e 1 nn<|l.map<|Value.int .i64)):∃G,nn=l.length/\qI.rep w G [Sv a nn c] l:=by
 have hn:nn=l.length:=by have:=H.rowLen k hp;simp at this;omega
 obtain⟨a',c',G,h1,h2,_⟩:=H.rowInts k hp hn
 exact⟨G,hn,h2⟩
theorem St.rowIsB(H:St W0 w ps Γ)(k:Nat){l:List Bool}(hp:ps[k]? =some (.row (Sv a nn c) e 1 nn<|l.map Value.bool)):∃G,nn=l.length/\qI.rep w G [Sv a nn c] l:=by
 have hn:nn=l.length:=by have:=H.rowLen k hp;simp at this;omega
 obtain⟨a',c',G,h1,h2,_⟩:=H.rowRep (α:=Bool) k hp (reps_of_bools w l) hn qm
 exact⟨G,hn,h2⟩
theorem St.Vd{α:Type}[qI α](H:St W0 w ps Γ)(k:Nat)(hp:ps[k]? =some (.row (Sv a nn c) e (qI.size α) nn xs))(j:Nat){l:List α}(hf:Γ[j]? =some (qX fr F xs l))(hz:0<qI.size α):
 ∃G,nn=l.length/\qI.rep w G [Sv a nn c] l:=by
 have hn:=H.xf k hp j hf hz
 subst hn
 have ho:=(H.has _ (List.mem_of_getElem? hp):w.ownsRow W0.heap.size e (qI.size α) _ l.length xs)
 rcases ho.2 with ⟨hv,h0⟩|⟨g,gA,gE,hv,hb,hg,Zg,hcm,LJ,htake⟩
 ·have:l=[]:=List.eq_nil_of_length_eq_zero h0
  subst this
  rw[hv]
  exact⟨[],J,none,0,J,by simp,Or.inl ⟨J,J⟩⟩
 ·rw[hv]
  refine⟨g::F,J,_,gA,J,by unfold maxLen at hcm;omega,Or.inr ⟨g,0,F,xs,J,J,(Array.getElem?_eq_some_iff.1 hg).1,(H.get j hf).1,?_⟩⟩
  intro i u hi
  rw[Nat.zero_add,World.cell?,hg]
  rw[←htake,List.getElem?_take] at hi
  split at hi
  ·simpa using hi
  ·cases hi
theorem vF[Dfr]{xs:Array Operand}{f:FuncId}(args:Array Value)(hv:ev n ρ x=.func (.func f) fst oo)
 (ni:fst.toList++xs.toList.map (ev n ρ)++oo.toList=args.toList) (hf:∀args w,(callFunc f args).run P w=.ok (.enter f args) w)
 (hc:Calls P f args w fun e w'=>∃v,e=.returned v/\K (upd ρ d v) w'):
 OW P Q ⟨some d,.call ⟨.value x,xs,ts⟩,ty,pos,af,none⟩ n ρ w K:=by
 have hr:(execOp (ev n ρ) ⟨some d,.call ⟨.value x,xs,ts⟩,ty,pos,af,none⟩).run P w=.ok (.enter f args) w:=by
  have e:fst++xs.map (ev n ρ)++oo=args:=by apply Array.toList_inj.1;rw[←ni];simp
  simp[execOp,resolve,Deferred.ofValue,hv,invoke,hf,e]
 unfold OW
 intro K' hK
 unfold Oper.wp
 rw[XV,hr]
 refine hc.mono fun e w' ⟨v,he,hR⟩=>?_
 subst he
 show K' ((mk n ρ).put (some d) v) w'
 rw[mk_put]
 exact hK _ _ hR
end
theorem VF{P:Program}{f:FuncId}{as0 bs:Array Value}{R:Ending->World->Prop}(h:as0=bs)(k:Calls P f bs w R):Calls P f as0 w R:=h▸k
section
variable{W0 w : World}{ps : List Prv}{Γ : List Fact}
theorem St.yt(H:St W0 w ps Γ)(k:Nat)(hp:ps[k]? =some (.row v e 1 nn<|l.map<|Value.int .i64)):nn=l.length:=by
 have:=H.rowLen k hp;simp at this;omega
theorem St.Vt(H:St W0 w ps Γ)(k:Nat){l:List Bool}(hp:ps[k]? =some (.row v e 1 nn<|l.map Value.bool)):nn=l.length:=by
 have:=H.rowLen k hp;simp at this;omega
theorem St.isLen{α:Type}[qI α](H:St W0 w ps Γ)(k:Nat){l:List α}(hf:Γ[k]? =some (isF fr F (Sv a m c) l)):m=l.length:=by
 obtain⟨⟨a',c',hc,_⟩,_⟩:=H.get k hf
 simp only[List.cons.injEq,Value.slice.injEq,and_true] at hc
 exact hc.2.1
end
theorem snocI(l:yLI)(x:Int):l.map (Value.int .i64)++[.int .i64 x]=(l++[x]).map (Value.int .i64):=by simp
theorem snocB(l:List Bool)(x:Bool):l.map Value.bool++[Bv x]=(l++[x]).map Value.bool:=by simp
theorem Fresh.split(N:Fresh B ((F++G)::L)):Fresh B (F::G::L):=by
 have h1:=List.pairwise_cons.1 N.dj
 have h2:=List.nodup_append.1<|N.nd (F++G) qm
 refine⟨fun K hK=>?_,fun K hK b hb=>?_,List.pairwise_cons.2 ⟨fun K hK b hb WJ=>?_,List.pairwise_cons.2 ⟨fun K hK b hb=>h1.1 K hK b<|by simp[hb],h1.2⟩⟩⟩
 ·rcases List.mem_cons.1 hK with rfl|h
  ·exact h2.1
  ·rcases List.mem_cons.1 h with rfl|h
   ·exact h2.2.1
   ·exact N.nd K<|by simp[h]
 ·rcases List.mem_cons.1 hK with rfl|h
  ·exact N.ge (K++G) qm b<|by simp[hb]
  ·rcases List.mem_cons.1 h with rfl|h
   ·exact N.ge (F++K) qm b<|by simp[hb]
   ·exact N.ge K (by simp[h]) b hb
 ·rcases List.mem_cons.1 hK with rfl|h
  ·exact h2.2.2 b hb b WJ J
  ·exact h1.1 K h b (by simp[hb]) WJ
section
variable{W0 w w': World}{ps : List Prv}{Γ : List Fact}
theorem St.addNil{α:Type}[qI α](H:St W0 w ps Γ):St W0 w ps (isF true [] (Sv none 0 0) ([]:List α)::Γ):=
 H.add _ ⟨⟨none,0,rfl,by simp,Or.inl ⟨rfl,rfl⟩⟩,fun _=>yc.nil _⟩ (by simp[isF])
end
section
variable{P : Program}{Q : Exit -> Act -> World -> Prop}{n : Nat}{ρ : Env}{W0 w : World}{ps : List Prv}{Γ : List Fact}
 {d:Nat} {ty:TypeId} {pos:String} {af:Array Edge} {K:Env->World->Prop}
theorem o_idxArr[Dfr](iv:Int)(hu:P.underlying t=some (.array m e))(he:TI P e z sz e9)
 (hx:ev n ρ x=.pointer (some ⟨b,off,none⟩)) (hy:ev n ρ y=.int .i64 iv) (h0:0<=iv) (h1:iv<m)
 (k:K (upd ρ d<|.pointer<|some ⟨b,off+iv.toNat*sz,none⟩) w):OW P Q ⟨some d,.indexAddr t x y,ty,pos,af,none⟩ n ρ w K:=
 Xx _ (by simp[execOp,hx,hy,Instr.indexAt,Instr.sureAddr,asIntOf,run_underlying hu,he.sizeOf,h0,h1,Addr.add_mid]) k
theorem y_idxArr{S:World->Prop}{gd:Option (Nat×Bool)}(b off m:Nat)(iv:Int)(hu:P.underlying t=some (.array m e))(he:TI P e z sz e9)
 (hx:ev n ρ x=.pointer (some ⟨b,off,none⟩)) (hy:ev n ρ y=.int .i64 iv) (h0:0<=iv) (h1:iv<m):
 ∀w',S w' ->(execOp (ev n ρ) ⟨some d,.indexAddr t x y,ty,pos,af,gd⟩).run P w'=.ok (.value<|.pointer<|some ⟨b,off+iv.toNat*sz,none⟩) w':=
 fun w' _=>by simp[execOp,hx,hy,Instr.indexAt,Instr.sureAddr,asIntOf,run_underlying hu,he.sizeOf,h0,h1,Addr.add_mid]
theorem o_storeArr[Dfr](H:St W0 w ps Γ)(k:Nat)(hp:ps[k]? =some (.box b (l.map<|Value.int .i64) tb))(u:Int)
 (hs:∀w,(Go.sizeOf t).run P w=.ok 1 w) (hx:ev n ρ x=.pointer (some ⟨b,0+iv.toNat*1,none⟩)) (hy:ev n ρ y=.int .i64 u) (hi:iv.toNat=i) (h2:i<l.length)
 (kk:∀w',St W0 w' (ps.set k<|.box b ((l.set i u).map<|Value.int .i64) tb) Γ->K ρ w'):OW P Q ⟨none,.store t x y,ty,pos,af,none⟩ n ρ w K:=by
 subst hi
 refine o_store1 H k hp (.int .i64 u) hs hx hy J qy fun w' H'=>kk w' ?_
 rwa [List.map_set,show iv.toNat=0+iv.toNat*1 by omega]
end
theorem Fresh.swap(N:Fresh B (F::G::L)):Fresh B (G::F::L):=by
 have h1:=List.pairwise_cons.1 N.dj
 have h2:=List.pairwise_cons.1 h1.2
 refine⟨fun K hK=>N.nd K ?_,fun K hK=>N.ge K ?_,List.pairwise_cons.2 ⟨fun K hK b hb WJ=>?_,List.pairwise_cons.2 ⟨fun K hK=>h1.1 K<|by simp[hK],h2.2⟩⟩⟩
 ·simp only[List.mem_cons] at hK ⊢
  rcases hK with h|h|h <;> simp[h]
 ·simp only[List.mem_cons] at hK ⊢
  rcases hK with h|h|h <;> simp[h]
 ·rcases List.mem_cons.1 hK with rfl|h
  ·exact h1.1 G qm b WJ hb
  ·exact h2.1 K h b hb WJ
section
variable{W0 w w': World}{ps : List Prv}{Γ : List Fact}
theorem St.pick(H:St W0 w ps Γ)(is js:yLN)(hi:is.map (fun i=>ps[i]?)=nP.map some:=by exact J)(hj:js.map (fun i=>Γ[i]?)=Γ'.map some:=by exact J)(hd:is.Nodup:=by decide):St W0 w nP Γ':=by
 have hl:is.length=nP.length:=by simpa using congrArg List.length hi
 have ei:∀k (hk:k<nP.length) (CT :k<is.length),ps[is[k]]? =some nP[k]:=by
  intro k hk CT
  have h1:(is.map<|fun i=>ps[i]?)[k]? =(nP.map some)[k]? :=by rw[hi]
  simpa [hk,CT] using h1
 have ael:∀k b,yY nP k=some b->∃hk:k<is.length,yY ps is[k]=some b:=by
  intro k b h
  unfold yY at h
  cases hp:nP[k]? with
  |none=>simp[hp] at h
  |some p=>
   obtain⟨hk,e⟩:=List.getElem?_eq_some_iff.1 hp
   refine⟨by omega,?_⟩
   unfold yY
   rw[ei k hk qf,e]
   simpa [hp] using h
 refine⟨H.base,fun p hp=>?_,fun i j b h1 h2=>?_,fun f hf=>?_⟩
 ·have:some p∈nP.map some:=List.mem_map_of_mem hp
  rw[←hi] at this
  obtain⟨i,_,CU⟩:=List.mem_map.1 this
  exact H.has p<|List.mem_of_getElem? CU
 ·obtain⟨hk1,e1⟩:=ael i b h1
  obtain⟨hk2,e2⟩:=ael j b h2
  have e:=H.dist _ _ b e1 e2
  have hp:=List.pairwise_iff_getElem.1 hd
  rcases Nat.lt_trichotomy i j with h|h|h
  ·exact absurd e<|hp i j hk1 hk2 h
  ·exact h
  ·exact absurd e.symm<|hp j i hk2 hk1 h
 ·have:some f∈Γ'.map some:=List.mem_map_of_mem hf
  rw[←hj] at this
  obtain⟨i,_,CU⟩:=List.mem_map.1 this
  obtain⟨h1,h2⟩:=H.facts f<|List.mem_of_getElem? CU
  exact⟨h1,fun b hb=>⟨(h2 b hb).1,fun k hk=>by
   obtain⟨CT,e⟩:=ael k b hk
   exact(h2 b hb).2 _ e⟩⟩
theorem St.unfree{α:Type}[qI α](H:St W0 w ps Γ)(j:Nat){l:List α}(hf:Γ[j]? =some (qX fr F xs l)):St W0 w ps (qX false F xs l::Γ):=
 H.jR j hf _ ⟨(H.get j hf).1,by simp⟩ (fun b hb=>hb)
theorem St.unfreeI{α:Type}[qI α](H:St W0 w ps Γ)(j:Nat){l:α}(hf:Γ[j]? =some (isF fr F v l)):St W0 w ps (isF false F v l::Γ):=
 H.jR j hf _ ⟨(H.get j hf).1,by simp⟩ (fun b hb=>hb)
theorem St.repsCat{α:Type}[qI α](H:St W0 w ps Γ)(f0:Bool)(j:Nat){l:List α}(hf:Γ[j]? =some (qX fr F xs l))(m:Nat){l':List α}(hg:Γ[m]? =some (qX S4 G ys l'))(h3:f0=true->fr=true/\S4 =true):
 St W0 w ps (qX f0 (F++G) (xs++ys) (l++l')::Γ):=by
 refine H.add _ ⟨Qc (H.get j hf).1 (H.get m hg).1,fun e=>((H.get j hf).2 (h3 e).1).app ((H.get m hg).2 (h3 e).2)⟩ fun b hb=>?_
 rcases List.mem_append.1 hb with h|h
 ·exact(H.facts _<|List.mem_of_getElem? hf).2 b h
 ·exact(H.facts _<|List.mem_of_getElem? hg).2 b h
theorem reps_bools{w:World}:∀ {F:yLN} {vs:List Value} {l:List Bool},reps w F vs l->F=[]/\vs=l.map Value.bool
 |_,_,[],⟨hF,hv⟩=>⟨hF,hv⟩
 |_,_,x::l,⟨F1,F2,c1,c2,hF,hv,h1,h2⟩=>by
  obtain⟨e1,e2⟩:=reps_bools h2
  obtain⟨k1,k2⟩:F1=[]/\c1=[Bv x]:=h1
  subst e1 e2 k1 k2
  exact⟨hF,hv⟩
end
theorem catB(l m:List Bool):l.map Value.bool++m.map Value.bool=(l++m).map Value.bool:=by simp
section
variable{P : Program}{Q : Exit -> Act -> World -> Prop}{n : Nat}{ρ : Env}{W w : World}{d : Nat}{ty : TypeId}{pos : String}{af : Array Edge}{K : Env -> World -> Prop}{ps : List Prv}{Γ : List Fact}{S : World -> Prop}{gd : Option (Nat × Bool)}
theorem vZ[Dfr]{xs:Array (Nat×Operand)}(cs:List Value)(V0:List (Nat×Value))(k:K (upd ρ d<|.agg cs.toArray) w)(hx:xs.toList.map (fun p=>(p.1,ev n ρ p.2))=V0:=by exact J)(h:P.built t V0=some cs.toArray:=by kernel_rfl):
 OW P Q ⟨some d,.build t xs,ty,pos,af,none⟩ n ρ w K:=by
 subst hx
 refine Xx _ ?_ k
 have:=run_build (P:=P) w t (xs.map fun p=>(p.1,ev n ρ p.2)) cs.toArray<|by simpa using h
 simp[execOp,this]
theorem neg_i64{a:Int}(h: -9223372036854775807<=a/\a<=9223372036854775807):IntKind.i64.wrap (-a)= -a:=wrap_in qf
theorem run_neg{P:Program}{a:Int}(h: -9223372036854775807<=a/\a<=9223372036854775807):(Op.unary .neg<|.int .i64 a).run P w=.ok (.int .i64 (-a)) w:=by
 simp[Op.unary,Op.intArith,neg_i64 h]
theorem y_neg(a:Int)(hx:ev n ρ x=.int .i64 a)(h: -9223372036854775807<=a/\a<=9223372036854775807):∀w',S w' ->(execOp (ev n ρ) ⟨some d,.unOp .neg t x,ty,pos,af,gd⟩).run P w'=.ok (.value<|.int .i64 (-a)) w':=
 fun w' _=>by simp[execOp,hx,run_neg h]
theorem o_quo[Dfr](a b:Int)(hx:ev n ρ x=.int .i64 a)(hy:ev n ρ y=.int .i64 b)(h0:0<=a/\a<=9223372036854775807)(h1:0<b)(k:K (upd ρ d<|.int .i64<|a / b) w):
 OW P Q ⟨some d,.binOp .quo t x y u,ty,pos,af,none⟩ n ρ w K:=
 Xx _ (by
  have e:a.tdiv b=a / b:=Int.tdiv_eq_ediv_of_nonneg h0.1
  have e2:IntKind.i64.wrap (a / b)=a / b:=wrap_in ⟨by have:=Int.ediv_nonneg h0.1 (Int.le_of_lt h1);omega,by have:=Int.ediv_le_self b h0.1;omega⟩
  simp[execOp,hx,hy,eqGuard,binOp,Op.intDiv,show b≠0 by omega,e,e2]) k
theorem y_quo(a b:Int)(hx:ev n ρ x=.int .i64 a)(hy:ev n ρ y=.int .i64 b)(h0:0<=a/\a<=9223372036854775807)(h1:0<b):
 ∀w',S w' ->(execOp (ev n ρ) ⟨some d,.binOp .quo t x y u,ty,pos,af,gd⟩).run P w'=.ok (.value<|.int .i64<|a / b) w':=
 fun w' _=>by
  have e:a.tdiv b=a / b:=Int.tdiv_eq_ediv_of_nonneg h0.1
  have e2:IntKind.i64.wrap (a / b)=a / b:=wrap_in ⟨by have:=Int.ediv_nonneg h0.1 (Int.le_of_lt h1);omega,by have:=Int.ediv_le_self b h0.1;omega⟩
  simp[execOp,hx,hy,eqGuard,binOp,Op.intDiv,show b≠0 by omega,e,e2]
theorem max_if(x y:Int):(if y>x then y else x)=max x y:=by omega
theorem min_if(x y:Int):(if y<x then y else x)=min x y:=by omega
theorem o_max[Dfr](a b:Int)(hx:ev n ρ x=.int .i64 a)(hy:ev n ρ y=.int .i64 b)(k:K (upd ρ d<|.int .i64<|max a b) w):OW P Q ⟨some d,.call ⟨.builtin .max,#[x,y],ts⟩,ty,pos,af,none⟩ n ρ w K:=
 Xx _ (by rw[←max_if];simp[execOp,resolve,invoke,builtin,hx,hy,run_max_int2]) k
theorem o_min[Dfr](a b:Int)(hx:ev n ρ x=.int .i64 a)(hy:ev n ρ y=.int .i64 b)(k:K (upd ρ d<|.int .i64<|min a b) w):OW P Q ⟨some d,.call ⟨.builtin .min,#[x,y],ts⟩,ty,pos,af,none⟩ n ρ w K:=
 Xx _ (by rw[←min_if];simp[execOp,resolve,invoke,builtin,hx,hy,run_min_int2]) k
theorem y_max(a b:Int)(hx:ev n ρ x=.int .i64 a)(hy:ev n ρ y=.int .i64 b):∀w',S w' ->(execOp (ev n ρ) ⟨some d,.call ⟨.builtin .max,#[x,y],ts⟩,ty,pos,af,gd⟩).run P w'=.ok (.value<|.int .i64<|max a b) w':=
 fun w' _=>by rw[←max_if];simp[execOp,resolve,invoke,builtin,hx,hy,run_max_int2]
theorem o_head[Dfr]{α:Type}[qI α]{l:List α}(H:St W w ps Γ)(i:Nat)(hf:Γ[i]? =some (isF fr F (Sv a m c) l))(kk:Nat)
 (hu:P.underlying t=some (.slice e)) (he:TI P e z (qI.size α) e9) (hx:ev n ρ x=Sv a m c) (hy:ev n ρ y=.int .i64 iv) (hv:iv=kk) (hk:kk<=l.length)
 (k:∀a' G,(∀b∈G,b∈F)->St W w ps (isF fr G (Sv a' (l.take kk).length c) (l.take kk)::Γ)->K (upd ρ d<|Sv a' (l.take kk).length c) w):
 OW P Q ⟨some d,.slice t x none (some y) none,ty,pos,af,none⟩ n ρ w K:=by
 subst hv
 obtain⟨⟨a0,c0,hc,⟨hl,UE⟩,h⟩,eJ⟩:=H.get i hf
 simp only[List.cons.injEq,Value.slice.injEq,and_true] at hc
 obtain⟨rfl,rfl,rfl⟩:=hc
 have wo:(execOp (ev n ρ) ⟨some d,.slice t x none (some y) none,ty,pos,af,none⟩).run P w=
  .ok (.value (Sv (if c=0 then a else a.map (·.add 0)) kk c)) w:=by
  simp[execOp,hx,hy,Instr.sliceAt,Instr.slice,Instr.sliceBounds,Instr.sliceBound,asIntOf,run_underlying hu,he.sizeOf,show kk<=c by omega]
 have tJ:(l.take kk).length=kk:=List.length_take_of_le hk
 have hlc:(l.take kk).length<=9223372036854775807/\(l.take kk).length<=c:=by rw[tJ];omega
 refine Xx _ wo ?_
 rcases h with ⟨h0,hF⟩|⟨b,off,F',vs,ha,hF,hb,hr,hcells⟩
 ·have:=k (if c=0 then a else a.map (·.add 0)) [] qm (H.add _ ⟨⟨_,_,rfl,hlc,Or.inl ⟨by simp[h0],rfl⟩⟩,fun _=>yc.nil _⟩<|by simp[isF])
  rwa [tJ] at this
 ·subst ha
  rw[←List.take_append_drop kk l] at hr
  obtain⟨F1,F2,v1,v2,e1,e2,r1,r2⟩:=reps_split _ hr
  have bV:∀z∈b::F1,z∈F:=by
   intro z hz
   rw[hF,e1]
   simp only[List.mem_cons,List.mem_append] at hz ⊢
   rcases hz with h|h <;> simp[h]
  have aCT:(if c=0 then some ⟨b,off,none⟩ else (some (⟨b,off,none⟩:Addr)).map (·.add 0))=some ⟨b,off,none⟩:=by
   split <;> simp[Addr.add_mid]
  rw[aCT]
  have:=k (some ⟨b,off,none⟩) (b::F1) bV<|H.jR i hf _ ⟨⟨_,_,rfl,hlc,Or.inr ⟨b,off,F1,v1,rfl,rfl,hb,r1,?_⟩⟩,fun e=>(eJ e).sub bV⟩ bV
  ·rwa [tJ] at this
  ·intro j v hv
   refine hcells j v ?_
   obtain⟨hj,_⟩:=List.getElem?_eq_some_iff.1 hv
   rw[e2,List.getElem?_append_left hj]
   exact hv
end
def Meet[Dfr](A:Env->World->Prop)(n:Nat):Exit->Act->World->Prop
 | .normal,a,w=>∃ρ,a=mk n ρ/\A ρ w
 |_,_,_=>False
theorem c_cut[Dfr]{P:Program}{Q:Exit->Act->World->Prop}{x:Code}(A:Env->World->Prop)(h1:x.wp P (Meet A n) (mk n ρ) w)(h2:∀ρ w,A ρ w->Q .normal (mk n ρ) w):x.wp P Q (mk n ρ) w:=by
 refine Code.wp_mono ?_ h1
 intro e a w h
 cases e with
 |normal=>obtain⟨ρ,rfl,hA⟩:=h;exact h2 ρ w hA
 |exit _=>exact h.elim
 |goto _=>exact h.elim
 |ret=>exact h.elim
 |panic _=>exact h.elim
 |outgrown=>exact h.elim
theorem meet[Dfr]{A:Env->World->Prop}(h:A ρ w):Meet A n .normal (mk n ρ) w:=⟨ρ,rfl,h⟩
theorem St.merge(H:St W0 w0 ps Γ)(K:St w0 w nP Γ')(M:Fresh w0.heap.size (Γ'.map Fact.F)):St W0 w (nP ++ps) (Γ' ++Γ):=by
 have hge:∀f∈Γ',∀b∈f.F,w0.heap.size<=b:=fun f hf b hb=>M.ge f.F (List.mem_map_of_mem hf) b hb
 have Bi:∀i b,yY (nP ++ps) i=some b->(i<nP.length/\yY nP i=some b/\w0.heap.size<=b)\/(nP.length<=i/\yY ps (i-nP.length)=some b/\b<w0.heap.size):=by
  intro i b h
  rcases Nat.lt_or_ge i nP.length with hi|hi
  ·have:yY nP i=some b:=by unfold yY at h ⊢;rwa [List.getElem?_append_left hi] at h
   exact Or.inl ⟨hi,this,(blkAt_has K this).1⟩
  ·have:yY ps (i-nP.length)=some b:=by unfold yY at h ⊢;rwa [List.getElem?_append_right hi] at h
   exact Or.inr ⟨hi,this,(blkAt_has H this).2⟩
 refine⟨Ext.trans' H.base K.base,fun p hp=>?_,fun i j b hi hj=>?_,fun f hf=>?_⟩
 ·rcases List.mem_append.1 hp with h|h
  ·have hk:=K.has p h
   cases p with
   |box b cs t=>exact⟨Nat.le_trans H.base.size hk.1,hk.2⟩
   |row v e sz n xs=>exact ownsRow_up hk H.base.size
  ·exact(H.has p h).stay fun b hb=>K.base.block b ((H.has p h).lt hb).2
 ·rcases Bi i b hi with ⟨h1,h2,h3⟩|⟨h1,h2,h3⟩ <;> rcases Bi j b hj with ⟨k1,k2,k3⟩|⟨k1,k2,k3⟩
  ·exact K.dist i j b h2 k2
  ·omega
  ·omega
  ·have:=H.dist _ _ b h2 k2;omega
 ·rcases List.mem_append.1 hf with h|h
  ·obtain⟨h1,h2⟩:=K.facts f h
   exact⟨h1,fun b hb=>⟨(h2 b hb).1,fun i hi=>by
    rcases Bi i b hi with ⟨_,k,_⟩|⟨_,_,k⟩
    ·exact(h2 b hb).2 i k
    ·have:=hge f h b hb;omega⟩⟩
  ·obtain⟨h1,h2⟩:=H.facts f h
   exact⟨f.stay w0 w h1 fun b hb=>K.base.block b (h2 b hb).1,fun b hb=>⟨Nat.lt_of_lt_of_le (h2 b hb).1 K.base.size,fun i hi=>by
    rcases Bi i b hi with ⟨_,_,k⟩|⟨_,k,_⟩
    ·have:=(h2 b hb).1;omega
    ·exact(h2 b hb).2 _ k⟩⟩
theorem Fresh.merge{C:Nat}(N:Fresh B L)(h:B<=C)(hl:∀F∈L,∀b∈F,b<C)(M:Fresh C L'):Fresh B (L' ++L):=by
 refine⟨fun F hF=>?_,fun F hF b hb=>?_,List.pairwise_append.2 ⟨M.dj,N.dj,fun F hF G hG b hb hbG=>by have:=M.ge F hF b hb;have:=hl G hG b hbG;omega⟩⟩
 ·rcases List.mem_append.1 hF with k|k
  ·exact M.nd F k
  ·exact N.nd F k
 ·rcases List.mem_append.1 hF with k|k
  ·exact Nat.le_trans h<|M.ge F k b hb
  ·exact N.ge F k b hb
theorem St.mergeIn(H:St W0 w0 ps Γ)(K:St w0 w nP [f])(j:Nat)(hg:Γ[j]? =some g)(hF:∀b∈f.F,b∈g.F):St W0 w (nP ++ps) (f::Γ):=by
 have H1:St W0 w (nP ++ps) ([]++Γ):=St.merge H (K.sub [] qm)<|Fresh.nil _
 exact H1.jR j hg f (K.get 0 J) hF
theorem Vz{α:Type}(l:List α):∀(is:yLN),is.all (fun i=>Nat.blt i l.length)=true->is.map (fun i=>l[i]?)=(is.filterMap fun i=>l[i]?).map some
 | [],_=>rfl
 |i::is,h=>by
  simp only[List.all_cons,Bool.and_eq_true] at h
  have hi:i<l.length:=by simpa [Nat.blt_eq] using h.1
  simp[List.getElem?_eq_getElem hi,Vz l is h.2]
theorem St.ve(H:St W0 w ps Γ)(is js:yLN)(hi:is.all (fun i=>Nat.blt i ps.length)=true:=by exact J)(hj:js.all (fun i=>Nat.blt i Γ.length)=true:=by exact J)(hd:is.Nodup:=by decide):
 St W0 w (is.filterMap fun i=>ps[i]?) (js.filterMap fun i=>Γ[i]?):=H.pick is js (Vz ps is hi) (Vz Γ js hj) hd
theorem QG[Dfr]{P:Program}{Q:Exit->Act->World->Prop}{l:List Oper}(hm:P.follows .mixedOrders=true)(H:St W0 w ps Γ)(is:yLN)
 (k:St W0 w.drew ps Γ->RW P l Q (fun w=>St W0 w (is.filterMap fun i=>ps[i]?) Γ) n l.toArray.size (Array.replicate l.toArray.size false) ρ w.drew)
 (hi:is.all (fun i=>Nat.blt i ps.length)=true:=by exact J) (hd:is.Nodup:=by decide):(Code.region id l.toArray true).wp P Q (mk n ρ) w:=by
 have H':=H.ext<|ext_drew _
 refine c_draw (fun w=>St W0 w (is.filterMap fun i=>ps[i]?) Γ) hm ?_<|k H'
 exact H'.pick is (List.range Γ.length) (Vz ps is hi) (by
  apply List.ext_getElem?
  intro i
  rcases Nat.lt_or_ge i Γ.length with h|h
  ·simp[h]
  ·simp[h]) hd
theorem St.repsCons{α:Type}[qI α](H:St W0 w ps Γ)(f0:Bool)(j:Nat){x:α}(hf:Γ[j]? =some (isF fr F v x))(m:Nat){l:List α}(hg:Γ[m]? =some (qX S4 G ys l))(h3:f0=true->fr=true/\S4 =true):
 St W0 w ps (qX f0 (F++G) (v::ys) (x::l)::Γ):=by
 refine H.add _ ⟨⟨F,G,[v],ys,J,J,(H.get j hf).1,(H.get m hg).1⟩,fun e=>((H.get j hf).2 (h3 e).1).app ((H.get m hg).2 (h3 e).2)⟩ fun b hb=>?_
 rcases List.mem_append.1 hb with h|h
 ·exact(H.facts _<|List.mem_of_getElem? hf).2 b h
 ·exact(H.facts _<|List.mem_of_getElem? hg).2 b h
section
variable{P : Program}{Q : Exit -> Act -> World -> Prop}{n : Nat}{ρ : Env}{W0 w : World}{ps : List Prv}{Γ : List Fact}
 {d:Nat} {ty:TypeId} {pos:String} {af:Array Edge} {K:Env->World->Prop}
theorem jb[Dfr](H:St W0 w ps Γ)(cs:List Value)(k:∀b w',St W0 w' (.box b cs t::ps) Γ->K (upd ρ d<|.pointer<|some ⟨b,0,none⟩) w')
 (hx:ev n ρ x=v:=by exact J) (hc:v.cells.toList=cs:=by exact J):OW P Q ⟨some d,.box t x,ty,pos,af,none⟩ n ρ w K:=by
 subst hc
 exact o_box H v hx k
theorem x8[Dfr](H:St W0 w ps Γ)(ht:TI P t z m e9)(cs:List Value)(k:∀b w',St W0 w' (.box b cs t::ps) Γ->K (upd ρ d<|.pointer<|some ⟨b,0,none⟩) w')
 (hc:z.cells.toList=cs:=by exact J):OW P Q ⟨some d,.alloc t,ty,pos,af,none⟩ n ρ w K:=by
 subst hc
 exact o_alloc H ht k
theorem xZ[Dfr](H:St W0 w ps Γ)(i:Nat)(JG :List Value)(hs:∀w,(Go.sizeOf t).run P w=.ok m w)
 (k:∀w',St W0 w' (ps.set i<|.box b JG tb) Γ->K ρ w') (hx:ev n ρ x=.pointer (some ⟨b,off,none⟩):=by exact J) (hy:ev n ρ y=v:=by exact J) (hm:v.cells.size=m:=by exact J) (hp:ps[i]? =some (.box b cs tb):=by exact J)
 (h1:JG.all Value.oneCell'=true:=by exact J) (ho:off+v.cells.size<=cs.length:=by exact Nat.le_of_ble_eq_true J)
 (hc:cs.take off++v.cells.toList++cs.drop (off+v.cells.size)=JG :=by exact J):OW P Q ⟨none,.store t x y,ty,pos,af,none⟩ n ρ w K:=by
 subst hc hm
 exact o_store H i hp v hs hx hy (fun u hu=>List.all_eq_true.1 h1 u (by simp at hu ⊢;simp[hu])) ho k
theorem zn[Dfr](H:St W0 w ps Γ)(i:Nat)(JG :List Value)(hs:∀w,(Go.sizeOf t).run P w=.ok 1 w)
 (k:∀w',St W0 w' (ps.set i<|.box b JG tb) Γ->K ρ w') (hx:ev n ρ x=.pointer (some ⟨b,off,none⟩):=by exact J) (hy:ev n ρ y=v:=by exact J) (hp:ps[i]? =some (.box b cs tb):=by exact J)
 (h1:v.oneCell'=true:=by exact J) (ho:off<cs.length:=by exact Nat.le_of_ble_eq_true J) (hc:cs.set off v=JG :=by exact J):OW P Q ⟨none,.store t x y,ty,pos,af,none⟩ n ρ w K:=by
 subst hc
 exact o_store1 H i hp v hs hx hy h1 ho k
theorem zH[Dfr](H:St W0 w ps Γ)(hu:P.underlying t=some (.slice e))(he:TI P e z sz e9)(cs:List Value)
 (k:∀b w',St W0 w' (.box b cs e::ps) Γ->K (upd ρ d<|Sv (some ⟨b,0,none⟩) 1 1) w') (hx:ev n ρ x=v:=by exact J) (h0:0<sz:=by decide) (hs:sz<=16777216:=by decide) (hv:v.cells.size=sz:=by exact J) (hc:v.cells.toList=cs:=by exact J):
 OW P Q ⟨some d,.buildSlice t 1 #[(0,x)],ty,pos,af,none⟩ n ρ w K:=by
 subst hc
 exact o_build1 H hu he h0 hs v hx hv k
end
section
variable{W0 w : World}{ps : List Prv}{Γ : List Fact}
theorem St.nilRowI(H:St W0 w ps Γ)(e:TypeId):St W0 w (.row (Sv none 0 0) e 1 0 (([]:yLI).map<|Value.int .i64)::ps) Γ:=H.nilRow e 1
theorem St.nilRowB(H:St W0 w ps Γ)(e:TypeId):St W0 w (.row (Sv none 0 0) e 1 0 (([]:List Bool).map Value.bool)::ps) Γ:=H.nilRow e 1
theorem St.boxRowI(H:St W0 w ps Γ)(i:Nat)(l:yLI)(nn:Nat)(hp:ps[i]? =some (.box b (l.map<|Value.int .i64) e):=by exact J)(hl:l.length=nn:=by exact J)(hm:nn<=maxLen:=by decide):
 St W0 w (ps.set i<|.row (Sv (some ⟨b,0,none⟩) nn nn) e 1 nn<|l.map<|Value.int .i64) Γ:=H.boxRow i hp 1 nn (by simp[hl]) hm
theorem St.boxRowB(H:St W0 w ps Γ)(i:Nat)(l:List Bool)(nn:Nat)(hp:ps[i]? =some (.box b (l.map Value.bool) e):=by exact J)(hl:l.length=nn:=by exact J)(hm:nn<=maxLen:=by decide):
 St W0 w (ps.set i<|.row (Sv (some ⟨b,0,none⟩) nn nn) e 1 nn<|l.map Value.bool) Γ:=H.boxRow i hp 1 nn (by simp[hl]) hm
def zL:yLN->List Prv->List Prv
 | [],ps=>ps
 |i::is,ps=>zL is<|ps.eraseIdx i
theorem St.erases:∀(is:yLN) {ps:List Prv},St W0 w ps Γ->St W0 w (zL is ps) Γ
 | [],_,H=>H
 |i::is,ps,H=>St.erases is<|H.sel _ (List.eraseIdx_sublist ps i) _ fun f h=>h
end
end
section
class FldC(P:Program)(t:TypeId)(i:Nat)(j:outParam Nat):Prop where
 out:∃(fs:Array Field) (f:Field) (m:Nat),P.underlying t=some (.struct fs)/\fs[i]? =some f/\f.offset=j/\∀w,(Go.sizeOf f.type).run P w=.ok (m+1) w
class SclC(P:Program)(t:TypeId):Prop where
 out:∀w,(isAgg t).run P w=.ok false w
class SliC(P:Program)(t:TypeId)(e:outParam TypeId):Prop where
 out:P.underlying t=some (.slice e)
class TIC(P:Program)(t:TypeId)(z:outParam Value)(sz e9 :outParam Nat):Prop where
 out:TI P t z sz e9
class XK(P:Program)(f:FuncId):Prop where
 out:∀args w,(callFunc f args).run P w=.ok (.enter f args) w
section
variable{P : Program}{fb : Array Oper}{Q : Exit -> Act -> World -> Prop}{n : Nat}{ρ : Env}{W0 w : World}{rest : List Oper}{ps : List Prv}{Γ : List Fact}
 {d:Nat} {op:Op} {ty:TypeId} {pos:String} {af:Array Edge} {K:Env->World->Prop} {S:World->Prop} {l:List Oper} {fuel:Nat} {ae:Array Bool}
theorem en{f:FuncId}{fn:Func}{c:Code}{R:Ending->World->Prop}(hf:P.funcs[f]? =some fn)(hn:fn.ntmps=n)(h:c.wp P (bodyPost P fn R) (mk n<|env0 args.toList) w)
 (hb:fn.body=some c:=by exact J) (hs:args.size<=n:=by exact Nat.le_of_ble_eq_true J):Calls P f args w R:=enter hf hb hn hs h
theorem oF[Dfr][hF:FldC P t i j](hx:ev n ρ x=.pointer (some ⟨b,off,none⟩))(k:WL P fb Q n rest (upd ρ d<|.pointer<|some ⟨b,off+j,none⟩) w):
 WL P fb Q n (⟨some d,.fieldAddr t x i,ty,pos,af,none⟩::rest) ρ w:=by
 obtain⟨fs,f,m,h1,h2,h3,h4⟩:=hF.out
 exact sw<|o_field b off j h1 h2 h3 h4 hx k
theorem oL[Dfr][hA:SclC P t](hx:ev n ρ x=.pointer (some ⟨b,off,none⟩))(hc:w.cell? ⟨b,off,none⟩=some v)(k:WL P fb Q n rest (upd ρ d v) w):
 WL P fb Q n (⟨some d,.load t x,ty,pos,af,none⟩::rest) ρ w:=sw<|zx v hA.out hx hc k
theorem oN[Dfr][hS:SliC P t e](hx:ev n ρ x=Sv a m c)(k:WL P fb Q n rest (upd ρ d<|.int .i64 m) w):
 WL P fb Q n (⟨some d,.call ⟨.builtin .len,#[x],#[t]⟩,ty,pos,af,none⟩::rest) ρ w:=sw<|o_len hS.out a m c hx k
theorem oI[Dfr][hS:SliC P t e][hT:TIC P e z sz e9](hx:ev n ρ x=Sv (some ⟨b,off,none⟩) m c)(hy:ev n ρ y=.int .i64 iv)
 (k:WL P fb Q n rest (upd ρ d<|.pointer<|some ⟨b,off+iv.toNat*sz,none⟩) w) (h0:0<=iv:=by omega) (h1:iv<m:=by omega):WL P fb Q n (⟨some d,.indexAddr t x y,ty,pos,af,none⟩::rest) ρ w:=
 sw (o_idxAt iv hS.out hT.out hx hy h0 h1 k)
theorem tF[Dfr](i:Nat)(hi:l.toArray[i]? =some ⟨some d,.fieldAddr t x j,ty,pos,af,none⟩)[hF:FldC P t j k](hx:ev n ρ x=.pointer (some ⟨b,off,none⟩))(hS:S w)
 (h:RW P l Q S n fuel (ae.setIfInBounds i true) (upd ρ d<|.pointer<|some ⟨b,off+k,none⟩) w) (hk:takeOk l ae i=true:=by kernel_rfl)
 (hQ:NoPanic Q d (.pointer<|some ⟨b,off+k,none⟩):=by exact fun _ _ _ h=>h):RW P l Q S n (fuel+1) ae ρ w:=by
 obtain⟨fs,f,m,h1,h2,h3,h4⟩:=hF.out
 exact rt i _ (y_field b off k h1 h2 h3 h4 hx) hS h hi hk hQ
theorem tL[Dfr](i:Nat)(hi:l.toArray[i]? =some ⟨some d,.load t x,ty,pos,af,none⟩)[hA:SclC P t](hx:ev n ρ x=.pointer (some ⟨b,off,none⟩))
 (hc:∀w',S w' ->w'.cell? ⟨b,off,none⟩=some v) (hS:S w) (h:RW P l Q S n fuel (ae.setIfInBounds i true) (upd ρ d v) w) (hk:takeOk l ae i=true:=by kernel_rfl)
 (hQ:NoPanic Q d v:=by exact fun _ _ _ h=>h):RW P l Q S n (fuel+1) ae ρ w:=rt i v (jZ hA.out hx hc) hS h hi hk hQ
theorem tN[Dfr](i:Nat)(hi:l.toArray[i]? =some ⟨some d,.call ⟨.builtin .len,#[x],#[t]⟩,ty,pos,af,none⟩)[hL:SliC P t e](hx:ev n ρ x=Sv a m c)(hS:S w)
 (h:RW P l Q S n fuel (ae.setIfInBounds i true) (upd ρ d<|.int .i64 m) w) (hk:takeOk l ae i=true:=by kernel_rfl) (hQ:NoPanic Q d (.int .i64 m):=by exact fun _ _ _ h=>h):
 RW P l Q S n (fuel+1) ae ρ w:=rt i _ (y_len hL.out a m c hx) hS h hi hk hQ
theorem tI[Dfr](i:Nat)(hi:l.toArray[i]? =some ⟨some d,.indexAddr t x y,ty,pos,af,none⟩)[hL:SliC P t e][hT:TIC P e z sz e9]
 (hx:ev n ρ x=Sv (some ⟨b,off,none⟩) m c) (hy:ev n ρ y=.int .i64 iv) (hS:S w) (h:RW P l Q S n fuel (ae.setIfInBounds i true) (upd ρ d<|.pointer<|some ⟨b,off+iv.toNat*sz,none⟩) w)
 (h0:0<=iv:=by omega) (h1:iv<m:=by omega) (hk:takeOk l ae i=true:=by kernel_rfl) (hQ:NoPanic Q d (.pointer<|some ⟨b,off+iv.toNat*sz,none⟩):=by exact fun _ _ _ h=>h):RW P l Q S n (fuel+1) ae ρ w:=
 rt i _ (y_idxAt b off m c iv hL.out hT.out hx hy h0 h1) hS h hi hk hQ
theorem gF[Dfr]{e:Nat}(i:Nat)(hi:l.toArray[i]? =some ⟨some d,.fieldAddr t x j,ty,pos,af,some (i',bb)⟩)[hF:FldC P t j k](hx:ev n ρ x=.pointer (some ⟨b,off,none⟩))(hS:S w)
 (h:RW P l Q S n fuel (ae.setIfInBounds i true) (upd ρ d<|.pointer<|some ⟨b,off+k,none⟩) w) (hk:takeOk l ae i=true:=by kernel_rfl)
 (hd:dstAt l i'=some e:=by exact J) (hv:ev n ρ (.tmp e)=Bv bb:=by exact J) (hQ:NoPanic Q d (.pointer<|some ⟨b,off+k,none⟩):=by exact fun _ _ _ h=>h):RW P l Q S n (fuel+1) ae ρ w:=by
 obtain⟨fs,f,m,h1,h2,h3,h4⟩:=hF.out
 exact rg i _ e (y_field b off k h1 h2 h3 h4 hx) hS h hi hk hd hv hQ
theorem gL[Dfr]{e:Nat}(i:Nat)(hi:l.toArray[i]? =some ⟨some d,.load t x,ty,pos,af,some (i',bb)⟩)[hA:SclC P t](hx:ev n ρ x=.pointer (some ⟨b,off,none⟩))
 (hc:∀w',S w' ->w'.cell? ⟨b,off,none⟩=some v) (hS:S w) (h:RW P l Q S n fuel (ae.setIfInBounds i true) (upd ρ d v) w) (hk:takeOk l ae i=true:=by kernel_rfl)
 (hd:dstAt l i'=some e:=by exact J) (hv:ev n ρ (.tmp e)=Bv bb:=by exact J) (hQ:NoPanic Q d v:=by exact fun _ _ _ h=>h):RW P l Q S n (fuel+1) ae ρ w:=
 rg i v e (jZ hA.out hx hc) hS h hi hk hd hv hQ
theorem gN[Dfr]{e:Nat}(i:Nat)(hi:l.toArray[i]? =some ⟨some d,.call ⟨.builtin .len,#[x],#[t]⟩,ty,pos,af,some (i',bb)⟩)[hL:SliC P t e'](hx:ev n ρ x=Sv a m c)(hS:S w)
 (h:RW P l Q S n fuel (ae.setIfInBounds i true) (upd ρ d<|.int .i64 m) w) (hk:takeOk l ae i=true:=by kernel_rfl)
 (hd:dstAt l i'=some e:=by exact J) (hv:ev n ρ (.tmp e)=Bv bb:=by exact J) (hQ:NoPanic Q d (.int .i64 m):=by exact fun _ _ _ h=>h):
 RW P l Q S n (fuel+1) ae ρ w:=rg i _ e (y_len hL.out a m c hx) hS h hi hk hd hv hQ
theorem gI[Dfr]{e:Nat}(i:Nat)(hi:l.toArray[i]? =some ⟨some d,.indexAddr t x y,ty,pos,af,some (i',bb)⟩)[hL:SliC P t e'][hT:TIC P e' z sz e9]
 (hx:ev n ρ x=Sv (some ⟨b,off,none⟩) m c) (hy:ev n ρ y=.int .i64 iv) (hS:S w) (h:RW P l Q S n fuel (ae.setIfInBounds i true) (upd ρ d<|.pointer<|some ⟨b,off+iv.toNat*sz,none⟩) w)
 (h0:0<=iv:=by omega) (h1:iv<m:=by omega) (hk:takeOk l ae i=true:=by kernel_rfl)
 (hd:dstAt l i'=some e:=by exact J) (hv:ev n ρ (.tmp e)=Bv bb:=by exact J) (hQ:NoPanic Q d (.pointer<|some ⟨b,off+iv.toNat*sz,none⟩):=by exact fun _ _ _ h=>h):RW P l Q S n (fuel+1) ae ρ w:=
 rg i _ e (y_idxAt b off m c iv hL.out hT.out hx hy h0 h1) hS h hi hk hd hv hQ
theorem oc[Dfr]{xs:Array Operand}{ts:Array TypeId}{f:FuncId}{R:Value->World->Prop}[hC:XK P f]
 (hc:Calls P f args w fun e w'=>∃v,e=.returned v/\R v w' /\Ext w w') (k:∀v w',R v w' ->Ext w w' ->K (upd ρ d v) w')
 (hv:ev n ρ x=.func (.func f) fst oo:=by exact J) (ni:fst.toList++xs.toList.map (ev n ρ)++oo.toList=args.toList:=by exact J):
 OW P Q ⟨some d,.call ⟨.value x,xs,ts⟩,ty,pos,af,none⟩ n ρ w K:=o_call args hv ni hC.out hc k
theorem oq[Dfr]{xs:Array Operand}{ts:Array TypeId}{f:FuncId}{val:Value}[hC:XK P f]
 (hc:Calls P f args w (Ret (fun v _=>v=val) w)) (H:St W0 w ps Γ) (k:∀w',St W0 w' ps Γ->K (upd ρ d val) w')
 (hv:ev n ρ x=.func (.func f) fst oo:=by exact J) (ni:fst.toList++xs.toList.map (ev n ρ)++oo.toList=args.toList:=by exact J):
 OW P Q ⟨some d,.call ⟨.value x,xs,ts⟩,ty,pos,af,none⟩ n ρ w K:=oc hc (fun _ w' e h=>e▸k w' (H.ext h)) hv ni
end
section
variable{W0 w : World}{ps : List Prv}{Γ : List Fact}
theorem St.vM(H:St W0 w ps Γ)(i:Nat)(hf:Γ[i]? =some (isF fr F (Sv (some ⟨b,o,none⟩) m c) l))(k:Nat)(h1:k<l.length):
 w.cell? ⟨b,o+(k:Int).toNat*1,none⟩=some (.int .i64<|l[k]!):=H.elemInt i hf (k:Int) qf qf
theorem St.elemBoolN(H:St W0 w ps Γ)(i:Nat){l:List Bool}(hf:Γ[i]? =some (isF fr F (Sv (some ⟨b,o,none⟩) m c) l))(k:Nat)(h1:k<l.length):
 w.cell? ⟨b,o+(k:Int).toNat*1,none⟩=some (Bv<|l[k]!):=H.elemBool i hf (k:Int) qf qf
end
section
variable{P : Program}{Q : Exit -> Act -> World -> Prop}{n : Nat}{ρ : Env}{w : World}{x : Operand}{y z : Code}
theorem cD[Dfr][Decidable p](hc:ev n ρ x=Bv (decide p))(h1:p->y.wp P Q (mk n ρ) w)(h2:¬p->z.wp P Q (mk n ρ) w):(Code.cond x y z).wp P Q (mk n ρ) w:=vP _ hc (fun h=>h1<|of_decide_eq_true h) fun h=>h2<|of_decide_eq_false h
theorem cE[Dfr]{a b:Int}(hc:ev n ρ x=Bv (a == b))(h1:a=b->y.wp P Q (mk n ρ) w)(h2:a≠b->z.wp P Q (mk n ρ) w):(Code.cond x y z).wp P Q (mk n ρ) w:=vP _ hc (fun h=>h1<|eq_of_beq h) fun h=>h2<|ne_of_beq_false h
theorem cP[Dfr](hc:ev n ρ x=Bv (dec p))(h1:p->y.wp P Q (mk n ρ) w)(h2:¬p->z.wp P Q (mk n ρ) w):(Code.cond x y z).wp P Q (mk n ρ) w:=vP _ hc (fun h=>h1<|Qy h) fun h=>h2<|vS h
theorem cQ[Dfr](hc:ev n ρ x=Bv (!(dec p)))(h1:¬p->y.wp P Q (mk n ρ) w)(h2:p->z.wp P Q (mk n ρ) w):(Code.cond x y z).wp P Q (mk n ρ) w:=vP _ hc (fun h=>h1<|vS<|xF h) fun h=>h2<|Qy<|xw h
theorem ro[Dfr]{l:List Oper}{S:World->Prop}{fuel:Nat}{ae:Array Bool}{op:Op}{pos:String}{af:Array Edge}(i:Nat)(hi:l.toArray[i]? =some ⟨dst,op,ty,pos,af,none⟩)
 (h:OW P Q ⟨dst,op,ty,pos,af,none⟩ n ρ w fun ρ w=>S w/\RW P l Q S n fuel (ae.setIfInBounds i true) ρ w) (hr:Region.ready .any l.toArray ae=[i]:=by kernel_rfl):RW P l Q S n (fuel+1) ae ρ w:=
 jw [i] hr qm (yl hi h jy)
end
theorem uE2(h1:ρ d1=v1:=by rfl)(h2:ρ d2=v2:=by rfl):ρ=upd (upd ρ d1 v1) d2 v2:=zt (zt J h1) h2
theorem uE3(h1:ρ d1=v1:=by rfl)(h2:ρ d2=v2:=by rfl)(h3:ρ d3=v3:=by rfl):ρ=upd (upd (upd ρ d1 v1) d2 v2) d3 v3:=zt (zt (zt J h1) h2) h3
theorem uE4(h1:ρ d1=v1:=by rfl)(h2:ρ d2=v2:=by rfl)(h3:ρ d3=v3:=by rfl)(h4:ρ d4=v4:=by rfl):ρ=upd (upd (upd (upd ρ d1 v1) d2 v2) d3 v3) d4 v4:=zt (zt (zt (zt J h1) h2) h3) h4
theorem uE5(h1:ρ d1=v1:=by rfl)(h2:ρ d2=v2:=by rfl)(h3:ρ d3=v3:=by rfl)(h4:ρ d4=v4:=by rfl)(h5:ρ d5=v5:=by rfl):ρ=upd (upd (upd (upd (upd ρ d1 v1) d2 v2) d3 v3) d4 v4) d5 v5:=zt (zt (zt (zt (zt J h1) h2) h3) h4) h5
theorem uE6(h1:ρ d1=v1:=by rfl)(h2:ρ d2=v2:=by rfl)(h3:ρ d3=v3:=by rfl)(h4:ρ d4=v4:=by rfl)(h5:ρ d5=v5:=by rfl)(h6:ρ d6=v6:=by rfl):ρ=upd (upd (upd (upd (upd (upd ρ d1 v1) d2 v2) d3 v3) d4 v4) d5 v5) d6 v6:=zt (zt (zt (zt (zt (zt J h1) h2) h3) h4) h5) h6
theorem uE7(h1:ρ d1=v1:=by rfl)(h2:ρ d2=v2:=by rfl)(h3:ρ d3=v3:=by rfl)(h4:ρ d4=v4:=by rfl)(h5:ρ d5=v5:=by rfl)(h6:ρ d6=v6:=by rfl)(h7:ρ d7=v7:=by rfl):ρ=upd (upd (upd (upd (upd (upd (upd ρ d1 v1) d2 v2) d3 v3) d4 v4) d5 v5) d6 v6) d7 v7:=zt (zt (zt (zt (zt (zt (zt J h1) h2) h3) h4) h5) h6) h7
theorem uE8(h1:ρ d1=v1:=by rfl)(h2:ρ d2=v2:=by rfl)(h3:ρ d3=v3:=by rfl)(h4:ρ d4=v4:=by rfl)(h5:ρ d5=v5:=by rfl)(h6:ρ d6=v6:=by rfl)(h7:ρ d7=v7:=by rfl)(h8:ρ d8=v8:=by rfl):ρ=upd (upd (upd (upd (upd (upd (upd (upd ρ d1 v1) d2 v2) d3 v3) d4 v4) d5 v5) d6 v6) d7 v7) d8 v8:=zt (zt (zt (zt (zt (zt (zt (zt J h1) h2) h3) h4) h5) h6) h7) h8
theorem uE9(h1:ρ d1=v1:=by rfl)(h2:ρ d2=v2:=by rfl)(h3:ρ d3=v3:=by rfl)(h4:ρ d4=v4:=by rfl)(h5:ρ d5=v5:=by rfl)(h6:ρ d6=v6:=by rfl)(h7:ρ d7=v7:=by rfl)(h8:ρ d8=v8:=by rfl)(h9:ρ d9=v9:=by rfl):ρ=upd (upd (upd (upd (upd (upd (upd (upd (upd ρ d1 v1) d2 v2) d3 v3) d4 v4) d5 v5) d6 v6) d7 v7) d8 v8) d9 v9:=zt (zt (zt (zt (zt (zt (zt (zt (zt J h1) h2) h3) h4) h5) h6) h7) h8) h9
theorem uE10(h1:ρ d1=v1:=by rfl)(h2:ρ d2=v2:=by rfl)(h3:ρ d3=v3:=by rfl)(h4:ρ d4=v4:=by rfl)(h5:ρ d5=v5:=by rfl)(h6:ρ d6=v6:=by rfl)(h7:ρ d7=v7:=by rfl)(h8:ρ d8=v8:=by rfl)(h9:ρ d9=v9:=by rfl)(cK:ρ Ii=Hy:=by rfl):ρ=upd (upd (upd (upd (upd (upd (upd (upd (upd (upd ρ d1 v1) d2 v2) d3 v3) d4 v4) d5 v5) d6 v6) d7 v7) d8 v8) d9 v9) Ii Hy:=zt (zt (zt (zt (zt (zt (zt (zt (zt (zt J h1) h2) h3) h4) h5) h6) h7) h8) h9) cK
theorem uE11(h1:ρ d1=v1:=by rfl)(h2:ρ d2=v2:=by rfl)(h3:ρ d3=v3:=by rfl)(h4:ρ d4=v4:=by rfl)(h5:ρ d5=v5:=by rfl)(h6:ρ d6=v6:=by rfl)(h7:ρ d7=v7:=by rfl)(h8:ρ d8=v8:=by rfl)(h9:ρ d9=v9:=by rfl)(cK:ρ Ii=Hy:=by rfl)(cf:ρ LU=LM:=by rfl):ρ=upd (upd (upd (upd (upd (upd (upd (upd (upd (upd (upd ρ d1 v1) d2 v2) d3 v3) d4 v4) d5 v5) d6 v6) d7 v7) d8 v8) d9 v9) Ii Hy) LU LM:=zt (zt (zt (zt (zt (zt (zt (zt (zt (zt (zt J h1) h2) h3) h4) h5) h6) h7) h8) h9) cK) cf
theorem uE12(h1:ρ d1=v1:=by rfl)(h2:ρ d2=v2:=by rfl)(h3:ρ d3=v3:=by rfl)(h4:ρ d4=v4:=by rfl)(h5:ρ d5=v5:=by rfl)(h6:ρ d6=v6:=by rfl)(h7:ρ d7=v7:=by rfl)(h8:ρ d8=v8:=by rfl)(h9:ρ d9=v9:=by rfl)(cK:ρ Ii=Hy:=by rfl)(cf:ρ LU=LM:=by rfl)(iz:ρ RJ=RD:=by rfl):ρ=upd (upd (upd (upd (upd (upd (upd (upd (upd (upd (upd (upd ρ d1 v1) d2 v2) d3 v3) d4 v4) d5 v5) d6 v6) d7 v7) d8 v8) d9 v9) Ii Hy) LU LM) RJ RD:=zt (zt (zt (zt (zt (zt (zt (zt (zt (zt (zt (zt J h1) h2) h3) h4) h5) h6) h7) h8) h9) cK) cf) iz
theorem uE13(h1:ρ d1=v1:=by rfl)(h2:ρ d2=v2:=by rfl)(h3:ρ d3=v3:=by rfl)(h4:ρ d4=v4:=by rfl)(h5:ρ d5=v5:=by rfl)(h6:ρ d6=v6:=by rfl)(h7:ρ d7=v7:=by rfl)(h8:ρ d8=v8:=by rfl)(h9:ρ d9=v9:=by rfl)(cK:ρ Ii=Hy:=by rfl)(cf:ρ LU=LM:=by rfl)(iz:ρ RJ=RD:=by rfl)(B2:ρ Y7=LR:=by rfl):ρ=upd (upd (upd (upd (upd (upd (upd (upd (upd (upd (upd (upd (upd ρ d1 v1) d2 v2) d3 v3) d4 v4) d5 v5) d6 v6) d7 v7) d8 v8) d9 v9) Ii Hy) LU LM) RJ RD) Y7 LR:=zt (zt (zt (zt (zt (zt (zt (zt (zt (zt (zt (zt (zt J h1) h2) h3) h4) h5) h6) h7) h8) h9) cK) cf) iz) B2
theorem uE14(h1:ρ d1=v1:=by rfl)(h2:ρ d2=v2:=by rfl)(h3:ρ d3=v3:=by rfl)(h4:ρ d4=v4:=by rfl)(h5:ρ d5=v5:=by rfl)(h6:ρ d6=v6:=by rfl)(h7:ρ d7=v7:=by rfl)(h8:ρ d8=v8:=by rfl)(h9:ρ d9=v9:=by rfl)(cK:ρ Ii=Hy:=by rfl)(cf:ρ LU=LM:=by rfl)(iz:ρ RJ=RD:=by rfl)(B2:ρ Y7=LR:=by rfl)(gz:ρ d14=Rs:=by rfl):ρ=upd (upd (upd (upd (upd (upd (upd (upd (upd (upd (upd (upd (upd (upd ρ d1 v1) d2 v2) d3 v3) d4 v4) d5 v5) d6 v6) d7 v7) d8 v8) d9 v9) Ii Hy) LU LM) RJ RD) Y7 LR) d14 Rs:=zt (zt (zt (zt (zt (zt (zt (zt (zt (zt (zt (zt (zt (zt J h1) h2) h3) h4) h5) h6) h7) h8) h9) cK) cf) iz) B2) gz
theorem uE18(h1:ρ d1=v1:=by rfl)(h2:ρ d2=v2:=by rfl)(h3:ρ d3=v3:=by rfl)(h4:ρ d4=v4:=by rfl)(h5:ρ d5=v5:=by rfl)(h6:ρ d6=v6:=by rfl)(h7:ρ d7=v7:=by rfl)(h8:ρ d8=v8:=by rfl)(h9:ρ d9=v9:=by rfl)(cK:ρ Ii=Hy:=by rfl)(cf:ρ LU=LM:=by rfl)(iz:ρ RJ=RD:=by rfl)(B2:ρ Y7=LR:=by rfl)(gz:ρ d14=Rs:=by rfl)(oA:ρ d15=v15:=by rfl)(EB:ρ d16=v16:=by rfl)(CV:ρ d17=v17:=by rfl)(i7:ρ d18=v18:=by rfl):ρ=upd (upd (upd (upd (upd (upd (upd (upd (upd (upd (upd (upd (upd (upd (upd (upd (upd (upd ρ d1 v1) d2 v2) d3 v3) d4 v4) d5 v5) d6 v6) d7 v7) d8 v8) d9 v9) Ii Hy) LU LM) RJ RD) Y7 LR) d14 Rs) d15 v15) d16 v16) d17 v17) d18 v18:=zt (zt (zt (zt (zt (zt (zt (zt (zt (zt (zt (zt (zt (zt (zt (zt (zt (zt J h1) h2) h3) h4) h5) h6) h7) h8) h9) cK) cf) iz) B2) gz) oA) EB) CV) i7
theorem uE22{d19 d20 d21 d22:Nat}{v19 v20 v21 v22:Value}(h1:ρ d1=v1:=by rfl)(h2:ρ d2=v2:=by rfl)(h3:ρ d3=v3:=by rfl)(h4:ρ d4=v4:=by rfl)(h5:ρ d5=v5:=by rfl)(h6:ρ d6=v6:=by rfl)(h7:ρ d7=v7:=by rfl)(h8:ρ d8=v8:=by rfl)(h9:ρ d9=v9:=by rfl)(cK:ρ Ii=Hy:=by rfl)(cf:ρ LU=LM:=by rfl)(iz:ρ RJ=RD:=by rfl)(B2:ρ Y7=LR:=by rfl)(gz:ρ d14=Rs:=by rfl)(oA:ρ d15=v15:=by rfl)(EB:ρ d16=v16:=by rfl)(CV:ρ d17=v17:=by rfl)(i7:ρ d18=v18:=by rfl)(pj:ρ d19=v19:=by rfl)(zr:ρ d20=v20:=by rfl)(ua:ρ d21=v21:=by rfl)(CY:ρ d22=v22:=by rfl):ρ=upd (upd (upd (upd (upd (upd (upd (upd (upd (upd (upd (upd (upd (upd (upd (upd (upd (upd (upd (upd (upd (upd ρ d1 v1) d2 v2) d3 v3) d4 v4) d5 v5) d6 v6) d7 v7) d8 v8) d9 v9) Ii Hy) LU LM) RJ RD) Y7 LR) d14 Rs) d15 v15) d16 v16) d17 v17) d18 v18) d19 v19) d20 v20) d21 v21) d22 v22:=zt (zt (zt (zt (zt (zt (zt (zt (zt (zt (zt (zt (zt (zt (zt (zt (zt (zt (zt (zt (zt (zt J h1) h2) h3) h4) h5) h6) h7) h8) h9) cK) cf) iz) B2) gz) oA) EB) CV) i7) pj) zr) ua) CY
abbrev rr(a:yOA)(n c:Nat)(e:TypeId)(sz:Nat)(xs:List Value):Prv:=.row (Sv a n c) e sz n xs
section
variable{α : Type}[qI α]
abbrev sF(fr:Bool)(F:yLN)(a:yOA)(c:Nat)(l:List α):Fact:=isF (α:=List α) fr F (Sv a l.length c) l
end
theorem St.dF(H:St W0 w ps Γ)(k:Nat):St W0 w ps (Γ.drop k):=H.sub _ fun _ h=>List.mem_of_mem_drop h
section
variable{P : Program}{fb : Array Oper}{Q Q': Exit -> Act -> World -> Prop}{n : Nat}{ρ : Env}{w : World}{a : Act}{N N1 N2 N3 : Act -> World -> Prop}{id id1 : Nat}{l : List Oper}{y z : Code}
theorem zjn[Dfr](h:N (mk n ρ) w):WL P fb (Exit.then N Q) n [] ρ w:=xX<|t_n h
theorem zcr[Dfr](h:WL P l.toArray (Exit.then (y.wp P Q) Q) n l ρ w):((Code.region id l.toArray false).seq y).wp P Q (mk n ρ) w:=xO<|zf h
theorem zjr[Dfr](h:Q .ret (mk n ρ) w):WL P fb (Exit.then (Code.ret.wp P Q) Q') n [] ρ w:=zjn<|c_ret h
theorem zcc[Dfr](h:WL P l.toArray (Exit.then (y.wp P<|Exit.then (z.wp P Q) Q)<|Exit.then (z.wp P Q) Q) n l ρ w):(((Code.region id l.toArray false).seq y).seq z).wp P Q (mk n ρ) w:=xO<|zcr h
theorem zjc[Dfr](h:WL P l.toArray (Exit.then (y.wp P Q) Q) n l ρ w):WL P fb (Exit.then (((Code.region id l.toArray false).seq y).wp P Q) Q') n [] ρ w:=zjn<|zcr h
theorem zjcc[Dfr](h:WL P l.toArray (Exit.then (y.wp P<|Exit.then (z.wp P Q) Q)<|Exit.then (z.wp P Q) Q) n l ρ w):WL P fb (Exit.then ((((Code.region id l.toArray false).seq y).seq z).wp P Q) Q') n [] ρ w:=zjn<|zcc h
theorem zx4[Dfr](h:N3 (mk n ρ) w):(Code.exit id).wp P (Exit.then N1<|Exit.then N2<|Exit.inBlock id<|Exit.then N3 Q) (mk n ρ) w:=c_exit<|t_x<|t_x<|b_x<|t_n h
theorem zr5(h:Q .ret a w):Exit.inBlock id (Exit.then N1<|Exit.then N2<|Exit.inBlock id1<|Exit.then N3 Q) .ret a w:=b_r<|t_r<|t_r<|b_r<|t_r h
theorem cTr[Dfr]{y z:Code}(hc:ev n ρ x=Bv true)(h:y.wp P Q (mk n ρ) w):(Code.cond x y z).wp P Q (mk n ρ) w:=vP true hc (fun _=>h) fun h=>absurd h qj
theorem cFr[Dfr]{y z:Code}(hc:ev n ρ x=Bv false)(h:z.wp P Q (mk n ρ) w):(Code.cond x y z).wp P Q (mk n ρ) w:=vP false hc (fun h=>absurd h qj) fun _=>h
theorem rH1{fn:Func}{R:Value->World->Prop}{t:Nat}(v:Value)(H:St W0 w ps Γ)(h:R v w)(hr:fn.results=#[.tmp t]:=by exact J)(hv:ev n ρ (.tmp t)=v:=by exact J):
 bodyPost P fn (Ret R W0) .ret (mk n ρ) w:=ret1 v hr hv ⟨_,rfl,h,H.base⟩
end
section
variable{P : Program}{Q : Exit -> Act -> World -> Prop}{n : Nat}{ρ : Env}{w : World}{l : List Oper}{S : World -> Prop}{fuel D3 : Nat}{ae pY : Array Bool}
theorem Q3[Dfr](A:Env->World->Prop)(D3 :Nat)(pY :Array Bool)(h1:∀ρ w,A ρ w->RW P l Q S n D3 pY ρ w)(h2:(∀ρ w,A ρ w->RW P l Q S n D3 pY ρ w)->RW P l Q S n fuel ae ρ w):RW P l Q S n fuel ae ρ w:=h2 h1
theorem yG[Dfr]{A:Env->World->Prop}(L:∀ρ w,A ρ w->RW P l Q S n D3 pY ρ w)(h:A ρ w)(e:ae=pY :=by kernel_rfl)(ef:fuel=D3 :=by kernel_rfl):RW P l Q S n fuel ae ρ w:=by
 subst e ef;exact L _ _ h
end
end
section
theorem ti2:TI Tryz.prog 2 (.int .i64 0) 1 8:=by unfold TI;kernel_rfl
theorem ti3:TI Tryz.prog 3 (.int .i64 0) 1 8:=by unfold TI;kernel_rfl
theorem ti4:TI Tryz.prog 4 (Bv false) 1 1:=by unfold TI;kernel_rfl
theorem ti5:TI Tryz.prog 5 (.int .u8 0) 1 1:=by unfold TI;kernel_rfl
theorem ti9:TI Tryz.prog 9 (.string ⟨#[]⟩) 1 16:=by unfold TI;kernel_rfl
theorem ti24:TI Tryz.prog 24 (Sv none 0 0) 1 24:=by unfold TI;kernel_rfl
theorem ti27:TI Tryz.prog 27 (.agg #[.int .i64 0,Sv none 0 0,Sv none 0 0]) 3 56:=by unfold TI;kernel_rfl
theorem ti29:TI Tryz.prog 29 (Sv none 0 0) 1 24:=by unfold TI;kernel_rfl
theorem ti31:TI Tryz.prog 31 (.agg #[Sv none 0 0,Sv none 0 0,Sv none 0 0]) 3 72:=by unfold TI;kernel_rfl
theorem ti39:TI Tryz.prog 39 (.agg #[Sv none 0 0,Sv none 0 0]) 2 48:=by unfold TI;kernel_rfl
theorem ti44:TI Tryz.prog 44 (.agg #[.int .i64 0,.int .i64 0,.int .i64 0]) 3 24:=by unfold TI;kernel_rfl
theorem ti47:TI Tryz.prog 47 (.agg #[.int .i64 0,Sv none 0 0,Sv none 0 0,Bv false,Sv none 0 0,Sv none 0 0,Sv none 0 0,Sv none 0 0]) 8 160:=by unfold TI;kernel_rfl
theorem ti49:TI Tryz.prog 49 (.agg #[.int .i64 0,Sv none 0 0,Sv none 0 0,Bv false,Sv none 0 0,Sv none 0 0,Sv none 0 0,Sv none 0 0,.int .i64 0,Sv none 0 0,Sv none 0 0,Bv false,Sv none 0 0,Sv none 0 0,Sv none 0 0,Sv none 0 0]) 16 320:=by unfold TI;kernel_rfl
theorem ti77:TI Tryz.prog 77 (.agg #[.int .i64 0,.int .i64 0,.int .i64 0,Sv none 0 0]) 4 48:=by unfold TI;kernel_rfl
theorem ti110:TI Tryz.prog 110 (.agg #[.int .i64 0,.int .i64 0,Sv none 0 0,Sv none 0 0,Sv none 0 0,Sv none 0 0,Sv none 0 0,Sv none 0 0,Bv false]) 9 168:=by unfold TI;kernel_rfl
theorem ti129:TI Tryz.prog 129 (.agg #[.int .i64 0,.int .i64 0,.int .i64 0,.int .i64 0,.int .i64 0,.int .i64 0]) 6 48:=by unfold TI;kernel_rfl
theorem ti156:TI Tryz.prog 156 (.agg #[.int .i64 0,.int .i64 0,.int .i64 0,.int .i64 0,.int .i64 0,.int .i64 0]) 6 48:=by unfold TI;kernel_rfl
theorem ti161:TI Tryz.prog 161 (.agg #[.int .i64 0,Sv none 0 0]) 2 32:=by unfold TI;kernel_rfl
instance iS24:SliC Tryz.prog 24 2:=⟨underlying24⟩
instance iT2:TIC Tryz.prog 2 (.int .i64 0) 1 8:=⟨ti2⟩
instance iA2:SclC Tryz.prog 2:=⟨isAgg2⟩
instance iC162:XK Tryz.prog 162:=⟨call162⟩
instance iC37:XK Tryz.prog 37:=⟨call37⟩
instance iC121:XK Tryz.prog 121:=⟨call121⟩
instance iC122:XK Tryz.prog 122:=⟨call122⟩
instance iC128:XK Tryz.prog 128:=⟨call128⟩
instance iC44:XK Tryz.prog 44:=⟨call44⟩
instance iC132:XK Tryz.prog 132:=⟨call132⟩
instance iF27_0:FldC Tryz.prog 27 0 0:=⟨⟨_,_,_,underlying27,rfl,rfl,sizeOf2⟩⟩
instance iF27_1:FldC Tryz.prog 27 1 1:=⟨⟨_,_,_,underlying27,rfl,rfl,sizeOf24⟩⟩
instance iA24:SclC Tryz.prog 24:=⟨isAgg24⟩
instance iF110_0:FldC Tryz.prog 110 0 0:=⟨⟨_,_,_,underlying110,rfl,rfl,sizeOf2⟩⟩
instance iF110_1:FldC Tryz.prog 110 1 1:=⟨⟨_,_,_,underlying110,rfl,rfl,sizeOf2⟩⟩
instance iF110_8:FldC Tryz.prog 110 8 8:=⟨⟨_,_,_,underlying110,rfl,rfl,sizeOf4⟩⟩
instance iA4:SclC Tryz.prog 4:=⟨isAgg4⟩
instance iF110_7:FldC Tryz.prog 110 7 7:=⟨⟨_,_,_,underlying110,rfl,rfl,sizeOf108⟩⟩
instance iA108:SclC Tryz.prog 108:=⟨isAgg108⟩
instance iS108:SliC Tryz.prog 108 161:=⟨underlying108⟩
instance iF110_2:FldC Tryz.prog 110 2 2:=⟨⟨_,_,_,underlying110,rfl,rfl,sizeOf24⟩⟩
instance iC89:XK Tryz.prog 89:=⟨call89⟩
instance iF110_3:FldC Tryz.prog 110 3 3:=⟨⟨_,_,_,underlying110,rfl,rfl,sizeOf24⟩⟩
instance iF110_4:FldC Tryz.prog 110 4 4:=⟨⟨_,_,_,underlying110,rfl,rfl,sizeOf24⟩⟩
instance iF110_5:FldC Tryz.prog 110 5 5:=⟨⟨_,_,_,underlying110,rfl,rfl,sizeOf24⟩⟩
instance iF110_6:FldC Tryz.prog 110 6 6:=⟨⟨_,_,_,underlying110,rfl,rfl,sizeOf24⟩⟩
instance iC90:XK Tryz.prog 90:=⟨call90⟩
instance iT161:TIC Tryz.prog 161 (.agg #[.int .i64 0,Sv none 0 0]) 2 32:=⟨ti161⟩
instance iF161_0:FldC Tryz.prog 161 0 0:=⟨⟨_,_,_,underlying161,rfl,rfl,sizeOf2⟩⟩
instance iC131:XK Tryz.prog 131:=⟨call131⟩
instance iF161_1:FldC Tryz.prog 161 1 1:=⟨⟨_,_,_,underlying161,rfl,rfl,sizeOf24⟩⟩
instance iF31_0:FldC Tryz.prog 31 0 0:=⟨⟨_,_,_,underlying31,rfl,rfl,sizeOf28⟩⟩
instance iA28:SclC Tryz.prog 28:=⟨isAgg28⟩
instance iS28:SliC Tryz.prog 28 4:=⟨underlying28⟩
instance iF31_1:FldC Tryz.prog 31 1 1:=⟨⟨_,_,_,underlying31,rfl,rfl,sizeOf29⟩⟩
instance iA29:SclC Tryz.prog 29:=⟨isAgg29⟩
instance iS29:SliC Tryz.prog 29 24:=⟨underlying29⟩
instance iT4:TIC Tryz.prog 4 (Bv false) 1 1:=⟨ti4⟩
instance iF31_2:FldC Tryz.prog 31 2 2:=⟨⟨_,_,_,underlying31,rfl,rfl,sizeOf24⟩⟩
instance iT24:TIC Tryz.prog 24 (Sv none 0 0) 1 24:=⟨ti24⟩
instance iC87:XK Tryz.prog 87:=⟨call87⟩
instance iF27_2:FldC Tryz.prog 27 2 2:=⟨⟨_,_,_,underlying27,rfl,rfl,sizeOf25⟩⟩
instance iA25:SclC Tryz.prog 25:=⟨isAgg25⟩
instance iS25:SliC Tryz.prog 25 110:=⟨underlying25⟩
instance iT110:TIC Tryz.prog 110 (.agg #[.int .i64 0,.int .i64 0,Sv none 0 0,Sv none 0 0,Sv none 0 0,Sv none 0 0,Sv none 0 0,Sv none 0 0,Bv false]) 9 168:=⟨ti110⟩
instance iC88:XK Tryz.prog 88:=⟨call88⟩
instance iC181:XK Tryz.prog 181:=⟨call181⟩
instance iC182:XK Tryz.prog 182:=⟨call182⟩
instance iC180:XK Tryz.prog 180:=⟨call180⟩
instance iC147:XK Tryz.prog 147:=⟨call147⟩
instance iC177:XK Tryz.prog 177:=⟨call177⟩
instance iC102:XK Tryz.prog 102:=⟨call102⟩
instance iC178:XK Tryz.prog 178:=⟨call178⟩
instance iC155:XK Tryz.prog 155:=⟨call155⟩
instance iC160:XK Tryz.prog 160:=⟨call160⟩
instance iC77:XK Tryz.prog 77:=⟨call77⟩
instance iC161:XK Tryz.prog 161:=⟨call161⟩
instance iC78:XK Tryz.prog 78:=⟨call78⟩
instance iC119:XK Tryz.prog 119:=⟨call119⟩
instance iC120:XK Tryz.prog 120:=⟨call120⟩
instance iA3:SclC Tryz.prog 3:=⟨isAgg3⟩
instance iC76:XK Tryz.prog 76:=⟨call76⟩
instance iC71:XK Tryz.prog 71:=⟨call71⟩
instance iC55:XK Tryz.prog 55:=⟨call55⟩
instance iC124:XK Tryz.prog 124:=⟨call124⟩
instance iC127:XK Tryz.prog 127:=⟨call127⟩
instance iC79:XK Tryz.prog 79:=⟨call79⟩
instance iC80:XK Tryz.prog 80:=⟨call80⟩
instance iC39:XK Tryz.prog 39:=⟨call39⟩
instance iC86:XK Tryz.prog 86:=⟨call86⟩
instance iC81:XK Tryz.prog 81:=⟨call81⟩
instance iC83:XK Tryz.prog 83:=⟨call83⟩
instance iC38:XK Tryz.prog 38:=⟨call38⟩
instance iC36:XK Tryz.prog 36:=⟨call36⟩
instance iC173:XK Tryz.prog 173:=⟨call173⟩
instance iF116_1:FldC Tryz.prog 116 1 1:=⟨⟨_,_,_,underlying116,rfl,rfl,sizeOf3⟩⟩
instance iF116_0:FldC Tryz.prog 116 0 0:=⟨⟨_,_,_,underlying116,rfl,rfl,sizeOf22⟩⟩
instance iA22:SclC Tryz.prog 22:=⟨isAgg22⟩
instance iS22:SliC Tryz.prog 22 5:=⟨underlying22⟩
instance iT5:TIC Tryz.prog 5 (.int .u8 0) 1 1:=⟨ti5⟩
instance iF116_2:FldC Tryz.prog 116 2 2:=⟨⟨_,_,_,underlying116,rfl,rfl,sizeOf114⟩⟩
instance iA114:SclC Tryz.prog 114:=⟨isAgg114⟩
instance iS45:SliC Tryz.prog 45 29:=⟨underlying45⟩
instance iT29:TIC Tryz.prog 29 (Sv none 0 0) 1 24:=⟨ti29⟩
instance iC29:XK Tryz.prog 29:=⟨call29⟩
instance iC148:XK Tryz.prog 148:=⟨call148⟩
instance iF47_1:FldC Tryz.prog 47 1 1:=⟨⟨_,_,_,underlying47,rfl,rfl,sizeOf29⟩⟩
instance iF47_2:FldC Tryz.prog 47 2 2:=⟨⟨_,_,_,underlying47,rfl,rfl,sizeOf24⟩⟩
instance iF47_4:FldC Tryz.prog 47 4 4:=⟨⟨_,_,_,underlying47,rfl,rfl,sizeOf28⟩⟩
instance iF47_5:FldC Tryz.prog 47 5 5:=⟨⟨_,_,_,underlying47,rfl,rfl,sizeOf29⟩⟩
instance iF47_6:FldC Tryz.prog 47 6 6:=⟨⟨_,_,_,underlying47,rfl,rfl,sizeOf45⟩⟩
instance iA45:SclC Tryz.prog 45:=⟨isAgg45⟩
instance iF47_7:FldC Tryz.prog 47 7 7:=⟨⟨_,_,_,underlying47,rfl,rfl,sizeOf45⟩⟩
instance iC72:XK Tryz.prog 72:=⟨call72⟩
instance iF47_0:FldC Tryz.prog 47 0 0:=⟨⟨_,_,_,underlying47,rfl,rfl,sizeOf2⟩⟩
instance iF47_3:FldC Tryz.prog 47 3 3:=⟨⟨_,_,_,underlying47,rfl,rfl,sizeOf4⟩⟩
instance iC149:XK Tryz.prog 149:=⟨call149⟩
instance iC43:XK Tryz.prog 43:=⟨call43⟩
instance iC169:XK Tryz.prog 169:=⟨call169⟩
instance iC144:XK Tryz.prog 144:=⟨call144⟩
instance iC168:XK Tryz.prog 168:=⟨call168⟩
instance iC115:XK Tryz.prog 115:=⟨call115⟩
instance iC42:XK Tryz.prog 42:=⟨call42⟩
instance iC60:XK Tryz.prog 60:=⟨call60⟩
instance iF86_2:FldC Tryz.prog 86 2 2:=⟨⟨_,_,_,underlying86,rfl,rfl,sizeOf39⟩⟩
instance iF39_0:FldC Tryz.prog 39 0 0:=⟨⟨_,_,_,underlying39,rfl,rfl,sizeOf36⟩⟩
instance iA36:SclC Tryz.prog 36:=⟨isAgg36⟩
instance iS36:SliC Tryz.prog 36 49:=⟨underlying36⟩
instance iT49:TIC Tryz.prog 49 (.agg #[.int .i64 0,Sv none 0 0,Sv none 0 0,Bv false,Sv none 0 0,Sv none 0 0,Sv none 0 0,Sv none 0 0,.int .i64 0,Sv none 0 0,Sv none 0 0,Bv false,Sv none 0 0,Sv none 0 0,Sv none 0 0,Sv none 0 0]) 16 320:=⟨ti49⟩
instance iF49_0:FldC Tryz.prog 49 0 0:=⟨⟨_,_,_,underlying49,rfl,rfl,sizeOf47⟩⟩
instance iF49_1:FldC Tryz.prog 49 1 8:=⟨⟨_,_,_,underlying49,rfl,rfl,sizeOf47⟩⟩
instance iC103:XK Tryz.prog 103:=⟨call103⟩
instance iC157:XK Tryz.prog 157:=⟨call157⟩
instance iC170:XK Tryz.prog 170:=⟨call170⟩
instance iC153:XK Tryz.prog 153:=⟨call153⟩
instance iF86_1:FldC Tryz.prog 86 1 1:=⟨⟨_,_,_,underlying86,rfl,rfl,sizeOf24⟩⟩
instance iF86_0:FldC Tryz.prog 86 0 0:=⟨⟨_,_,_,underlying86,rfl,rfl,sizeOf67⟩⟩
instance iA67:SclC Tryz.prog 67:=⟨isAgg67⟩
instance iC154:XK Tryz.prog 154:=⟨call154⟩
instance iF44_0:FldC Tryz.prog 44 0 0:=⟨⟨_,_,_,underlying44,rfl,rfl,sizeOf2⟩⟩
instance iF44_1:FldC Tryz.prog 44 1 1:=⟨⟨_,_,_,underlying44,rfl,rfl,sizeOf2⟩⟩
instance iF44_2:FldC Tryz.prog 44 2 2:=⟨⟨_,_,_,underlying44,rfl,rfl,sizeOf2⟩⟩
instance iF39_1:FldC Tryz.prog 39 1 1:=⟨⟨_,_,_,underlying39,rfl,rfl,sizeOf37⟩⟩
instance iA37:SclC Tryz.prog 37:=⟨isAgg37⟩
instance iS37:SliC Tryz.prog 37 77:=⟨underlying37⟩
instance iT77:TIC Tryz.prog 77 (.agg #[.int .i64 0,.int .i64 0,.int .i64 0,Sv none 0 0]) 4 48:=⟨ti77⟩
instance iF77_2:FldC Tryz.prog 77 2 2:=⟨⟨_,_,_,underlying77,rfl,rfl,sizeOf2⟩⟩
instance iF77_0:FldC Tryz.prog 77 0 0:=⟨⟨_,_,_,underlying77,rfl,rfl,sizeOf2⟩⟩
instance iF77_1:FldC Tryz.prog 77 1 1:=⟨⟨_,_,_,underlying77,rfl,rfl,sizeOf2⟩⟩
instance iF77_3:FldC Tryz.prog 77 3 3:=⟨⟨_,_,_,underlying77,rfl,rfl,sizeOf29⟩⟩
instance iC101:XK Tryz.prog 101:=⟨call101⟩
instance iF74_1:FldC Tryz.prog 74 1 2:=⟨⟨_,_,_,underlying74,rfl,rfl,sizeOf27⟩⟩
instance iF74_2:FldC Tryz.prog 74 2 5:=⟨⟨_,_,_,underlying74,rfl,rfl,sizeOf24⟩⟩
instance iF74_0:FldC Tryz.prog 74 0 0:=⟨⟨_,_,_,underlying74,rfl,rfl,sizeOf39⟩⟩
instance iC138:XK Tryz.prog 138:=⟨call138⟩
instance iC41:XK Tryz.prog 41:=⟨call41⟩
instance iC139:XK Tryz.prog 139:=⟨call139⟩
instance iC143:XK Tryz.prog 143:=⟨call143⟩
instance iC145:XK Tryz.prog 145:=⟨call145⟩
instance iC28:XK Tryz.prog 28:=⟨call28⟩
instance iC158:XK Tryz.prog 158:=⟨call158⟩
instance iC114:XK Tryz.prog 114:=⟨call114⟩
instance iC159:XK Tryz.prog 159:=⟨call159⟩
instance iC54:XK Tryz.prog 54:=⟨call54⟩
instance iC110:XK Tryz.prog 110:=⟨call110⟩
instance iC111:XK Tryz.prog 111:=⟨call111⟩
instance iS34:SliC Tryz.prog 34 44:=⟨underlying34⟩
instance iT44:TIC Tryz.prog 44 (.agg #[.int .i64 0,.int .i64 0,.int .i64 0]) 3 24:=⟨ti44⟩
instance iC66:XK Tryz.prog 66:=⟨call66⟩
instance iC69:XK Tryz.prog 69:=⟨call69⟩
instance iC26:XK Tryz.prog 26:=⟨call26⟩
instance iC116:XK Tryz.prog 116:=⟨call116⟩
instance iC117:XK Tryz.prog 117:=⟨call117⟩
instance iS152:SliC Tryz.prog 152 3:=⟨underlying152⟩
instance iT3:TIC Tryz.prog 3 (.int .i64 0) 1 8:=⟨ti3⟩
instance iC73:XK Tryz.prog 73:=⟨call73⟩
instance iC74:XK Tryz.prog 74:=⟨call74⟩
instance iC75:XK Tryz.prog 75:=⟨call75⟩
instance iC33:XK Tryz.prog 33:=⟨call33⟩
instance iC40:XK Tryz.prog 40:=⟨call40⟩
instance iC10:XK Tryz.prog 10:=⟨call10⟩
instance iC15:XK Tryz.prog 15:=⟨call15⟩
instance iC13:XK Tryz.prog 13:=⟨call13⟩
instance iC16:XK Tryz.prog 16:=⟨call16⟩
instance iC17:XK Tryz.prog 17:=⟨call17⟩
instance iC18:XK Tryz.prog 18:=⟨call18⟩
end
section
variable{cl : Nat}
theorem XX(w:World)(n:Int)(lo:Int)(hi:Int):Calls Tryz.prog 37 #[yI n,yI lo,yI hi] w (Ret (fun v w'=>v=Bv (inR n lo hi)) w):=by
 refine en func37 ntmps37 ?_
 have H:=St.start w
 refine zcr<|sp (Bv false)<|zjc<|sp (yI n)<|sp (yI lo)<|sp (Bv<|decide ((n:Int)>=lo))<|sp (Bv<|decide ((n:Int)>=lo)) ?_
 cases h1:(decide ((n:Int)>=lo))
 ·replace h1:=of_decide_eq_false h1
  refine zk [11,12,13]<|sp (Bv false)<|sp (Bv false)<|zjr<|rH1 (Bv false) H ?_
  rw[inR_no ‹_›]
 replace h1:=of_decide_eq_true h1
 refine qP 10 J J<|sp (yI n)<|qP 10 J J<|sp (yI hi)<|qP 10 J J<|sq 3<|zjr<|rH1 (Bv<|decide ((n:Int)<=hi)) H ?_
 rw[inR_yes ‹_›]
theorem VN(w:World)(n:Int)(lo:Int)(hi:Int):Calls Tryz.prog 44 #[yI n,yI lo,yI hi] w (Ret (fun v w'=>v=Bv (inR n lo hi)) w):=by
 refine en func44 ntmps44 ?_
 have H:=St.start w
 refine zcr<|sp (Bv false)<|zjc<|sp (yI n)<|sp (yI lo)<|sp (Bv<|decide ((n:Int)>=lo))<|sp (Bv<|decide ((n:Int)>=lo)) ?_
 cases h1:(decide ((n:Int)>=lo))
 ·replace h1:=of_decide_eq_false h1
  refine zk [11,12,13]<|sp (Bv false)<|sp (Bv false)<|zjr<|rH1 (Bv false) H ?_
  rw[inR_no ‹_›]
 replace h1:=of_decide_eq_true h1
 refine qP 10 J J<|sp (yI n)<|qP 10 J J<|sp (yI hi)<|qP 10 J J<|sq 3<|zjr<|rH1 (Bv<|decide ((n:Int)<=hi)) H ?_
 rw[inR_yes ‹_›]
theorem isWithin_ok(w:World)(l:yLI)(m:yLI){cm:Nat}(hl:zP w Fl al cl l)(hm:zP w Fm am cm m)(p0:l.length<=m.length)(p1:l.length<=1000000):Calls Tryz.prog 124 #[Sv al l.length cl,Sv am m.length cm] w (Ret (fun v w'=>v=Bv (within l m)) w):=by
 refine en func124 ntmps124 ?_
 have H:=((St.start w).arg hm).arg hl
 have nhm:=qN hm
 clear hl hm
 refine zcr<|sp (Bv false)<|zjcc<|sq 1<|oN J<|sp (yI 0)<|zjn<|xg<|vk ((fun Z0 Z1=>fun m' ρ w1=>∃(xR:Env) (k:Nat),ρ=upd (upd (upd (upd xR 1<|Sv am m.length cm) 7<|Sv al l.length cl) 8<|yI l.length) 9 (yI k)/\(k<=l.length)/\(withinTo l m k)/\m'=l.length-k/\St w w1 [] [Z0,Z1]) _ _) (l.length-0) ⟨_,0,uE4,qf,(by exact withinTo_zero l m),J,H⟩ ?_
 clear H
 rintro m' ρ w2 ⟨xR,k,rfl,i0,i1,rfl,H⟩
 refine zcr<|sq 1<|zjn<|xO<|cD J (fun h3=>?_)<|fun h3=>?_
 ·refine xe (t_n<|xO<|xg<|zcr<|sp (yI k) ?_)
  obtain⟨b4,o5,rfl⟩:=H.addr 0 rfl qf
  refine oI J J<|oL J (H.vM 0 J k qf)<|sp (yI k)<|sq 1<|zjc<|sq 2<|sp (yI k) ?_
  obtain⟨b6,o7,rfl⟩:=H.addr 1 rfl qf
  refine oI J J<|oL J (H.vM 1 J k qf)<|sq 1<|zjn<|cD J (fun h8=>?_)<|fun h8=>?_
  ·refine zcr (sp (Bv false)<|zjr<|zr5<|rH1 (Bv false) H ?_)
   rw[within_no (k:=k) ‹_› qf]
  refine xe<|b_n<|t_n<|zf<|sw<|zY k 1 J J qf<|sq 1<|xX<|xu (m':=l.length-(k+1)) qf ⟨_,k+1,uE4,?_,?_,J,H⟩
  ·omega
  ·exact withinTo_succ ‹_› qf
 refine zx4<|zcr<|sp (Bv true)<|zjr<|rH1 (Bv true) H ?_
 rw[within_yes ‹_› qf]
theorem bagSize_ok(w:World)(l:yLI)(hl:zP w Fl al cl l)(p0:Small l):Calls Tryz.prog 78 #[Sv al l.length cl] w (Ret (fun v w'=>v=yI (Yk l)) w):=by
 refine en func78 ntmps78 ?_
 have H:=(St.start w).arg hl
 have Cr:=qN hl
 clear hl
 have p1:=p0.1
 refine zcr<|sp (yI 0)<|zjc<|sp (yI 0)<|zjcc<|sq 1<|oN J<|sp (yI 0)<|zjn<|xg<|vk ((fun Z0=>fun m' ρ w1=>∃(xR:Env) (k:Nat),ρ=upd (upd (upd (upd (upd xR 2<|yI 0) 3<|yI<|sumTo l k) 6<|Sv al l.length cl) 7<|yI l.length) 8 (yI k)/\(k<=l.length)/\m'=l.length-k/\St w w1 [] [Z0]) _) (l.length-0) ⟨_,0,uE5,qf,J,H⟩ ?_
 clear H
 rintro m' ρ w2 ⟨xR,k,rfl,i0,rfl,H⟩
 have hs:=sumTo_small p0 i0
 have hv:=p0.2 k
 refine zcr<|sq 1<|zjn<|xO<|cD J (fun h3=>?_)<|fun h3=>?_
 ·refine xe (t_n<|xO<|xg<|zcr ?_)
  obtain⟨b4,o5,rfl⟩:=H.addr 0 rfl qf
  refine oI J J<|oL J (H.vM 0 J k qf)<|sq 1<|zjn<|zf<|sq 2<|sw<|zY (sumTo l k) l[k]! rfl J (by(have:=hv qf;omega))<|sq 1<|xX<|b_n<|t_n<|zf<|sw<|zY k 1 J J (by(have:=hv qf;omega))<|sq 1<|xX<|xu (m':=l.length-(k+1)) qf ⟨_,k+1,uE5,?_,J,H⟩
  ·omega
 refine zx4<|zcr<|sq 2<|zjr<|rH1 (yI<|sumTo l k) H ?_
 obtain rfl:k=l.length:=by omega
 rfl
theorem l01Size_ok(w:World)(l:yLI)(hl:zP w Fl al cl l)(p0:Small l):Calls Tryz.prog 90 #[Sv al l.length cl] w (Ret (fun v w'=>v=yI (Yk l)) w):=by
 refine en func90 ntmps90 ?_
 have H:=(St.start w).arg hl
 have Cr:=qN hl
 clear hl
 have p1:=p0.1
 refine zcr<|sp (yI 0)<|zjc<|sp (yI 0)<|zjcc<|sp (yI 0)<|zjn<|xg<|vk ((fun Z0=>fun m' ρ w1=>∃(xR:Env) (k:Nat),ρ=upd (upd (upd (upd xR 0<|Sv al l.length cl) 2<|yI 0) 3<|yI<|sumTo l k) 4 (yI k)/\(k<=l.length)/\m'=l.length-k/\St w w1 [] [Z0]) _) (l.length-0) ⟨_,0,uE4,qf,J,H⟩ ?_
 clear H
 rintro m' ρ w2 ⟨xR,k,rfl,i0,rfl,H⟩
 have hs:=sumTo_small p0 i0
 have hv:=p0.2 k
 refine zcc<|sp (yI k)<|sq 1<|oN J<|sq 1<|zjn<|cD J (fun h3=>?_)<|fun h3=>?_
 ·refine xe (t_n<|xO<|xg<|zf<|sq 2<|sp (yI k) ?_)
  obtain⟨b4,o5,rfl⟩:=H.addr 0 rfl qf
  refine oI J J<|oL J (H.vM 0 J k qf)<|sw<|zY (sumTo l k) l[k]! rfl J (by(have:=hv qf;omega))<|sq 1<|xX<|b_n<|t_n<|zf<|sp (yI k)<|sw<|zY k 1 J J (by(have:=hv qf;omega))<|sq 1<|xX<|xu (m':=l.length-(k+1)) qf ⟨_,k+1,uE4,?_,J,H⟩
  ·omega
 refine zx4<|zcr<|sq 2<|zjr<|rH1 (yI<|sumTo l k) H ?_
 obtain rfl:k=l.length:=by omega
 rfl
theorem indexFuncI_ok(w:World)(l:yLI)(f:FuncId)(pQ:Array Value)(gf:Nat->Bool)(hl:zP w Fl al cl l)(hff:∀args w,(callFunc f args).run Tryz.prog w=.ok (.enter f args) w)(acz:∀k w',k<l.length->Ext w w' ->Calls Tryz.prog f (([yI<|l[k]!]:List Value)++pQ.toList).toArray w' (Ret (fun v _=>v=Bv (gf k)) w')):Calls Tryz.prog 162 #[Sv al l.length cl,.func (.func f) #[] pQ] w (Ret (fun v w'=>v=yI (firstIdx gf l.length)) w):=by
 refine en func162 ntmps162 ?_
 have H:=(St.start w).arg hl
 have Cr:=qN hl
 clear hl
 refine zcr<|sp (yI 0)<|zjcc<|sq 1<|oN J<|sp (yI 0)<|zjn<|xg<|vk ((fun Z0=>fun m' ρ w1=>∃(xR:Env) (k:Nat),ρ=upd (upd (upd (upd xR 0<|Sv al l.length cl) 1<|.func (.func f) #[] pQ) 7<|yI l.length) 8 (yI k)/\(k<=l.length)/\(noneTo gf k)/\m'=l.length-k/\St w w1 [] [Z0]) _) (l.length-0) ⟨_,0,uE4,qf,qx,J,H⟩ ?_
 clear H
 rintro m' ρ w2 ⟨xR,k,rfl,i0,i1,rfl,H⟩
 refine zcr<|sq 1<|zjn<|xO<|cD J (fun h3=>?_)<|fun h3=>?_
 ·refine xe (t_n<|xO<|xg<|zcr<|sp (yI k)<|sp (yI k)<|zjc<|sp (.func (.func f) #[] pQ)<|sq 1<|sp (yI k) ?_)
  obtain⟨b4,o5,rfl⟩:=H.addr 0 rfl qf
  refine oI J J<|oL J (H.vM 0 J k qf)<|sw<|o_callV [yI<|l[k]!] J J hff (acz k _ qf H.base) ?_
  rintro _ w6 rfl x7
  replace H:=H.ext x7
  refine zjn<|vP _ J (fun h8=>?_)<|fun h8=>?_
  ·refine zcr (sp (yI k)<|sp (yI k)<|zjr<|zr5<|rH1 (yI k) H ?_)
   rw[firstIdx_some (k:=k) qf i1 ‹_›]
  refine xe<|b_n<|t_n<|zf<|sw<|zY k 1 J J qf<|sq 1<|xX<|xu (m':=l.length-(k+1)) qf ⟨_,k+1,uE4,?_,?_,J,H⟩
  ·omega
  ·exact noneTo_succ ‹_› ‹_›
 refine zx4<|zcr<|sq 1<|zjr<|rH1 (yI (-1)) H ?_
 rw[firstIdx_none<|fun j hj=>i1 j qf]
theorem containsFuncI_ok(w:World)(l:yLI)(f:FuncId)(pQ:Array Value)(gf:Nat->Bool)(hl:zP w Fl al cl l)(hff:∀args w,(callFunc f args).run Tryz.prog w=.ok (.enter f args) w)(acz:∀k w',k<l.length->Ext w w' ->Calls Tryz.prog f (([yI<|l[k]!]:List Value)++pQ.toList).toArray w' (Ret (fun v _=>v=Bv (gf k)) w')):Calls Tryz.prog 122 #[Sv al l.length cl,.func (.func f) #[] pQ] w (Ret (fun v w'=>v=Bv (anyTo gf l.length)) w):=by
 refine en func122 ntmps122 ?_
 have H:=(St.start w).arg hl
 clear hl
 refine zcr<|sp (Bv false)<|zjc<|sq 1<|sp (.func (.func f) #[] pQ)<|sw<|oq (indexFuncI_ok _ l f pQ gf (H.get 0 J).1 hff acz) H fun w1 H=>sp (Bv<|decide ((firstIdx gf l.length:Int)>=0))<|sp (Bv<|decide ((firstIdx gf l.length:Int)>=0))<|zjr<|rH1 (Bv<|decide ((firstIdx gf l.length:Int)>=0)) H ?_
 rw[anyTo_first]
theorem validBag1_ok(w:World)(n:Int):Calls Tryz.prog 123 #[yI n] w (Ret (fun v w'=>v=Bv (!isCnt n)) w):=by
 refine en func123 ntmps123 ?_
 have H:=St.start w
 refine zcr<|sp (Bv false)<|zjc<|sp (yI n)<|sw<|oq (XX w n 0 1000) H fun w1 H=>sq 2<|zjr<|rH1 (Bv (!(inR n 0 1000))) H ?_
 rfl
theorem sizeI_ok(w:World)(l:yLI)(hl:zP w Fl al cl l):Calls Tryz.prog 121 #[Sv al l.length cl] w (Ret (fun v w'=>v=yI (l.length:Int)) w):=by
 refine en func121 ntmps121 ?_
 have H:=(St.start w).arg hl
 clear hl
 refine zcr<|sp (yI 0)<|zjc<|sq 1<|oN J<|sq 1<|zjr<|rH1 (yI l.length) H ?_
 rfl
theorem Yd(w:World)(kinds:Int)(l:yLI)(hl:zP w Fl al cl l):Calls Tryz.prog 77 #[yI kinds,Sv al l.length cl] w (Ret (fun v w'=>v=Bv (dec<|jd kinds l)) w):=by
 refine en func77 ntmps77 ?_
 have H:=(St.start w).arg hl
 have Cr:=qN hl
 clear hl
 refine zcr<|sp (Bv false)<|zjc<|sq 1<|sw<|oq (XX w kinds 1 8) H fun w1 H=>sp (Bv<|inR kinds 1 8) ?_
 cases h3:(inR kinds 1 8)
 ·replace h3:=Xl h3
  refine zk (zR 8 4)<|sp (Bv false)<|sp (Bv false)<|zk [14,15,16]<|sp (Bv false)<|sp (Bv false)<|zjr<|rH1 (Bv false) H ?_
  rw[xH (fun h=>by have:=h.1.2;have:=h.2;omega)]
 replace h3:=QW.1 h3
 refine qP 7 J J<|sq 1<|qP 7 J J<|sw<|oq (sizeI_ok _ l (H.get 0 J).1) H fun w4 H=>qP 7 J J<|sq 1<|qP 7 J J<|sp (Bv (((l.length:Int):Int) == kinds))<|sp (Bv (((l.length:Int):Int) == kinds))<|sp (Bv (((l.length:Int):Int) == kinds)) ?_
 cases h6:(((l.length:Int):Int) == kinds)
 ·replace h6:=ne_of_beq_false h6
  refine zk [14,15,16]<|sp (Bv false)<|sp (Bv false)<|zjr<|rH1 (Bv false) H ?_
  rw[xH (fun h=>by have:=h.1.2;have:=h.2;omega)]
 replace h6:=eq_of_beq h6
 refine qP 13 J J<|sq 1<|qP 13 J J<|sw<|oq (containsFuncI_ok _ l 123 #[] (fun k=> !isCnt l[k]!) (H.get 0 J).1 call123<|fun k w' hk e=>validBag1_ok w' _) H fun w7 H=>qP 13 J J<|sq 3<|zjr<|rH1 (Bv (!(anyTo (fun k=> !isCnt l[k]!) l.length))) H<|congrArg Value.bool<|dec_eq ?_
 rw[anyCnt_iff]
 exact⟨fun h=>⟨⟨h,by omega,by omega⟩,by omega⟩,fun h=>h.1.1⟩
end
section
theorem slice_form{α:Type}[qI α]{l:List α}(h:qI.rep w F [v] l):∃a c,v=Sv a l.length c:=by
 obtain⟨a,c,hc,_⟩:=h
 simp only[List.cons.injEq,and_true] at hc
 exact⟨a,c,hc⟩
theorem one_of{α:Type}[qI α]{x:α}(h:qI.rep w F [v] x):v.oneCell'=true:=qI.one h v<|List.mem_singleton.2 J
theorem St.yg{α:Type}[qI α](H:St W0 w ps Γ)(i:Nat){l:List (List α)}(hf:Γ[i]? =some (isF fr F (Sv (some ⟨b,o,none⟩) m c) l))(iv:Int)(k:Nat)(hk:iv.toNat=k)(h0:0<=iv)(h1:iv<l.length):
 ∃(a':yOA) (c':Nat) (Fk:yLN),St W0 w ps (isF fr Fk (Sv a' l[k]!.length c') (l[k]!)::atF b (o+iv.toNat*1) [Sv a' l[k]!.length c']::Γ):=by
 obtain⟨cs,Fk,hc,hr,bV⟩:=H.elem i hf iv h0 h1
 have eJ:fr=true->yc w Fk:=fun e=>((H.get i hf).2 e).sub fun x hx=>bV x<|List.mem_cons_of_mem _ hx
 rw[hk] at hr
 obtain⟨a',c',rfl,_⟩:=id hr
 exact⟨a',c',Fk,(H.jR i hf (atF b (o+iv.toNat*1) _) hc<|fun x hx=>bV x (by simp only[atF,List.mem_singleton] at hx;subst hx;exact List.mem_cons_self ..)).jR (i+1) hf (isF fr Fk _ _) ⟨hr,eJ⟩<|fun x hx=>bV x<|List.mem_cons_of_mem _ hx⟩
structure IntoD where
 qW:Int
 Xc:yLI
 deriving DecidableEq
instance:Inhabited IntoD:=⟨⟨0,[]⟩⟩
instance:Tot IntoD:=⟨fun x=>tot x.Xc⟩
theorem tot_IntoD(x:IntoD):tot x=tot x.Xc:=rfl
instance:qI IntoD where
 size:=2
 rep:=fun w F cs x=>∃(tH:Value) (xD:yLN),cs=[.int .i64 x.qW,tH]/\F=xD/\qI.rep w xD [tH] x.Xc
 len:=by rintro w F cs x ⟨tH,xD,rfl,_,tG⟩;rfl
 one:=by
  rintro w F cs x ⟨tH,xD,rfl,rfl,tG⟩ u hu
  simp only[List.mem_cons,List.not_mem_nil,or_false] at hu
  rcases hu with rfl|rfl <;> first|rfl|exact one_of ql
 stay:=by
  rintro w w' F cs x ⟨tH,xD,rfl,rfl,tG⟩ hs
  exact⟨_,_,J,J,qI.stay tG fun b hb=>hs b<|by simp[hb]⟩
 lt:=by
  rintro w F cs x ⟨tH,xD,rfl,rfl,tG⟩ b hb
  exact qI.lt tG b hb
theorem St.Qr(H:St W0 w ps Γ)(i:Nat){l:List IntoD}(hf:Γ[i]? =some (isF fr F (Sv (some ⟨b,o,none⟩) m c) l))(iv:Int)(k:Nat)(hk:iv.toNat=k)(h0:0<=iv)(h1:iv<l.length):
 ∃(T1:yOA) (Uy:Nat) (xD:yLN),St W0 w ps (isF fr xD (Sv T1 l[k]!.Xc.length Uy) l[k]!.Xc::atF b (o+iv.toNat*2) [.int .i64 l[k]!.qW,Sv T1 l[k]!.Xc.length Uy]::Γ):=by
 obtain⟨cs,Fk,hc,hr,bV⟩:=H.elem i hf iv h0 h1
 have eJ:fr=true->yc w Fk:=fun e=>((H.get i hf).2 e).sub fun x hx=>bV x<|List.mem_cons_of_mem _ hx
 rw[hk] at hr
 obtain⟨tH,xD,rfl,dA,tG⟩:=hr
 obtain⟨T1,Uy,rfl⟩:=slice_form tG
 exact⟨_,_,_,((H.jR i hf (atF b (o+iv.toNat*2) [.int .i64 l[k]!.qW,Sv T1 l[k]!.Xc.length Uy]) hc<|fun x hx=>bV x (by simp only[atF,List.mem_singleton] at hx;subst hx;exact List.mem_cons_self ..)).jR (i+1) hf (isF fr xD _ l[k]!.Xc) ⟨tG,fun e=>(eJ e).sub<|by rw[dA];intro x hx;simp[hx]⟩<|fun x hx=>bV x<|List.mem_cons_of_mem _<|dA.symm▸(by have hx:x∈xD:=hx;simp[hx]))⟩
theorem St.snoc_IntoD(H:St W0 w ps Γ)(i:Nat){l:List IntoD}(hf:Γ[i]? =some (qX fr F xs l))(pM:Int)(aeb:Nat){RY:yLN}{tH:Value}{aco:yLI}(tG:Γ[aeb]? =some (isF fr RY tH aco)):
 St W0 w ps (qX fr (F++(RY)) (xs++[.int .i64 pM,tH]) (l++[⟨pM,aco⟩])::Γ):=by
 have hr:qI.rep w (RY) [.int .i64 pM,tH] (⟨pM,aco⟩:IntoD):=⟨tH,RY,rfl,rfl,(H.get aeb tG).1⟩
 refine H.add _ ⟨Qc (H.get i hf).1<|reps_one hr,fun e=>((H.get i hf).2 e).app (((H.get aeb tG).2 e))⟩ fun b hb=>?_
 rcases List.mem_append.1 hb with h|h
 ·exact(H.facts _<|List.mem_of_getElem? hf).2 b h
 ·exact(H.facts _<|List.mem_of_getElem? tG).2 b h
structure yz where
 qW:Int
 yH:Int
 vg:yLI
 jI:yLI
 jK:yLI
 jq:yLI
 Qz:yLI
 xn:List IntoD
 je:Bool
 deriving DecidableEq
instance:Inhabited yz:=⟨⟨0,0,[],[],[],[],[],[],false⟩⟩
instance:Tot yz:=⟨fun x=>tot x.vg+tot x.jI+tot x.jK+tot x.jq+tot x.Qz+tot x.xn⟩
theorem tot_RuleD(x:yz):tot x=tot x.vg+tot x.jI+tot x.jK+tot x.jq+tot x.Qz+tot x.xn:=rfl
instance:qI yz where
 size:=9
 rep:=fun w F cs x=>∃(lK lL lP lH tT lU:Value) (mj mG ma nf wc mw:yLN),cs=[.int .i64 x.qW,.int .i64 x.yH,lK,lL,lP,lH,tT,lU,Bv x.je]/\F=mj++mG++ma++nf++wc++mw/\qI.rep w mj [lK] x.vg/\qI.rep w mG [lL] x.jI/\qI.rep w ma [lP] x.jK/\qI.rep w nf [lH] x.jq/\qI.rep w wc [tT] x.Qz/\qI.rep w mw [lU] x.xn
 len:=by rintro w F cs x ⟨lK,lL,lP,lH,tT,lU,mj,mG,ma,nf,wc,mw,rfl,_,lS,lM,lO,lN,tV,lT⟩;rfl
 one:=by
  rintro w F cs x ⟨lK,lL,lP,lH,tT,lU,mj,mG,ma,nf,wc,mw,rfl,rfl,lS,lM,lO,lN,tV,lT⟩ u hu
  simp only[List.mem_cons,List.not_mem_nil,or_false] at hu
  rcases hu with rfl|rfl|rfl|rfl|rfl|rfl|rfl|rfl|rfl <;> first|rfl|exact one_of ql
 stay:=by
  rintro w w' F cs x ⟨lK,lL,lP,lH,tT,lU,mj,mG,ma,nf,wc,mw,rfl,rfl,lS,lM,lO,lN,tV,lT⟩ hs
  exact⟨_,_,_,_,_,_,_,_,_,_,_,_,J,J,qI.stay lS fun b hb=>hs b<|by simp[hb],qI.stay lM fun b hb=>hs b<|by simp[hb],qI.stay lO fun b hb=>hs b<|by simp[hb],qI.stay lN fun b hb=>hs b<|by simp[hb],qI.stay tV fun b hb=>hs b<|by simp[hb],qI.stay lT fun b hb=>hs b<|by simp[hb]⟩
 lt:=by
  rintro w F cs x ⟨lK,lL,lP,lH,tT,lU,mj,mG,ma,nf,wc,mw,rfl,rfl,lS,lM,lO,lN,tV,lT⟩ b hb
  simp only[List.mem_append] at hb
  rcases hb with (((((hb|hb)|hb)|hb)|hb)|hb)
  ·exact qI.lt lS b hb
  ·exact qI.lt lM b hb
  ·exact qI.lt lO b hb
  ·exact qI.lt lN b hb
  ·exact qI.lt tV b hb
  ·exact qI.lt lT b hb
theorem St.Xd(H:St W0 w ps Γ)(i:Nat){l:List yz}(hf:Γ[i]? =some (isF fr F (Sv (some ⟨b,o,none⟩) m c) l))(iv:Int)(k:Nat)(hk:iv.toNat=k)(h0:0<=iv)(h1:iv<l.length):
 ∃(HL:yOA) (GZ:Nat) (mj:yLN) (IH:yOA) (HS:Nat) (mG:yLN) (Ji:yOA) (Jq:Nat) (ma:yLN) (IY:yOA) (IN:Nat) (nf:yLN) (To:yOA) (T6:Nat) (wc:yLN) (Jo:yOA) (I3:Nat) (mw:yLN),St W0 w ps (isF fr mj (Sv HL l[k]!.vg.length GZ) l[k]!.vg::isF fr mG (Sv IH l[k]!.jI.length HS) l[k]!.jI::isF fr ma (Sv Ji l[k]!.jK.length Jq) l[k]!.jK::isF fr nf (Sv IY l[k]!.jq.length IN) l[k]!.jq::isF fr wc (Sv To l[k]!.Qz.length T6) l[k]!.Qz::isF fr mw (Sv Jo l[k]!.xn.length I3) l[k]!.xn::atF b (o+iv.toNat*9) [.int .i64 l[k]!.qW,.int .i64 l[k]!.yH,Sv HL l[k]!.vg.length GZ,Sv IH l[k]!.jI.length HS,Sv Ji l[k]!.jK.length Jq,Sv IY l[k]!.jq.length IN,Sv To l[k]!.Qz.length T6,Sv Jo l[k]!.xn.length I3,Bv l[k]!.je]::Γ):=by
 obtain⟨cs,Fk,hc,hr,bV⟩:=H.elem i hf iv h0 h1
 have eJ:fr=true->yc w Fk:=fun e=>((H.get i hf).2 e).sub fun x hx=>bV x<|List.mem_cons_of_mem _ hx
 rw[hk] at hr
 obtain⟨lK,lL,lP,lH,tT,lU,mj,mG,ma,nf,wc,mw,rfl,dA,lS,lM,lO,lN,tV,lT⟩:=hr
 obtain⟨HL,GZ,rfl⟩:=slice_form lS
 obtain⟨IH,HS,rfl⟩:=slice_form lM
 obtain⟨Ji,Jq,rfl⟩:=slice_form lO
 obtain⟨IY,IN,rfl⟩:=slice_form lN
 obtain⟨To,T6,rfl⟩:=slice_form tV
 obtain⟨Jo,I3,rfl⟩:=slice_form lT
 exact⟨_,_,_,_,_,_,_,_,_,_,_,_,_,_,_,_,_,_,(((((((H.jR i hf (atF b (o+iv.toNat*9) [.int .i64 l[k]!.qW,.int .i64 l[k]!.yH,Sv HL l[k]!.vg.length GZ,Sv IH l[k]!.jI.length HS,Sv Ji l[k]!.jK.length Jq,Sv IY l[k]!.jq.length IN,Sv To l[k]!.Qz.length T6,Sv Jo l[k]!.xn.length I3,Bv l[k]!.je]) hc<|fun x hx=>bV x (by simp only[atF,List.mem_singleton] at hx;subst hx;exact List.mem_cons_self ..)).jR (i+1) hf (isF fr mw _ l[k]!.xn) ⟨lT,fun e=>(eJ e).sub<|by rw[dA];intro x hx;simp[hx]⟩<|fun x hx=>bV x<|List.mem_cons_of_mem _<|dA.symm▸(by have hx:x∈mw:=hx;simp[hx])).jR (i+2) hf (isF fr wc _ l[k]!.Qz) ⟨tV,fun e=>(eJ e).sub<|by rw[dA];intro x hx;simp[hx]⟩<|fun x hx=>bV x<|List.mem_cons_of_mem _<|dA.symm▸(by have hx:x∈wc:=hx;simp[hx])).jR (i+3) hf (isF fr nf _ l[k]!.jq) ⟨lN,fun e=>(eJ e).sub<|by rw[dA];intro x hx;simp[hx]⟩<|fun x hx=>bV x<|List.mem_cons_of_mem _<|dA.symm▸(by have hx:x∈nf:=hx;simp[hx])).jR (i+4) hf (isF fr ma _ l[k]!.jK) ⟨lO,fun e=>(eJ e).sub<|by rw[dA];intro x hx;simp[hx]⟩<|fun x hx=>bV x<|List.mem_cons_of_mem _<|dA.symm▸(by have hx:x∈ma:=hx;simp[hx])).jR (i+5) hf (isF fr mG _ l[k]!.jI) ⟨lM,fun e=>(eJ e).sub<|by rw[dA];intro x hx;simp[hx]⟩<|fun x hx=>bV x<|List.mem_cons_of_mem _<|dA.symm▸(by have hx:x∈mG:=hx;simp[hx])).jR (i+6) hf (isF fr mj _ l[k]!.vg) ⟨lS,fun e=>(eJ e).sub<|by rw[dA];intro x hx;simp[hx]⟩<|fun x hx=>bV x<|List.mem_cons_of_mem _<|dA.symm▸(by have hx:x∈mj:=hx;simp[hx]))⟩
theorem St.snoc_RuleD(H:St W0 w ps Γ)(i:Nat){l:List yz}(hf:Γ[i]? =some (qX fr F xs l))(pM:Int)(HZ:Int)(Ny:Nat){Hq:yLN}{lK:Value}{MF:yLI}(lS:Γ[Ny]? =some (isF fr Hq lK MF))(Mc:Nat){Ig:yLN}{lL:Value}{PD:yLI}(lM:Γ[Mc]? =some (isF fr Ig lL PD))(Nd:Nat){IA:yLN}{lP:Value}{NE:yLI}(lO:Γ[Nd]? =some (isF fr IA lP NE))(Rh:Nat){II:yLN}{lH:Value}{Mx:yLI}(lN:Γ[Rh]? =some (isF fr II lH Mx))(aba:Nat){Se:yLN}{tT:Value}{aeS:yLI}(tV:Γ[aba]? =some (isF fr Se tT aeS))(PE:Nat){HD:yLN}{lU:Value}{OQ:List IntoD}(lT:Γ[PE]? =some (isF fr HD lU OQ))(Bo:Bool):
 St W0 w ps (qX fr (F++(Hq++Ig++IA++II++Se++HD)) (xs++[.int .i64 pM,.int .i64 HZ,lK,lL,lP,lH,tT,lU,Bv Bo]) (l++[⟨pM,HZ,MF,PD,NE,Mx,aeS,OQ,Bo⟩])::Γ):=by
 have hr:qI.rep w (Hq++Ig++IA++II++Se++HD) [.int .i64 pM,.int .i64 HZ,lK,lL,lP,lH,tT,lU,Bv Bo] (⟨pM,HZ,MF,PD,NE,Mx,aeS,OQ,Bo⟩:yz):=⟨lK,lL,lP,lH,tT,lU,Hq,Ig,IA,II,Se,HD,rfl,rfl,(H.get Ny lS).1,(H.get Mc lM).1,(H.get Nd lO).1,(H.get Rh lN).1,(H.get aba tV).1,(H.get PE lT).1⟩
 refine H.add _ ⟨Qc (H.get i hf).1<|reps_one hr,fun e=>((H.get i hf).2 e).app ((((((((H.get Ny lS).2 e).app ((H.get Mc lM).2 e)).app ((H.get Nd lO).2 e)).app ((H.get Rh lN).2 e)).app ((H.get aba tV).2 e)).app ((H.get PE lT).2 e)))⟩ fun b hb=>?_
 rcases List.mem_append.1 hb with h|h
 ·exact(H.facts _<|List.mem_of_getElem? hf).2 b h
 ·simp only[List.mem_append] at h
  rcases h with (((((h|h)|h)|h)|h)|h)
  ·exact(H.facts _<|List.mem_of_getElem? lS).2 b h
  ·exact(H.facts _<|List.mem_of_getElem? lM).2 b h
  ·exact(H.facts _<|List.mem_of_getElem? lO).2 b h
  ·exact(H.facts _<|List.mem_of_getElem? lN).2 b h
  ·exact(H.facts _<|List.mem_of_getElem? tV).2 b h
  ·exact(H.facts _<|List.mem_of_getElem? lT).2 b h
structure qJ where
 qQ:Int
 qA:yLI
 qB:List yz
 deriving DecidableEq
instance:Inhabited qJ:=⟨⟨0,[],[]⟩⟩
instance:Tot qJ:=⟨fun x=>tot x.qA+tot x.qB⟩
instance:qI qJ where
 size:=3
 rep:=fun w F cs x=>∃(kp sa:Value) (kA si:yLN),cs=[.int .i64 x.qQ,kp,sa]/\F=kA++si/\qI.rep w kA [kp] x.qA/\qI.rep w si [sa] x.qB
 len:=by rintro w F cs x ⟨kp,sa,kA,si,rfl,_,mo,wL⟩;rfl
 one:=by
  rintro w F cs x ⟨kp,sa,kA,si,rfl,rfl,mo,wL⟩ u hu
  simp only[List.mem_cons,List.not_mem_nil,or_false] at hu
  rcases hu with rfl|rfl|rfl <;> first|rfl|exact one_of ql
 stay:=by
  rintro w w' F cs x ⟨kp,sa,kA,si,rfl,rfl,mo,wL⟩ hs
  exact⟨_,_,_,_,J,J,qI.stay mo fun b hb=>hs b<|by simp[hb],qI.stay wL fun b hb=>hs b<|by simp[hb]⟩
 lt:=by
  rintro w F cs x ⟨kp,sa,kA,si,rfl,rfl,mo,wL⟩ b hb
  simp only[List.mem_append] at hb
  rcases hb with (hb|hb)
  ·exact qI.lt mo b hb
  ·exact qI.lt wL b hb
structure qV where
 qO:List Bool
 qG:yLL
 qF:yLI
 deriving DecidableEq
instance:Inhabited qV:=⟨⟨[],[],[]⟩⟩
instance:Tot qV:=⟨fun x=>tot x.qO+tot x.qG+tot x.qF⟩
instance:qI qV where
 size:=3
 rep:=fun w F cs x=>∃(sk dp dq:Value) (r8 XM Xq:yLN),cs=[sk,dp,dq]/\F=r8++XM++Xq/\qI.rep w r8 [sk] x.qO/\qI.rep w XM [dp] x.qG/\qI.rep w Xq [dq] x.qF
 len:=by rintro w F cs x ⟨sk,dp,dq,r8,XM,Xq,rfl,_,wM,Ye,Vm⟩;rfl
 one:=by
  rintro w F cs x ⟨sk,dp,dq,r8,XM,Xq,rfl,rfl,wM,Ye,Vm⟩ u hu
  simp only[List.mem_cons,List.not_mem_nil,or_false] at hu
  rcases hu with rfl|rfl|rfl <;> exact one_of ql
 stay:=by
  rintro w w' F cs x ⟨sk,dp,dq,r8,XM,Xq,rfl,rfl,wM,Ye,Vm⟩ hs
  exact⟨_,_,_,_,_,_,J,J,qI.stay wM fun b hb=>hs b<|by simp[hb],qI.stay Ye fun b hb=>hs b<|by simp[hb],qI.stay Vm fun b hb=>hs b<|by simp[hb]⟩
 lt:=by
  rintro w F cs x ⟨sk,dp,dq,r8,XM,Xq,rfl,rfl,wM,Ye,Vm⟩ b hb
  simp only[List.mem_append] at hb
  rcases hb with ((hb|hb)|hb)
  ·exact qI.lt wM b hb
  ·exact qI.lt Ye b hb
  ·exact qI.lt Vm b hb
structure zG where
 qK:Int
 qG:yLL
 qF:yLI
 qY:Bool
 jA:List Bool
 qU:yLL
 jH:List (yLL)
 zM:List (yLL)
 deriving DecidableEq
instance:Inhabited zG:=⟨⟨0,[],[],false,[],[],[],[]⟩⟩
instance:Tot zG:=⟨fun x=>tot x.qG+tot x.qF+tot x.jA+tot x.qU+tot x.jH+tot x.zM⟩
instance:qI zG where
 size:=8
 rep:=fun w F cs x=>∃(dp dq wv fi xd mb:Value) (XM Xq mY dx nj f4:yLN),cs=[.int .i64 x.qK,dp,dq,Bv x.qY,wv,fi,xd,mb]/\F=XM++Xq++mY++dx++nj++f4/\qI.rep w XM [dp] x.qG/\qI.rep w Xq [dq] x.qF/\qI.rep w mY [wv] x.jA/\qI.rep w dx [fi] x.qU/\qI.rep w nj [xd] x.jH/\qI.rep w f4 [mb] x.zM
 len:=by rintro w F cs x ⟨dp,dq,wv,fi,xd,mb,XM,Xq,mY,dx,nj,f4,rfl,_,Ye,Vm,tR,eT,tE,lJ⟩;rfl
 one:=by
  rintro w F cs x ⟨dp,dq,wv,fi,xd,mb,XM,Xq,mY,dx,nj,f4,rfl,rfl,Ye,Vm,tR,eT,tE,lJ⟩ u hu
  simp only[List.mem_cons,List.not_mem_nil,or_false] at hu
  rcases hu with rfl|rfl|rfl|rfl|rfl|rfl|rfl|rfl <;> first|rfl|exact one_of ql
 stay:=by
  rintro w w' F cs x ⟨dp,dq,wv,fi,xd,mb,XM,Xq,mY,dx,nj,f4,rfl,rfl,Ye,Vm,tR,eT,tE,lJ⟩ hs
  exact⟨_,_,_,_,_,_,_,_,_,_,_,_,J,J,qI.stay Ye fun b hb=>hs b<|by simp[hb],qI.stay Vm fun b hb=>hs b<|by simp[hb],qI.stay tR fun b hb=>hs b<|by simp[hb],qI.stay eT fun b hb=>hs b<|by simp[hb],qI.stay tE fun b hb=>hs b<|by simp[hb],qI.stay lJ fun b hb=>hs b<|by simp[hb]⟩
 lt:=by
  rintro w F cs x ⟨dp,dq,wv,fi,xd,mb,XM,Xq,mY,dx,nj,f4,rfl,rfl,Ye,Vm,tR,eT,tE,lJ⟩ b hb
  simp only[List.mem_append] at hb
  rcases hb with (((((hb|hb)|hb)|hb)|hb)|hb)
  ·exact qI.lt Ye b hb
  ·exact qI.lt Vm b hb
  ·exact qI.lt tR b hb
  ·exact qI.lt eT b hb
  ·exact qI.lt tE b hb
  ·exact qI.lt lJ b hb
structure zI where
 qC:zG
 qR:zG
 deriving DecidableEq
instance:Inhabited zI:=⟨⟨default,default⟩⟩
instance:Tot zI:=⟨fun x=>tot x.qC.qG+tot x.qC.qF+tot x.qC.jA+tot x.qC.qU+tot x.qC.jH+tot x.qC.zM+tot x.qR.qG+tot x.qR.qF+tot x.qR.jA+tot x.qR.qU+tot x.qR.jH+tot x.qR.zM⟩
instance:qI zI where
 size:=16
 rep:=fun w F cs x=>∃(aV az be aA bf aS aG au aT aq aU aJ:Value) (aP ak aW an aX aF ay aj aD ai aC aw:yLN),cs=[.int .i64 x.qC.qK,aV,az,Bv x.qC.qY,be,aA,bf,aS,.int .i64 x.qR.qK,aG,au,Bv x.qR.qY,aT,aq,aU,aJ]/\F=aP++ak++aW++an++aX++aF++ay++aj++aD++ai++aC++aw/\qI.rep w aP [aV] x.qC.qG/\qI.rep w ak [az] x.qC.qF/\qI.rep w aW [be] x.qC.jA/\qI.rep w an [aA] x.qC.qU/\qI.rep w aX [bf] x.qC.jH/\qI.rep w aF [aS] x.qC.zM/\qI.rep w ay [aG] x.qR.qG/\qI.rep w aj [au] x.qR.qF/\qI.rep w aD [aT] x.qR.jA/\qI.rep w ai [aq] x.qR.qU/\qI.rep w aC [aU] x.qR.jH/\qI.rep w aw [aJ] x.qR.zM
 len:=by rintro w F cs x ⟨aV,az,be,aA,bf,aS,aG,au,aT,aq,aU,aJ,aP,ak,aW,an,aX,aF,ay,aj,aD,ai,aC,aw,rfl,_,bj,aQ,bz,aR,bw,bn,aY,aK,bi,aM,bm,aZ⟩;rfl
 one:=by
  rintro w F cs x ⟨aV,az,be,aA,bf,aS,aG,au,aT,aq,aU,aJ,aP,ak,aW,an,aX,aF,ay,aj,aD,ai,aC,aw,rfl,rfl,bj,aQ,bz,aR,bw,bn,aY,aK,bi,aM,bm,aZ⟩ u hu
  simp only[List.mem_cons,List.not_mem_nil,or_false] at hu
  rcases hu with rfl|rfl|rfl|rfl|rfl|rfl|rfl|rfl|rfl|rfl|rfl|rfl|rfl|rfl|rfl|rfl <;> first|rfl|exact one_of ql
 stay:=by
  rintro w w' F cs x ⟨aV,az,be,aA,bf,aS,aG,au,aT,aq,aU,aJ,aP,ak,aW,an,aX,aF,ay,aj,aD,ai,aC,aw,rfl,rfl,bj,aQ,bz,aR,bw,bn,aY,aK,bi,aM,bm,aZ⟩ hs
  exact⟨_,_,_,_,_,_,_,_,_,_,_,_,_,_,_,_,_,_,_,_,_,_,_,_,J,J,qI.stay bj fun b hb=>hs b<|by simp[hb],qI.stay aQ fun b hb=>hs b<|by simp[hb],qI.stay bz fun b hb=>hs b<|by simp[hb],qI.stay aR fun b hb=>hs b<|by simp[hb],qI.stay bw fun b hb=>hs b<|by simp[hb],qI.stay bn fun b hb=>hs b<|by simp[hb],qI.stay aY fun b hb=>hs b<|by simp[hb],qI.stay aK fun b hb=>hs b<|by simp[hb],qI.stay bi fun b hb=>hs b<|by simp[hb],qI.stay aM fun b hb=>hs b<|by simp[hb],qI.stay bm fun b hb=>hs b<|by simp[hb],qI.stay aZ fun b hb=>hs b<|by simp[hb]⟩
 lt:=by
  rintro w F cs x ⟨aV,az,be,aA,bf,aS,aG,au,aT,aq,aU,aJ,aP,ak,aW,an,aX,aF,ay,aj,aD,ai,aC,aw,rfl,rfl,bj,aQ,bz,aR,bw,bn,aY,aK,bi,aM,bm,aZ⟩ b hb
  simp only[List.mem_append] at hb
  rcases hb with (((((((((((hb|hb)|hb)|hb)|hb)|hb)|hb)|hb)|hb)|hb)|hb)|hb)
  ·exact qI.lt bj b hb
  ·exact qI.lt aQ b hb
  ·exact qI.lt bz b hb
  ·exact qI.lt aR b hb
  ·exact qI.lt bw b hb
  ·exact qI.lt bn b hb
  ·exact qI.lt aY b hb
  ·exact qI.lt aK b hb
  ·exact qI.lt bi b hb
  ·exact qI.lt aM b hb
  ·exact qI.lt bm b hb
  ·exact qI.lt aZ b hb
theorem St.snoc_ServerD(H:St W0 w ps Γ)(i:Nat){l:List zI}(hf:Γ[i]? =some (qX fr F xs l))(ln:Int)(rR:Nat){gQ:yLN}{aV:Value}{sg:yLL}(bj:Γ[rR]? =some (isF fr gQ aV sg))(mV:Nat){eY:yLN}{az:Value}{nm:yLI}(aQ:Γ[mV]? =some (isF fr eY az nm))(iB:Bool)(wO:Nat){ka:yLN}{be:Value}{wl:List Bool}(bz:Γ[wO]? =some (isF fr ka be wl))(nv:Nat){eZ:yLN}{aA:Value}{mT:yLL}(aR:Γ[nv]? =some (isF fr eZ aA mT))(wH:Nat){jN:yLN}{bf:Value}{ux:List yLL}(bw:Γ[wH]? =some (isF fr jN bf ux))(rG:Nat){gP:yLN}{aS:Value}{rU:List yLL}(bn:Γ[rG]? =some (isF fr gP aS rU))(iI:Int)(oX:Nat){fC:yLN}{aG:Value}{om:yLL}(aY:Γ[oX]? =some (isF fr fC aG om))(kZ:Nat){eF:yLN}{au:Value}{ld:yLI}(aK:Γ[kZ]? =some (isF fr eF au ld))(gH:Bool)(rK:Nat){gO:yLN}{aT:Value}{sc:List Bool}(bi:Γ[rK]? =some (isF fr gO aT sc))(kP:Nat){eB:yLN}{aq:Value}{lw:yLL}(aM:Γ[kP]? =some (isF fr eB aq lw))(rM:Nat){gR:yLN}{aU:Value}{rY:List yLL}(bm:Γ[rM]? =some (isF fr gR aU rY))(oY:Nat){fK:yLN}{aJ:Value}{oV:List yLL}(aZ:Γ[oY]? =some (isF fr fK aJ oV)):
 St W0 w ps (qX fr (F++(gQ++eY++ka++eZ++jN++gP++fC++eF++gO++eB++gR++fK)) (xs++[.int .i64 ln,aV,az,Bv iB,be,aA,bf,aS,.int .i64 iI,aG,au,Bv gH,aT,aq,aU,aJ]) (l++[⟨⟨ln,sg,nm,iB,wl,mT,ux,rU⟩,⟨iI,om,ld,gH,sc,lw,rY,oV⟩⟩])::Γ):=by
 have hr:qI.rep w (gQ++eY++ka++eZ++jN++gP++fC++eF++gO++eB++gR++fK) [.int .i64 ln,aV,az,Bv iB,be,aA,bf,aS,.int .i64 iI,aG,au,Bv gH,aT,aq,aU,aJ] (⟨⟨ln,sg,nm,iB,wl,mT,ux,rU⟩,⟨iI,om,ld,gH,sc,lw,rY,oV⟩⟩:zI):=⟨aV,az,be,aA,bf,aS,aG,au,aT,aq,aU,aJ,gQ,eY,ka,eZ,jN,gP,fC,eF,gO,eB,gR,fK,rfl,rfl,(H.get rR bj).1,(H.get mV aQ).1,(H.get wO bz).1,(H.get nv aR).1,(H.get wH bw).1,(H.get rG bn).1,(H.get oX aY).1,(H.get kZ aK).1,(H.get rK bi).1,(H.get kP aM).1,(H.get rM bm).1,(H.get oY aZ).1⟩
 refine H.add _ ⟨Qc (H.get i hf).1<|reps_one hr,fun e=>((H.get i hf).2 e).app ((((((((((((((H.get rR bj).2 e).app ((H.get mV aQ).2 e)).app ((H.get wO bz).2 e)).app ((H.get nv aR).2 e)).app ((H.get wH bw).2 e)).app ((H.get rG bn).2 e)).app ((H.get oX aY).2 e)).app ((H.get kZ aK).2 e)).app ((H.get rK bi).2 e)).app ((H.get kP aM).2 e)).app ((H.get rM bm).2 e)).app ((H.get oY aZ).2 e)))⟩ fun b hb=>?_
 rcases List.mem_append.1 hb with h|h
 ·exact(H.facts _<|List.mem_of_getElem? hf).2 b h
 ·simp only[List.mem_append] at h
  rcases h with (((((((((((h|h)|h)|h)|h)|h)|h)|h)|h)|h)|h)|h)
  ·exact(H.facts _<|List.mem_of_getElem? bj).2 b h
  ·exact(H.facts _<|List.mem_of_getElem? aQ).2 b h
  ·exact(H.facts _<|List.mem_of_getElem? bz).2 b h
  ·exact(H.facts _<|List.mem_of_getElem? aR).2 b h
  ·exact(H.facts _<|List.mem_of_getElem? bw).2 b h
  ·exact(H.facts _<|List.mem_of_getElem? bn).2 b h
  ·exact(H.facts _<|List.mem_of_getElem? aY).2 b h
  ·exact(H.facts _<|List.mem_of_getElem? aK).2 b h
  ·exact(H.facts _<|List.mem_of_getElem? bi).2 b h
  ·exact(H.facts _<|List.mem_of_getElem? aM).2 b h
  ·exact(H.facts _<|List.mem_of_getElem? bm).2 b h
  ·exact(H.facts _<|List.mem_of_getElem? aZ).2 b h
structure zC where
 qK:Int
 Q9:Int
 fTo:Int
 qG:yLL
 deriving DecidableEq
instance:Inhabited zC:=⟨⟨0,0,0,[]⟩⟩
instance:Tot zC:=⟨fun x=>tot x.qG⟩
instance:qI zC where
 size:=4
 rep:=fun w F cs x=>∃(dp:Value) (XM:yLN),cs=[.int .i64 x.qK,.int .i64 x.Q9,.int .i64 x.fTo,dp]/\F=XM/\qI.rep w XM [dp] x.qG
 len:=by rintro w F cs x ⟨dp,XM,rfl,_,Ye⟩;rfl
 one:=by
  rintro w F cs x ⟨dp,XM,rfl,rfl,Ye⟩ u hu
  simp only[List.mem_cons,List.not_mem_nil,or_false] at hu
  rcases hu with rfl|rfl|rfl|rfl <;> first|rfl|exact one_of ql
 stay:=by
  rintro w w' F cs x ⟨dp,XM,rfl,rfl,Ye⟩ hs
  exact⟨_,_,J,J,qI.stay Ye fun b hb=>hs b<|by simp[hb]⟩
 lt:=by
  rintro w F cs x ⟨dp,XM,rfl,rfl,Ye⟩ b hb
  exact qI.lt Ye b hb
theorem St.snoc_ParcelD(H:St W0 w ps Γ)(i:Nat){l:List zC}(hf:Γ[i]? =some (qX fr F xs l))(ov:Int)(Hj:Int)(xTo:Int)(ur:Nat){qt:yLN}{dp:Value}{Av:yLL}(Ye:Γ[ur]? =some (isF fr qt dp Av)):
 St W0 w ps (qX fr (F++(qt)) (xs++[.int .i64 ov,.int .i64 Hj,.int .i64 xTo,dp]) (l++[⟨ov,Hj,xTo,Av⟩])::Γ):=by
 have hr:qI.rep w (qt) [.int .i64 ov,.int .i64 Hj,.int .i64 xTo,dp] (⟨ov,Hj,xTo,Av⟩:zC):=⟨dp,qt,rfl,rfl,(H.get ur Ye).1⟩
 refine H.add _ ⟨Qc (H.get i hf).1<|reps_one hr,fun e=>((H.get i hf).2 e).app (((H.get ur Ye).2 e))⟩ fun b hb=>?_
 rcases List.mem_append.1 hb with h|h
 ·exact(H.facts _<|List.mem_of_getElem? hf).2 b h
 ·exact(H.facts _<|List.mem_of_getElem? Ye).2 b h
structure zO where
 qE:List zI
 vz:List zC
 deriving DecidableEq
instance:Inhabited zO:=⟨⟨[],[]⟩⟩
instance:Tot zO:=⟨fun x=>tot x.qE+tot x.vz⟩
instance:qI zO where
 size:=2
 rep:=fun w F cs x=>∃(kE AB:Value) (jx A0:yLN),cs=[kE,AB]/\F=jx++A0/\qI.rep w jx [kE] x.qE/\qI.rep w A0 [AB] x.vz
 len:=by rintro w F cs x ⟨kE,AB,jx,A0,rfl,_,mr,DG⟩;rfl
 one:=by
  rintro w F cs x ⟨kE,AB,jx,A0,rfl,rfl,mr,DG⟩ u hu
  simp only[List.mem_cons,List.not_mem_nil,or_false] at hu
  rcases hu with rfl|rfl <;> exact one_of ql
 stay:=by
  rintro w w' F cs x ⟨kE,AB,jx,A0,rfl,rfl,mr,DG⟩ hs
  exact⟨_,_,_,_,J,J,qI.stay mr fun b hb=>hs b<|by simp[hb],qI.stay DG fun b hb=>hs b<|by simp[hb]⟩
 lt:=by
  rintro w F cs x ⟨kE,AB,jx,A0,rfl,rfl,mr,DG⟩ b hb
  simp only[List.mem_append] at hb
  rcases hb with (hb|hb)
  ·exact qI.lt mr b hb
  ·exact qI.lt DG b hb
structure Qu where
 xQ:Int
 fA:Int
 fB:Int
 deriving DecidableEq
instance:Inhabited Qu:=⟨⟨0,0,0⟩⟩
instance:Tot Qu:=⟨fun x=>0⟩
instance:qI Qu where
 size:=3
 rep:=fun w F cs x=>cs=[.int .i64 x.xQ,.int .i64 x.fA,.int .i64 x.fB]/\F=[]
 len:=by rintro w F cs x ⟨rfl,rfl⟩;rfl
 one:=by
  rintro w F cs x ⟨rfl,rfl⟩ u hu
  simp only[List.mem_cons,List.not_mem_nil,or_false] at hu
  rcases hu with rfl|rfl|rfl <;> rfl
 stay:=by
  rintro w w' F cs x ⟨rfl,rfl⟩ hs
  exact⟨J,J⟩
 lt:=by
  rintro w F cs x ⟨rfl,rfl⟩ b hb
  simp at hb
theorem St.elem_DeedD(H:St W0 w ps Γ)(i:Nat){l:List Qu}(hf:Γ[i]? =some (isF fr F (Sv (some ⟨b,o,none⟩) m c) l))(iv:Int)(k:Nat)(hk:iv.toNat=k)(h0:0<=iv)(h1:iv<l.length):
 ∃(_:Unit),St W0 w ps (atF b (o+iv.toNat*3) [.int .i64 l[k]!.xQ,.int .i64 l[k]!.fA,.int .i64 l[k]!.fB]::Γ):=by
 obtain⟨cs,Fk,hc,hr,bV⟩:=H.elem i hf iv h0 h1
 rw[hk] at hr
 obtain⟨rfl,dA⟩:=hr
 exact⟨(),(H.jR i hf (atF b (o+iv.toNat*3) [.int .i64 l[k]!.xQ,.int .i64 l[k]!.fA,.int .i64 l[k]!.fB]) hc<|fun x hx=>bV x (by simp only[atF,List.mem_singleton] at hx;subst hx;exact List.mem_cons_self ..))⟩
theorem St.snoc_DeedD(H:St W0 w ps Γ)(i:Nat){l:List Qu}(hf:Γ[i]? =some (qX fr F xs l))(Ij:Int)(xA:Int)(xB:Int):
 St W0 w ps (qX fr (F++[]) (xs++[.int .i64 Ij,.int .i64 xA,.int .i64 xB]) (l++[⟨Ij,xA,xB⟩])::Γ):=by
 have hr:qI.rep w [] [.int .i64 Ij,.int .i64 xA,.int .i64 xB] (⟨Ij,xA,xB⟩:Qu):=⟨rfl,rfl⟩
 refine H.add _ ⟨Qc (H.get i hf).1<|reps_one hr,fun e=>((H.get i hf).2 e).app<|yc.nil _⟩ fun b hb=>?_
 rcases List.mem_append.1 hb with h|h
 ·exact(H.facts _<|List.mem_of_getElem? hf).2 b h
 ·simp at h
abbrev yS(s:qJ)(a:Option Addr)(c:Nat)(a':Option Addr)(c':Nat):List Value:=[.int .i64 s.qQ,Sv a s.qA.length c,Sv a' s.qB.length c']
abbrev yT(t:qV)(a:Option Addr)(c:Nat)(a':Option Addr)(c':Nat)(b:Option Addr)(d:Nat):List Value:=[Sv a t.qO.length c,Sv a' t.qG.length c',Sv b t.qF.length d]
end
variable{s:qJ}
section
variable{cl cm : Nat}
theorem both_ok(w:World)(l:yLI)(m:yLI)(of:FuncId)(Cm:Array Value)(Rw:Nat->Int)(hl:zP w Fl al cl l)(hm:zP w Fm am cm m)(p0:l.length<=m.length)(p1:l.length<=1000000)(aBa:∀args w,(callFunc of args).run Tryz.prog w=.ok (.enter of args) w)(asv:∀k w',k<l.length->Ext w w' ->Calls Tryz.prog of (([yI<|l[k]!,yI<|m[k]!]:List Value)++Cm.toList).toArray w' (Ret (fun v _=>v=yI (Rw k)) w')):Calls Tryz.prog 128 #[Sv al l.length cl,Sv am m.length cm,.func (.func of) #[] Cm] w (Ret (fun v w'=>OwnNew w w' 2 v<|tabTo Rw l.length) w):=by
 refine en func128 ntmps128 ?_
 have H:=((St.start w).arg hm).arg hl
 have nhm:=qN hm
 clear hl hm
 refine zcr<|sq 1<|zjc<|sw<|jS H underlying24 ti2 fun b1 w2 H=>sq 1<|zjcc<|sq 1<|oN J<|sp (yI 0)<|zjn<|xg ?_
 replace H:=H.boxRow 0 J 1 0 J qj
 replace H:St _ _ [rr (aa b1 0) 0 0 2 1 []] _:=H
 refine vk ((fun Z0 Z1=>fun m' ρ w3=>∃(xR:Env) (k:Nat) (E2:Value),ρ=upd (upd (upd (upd (upd (upd (upd xR 1<|Sv am m.length cm) 2<|.func (.func of) #[] Cm) 6 yN) 7<|E2) 11<|Sv al l.length cl) 12<|yI l.length) 13 (yI k)/\(k<=l.length)/\m'=l.length-k/\St w w3 [.row E2 2 1 k ((tabTo Rw k).map<|Value.int .i64)] [Z0,Z1]) _ _) (l.length-0) ⟨_,0,(Sv (aa b1 0) 0 0),uE7,qf,J,H⟩ ?_
 clear H
 rintro m' ρ w4 ⟨xR,k,E2,rfl,i0,rfl,H⟩
 refine zcr<|sq 1<|zjn<|xO<|cD J (fun h5=>?_)<|fun h5=>?_
 ·refine xe (t_n<|xO<|xg<|zcr<|sp (yI k) ?_)
  obtain⟨b6,o7,rfl⟩:=H.addr 0 rfl qf
  refine oI J J<|oL J (H.vM 0 J k qf)<|sp (yI k)<|sq 1<|zjn<|zf<|sp E2<|sp (.func (.func of) #[] Cm)<|sq 2<|sp (yI k) ?_
  obtain⟨b8,o9,rfl⟩:=H.addr 1 rfl qf
  refine oI J J<|oL J (H.vM 1 J k qf)<|sw<|o_callV [yI<|l[k]!,yI<|m[k]!] J J aBa (asv k _ qf H.base) ?_
  rintro _ sr rfl x11
  replace H:=H.ext x11
  refine sw<|o_build1 H underlying24 ti2 qj qj (yI<|Rw k) J J fun rB D9 H=>sw<|o_append H 1 J 0 J underlying24 ti2 J qj J J J qw qp qf fun Rs IR H=>?_
  replace H:St _ _ [.box rB [yI<|Rw k] 2,.row Rs 2 1 (k+1) (((tabTo Rw k).map<|Value.int .i64)++[yI<|Rw k])] _:=H
  refine sp (Rs)<|xX<|b_n<|t_n<|zf<|sw<|zY k 1 J J qf<|sq 1<|xX ?_
  rw[show ((tabTo Rw k).map<|Value.int .i64)++[yI<|Rw k]=(tabTo Rw<|k+1).map (Value.int .i64) from by(rw[tabTo_succ];simp)] at H
  refine xu (m':=l.length-(k+1)) qf ⟨_,k+1,Rs,uE7,?_,J,H.sel _ (.cons _<|.refl _) _ qm⟩
  ·omega
 refine zx4<|zcr<|sp E2<|sp E2<|zjr<|rH1 (E2) H ?_
 obtain rfl:k=l.length:=by omega
 exact H.newInts 0 J qm
theorem plus1_ok(w:World)(x:Int)(y:Int)(t:Int)(bt ot:Nat)(hpt:jO w bt ot [yI t])(p0: -1000000000000000<=x/\x<=1000000000000000)(p1: -1000000000000000<=t*y/\t*y<=1000000000000000):Calls Tryz.prog 129 #[yI x,yI y,pp bt ot] w (Ret (fun v w'=>v=yI (x+t*y)) w):=by
 refine en func129 ntmps129 ?_
 have H:=(St.start w).argAt hpt
 clear hpt
 refine zcr<|sp (yI 0)<|zjc<|sp (yI x)<|oL J (H.zU 0 J 0 J)<|sp (yI y)<|sw<|o_mul t y J J qf<|sw<|zY x (t*y) J J qf<|sq 1<|zjr<|rH1 (yI<|x+(t*y)) H ?_
 rfl
theorem Vy(w:World)(l:yLI)(m:yLI)(t:Int)(hl:zP w Fl al cl l)(hm:zP w Fm am cm m)(p0:l.length<=m.length)(p1:Mid l)(p2:XG m t):Calls Tryz.prog 81 #[Sv al l.length cl,Sv am m.length cm,yI t] w (Ret (fun v w'=>OwnNew w w' 2 v<|vX l m t) w):=by
 refine en func81 ntmps81 ?_
 have H:=((St.start w).arg hm).arg hl
 have Cr:=qN hl
 have nhm:=qN hm
 clear hl hm
 have p3:=p1.1
 refine zcr<|sw<|o_box H (yI t) J fun b1 w2 H=>?_
 replace H:St _ _ [.box b1 [yI t] 2] _:=H
 refine sq 1<|zjc<|sq 2<|sp (.func (.func 129) #[] #[pp b1 0]) ?_
 have aNC:=H.base.size
 refine sw<|oc (both_ok _ l m 129 #[pp b1 0] (fun k=>l[k]! +t*m[k]!) (H.get 0 J).1 (H.get 1 J).1 qf qf call129<|fun k w' hk e=>plus1_ok w' _ _ t _ _ ((H.ext e).cells 0 J) (by have:=p1.2 k hk;omega)<|p2 k qf) ?_
 rintro v5 w3 r5 x4
 replace H:=H.zy x4 r5
 refine sp (v5)<|zjr<|rH1 (v5) H<|H.newInts 0 J<|by simp[QL]
theorem QV(w:World)(l:yLI)(m:yLI)(t:Int)(hl:zP w Fl al cl l)(hm:zP w Fm am cm m)(p0:l.length<=m.length)(p1:Mid l)(p2:XG m t):Calls Tryz.prog 155 #[Sv al l.length cl,Sv am m.length cm,yI t] w (Ret (fun v w'=>OwnNew w w' 2 v<|vX l m t) w):=by
 refine en func155 ntmps155 ?_
 have H:=((St.start w).arg hm).arg hl
 have Cr:=qN hl
 have nhm:=qN hm
 clear hl hm
 have p3:=p1.1
 refine zcr<|sq 1<|zjc<|sw<|jS H underlying24 ti2 fun b1 w2 H=>sq 1<|zjcc<|sp (yI 0)<|zjn<|xg ?_
 replace H:=H.boxRow 0 J 1 0 J qj
 replace H:St _ _ [rr (aa b1 0) 0 0 2 1 []] _:=H
 refine vk ((fun Z0 Z1=>fun m' ρ w3=>∃(xR:Env) (k:Nat) (E2:Value),ρ=upd (upd (upd (upd (upd (upd xR 0<|Sv al l.length cl) 1<|Sv am m.length cm) 2<|yI t) 6 yN) 7<|E2) 8 (yI k)/\(k<=l.length)/\m'=l.length-k/\St w w3 [.row E2 2 1 k ((plusTo l m t k).map<|Value.int .i64)] [Z0,Z1]) _ _) (l.length-0) ⟨_,0,(Sv (aa b1 0) 0 0),uE6,qf,J,H⟩ ?_
 clear H
 rintro m' ρ w4 ⟨xR,k,E2,rfl,i0,rfl,H⟩
 refine zcc<|sp (yI k)<|sq 1<|oN J<|sq 1<|zjn<|cD J (fun h5=>?_)<|fun h5=>?_
 ·refine xe (t_n<|xO<|xg<|c_draw (fun w6=>St w w6 [] [sF false Fl al cl l,sF false Fm am cm m]) J ((H.ext<|ext_drew _).sel _ (.cons _<|.refl _) _<|fun _ h=>h) ?_)
  replace H:=H.ext<|ext_drew _
  refine rtp 0 (E2) (H.sel _ (.cons _<|.refl _) _<|fun _ h=>h) ?_
  refine rtl 1 (H.sel _ (.cons _<|.refl _) _<|fun _ h=>h) ?_
  refine rtp 2 (yI k) (H.sel _ (.cons _<|.refl _) _<|fun _ h=>h) ?_
  obtain⟨b7,o8,rfl⟩:=H.addr 0 rfl qf
  refine tI 3 J J J (H.sel _ (.cons _<|.refl _) _<|fun _ h=>h) ?_
  refine tL 4 J J (fun _ h=>h.vM 0 J k qf) (H.sel _ (.cons _<|.refl _) _<|fun _ h=>h) ?_
  refine rtl 5 (H.sel _ (.cons _<|.refl _) _<|fun _ h=>h) ?_
  refine rtp 6 (yI k) (H.sel _ (.cons _<|.refl _) _<|fun _ h=>h) ?_
  obtain⟨b9,o10,rfl⟩:=H.addr 1 rfl qf
  refine tI 7 J J J (H.sel _ (.cons _<|.refl _) _<|fun _ h=>h) ?_
  refine tL 8 J J (fun _ h=>h.vM 1 J k qf) (H.sel _ (.cons _<|.refl _) _<|fun _ h=>h) ?_
  refine rtp 9 (yI t) (H.sel _ (.cons _<|.refl _) _<|fun _ h=>h) ?_
  refine rt 10 _ (y_mul m[k]! t J J<|by(have:=p1.2 k qf;have:=p2 k qf;rw[Int.mul_comm] at this;omega)) (H.sel _ (.cons _<|.refl _) _<|fun _ h=>h) ?_
  refine rt 11 _ (y_add l[k]! (m[k]!*t) J J<|by(have:=p1.2 k qf;have:=p2 k qf;rw[Int.mul_comm] at this;omega)) (H.sel _ (.cons _<|.refl _) _<|fun _ h=>h) ?_
  refine ro 12 J<|o_build1 H underlying24 ti2 qj qj (yI (l[k]!+(m[k]!*t))) J J fun ue Lz H=>?_
  replace H:St _ _ [.box ue [yI (l[k]!+(m[k]!*t))] 2,.row E2 2 1 k ((plusTo l m t k).map<|Value.int .i64)] _:=H
  refine⟨H.sel _ (.cons _<|.cons _<|.refl _) _<|fun _ h=>h,(ro 13 J<|o_append H 1 J 0 J underlying24 ti2 J qj J J J qw qp qf fun LR TC H=>?_)⟩
  replace H:St _ _ [.box ue [yI (l[k]!+(m[k]!*t))] 2,.row LR 2 1 (k+1) (((plusTo l m t k).map<|Value.int .i64)++[yI (l[k]!+(m[k]!*t))])] _:=H
  refine⟨H.sel _ (.cons _<|.cons _<|.refl _) _<|fun _ h=>h,(rtp 14 (LR) (H.sel _ (.cons _<|.cons _<|.refl _) _<|fun _ h=>h) ?_)⟩
  refine xx qh<|b_n<|t_n<|zf<|sp (yI k)<|sw<|zY k 1 J J (by(have:=p1.2 k qf;have:=p2 k qf;rw[Int.mul_comm] at this;omega))<|sq 1<|xX ?_
  rw[show ((plusTo l m t k).map<|Value.int .i64)++[yI (l[k]!+(m[k]!*t))]=(plusTo l m t<|k+1).map (Value.int .i64) from by(rw[plusTo_succ,Int.mul_comm t];simp)] at H
  refine xu (m':=l.length-(k+1)) qf ⟨_,k+1,LR,uE6,?_,J,H.sel _ (.cons _<|.refl _) _ qm⟩
  ·omega
 refine zx4<|zcr<|sp E2<|sp E2<|zjr<|rH1 (E2) H ?_
 obtain rfl:k=l.length:=by omega
 exact H.newInts 0 J<|by simp[vX,plusTo]
theorem VV(w:World)(l:yLI)(hl:zP w Fl al cl l)(p0:l.length<=1000000):Calls Tryz.prog 102 #[Sv al l.length cl] w (Ret (fun v w'=>OwnNew w w' 2 v l) w):=by
 refine en func102 ntmps102 ?_
 have H:=(St.start w).arg hl
 have Cr:=qN hl
 clear hl
 refine zcr<|sq 1<|zjc<|sw<|jS H underlying24 ti2 fun b1 w2 H=>sq 1 ?_
 replace H:=H.boxRow 0 J 1 0 J qj
 refine sw<|o_appendInts H 0 J 0 J underlying24 ti2 J J J qp qf fun v3 w4 H=>?_
 replace H:St _ _ [.row v3 2 1 (0+l.length) ([]++l.map (Value.int .i64))] _:=H
 refine sp (v3)<|zjr<|rH1 (v3) H<|H.newInts 0 J qf
theorem cloneI_ok(w:World)(l:yLI)(hl:zP w Fl al cl l)(p0:l.length<=1000000):Calls Tryz.prog 55 #[Sv al l.length cl] w (Ret (fun v w'=>OwnNew w w' 2 v l) w):=by
 refine en func55 ntmps55 ?_
 have H:=(St.start w).arg hl
 have Cr:=qN hl
 clear hl
 refine zcr<|sq 1<|zjcc<|sq 1<|sw<|o_eqnil underlying24 al l.length cl J<|zjn<|vP _ J (fun h1=>?_)<|fun h1=>?_
 ·refine zcr (sq 1<|zjr<|t_r<|rH1 yN H ?_)
  obtain rfl:=H.nilOf 0 rfl ‹_›
  exact ownNew_nil _ _ _
 refine xe<|t_n<|zcr<|sw<|jS H underlying24 ti2 fun b2 w3 H=>sq 1 ?_
 replace H:=H.boxRow 0 J 1 0 J qj
 refine sw<|o_appendInts H 0 J 0 J underlying24 ti2 J J J qp qf fun v4 w5 H=>?_
 replace H:St _ _ [.row v4 2 1 (0+l.length) ([]++l.map (Value.int .i64))] _:=H
 refine sp (v4)<|zjr<|rH1 (v4) H<|H.newInts 0 J qf
end
section
instance:Mark IntoD where
 dc x:=1+dc x.Xc
 mrk x k:=⟨mrk x.qW<|k,mrk x.Xc<|k+1⟩
 mkd x k:=mkd x.qW (k)/\mkd x.Xc (k+1)
 mkd_mark x k:=by
  simp only[cnt_mark]
  exact⟨mkd_mark _ _,mkd_mark _ _⟩
 cnt_mark x k:=by simp only[cnt_mark]
theorem cnt_IntoD(x:IntoD):dc x=1+dc x.Xc:=rfl
instance:Mark yz where
 dc x:=1+1+dc x.vg+dc x.jI+dc x.jK+dc x.jq+dc x.Qz+dc x.xn+1
 mrk x k:=⟨mrk x.qW<|k,mrk x.yH<|k+1,mrk x.vg<|k+1+1,mrk x.jI<|k+1+1+(dc x.vg:Nat),mrk x.jK<|k+1+1+(dc x.vg:Nat)+(dc x.jI:Nat),mrk x.jq<|k+1+1+(dc x.vg:Nat)+(dc x.jI:Nat)+(dc x.jK:Nat),mrk x.Qz<|k+1+1+(dc x.vg:Nat)+(dc x.jI:Nat)+(dc x.jK:Nat)+(dc x.jq:Nat),mrk x.xn<|k+1+1+(dc x.vg:Nat)+(dc x.jI:Nat)+(dc x.jK:Nat)+(dc x.jq:Nat)+(dc x.Qz:Nat),mrk x.je<|k+1+1+(dc x.vg:Nat)+(dc x.jI:Nat)+(dc x.jK:Nat)+(dc x.jq:Nat)+(dc x.Qz:Nat)+(dc x.xn:Nat)⟩
 mkd x k:=mkd x.qW (k)/\mkd x.yH (k+1)/\mkd x.vg (k+1+1)/\mkd x.jI (k+1+1+(dc x.vg:Nat))/\mkd x.jK (k+1+1+(dc x.vg:Nat)+(dc x.jI:Nat))/\mkd x.jq (k+1+1+(dc x.vg:Nat)+(dc x.jI:Nat)+(dc x.jK:Nat))/\mkd x.Qz (k+1+1+(dc x.vg:Nat)+(dc x.jI:Nat)+(dc x.jK:Nat)+(dc x.jq:Nat))/\mkd x.xn (k+1+1+(dc x.vg:Nat)+(dc x.jI:Nat)+(dc x.jK:Nat)+(dc x.jq:Nat)+(dc x.Qz:Nat))/\mkd x.je (k+1+1+(dc x.vg:Nat)+(dc x.jI:Nat)+(dc x.jK:Nat)+(dc x.jq:Nat)+(dc x.Qz:Nat)+(dc x.xn:Nat))
 mkd_mark x k:=by
  simp only[cnt_mark]
  exact⟨mkd_mark _ _,mkd_mark _ _,mkd_mark _ _,mkd_mark _ _,mkd_mark _ _,mkd_mark _ _,mkd_mark _ _,mkd_mark _ _,mkd_mark _ _⟩
 cnt_mark x k:=by simp only[cnt_mark]
theorem cnt_RuleD(x:yz):dc x=1+1+dc x.vg+dc x.jI+dc x.jK+dc x.jq+dc x.Qz+dc x.xn+1:=rfl
instance:Mark qV where
 dc x:=dc x.qO+dc x.qG+dc x.qF
 mrk x k:=⟨mrk x.qO<|k,mrk x.qG<|k+(dc x.qO:Nat),mrk x.qF<|k+(dc x.qO:Nat)+(dc x.qG:Nat)⟩
 mkd x k:=mkd x.qO (k)/\mkd x.qG (k+(dc x.qO:Nat))/\mkd x.qF (k+(dc x.qO:Nat)+(dc x.qG:Nat))
 mkd_mark x k:=by
  simp only[cnt_mark]
  exact⟨mkd_mark _ _,mkd_mark _ _,mkd_mark _ _⟩
 cnt_mark x k:=by simp only[cnt_mark]
end
section
def FrameTo(s:qJ)(k:Nat):Prop:=∀c,1<=c->c<k->0<=s.qA[c]! /\s.qA[c]! <=(c:Int)-1
theorem FrameTo.one(s:qJ):FrameTo s 1:=fun c h1 h2=>by omega
theorem FrameTo.succ(h:FrameTo s k)(h1:0<=s.qA[k]! /\s.qA[k]! <=(k:Int)-1):FrameTo s (k+1):=fun c hc hk=>by
 by_cases e:c=k
 ·subst e;exact h1
 ·exact h c hc qf
def yf(s:qJ):Prop:=(1<=s.qQ/\s.qQ<=8)/\(1<=s.qA.length/\s.qA.length<=6)/\s.qA[0]! = -1/\FrameTo s s.qA.length
theorem yf.up(h:yf s){c:Int}(h0:0<c)(h1:c<=(s.qA.length:Int)-1):0<=s.qA[c.toNat]! /\s.qA[c.toNat]!<c:=by
 have:=h.2.2.2 c.toNat qf qf
 omega
inductive Lies(p:yLI)(o:Int):Int->Prop where
 |here {c:Int}:0<c->p[c.toNat]! =o->Lies p o c
 |up {c:Int}:0<c->Lies p o (p[c.toNat]!)->Lies p o c
theorem lies_iff{p:yLI}{o c:Int}:Lies p o c<->0<c/\(p[c.toNat]! =o\/Lies p o p[c.toNat]!):=by
 constructor
 ·rintro(⟨h,e⟩|⟨h,e⟩)
  ·exact⟨h,.inl e⟩
  ·exact⟨h,.inr e⟩
 ·rintro⟨h,e|e⟩
  ·exact .here h e
  ·exact .up h e
abbrev CellIn(s:qJ)(c:Int):Prop:=0<=c/\c<=(s.qA.length:Int)-1
def IntoOk(s:qJ)(r:yz)(j:Nat):Prop:=
 CellIn s r.xn[j]!.qW/\Lies s.qA r.qW r.xn[j]!.qW/\jd s.qQ r.xn[j]!.Xc/\Yk r.xn[j]!.Xc≠0/\(0<j->r.xn[j-1]!.qW<r.xn[j]!.qW)
def IntosTo(s:qJ)(r:yz)(k:Nat):Prop:=∀j,j<k->IntoOk s r j
theorem IntosTo.succ{r:yz}(h:IntosTo s r k)(h1:IntoOk s r k):IntosTo s r (k+1):=fun j hj=>by
 by_cases e:j=k
 ·subst e;exact h1
 ·exact h j qf
def RuleOk(s:qJ)(r:yz):Prop:=
 CellIn s r.qW/\(0<=r.yH/\r.yH<=9)/\¬(r.je=true/\r.qW=0)/\r.xn.length<=3∧
  jd s.qQ r.vg/\jd s.qQ r.jI/\jd s.qQ r.jK/\jd s.qQ r.jq/\jd s.qQ r.Qz/\Yk r.vg≠0/\IntosTo s r r.xn.length
def ofCell(rs:List yz)(c:Int):Nat->Int
 |0=>0
 |k+1=>ofCell rs c k+if rs[k]!.qW=c then 1 else 0
def RulesTo(s:qJ)(k:Nat):Prop:=∀j,j<k->RuleOk s (s.qB[j]!)/\ofCell s.qB s.qB[j]!.qW (j+1)<=8
theorem RulesTo.succ(h:RulesTo s k)(h1:RuleOk s s.qB[k]!)(h2:ofCell s.qB s.qB[k]!.qW (k+1)<=8):RulesTo s (k+1):=fun j hj=>by
 by_cases e:j=k
 ·subst e;exact⟨h1,h2⟩
 ·exact h j qf
def jW(s:qJ):Prop:=yf s/\s.qB.length<=16/\RulesTo s s.qB.length
def BagsTo(s:qJ)(t:qV)(k:Nat):Prop:=∀c,c<k->jd s.qQ (t.qG[c]!)/\(t.qO[c]! =false->Yk t.qG[c]!<=0)
theorem BagsTo.succ{t:qV}(h:BagsTo s t k)(h1:jd s.qQ t.qG[k]!)(h2:t.qO[k]! =false->Yk t.qG[k]!<=0):BagsTo s t (k+1):=fun j hj=>by
 by_cases e:j=k
 ·subst e;exact⟨h1,h2⟩
 ·exact h j qf
def zA(s:qJ)(t:qV):Prop:=
 t.qO.length=s.qA.length/\t.qG.length=s.qA.length/\t.qO[0]! =true/\jd s.qQ t.qF/\BagsTo s t t.qG.length
theorem yf.step(h:yf s){c:Int}(h0:0<=c)(h1:c<=(s.qA.length:Int)-1): -1<=s.qA[c.toNat]! /\s.qA[c.toNat]!<c:=by
 rcases Int.lt_or_eq_of_le h0 with h2|h2
 ·have:=h.up h2 h1;omega
 ·subst h2
  have:=h.2.2.1
  simp only[Int.toNat_zero]
  omega
def climb(p:yLI)(alive:List Bool):Nat->Int->Int
 |0,c=>c
 |n+1,c=>if 0<=c/\alive[c.toNat]! =false then climb p alive n p[c.toNat]! else c
theorem climb_go{p:yLI}{c:Int}(hn:c<n)(h0:0<=c)(h:alive[c.toNat]! =false):climb p alive n c=climb p alive (n-1) (p[c.toNat]!):=by
 obtain⟨m,rfl⟩:∃m,n=m+1:=⟨n-1,by omega⟩
 rw[climb,if_pos ⟨h0,h⟩];rfl
theorem climb_end{p:yLI}{c:Int}(h:¬(0<=c/\alive[c.toNat]! =false)):climb p alive n c=c:=by
 cases n with
 |zero=>rfl
 |succ m=>rw[climb,if_neg h]
def xY(s:qJ)(t:qV)(c:Int):Int:=climb s.qA t.qO s.qA.length<|s.qA[c.toNat]!
theorem ofCell_bd(rs:List yz)(c:Int):∀k,0<=ofCell rs c k/\ofCell rs c k<=k
 |0=>by simp[ofCell]
 |k+1=>by
  have:=ofCell_bd rs c k
  simp only[ofCell]
  split <;> omega
def counts(s:qJ)(k:Nat):yLI:=(List.range s.qA.length).map fun c:Nat=>ofCell s.qB (c:Int) k
theorem counts_len(s:qJ)(k:Nat):(counts s k).length=s.qA.length:=by simp[counts]
theorem counts_zero(s:qJ):List.replicate s.qA.length (0:Int)=counts s 0:=by
 apply List.ext_getElem
 ·simp[counts]
 ·intro i h1 h2;simp[counts,ofCell]
theorem Yh{c:Int}(h:CellIn s c):(counts s k)[c.toNat]! =ofCell s.qB c k:=by
 rw[getElem!_pos _ _<|by rw[counts_len];omega]
 simp only[counts,List.getElem_map,List.getElem_range]
 rw[show ((c.toNat:Nat):Int)=c by omega]
theorem counts_succ(h:CellIn s s.qB[k]!.qW):
 (counts s k).set s.qB[k]!.qW.toNat ((counts s k)[s.qB[k]!.qW.toNat]! +1)=counts s (k+1):=by
 rw[Yh h]
 apply List.ext_getElem
 ·simp[counts]
 ·intro i h1 h2
  rw[List.getElem_set]
  simp only[counts,List.getElem_map,List.getElem_range,ofCell]
  by_cases e:s.qB[k]!.qW.toNat=i
  ·subst e
   rw[if_pos J,if_pos qf,show ((s.qB[k]!.qW.toNat:Nat):Int)=s.qB[k]!.qW by omega]
  ·rw[if_neg e,if_neg qf];omega
open Classical in
noncomputable def cellCodeOf(s:qJ)(t:qV)(c:Int):Int:=
 if ¬(jW s/\zA s t) then 1 else if ¬CellIn s c then 2 else if t.qO[c.toNat]! =false then 4 else 0
end
end Go.Proofs.YtghikkinnchndaaGreat
