/- Walks and laws, printed by program and by hand: what each function comes to, for all arguments, part 1. -/
import Derived.WalkKit
import Derived.Deep.RegionHeld
import Derived.Deep.LoopGhost
import Derived.Deep.MidRow
import Derived.Great.BuildSlice
import Derived.Laws.MakeOwn
import Derived.Great.FillDense
import Derived.Maps.AppendAt
import Derived.Lib.SliceRun
import Derived.Laws.Small
import Derived.Laws.Tables
import Derived.Test.YtdhklgjmiamiaaaGreatRows
namespace Go.Proofs.YtdhklgjmiamiaaaGreat
variable{B T b gj c d d1 GV KS OL W3 We d15 d16 d17 d2 d3 d4 d5 d6 d7 d8 d9 i i' id j k m n nn o aF sz:Nat}{P p:Prop}{W0 w w' w0:World}{alive:List Bool}{args mu fst:Array Value}{bb fr Jq:Bool}{cs vs xs ys:List Value}{dst:Option Nat}{e e' t tb ty u:TypeId}{hi iv lo:Int}{ts:Array TypeId}{v v1 GR KR OC Kt KO v15 v16 v17 v2 v3 v4 v5 v6 v7 v8 v9 z:Value}{x y:Operand}
def zR(a n : Nat) : List Nat := List.range' a n
set_option linter.unusedVariables false
set_option linter.unusedSimpArgs false
set_option maxRecDepth 100000
set_option maxHeartbeats 4000000
open Go.RowKit
open Go.Proofs.Tryz
section
abbrev yLL:=List<|List Int
abbrev yLI:=List Int
abbrev yLN:=List Nat
abbrev yOA:=Option Addr
abbrev yI(x:Int):Value:=.int .i64 x
@[match_pattern]abbrev Sv(a:Option Addr)(n c:Nat):Value:=.slice a n c
@[match_pattern]abbrev Bv(b:Bool):Value:=.bool b
abbrev yN:Value:=.slice none 0 0
theorem qf(h:P:=by omega):P:=h
theorem qg(h:P:=by first|assumption|omega):P:=h
theorem qh(h:P:=by kernel_rfl):P:=h
theorem qj(h:P:=by decide):P:=h
theorem ql(h:P:=by assumption):P:=h
theorem qm(h:P:=by simp):P:=h
theorem qo(h:P:=by simp only[List.length_cons];omega):P:=h
theorem qp(h:P:=by unfold maxLen;omega):P:=h
theorem qw(h:P:=by simp[Value.oneCell',Value.cells]):P:=h
theorem qx(h:P:=by exact fun j hj=>by omega):P:=h
theorem qy(h:P:=by simp;omega):P:=h
def jC(w:World)(b aF:Nat)(vs:List Value):Prop:=∀i v,vs[i]? =some v->w.cell? ⟨b,aF+i,none⟩=some v
class qX(α:Type) where
 size:Nat
 rep:World->yLN->List Value->α->Prop
 len:∀ {w F cs x},rep w F cs x->cs.length=size
 stay:∀ {w w' F cs x},rep w F cs x->(∀b∈F,w'.heap[b]? =w.heap[b]?)->rep w' F cs x
 lt:∀ {w F cs x},rep w F cs x->∀b∈F,b<w.heap.size
 one:∀ {w F cs x},rep w F cs x->∀u∈cs,u.oneCell'=true
abbrev zP{α : Type}[qX<|List α](w : World)(F : List Nat)(a : Option Addr)(c : Nat)(l : List α) : Prop := qX.rep w F [.slice a l.length c] l
section
variable{α : Type}[qX α]
open qX
def reps(w:World):yLN->List Value->List α->Prop
 |F,vs,[]=>F=[]/\vs=[]
 |F,vs,x::l=>∃F1 F2 c1 c2,F=F1++F2/\vs=c1++c2/\rep w F1 c1 x/\reps w F2 c2 l
theorem X7{w:World}:∀ {F:yLN} {vs:List Value} {l:List α},reps w F vs l->vs.length=l.length*size α
 |_,_,[],⟨_,h⟩=>by simp[h]
 |_,_,x::l,⟨_,_,_,_,_,hv,h1,h2⟩=>by
  rw[hv,List.length_append,qX.len h1,X7 h2,List.length_cons,Nat.add_mul,Nat.one_mul,Nat.add_comm]
theorem reps_stay{w w':World}:∀ {F:yLN} {vs:List Value} {l:List α},reps w F vs l->(∀b∈F,w'.heap[b]? =w.heap[b]?)->reps w' F vs l
 |_,_,[],h,_=>h
 |_,_,x::l,⟨F1,F2,c1,c2,hF,hv,h1,h2⟩,hs=>by
  subst hF
  exact⟨F1,F2,c1,c2,rfl,hv,qX.stay h1<|fun b hb=>hs b<|List.mem_append_left _ hb,reps_stay h2<|fun b hb=>hs b<|List.mem_append_right _ hb⟩
theorem reps_lt{w:World}:∀ {F:yLN} {vs:List Value} {l:List α},reps w F vs l->∀b∈F,b<w.heap.size
 |_,_,[],⟨hF,_⟩,b,hb=>by simp[hF] at hb
 |_,_,x::l,⟨F1,F2,c1,c2,hF,hv,h1,h2⟩,b,hb=>by
  subst hF
  rcases List.mem_append.1 hb with h|h
  ·exact qX.lt h1 b h
  ·exact reps_lt h2 b h
theorem reps_cells{w:World}:∀ {F:yLN} {vs:List Value} {l:List α},reps w F vs l->∀u∈vs,u.oneCell'=true
 |_,_,[],⟨_,hv⟩,u,hu=>by simp[hv] at hu
 |_,_,x::l,⟨F1,F2,c1,c2,hF,hv,h1,h2⟩,u,hu=>by
  rw[hv] at hu
  rcases List.mem_append.1 hu with h|h
  ·exact qX.one h1 u h
  ·exact reps_cells h2 u h
theorem Qw{w:World}:∀ {F G:yLN} {vs us:List Value} {l m:List α},reps w F vs l->reps w G us m->reps w (F++G) (vs++us) (l++m)
 |_,_,_,_,[],_,⟨hF,hv⟩,h=>by simpa [hF,hv] using h
 |_,G,_,us,x::l,m,⟨F1,F2,c1,c2,hF,hv,h1,h2⟩,h=>
  ⟨F1,F2++G,c1,c2++us,by rw[hF,List.append_assoc],by rw[hv,List.append_assoc],h1,Qw h2 h⟩
theorem reps_split{w:World}:∀ {F:yLN} {vs:List Value} (l:List α) {m:List α},reps w F vs (l++m)→
 ∃F1 F2 v1 v2,F=F1++F2/\vs=v1++v2/\reps w F1 v1 l/\reps w F2 v2 m
 |F,vs,[],m,h=>⟨[],F,[],vs,rfl,rfl,⟨rfl,rfl⟩,h⟩
 |_,_,x::l,m,⟨F1,F2,c1,c2,hF,hv,h1,h2⟩=>by
  obtain⟨G1,G2,v1,v2,hG,hw,k1,k2⟩:=reps_split l h2
  exact⟨F1++G1,G2,c1++v1,v2,by rw[hF,hG,List.append_assoc],by rw[hv,hw,List.append_assoc],⟨F1,G1,c1,v1,rfl,rfl,h1,k1⟩,k2⟩
theorem reps_one{F:yLN}{x:α}(h:rep w F cs x):reps w F cs [x]:=
 ⟨F,[],cs,[],by simp,by simp,h,rfl,rfl⟩
theorem reps_get{F:yLN}{l:List α}(h:reps w F vs l)(k:Nat)(hk:k<l.length):
 ∃F1 Fk F2 v1 cs v2,F=F1++Fk++F2/\vs=v1++cs++v2/\v1.length=k*size α/\cs.length=size α/\rep w Fk cs l[k]/\reps w F1 v1 (l.take k)/\reps w F2 v2 (l.drop<|k+1):=by
 have e:l=l.take k++(l[k]::l.drop (k+1)):=by rw[←List.drop_eq_getElem_cons hk,List.take_append_drop]
 rw[e] at h
 obtain⟨F1,F2,v1,v2,hF,hv,h1,Fk,F3,cs,v3,sc,Sk,h2,h3⟩:=reps_split _ h
 refine⟨F1,Fk,F3,v1,cs,v3,by rw[hF,sc,List.append_assoc],by rw[hv,Sk,List.append_assoc],?_,qX.len h2,h2,h1,h3⟩
 rw[X7 h1,List.length_take_of_le qf]
theorem cells_mid{v1 v2:List Value}(h:jC w b aF (v1++cs++v2)):jC w b (aF+v1.length) cs:=by
 intro i v hv
 have hi:i<cs.length:=by
  rcases Nat.lt_or_ge i cs.length with h|h
  ·exact h
  ·simp[h] at hv
 have:=h (v1.length+i) v<|by rw[List.append_assoc,List.getElem?_append_right qf,Nat.add_sub_cancel_left,List.getElem?_append_left hi,hv]
 rwa [←Nat.add_assoc] at this
theorem cellsAt_stay(h:jC w b aF vs)(hb:w'.heap[b]? =w.heap[b]?):jC w' b aF vs:=
 fun i v hv=>(World.cell?_of_block (a:=⟨b,aF+i,none⟩) hb).trans<|h i v hv
def RepSlice(w:World)(F:yLN)(cs:List Value)(l:List α):Prop:=
 ∃a ed,cs=[Sv a l.length ed]/\(l.length<=9223372036854775807/\l.length<=ed)/\((l=[]/\F=[])\/∃b aF F' vs,a=some ⟨b,aF,none⟩/\F=b::F' /\b<w.heap.size/\reps w F' vs l/\jC w b aF vs)
instance:qX (List α) where
 size:=1
 rep:=RepSlice
 len:=by rintro w F cs x ⟨a,ed,rfl,_,_⟩;rfl
 one:=by rintro w F cs x ⟨a,ed,rfl,_,_⟩ u hu;simp only[List.mem_singleton] at hu;subst hu;rfl
 stay:=by
  rintro w w' F cs x ⟨a,ed,hc,hl,h⟩ hs
  refine⟨a,ed,hc,hl,?_⟩
  rcases h with h|⟨b,aF,F',vs,ha,hF,hb,hr,dp⟩
  ·exact Or.inl h
  ·subst hF
   have hbb:=hs b<|List.mem_cons_self ..
   refine Or.inr ⟨b,aF,F',vs,ha,rfl,?_,reps_stay hr<|fun c hc=>hs c<|List.mem_cons_of_mem _ hc,cellsAt_stay dp hbb⟩
   rcases Nat.lt_or_ge b w'.heap.size with h|h
   ·exact h
   ·rw[Array.getElem?_eq_none h] at hbb
    have:=Array.getElem?_eq_some_iff.2 ⟨hb,rfl⟩
    rw[this] at hbb
    cases hbb
 lt:=by
  rintro w F cs x ⟨a,ed,hc,hl,h⟩ c hcF
  rcases h with ⟨_,h⟩|⟨b,aF,F',vs,ha,hF,hb,hr,dp⟩
  ·simp[h] at hcF
  ·subst hF
   rcases List.mem_cons.1 hcF with rfl|h
   ·exact hb
   ·exact reps_lt hr c h
end
instance:qX Int where
 size:=1
 rep:=fun _ F cs x=>F=[]/\cs=[.int .i64 x]
 len:=by rintro w F cs x ⟨_,rfl⟩;rfl
 one:=by rintro w F cs x ⟨_,rfl⟩ u hu;simp only[List.mem_singleton] at hu;subst hu;rfl
 stay:=by rintro w w' F cs x h _;exact h
 lt:=by rintro w F cs x ⟨rfl,_⟩ b hb;simp at hb
instance:qX Bool where
 size:=1
 rep:=fun _ F cs x=>F=[]/\cs=[Bv x]
 len:=by rintro w F cs x ⟨_,rfl⟩;rfl
 one:=by rintro w F cs x ⟨_,rfl⟩ u hu;simp only[List.mem_singleton] at hu;subst hu;rfl
 stay:=by rintro w w' F cs x h _;exact h
 lt:=by rintro w F cs x ⟨rfl,_⟩ b hb;simp at hb
theorem reps_ints{w:World}:∀ {F:yLN} {vs:List Value} {l:yLI},reps w F vs l->F=[]/\vs=l.map (Value.int .i64)
 |_,_,[],⟨hF,hv⟩=>⟨hF,hv⟩
 |_,_,x::l,⟨F1,F2,c1,c2,hF,hv,h1,h2⟩=>by
  obtain⟨e1,e2⟩:=reps_ints h2
  obtain⟨k1,k2⟩:F1=[]/\c1=[.int .i64 x]:=h1
  subst e1 e2 k1 k2
  exact⟨hF,hv⟩
theorem reps_of_ints(w:World):∀(l:yLI),reps w [] (l.map<|Value.int .i64) l
 | []=>⟨rfl,rfl⟩
 |x::l=>⟨[],[],[.int .i64 x],l.map<|Value.int .i64,rfl,rfl,⟨rfl,rfl⟩,reps_of_ints w l⟩
theorem qR{α:Type}[qX α]{F:yLN}{a:yOA}{l:List α}(h:qX.rep w F [Sv a m c] l):l.length<=9223372036854775807/\l.length<=c:=by
 obtain⟨a',c',hc,h,_⟩:=h
 simp only[List.cons.injEq,Value.slice.injEq,and_true] at hc
 obtain⟨_,_,rfl⟩:=hc
 exact h
abbrev Is{α:Type}[qX α](w:World)(F:yLN)(v:Value)(x:α):Prop:=qX.rep w F [v] x
abbrev Ext(w w':World):Prop:=Below w.heap.size w w'
theorem Ext.trans'{a b c:World}(h:Ext a b)(k:Ext b c):Ext a c:=h.trans<|k.mono h.size
end
variable{F F' Fl Fm G rs:yLN}{L L':List yLN}{a al am:yOA}{l:yLI}
section
abbrev Env:=Nat->Value
def upd(ρ:Env)(d:Nat)(v:Value):Env:=fun i=>cond (Nat.beq i d) v<|ρ i
def env0(l:List Value):Env:=fun i=>l.getD i undef
class Dfr where
 D:List Deferred
instance dfr0:Dfr:=⟨[]⟩
def mk[Dfr](n:Nat)(ρ:Env):Act:={ tmps:=Array.ofFn (n:=n) (fun i=>ρ i),defers:=Dfr.D }
def ev(n:Nat)(ρ:Env):Operand->Value
 | .tmp t=>cond (Nat.blt t n) (ρ t) undef
 | .const v=>v
 | .global g=>.pointer<|some ⟨g,0,none⟩
 | .func f=>.func (.func f) #[] #[]
theorem upd_same(ρ:Env)(d:Nat)(v:Value):upd ρ d v d=v:=by simp[upd]
theorem upd_ne(ρ:Env)(v:Value)(h:i≠d):upd ρ d v i=ρ i:=by
 unfold upd
 have:Nat.beq i d=false:=by
  cases hb:Nat.beq i d with
  |false=>rfl
  |true=>exact absurd (Nat.eq_of_beq_eq_true hb) h
 rw[this];rfl
theorem upd_self{ρ:Env}(h:ρ d=v):upd ρ d v=ρ:=by
 funext i
 by_cases hi:i=d
 ·subst hi;rw[upd_same,h]
 ·rw[upd_ne _ _ hi]
theorem zy{ρ ρ':Env}(h:ρ=ρ')(hd:ρ d=v):ρ=upd ρ' d v:=by subst h;exact(upd_self hd).symm
theorem Xc[Dfr](n:Nat)(ρ:Env):(mk n ρ).eval=ev n ρ:=by
 funext x
 cases x with
 |tmp t=>
  simp only[Act.eval,ev,mk]
  by_cases h:t<n
  ·rw[show Nat.blt t n=true from Nat.ble_eq_true_of_le h]
   simp[h]
  ·have hb:Nat.blt t n=false:=by
    cases hb:Nat.blt t n with
    |false=>rfl
    |true=>exact absurd (Nat.le_of_ble_eq_true hb) h
   rw[hb]
   simp[h]
 |const v=>rfl
 |global g=>rfl
 |func f=>rfl
theorem mk_put[Dfr](n:Nat)(ρ:Env)(d:Nat)(v:Value):(mk n ρ).put (some d) v=mk n (upd ρ d v):=by
 simp only[Act.put,mk,Act.mk.injEq,and_true]
 apply Array.ext
 ·simp
 ·intro i h1 h2
  rw[Array.getElem_setIfInBounds<|by simpa using h1]
  simp only[Array.getElem_ofFn]
  by_cases hi:d=i
  ·subst hi;simp[upd_same]
  ·rw[if_neg hi,upd_ne _ _<|Ne.symm hi]
section
variable{P : Program}{kE : Array Oper}{Q : Exit -> Act -> World -> Prop}{n : Nat}{ρ : Env}{w : World}{ai : List Oper}
@[irreducible] def WL[Dfr](P : Program)(kE : Array Oper)(Q : Exit -> Act -> World -> Prop)(n : Nat)(l : List Oper)(ρ : Env)(w : World) : Prop := wpList P kE Q l (mk n ρ) w
theorem WL.of[Dfr]{l:List Oper}(h:wpList P kE Q l (mk n ρ) w):WL P kE Q n l ρ w:=by unfold WL;exact h
theorem WL.out[Dfr]{l:List Oper}(h:WL P kE Q n l ρ w):wpList P kE Q l (mk n ρ) w:=by unfold WL at h;exact h
theorem enter{f:FuncId}{fn:Func}{c:Code}{R:Ending->World->Prop}
 (hf:P.funcs[f]? =some fn) (hb:fn.body=some c) (hn:fn.ntmps=n) (hs:args.size<=n)
 (h:c.wp P (bodyPost P fn R) (mk n<|env0 args.toList) w):Calls P f args w R:=by
 refine calls_of_wp hf hb ?_
 have e:({ tmps:=args++Array.replicate (fn.ntmps-args.size) undef,defers:=[]}:Act)=mk n (env0 args.toList):=by
  simp only[mk,Act.mk.injEq]
  refine⟨?_,rfl⟩
  apply Array.ext
  ·simp[hn];omega
  ·intro i h1 h2
   simp only[Array.getElem_ofFn,env0]
   by_cases hi:i<args.size
   ·rw[Array.getElem_append_left hi]
    simp[List.getD_eq_getElem?_getD,hi]
   ·rw[Array.getElem_append_right qf]
    simp[List.getD_eq_getElem?_getD,Array.getElem?_eq_none<|show args.size<=i by omega]
 rw[e]
 exact h
@[irreducible] def OW[Dfr](P : Program)(Q : Exit -> Act -> World -> Prop)(o : Oper)(n : Nat)(ρ : Env)(w : World)(K : Env -> World -> Prop) : Prop :=
 ∀K':Act->World->Prop,(∀ρ w,K ρ w->K' (mk n ρ) w)->o.wp P (mk n ρ) w K' Q
theorem sw[Dfr]{op:Op}{pos:String}{af:Array Edge}(h:OW P Q ⟨dst,op,ty,pos,af,none⟩ n ρ w fun ρ w=>WL P kE Q n ai ρ w):
 WL P kE Q n (⟨dst,op,ty,pos,af,none⟩::ai) ρ w:=by
 unfold OW at h
 exact WL.of<|wpList_plain rfl fun K hK=>h K fun ρ w hk=>hK _ _ hk.out
theorem xU[Dfr]{x y:Code}(h:x.wp P (Exit.then (y.wp P Q) Q) (mk n ρ) w):(x.seq y).wp P Q (mk n ρ) w:=wp_seq h
theorem xX[Dfr]{l:List Oper}(h:WL P l.toArray Q n l ρ w):(Code.region id l.toArray false).wp P Q (mk n ρ) w:=wp_region_lit h.out
theorem xZ[Dfr](h:Q .normal (mk n ρ) w):WL P kE Q n [] ρ w:=WL.of h
theorem qZ[Dfr](h:Q .normal (mk n ρ) w):Code.skip.wp P Q (mk n ρ) w:=wp_skip h
theorem c_ret[Dfr](h:Q .ret (mk n ρ) w):Code.ret.wp P Q (mk n ρ) w:=wp_ret h
theorem VR[Dfr](h:Q (.exit id) (mk n ρ) w):(Code.exit id).wp P Q (mk n ρ) w:=wp_exit h
theorem xf[Dfr]{c:Code}(h:c.wp P (Exit.inBlock id Q) (mk n ρ) w):(Code.block id c).wp P Q (mk n ρ) w:=wp_block h
theorem t_n{N:Act->World->Prop}{a:Act}(h:N a w):Exit.then N Q .normal a w:=h
theorem t_x{N:Act->World->Prop}{a:Act}(h:Q (.exit id) a w):Exit.then N Q (.exit id) a w:=h
theorem t_r{N:Act->World->Prop}{a:Act}(h:Q .ret a w):Exit.then N Q .ret a w:=h
theorem b_n{a:Act}(h:Q .normal a w):Exit.inBlock id Q .normal a w:=h
theorem b_r{a:Act}(h:Q .ret a w):Exit.inBlock id Q .ret a w:=h
theorem b_x{a:Act}(h:Q .normal a w):Exit.inBlock id Q (.exit id) a w:=by simpa [Exit.inBlock] using h
theorem b_o{a:Act}{id':Nat}(iQ:Nat.beq id' id=false)(h:Q (.exit id') a w):Exit.inBlock id Q (.exit id') a w:=by
 have:id' ≠id:=fun e=>by subst e;simp at iQ
 simpa [Exit.inBlock,this] using h
theorem zX[Dfr]{y z:Code}(c:Bool)(hc:ev n ρ x=Bv c)(h1:c=true->y.wp P Q (mk n ρ) w)(h2:c=false->z.wp P Q (mk n ρ) w):
 (Code.cond x y z).wp P Q (mk n ρ) w:=wp_cond_split (t:=c) (by rw[Xc];exact hc) h1 h2
theorem zD[Dfr]{c:Code}(I:Nat->Env->World->Prop)(m0:Nat)(h0:I m0 ρ w)
 (hs:∀m ρ w,I m ρ w->c.wp P (Exit.then (fun a' w'=>∃m' ρ',a'=mk n ρ' /\m'<m/\I m' ρ' w') Q) (mk n ρ) w):c.loop.wp P Q (mk n ρ) w:=by
 refine wp_loop_ghost (fun m a w=>∃ρ,a=mk n ρ/\I m ρ w) m0 ⟨ρ,rfl,h0⟩ ?_
 rintro m a w ⟨ρ,rfl,hI⟩
 refine Code.wp_mono ?_<|hs m ρ w hI
 intro e a w h
 cases e with
 |normal=>obtain⟨m',ρ',e1,e2,e3⟩:=h;exact⟨m',e2,ρ',e1,e3⟩
 |exit _=>exact h
 |goto _=>exact h
 |ret=>exact h
 |panic _=>exact h
 |outgrown=>exact h
theorem xh[Dfr]{m':Nat}{I:Nat->Env->World->Prop}(hm:m'<m)(h:I m' ρ w):
 Exit.then (fun a' w'=>∃m' ρ',a'=mk n ρ' /\m'<m/\I m' ρ' w') Q .normal (mk n ρ) w:=⟨m',ρ,rfl,hm,h⟩
theorem ret0{fn:Func}{R:Ending->World->Prop}(hr:fn.results=#[])(h:R (.returned<|.tuple #[]) w):bodyPost P fn R .normal (mk n ρ) w:=
 bodyPost_end (results_none hr _ _ _) rfl h
theorem ret0'{fn:Func}{R:Ending->World->Prop}(hr:fn.results=#[])(h:R (.returned<|.tuple #[]) w):bodyPost P fn R .ret (mk n ρ) w:=
 bodyPost_ret (results_none hr _ _ _) rfl h
theorem ret1{fn:Func}{R:Ending->World->Prop}{t:Nat}(v:Value)(hr:fn.results=#[.tmp t])(hv:ev n ρ (.tmp t)=v)(h:R (.returned v) w):bodyPost P fn R .ret (mk n ρ) w:=by
 refine bodyPost_ret (results_tmp hr _ _ _) rfl ?_
 have e:=congrFun (Xc n ρ)<|.tmp t
 simp only[Act.eval] at e
 rw[e,hv]
 exact h
theorem ret2{fn:Func}{R:Ending->World->Prop}{t u:Nat}(v x:Value)(hr:fn.results=#[.tmp t,.tmp u])(hv:ev n ρ (.tmp t)=v)(hx:ev n ρ (.tmp u)=x)(h:R (.returned<|.tuple #[v,x]) w):bodyPost P fn R .ret (mk n ρ) w:=by
 refine bodyPost_ret (results_tmp2 hr _ _ _) rfl ?_
 have e:=congrFun (Xc n ρ)<|.tmp t
 have e':=congrFun (Xc n ρ)<|.tmp u
 simp only[Act.eval] at e e'
 rw[e,hv,e',hx]
 exact h
end
inductive Prv where
 |box (b:Nat) (cs:List Value) (t:TypeId)
 |row (v:Value) (e:TypeId) (size n:Nat) (xs:List Value)
def Prv.blk:Prv->Option Nat
 | .box b _ _=>some b
 | .row v _ _ _ _=>v.ownBlock
def Prv.ok(base:Nat)(w:World):Prv->Prop
 | .box b cs t=>base<=b/\w.heap[b]? =some (.cells cs.toArray t (0,0))
 | .row v e size n xs=>w.ownsRow base e size v n xs
theorem Prv.ok.lt{base:Nat}{w:World}{p:Prv}(h:p.ok base w){b:Nat}(hb:p.blk=some b):base<=b/\b<w.heap.size:=by
 cases p with
 |box b' cs t=>
  simp only[Prv.blk,Option.some.injEq] at hb
  subst hb
  exact⟨h.1,(Array.getElem?_eq_some_iff.1 h.2).1⟩
 |row v e size n xs=>exact World.ownsRow.lt h b hb
theorem Prv.ok.stay{base:Nat}{p:Prv}(h:p.ok base w)(hs:∀b,p.blk=some b->w'.heap[b]? =w.heap[b]?):p.ok base w':=by
 cases p with
 |box b cs t=>exact⟨h.1,(hs b rfl).trans h.2⟩
 |row v e size n xs=>
  refine⟨h.1,?_⟩
  rcases h.2 with hn|⟨g,ed,ee,rfl,hb,hg,ai⟩
  ·exact Or.inl hn
  ·exact Or.inr ⟨g,ed,ee,rfl,hb,(hs g rfl).trans hg,ai⟩
structure Fact where
 F:yLN
 φ:World->Prop
 stay:∀w w',φ w->(∀b∈F,w'.heap[b]? =w.heap[b]?)->φ w'
def yO(ps:List Prv)(i:Nat):Option Nat:=(ps[i]?).bind Prv.blk
structure St(W0 w:World)(ps:List Prv)(Γ:List Fact):Prop where
 base:Ext W0 w
 has:∀p∈ps,p.ok W0.heap.size w
 dist:∀i j b,yO ps i=some b->yO ps j=some b->i=j
 facts:∀f∈Γ,f.φ w/\∀b∈f.F,b<w.heap.size/\∀i,yO ps i≠some b
section
variable{W0 w : World}{ps : List Prv}{Γ : List Fact}
theorem St.start(w:World):St w w [] []:=
 ⟨Below.refl _ _,by simp,by intro i j b h;simp[yO] at h,by simp⟩
theorem blkAt_has(H:St W0 w ps Γ)(h:yO ps i=some b):W0.heap.size<=b/\b<w.heap.size:=by
 unfold yO at h
 cases hp:ps[i]? with
 |none=>simp[hp] at h
 |some p=>
  simp only[hp,Option.bind_some] at h
  exact(H.has p<|List.mem_of_getElem? hp).lt h
theorem St.get(H:St W0 w ps Γ)(i:Nat){f:Fact}(h:Γ[i]? =some f):f.φ w:=(H.facts f<|List.mem_of_getElem? h).1
theorem St.add(H:St W0 w ps Γ)(f:Fact)(h:f.φ w)(hF:∀b∈f.F,b<w.heap.size/\∀i,yO ps i≠some b):St W0 w ps (f::Γ):=
 ⟨H.base,H.has,H.dist,fun g hg=>by
  rcases List.mem_cons.1 hg with rfl|hg
  ·exact⟨h,hF⟩
  ·exact H.facts g hg⟩
theorem St.jO(H:St W0 w ps Γ)(i:Nat){g:Fact}(hg:Γ[i]? =some g)(f:Fact)(h:f.φ w)(hF:∀b∈f.F,b∈g.F):St W0 w ps (f::Γ):=
 H.add f h fun b hb=>(H.facts g<|List.mem_of_getElem? hg).2 b<|hF b hb
theorem St.sub(H:St W0 w ps Γ)(Δ:List Fact)(h:∀f∈Δ,f∈Γ):St W0 w ps Δ:=⟨H.base,H.has,H.dist,fun f hf=>H.facts f<|h f hf⟩
theorem St.change(H:St W0 w ps Γ)(i:Nat){p p':Prv}(hp:ps[i]? =some p)
 (hos:w'.os=w.os) (ht:w'.tape=w.tape) (ho:w'.output=w.output) (hz:w.heap.size<=w'.heap.size)
 (hs:∀b,b<w.heap.size->p.blk≠some b->w'.heap[b]? =w.heap[b]?) (hok:p'.ok W0.heap.size w')
 (hb:p'.blk=p.blk\/p'.blk=none\/∃b,p'.blk=some b/\w.heap.size<=b):St W0 w' (ps.set i p') Γ:=by
 have hi:i<ps.length:=by
  rcases Nat.lt_or_ge i ps.length with h|h
  ·exact h
  ·simp[h] at hp
 have Y8:yO ps i=p.blk:=by simp[yO,hp]
 have rE:∀j,yO (ps.set i p') j=if j=i then p'.blk else yO ps j:=by
  intro j
  unfold yO
  by_cases hj:j=i
  ·subst hj;simp[hi]
  ·rw[List.getElem?_set_ne<|Ne.symm hj,if_neg hj]
 have adW:∀j b,j≠i->yO ps j=some b->p'.blk≠some b:=by
  intro j b hj hjb he
  rcases hb with h|h|⟨c,h,hc⟩
  ·rw[h,←Y8] at he;exact hj<|H.dist j i b hjb he
  ·rw[h] at he;cases he
  ·rw[h] at he
   simp only[Option.some.injEq] at he
   subst he
   have:=(blkAt_has H hjb).2
   omega
 refine⟨⟨hos.trans H.base.os,ht.trans H.base.tape,ho.trans H.base.output,Nat.le_trans H.base.size hz,fun k hk=>?_⟩,?_,?_,?_⟩
 ·refine(hs k (Nat.lt_of_lt_of_le hk H.base.size) fun he=>?_).trans (H.base.block k hk)
  rw[←Y8] at he
  have:=(blkAt_has H he).1
  omega
 ·intro q hq
  obtain⟨j,hj⟩:=List.getElem?_of_mem hq
  by_cases hji:j=i
  ·subst hji
   rw[List.getElem?_set_self hi] at hj
   simp only[Option.some.injEq] at hj
   subst hj
   exact hok
  ·rw[List.getElem?_set_ne<|Ne.symm hji] at hj
   have PT :=H.has q<|List.mem_of_getElem? hj
   refine PT.stay fun b hqb=>hs b (PT.lt hqb).2 fun he=>?_
   rw[←Y8] at he
   exact hji<|H.dist j i b (by simp[yO,hj,hqb]) he
 ·intro j k b hj hk
  rw[rE] at hj hk
  by_cases h1:j=i <;> by_cases h2:k=i
  ·rw[h1,h2]
  ·rw[if_pos h1] at hj;rw[if_neg h2] at hk;exact absurd hj<|adW k b h2 hk
  ·rw[if_neg h1] at hj;rw[if_pos h2] at hk;exact absurd hk<|adW j b h1 hj
  ·rw[if_neg h1] at hj;rw[if_neg h2] at hk;exact H.dist j k b hj hk
 ·intro f hf
  obtain⟨h1,h2⟩:=H.facts f hf
  refine⟨f.stay w w' h1 fun b uX=>hs b (h2 b uX).1 fun he=>?_,fun b uX=>⟨Nat.lt_of_lt_of_le (h2 b uX).1 hz,fun j he=>?_⟩⟩
  ·rw[←Y8] at he;exact(h2 b uX).2 i he
  ·rw[rE] at he
   by_cases hj:j=i
   ·rw[if_pos hj] at he
    rcases hb with h|h|⟨c,h,hc⟩
    ·rw[h,←Y8] at he;exact(h2 b uX).2 i he
    ·rw[h] at he;cases he
    ·rw[h] at he
     simp only[Option.some.injEq] at he
     subst he
     have:=(h2 c uX).1
     omega
   ·rw[if_neg hj] at he;exact(h2 b uX).2 j he
theorem St.ext(H:St W0 w ps Γ)(e:Ext w w'):St W0 w' ps Γ:=
 ⟨Ext.trans' H.base e,fun p hp=>(H.has p hp).stay fun b hb=>e.block b ((H.has p hp).lt hb).2,H.dist,
  fun f hf=>⟨f.stay w w' (H.facts f hf).1 fun b hb=>e.block b ((H.facts f hf).2 b hb).1,
   fun b hb=>⟨Nat.lt_of_lt_of_le ((H.facts f hf).2 b hb).1 e.size,((H.facts f hf).2 b hb).2⟩⟩⟩
theorem St.own(H:St W0 w ps Γ)(e:Ext w w')(p:Prv)(hp:p.ok W0.heap.size w')(hb:∀b,p.blk=some b->w.heap.size<=b):St W0 w' (p::ps) Γ:=by
 have H':=H.ext e
 refine⟨H'.base,fun q hq=>?_,?_,fun f hf=>⟨(H'.facts f hf).1,fun b uX=>⟨((H'.facts f hf).2 b uX).1,fun i=>?_⟩⟩⟩
 ·rcases List.mem_cons.1 hq with rfl|hq
  ·exact hp
  ·exact H'.has q hq
 ·intro i j b hi hj
  cases i with
  |zero=>
   cases j with
   |zero=>rfl
   |succ j=>
    have h1:=hb b<|by simpa [yO] using hi
    have h2:=(blkAt_has H (i:=j) (b:=b)<|by simpa [yO] using hj).2
    omega
  |succ i=>
   cases j with
   |zero=>
    have h1:=hb b<|by simpa [yO] using hj
    have h2:=(blkAt_has H (i:=i) (b:=b)<|by simpa [yO] using hi).2
    omega
   |succ j=>rw[H.dist i j b (by simpa [yO] using hi)<|by simpa [yO] using hj]
 ·cases i with
  |zero=>
   intro he
   have h1:=hb b<|by simpa [yO] using he
   have h2:=((H.facts f hf).2 b uX).1
   omega
  |succ i=>simpa [yO] using ((H'.facts f hf).2 b uX).2 i
theorem ext_alloc(w:World)(o:Obj):Ext w (w.alloc o):=(Below.refl _ _).alloc (Nat.le_refl _) o
theorem ext_drew(w:World):Ext w w.drew:=(Below.refl _ _).drew
theorem St.alloc(H:St W0 w ps Γ)(cs:Array Value)(t:TypeId):St W0 (w.alloc<|.cells cs t) (.box w.heap.size cs.toList t::ps) Γ:=
 H.own (ext_alloc _ _) _ ⟨H.base.size,by simpa using heap_alloc_new w (.cells cs t)⟩ (by intro b hb;simp only[Prv.blk,Option.some.injEq] at hb;omega)
theorem heap_setCell_same{cs:Array Value}{fr:Nat×Nat}(h:w.heap[b]? =some (.cells cs t fr))(v:Value):
 (w.setCell ⟨b,aF,none⟩ v).heap[b]? =some (.cells (cs.setIfInBounds aF v) t fr):=by
 simp[World.setCell,Array.getElem?_modify,h]
theorem St.set(H:St W0 w ps Γ)(i:Nat){b:Nat}{cs:List Value}{t:TypeId}(hp:ps[i]? =some (.box b cs t))(aF:Nat)(v:Value):
 St W0 (w.setCell ⟨b,aF,none⟩ v) (ps.set i<|.box b (cs.set aF v) t) Γ:=by
 have hb:=H.has _<|List.mem_of_getElem? hp
 refine H.change i hp rfl rfl rfl (by simp[World.setCell]) (fun c _ hc=>Below.heap_setCell _ _ _ _ ?_) ⟨hb.1,?_⟩<|Or.inl rfl
 ·intro e;exact hc (by simp[Prv.blk,e])
 ·rw[heap_setCell_same hb.2]
  simp
end
def pv(ρ:Operand->Value):Op->Option Value
 | .move x=>some<|ρ x
 | .assign x=>some<|ρ x
 | .pick c a b=>match ρ c with | .bool t=>some (cond t (ρ a) (ρ b))|_=>none
 | .nilCheck x=>match ρ x with | .pointer (some a)=>some (.pointer (some a))|_=>none
 | .unOp .not _ x=>match ρ x with | .bool b=>some (.bool !b)|_=>none
 | .extract x i=>match ρ x with | .tuple vs=>vs[i]?|_=>none
 | .makeFunc f a c=>some<|.func f (a.toList.map ρ).toArray (c.toList.map ρ).toArray
 | .binOp .lss _ x y _=>match ρ x,ρ y with | .int .i64 a,.int .i64 b=>some (Bv (decide (a<b)))|_,_=>none
 | .binOp .leq _ x y _=>match ρ x,ρ y with | .int .i64 a,.int .i64 b=>some (Bv (decide (a<=b)))|_,_=>none
 | .binOp .gtr _ x y _=>match ρ x,ρ y with | .int .i64 a,.int .i64 b=>some (Bv (decide (a>b)))|_,_=>none
 | .binOp .geq _ x y _=>match ρ x,ρ y with | .int .i64 a,.int .i64 b=>some (Bv (decide (a>=b)))|_,_=>none
 | .binOp .eql _ x y _=>match ρ x,ρ y with | .int .i64 a,.int .i64 b=>some (Bv (a == b)) | .string a,.string b=>some (Bv (a.toList == b.toList))|_,_=>none
 | .binOp .neq _ x y _=>match ρ x,ρ y with | .int .i64 a,.int .i64 b=>some (Bv (a != b)) | .string a,.string b=>some (Bv !(a.toList == b.toList))|_,_=>none
 |_=>none
theorem pv_run{P:Program}{ρ:Operand->Value}{o:Oper}(h:pv ρ o.op=some v)(w:World):(execOp ρ o).run P w=.ok (.value v) w:=by
 unfold execOp
 cases ho:o.op <;> rw[ho] at h <;> simp only[pv] at h <;> try (cases h;done)
 case move x=>cases h;simp
 case assign x=>cases h;simp
 case pick c a b=>
  split at h <;> cases h
  rename_i t ht
  cases t <;> simp[ht,asBool]
 case nilCheck x=>
  split at h <;> cases h
  rename_i a ha
  simp[ha]
 case makeFunc f a c=>cases h;simp[Instr.makeFunc,←List.map_toArray]
 case extract x i=>
  split at h
  ·rename_i vs hvs
   simp[hvs,Instr.extract,h]
  ·cases h
 case unOp op t x=>
  cases op <;> simp only[pv] at h <;> try (cases h;done)
  split at h <;> cases h
  rename_i b hb
  simp[hb,Op.unary]
 case binOp op t x y u=>
  cases op <;> simp only[pv] at h <;> try (cases h;done)
  all_goals split at h
  all_goals first
   |(cases h;done)
   |(rename_i h1 h2;cases h;simp[h1,h2,eqGuard,binOp,Op.intCmp];done)
   |(rename_i h1 h2;cases h;simp[h1,h2,eqGuard,binOp,Op.stringOp];done)
section
variable{P : Program}{kE : Array Oper}{Q : Exit -> Act -> World -> Prop}{n : Nat}{ρ : Env}{W0 w : World}{ai : List Oper}{ps : List Prv}{Γ : List Fact}
 {d:Nat} {op:Op} {ty:TypeId} {pos:String} {af:Array Edge} {K:Env->World->Prop}
theorem XW[Dfr](v:Value)(h:(execOp (ev n ρ) ⟨some d,op,ty,pos,af,none⟩).run P w=.ok (.value v) w')(k:K (upd ρ d v) w'):
 OW P Q ⟨some d,op,ty,pos,af,none⟩ n ρ w K:=by
 unfold OW
 intro K' hK
 unfold Oper.wp
 rw[Xc,h]
 show K' ((mk n ρ).put (some d) v) w'
 rw[mk_put]
 exact hK _ _ k
theorem o_unit[Dfr](h:(execOp (ev n ρ) ⟨none,op,ty,pos,af,none⟩).run P w=.ok .skip w')(k:K ρ w'):
 OW P Q ⟨none,op,ty,pos,af,none⟩ n ρ w K:=by
 unfold OW
 intro K' hK
 unfold Oper.wp
 rw[Xc,h]
 exact hK _ _ k
theorem o_pure[Dfr](v:Value)(h:pv (ev n ρ) op=some v)(k:K (upd ρ d v) w):OW P Q ⟨some d,op,ty,pos,af,none⟩ n ρ w K:=
 XW v (pv_run (by exact h) w) k
theorem yielded_of[Dfr]{e:Nat}{b:Bool}(hd:(kE[j]?).bind (·.dst)=some e)(hv:ev n ρ (.tmp e)=Bv b):yielded kE (mk n ρ).tmps j=some b:=by
 have Bp:e<n:=by
  rcases Nat.lt_or_ge e n with h|h
  ·exact h
  ·have hb:Nat.blt e n=false:=by
    cases hb:Nat.blt e n with
    |false=>rfl
    |true=>exact absurd (Nat.le_of_ble_eq_true hb) qf
   simp[ev,hb,undef] at hv
 have Sk :ρ e=Bv b:=by simpa [ev,show Nat.blt e n=true from Nat.ble_eq_true_of_le Bp] using hv
 simp[yielded,hd,mk,Bp,Sk]
theorem yielded_un[Dfr]{e:Nat}(hd:(kE[j]?).bind (·.dst)=some e)(hv:ev n ρ (.tmp e)=undef):yielded kE (mk n ρ).tmps j=none:=by
 rcases Nat.lt_or_ge e n with Bp|h
 ·have Sk :ρ e=undef:=by simpa [ev,show Nat.blt e n=true from Nat.ble_eq_true_of_le Bp] using hv
  simp[yielded,hd,mk,Bp,Sk,undef]
 ·simp[yielded,hd,mk,show ¬e<n by omega]
def dstAt:List Oper->Nat->Option Nat
 | [],_=>none
 |o::_,0=>o.dst
 |_::l,j+1=>dstAt l j
theorem dstAt_eq:∀(l:List Oper) (j:Nat),(l.toArray[j]?).bind (·.dst)=dstAt l j
 | [],j=>by simp[dstAt]
 |o::l,0=>by simp[dstAt]
 |o::l,j+1=>by
  have:=dstAt_eq l j
  simp only[List.getElem?_toArray,List.getElem?_cons_succ,dstAt] at this ⊢
  exact this
theorem qP[Dfr]{l:List Oper}{b:Bool}(e:Nat)(hd:dstAt l j=some e)(hv:ev n ρ (.tmp e)=Bv b)
 (k:WL P l.toArray Q n (⟨dst,op,ty,pos,af,none⟩::ai) ρ w):WL P l.toArray Q n (⟨dst,op,ty,pos,af,some (j,b)⟩::ai) ρ w:=by
 have hw:Region.wanted ⟨dst,op,ty,pos,af,some (j,b)⟩ (yielded l.toArray (mk n ρ).tmps)=true:=by simp[Region.wanted,yielded_of ((dstAt_eq l j).trans hd) hv]
 replace k:=k.out
 refine WL.of ?_
 unfold wpList at k ⊢
 rw[if_pos hw]
 rw[if_pos<|by rfl] at k
 exact k
theorem wrap_in{a:Int}(h: -9223372036854775808<=a/\a<=9223372036854775807):IntKind.i64.wrap a=a:=by
 exact IntWalk.i64_in a h
theorem zC[Dfr](a b:Int)(hx:ev n ρ x=.int .i64 a)(hy:ev n ρ y=.int .i64 b)(h: -9223372036854775808<=a+b/\a+b<=9223372036854775807)
 (k:K (upd ρ d<|.int .i64<|a+b) w):OW P Q ⟨some d,.binOp .add t x y u,ty,pos,af,none⟩ n ρ w K:=
 XW _ (by simp[execOp,hx,hy,eqGuard,binOp,Op.intArith,wrap_in h]) k
theorem o_sub[Dfr](a b:Int)(hx:ev n ρ x=.int .i64 a)(hy:ev n ρ y=.int .i64 b)(h: -9223372036854775808<=a-b/\a-b<=9223372036854775807)
 (k:K (upd ρ d<|.int .i64<|a-b) w):OW P Q ⟨some d,.binOp .sub t x y u,ty,pos,af,none⟩ n ρ w K:=
 XW _ (by simp[execOp,hx,hy,eqGuard,binOp,Op.intArith,wrap_in h]) k
theorem o_mul[Dfr](a b:Int)(hx:ev n ρ x=.int .i64 a)(hy:ev n ρ y=.int .i64 b)(h: -9223372036854775808<=a*b/\a*b<=9223372036854775807)
 (k:K (upd ρ d<|.int .i64<|a*b) w):OW P Q ⟨some d,.binOp .mul t x y u,ty,pos,af,none⟩ n ρ w K:=
 XW _ (by simp[execOp,hx,hy,eqGuard,binOp,Op.intArith,wrap_in h]) k
theorem o_len[Dfr](hu:P.underlying t=some (.slice e))(a:yOA)(m c:Nat)(hx:ev n ρ x=Sv a m c)
 (k:K (upd ρ d<|.int .i64 m) w):OW P Q ⟨some d,.call ⟨.builtin .len,#[x],#[t]⟩,ty,pos,af,none⟩ n ρ w K:=
 XW _ (by simp[execOp,resolve,invoke,builtin,Builtin.len_,hx,run_underlying hu,goInt]) k
end
def TI(P:Program)(t:TypeId)(z:Value)(size bytes:Nat):Prop:=(P.info? t).map (fun i=>(i.zero,i.size,i.bytes))=some (some z,size,bytes)
theorem TI.sizeOf{P:Program}{t:TypeId}{z:Value}{m gj :Nat}(h:TI P t z m gj)(w:World):(Go.sizeOf t).run P w=.ok m w:=by
 obtain⟨i,hi,_,h2,_⟩:=info_parts h
 simp[Go.sizeOf,typeInfo,hi,h2]
theorem TI.zero{P:Program}(h:TI P t z m gj)(w:World):(zeroValue t).run P w=.ok z w:=by
 obtain⟨i,hi,h1,_,_⟩:=info_parts h
 simp[zeroValue,typeInfo,hi,h1]
def yf(w:World)(F:yLN):Prop:=∀b∈F,∃cs t,w.heap[b]? =some (.cells cs t (0,0))
theorem yf.stay(h:yf w F)(hs:∀b∈F,w'.heap[b]? =w.heap[b]?):yf w' F:=fun b hb=>by rw[hs b hb];exact h b hb
theorem yf.sub(h:yf w F)(hs:∀b∈G,b∈F):yf w G:=fun b hb=>h b<|hs b hb
theorem yf.app(h:yf w F)(k:yf w G):yf w (F++G):=fun b hb=>by
 rcases List.mem_append.1 hb with h'|h'
 ·exact h b h'
 ·exact k b h'
theorem yf.nil(w:World):yf w []:=fun b hb=>by simp at hb
section
variable{α : Type}[qX α]
def isF(fr:Bool)(F:yLN)(v:Value)(x:α):Fact:=⟨F,fun w=>qX.rep w F [v] x/\(fr=true->yf w F),fun _ _ h hs=>⟨qX.stay h.1 hs,fun e=>(h.2 e).stay hs⟩⟩
def xG(fr:Bool)(F:yLN)(xs:List Value)(l:List α):Fact:=⟨F,fun w=>reps w F xs l/\(fr=true->yf w F),fun _ _ h hs=>⟨reps_stay h.1 hs,fun e=>(h.2 e).stay hs⟩⟩
end
def atF(b aF:Nat)(cs:List Value):Fact:=⟨[b],fun w=>jC w b aF cs,fun _ _ h hs=>cellsAt_stay h<|hs b qm⟩
section
variable{P : Program}{kE : Array Oper}{Q : Exit -> Act -> World -> Prop}{n : Nat}{ρ : Env}{W0 w : World}{ai : List Oper}{ps : List Prv}{Γ : List Fact}
 {d:Nat} {ty:TypeId} {pos:String} {af:Array Edge} {K:Env->World->Prop}
theorem St.cell(H:St W0 w ps Γ)(i:Nat){b:Nat}{cs:List Value}{t:TypeId}(hp:ps[i]? =some (.box b cs t)){aF:Nat}{v:Value}(hv:cs[aF]? =some v):w.cell? ⟨b,aF,none⟩=some v:=by
 have:=(H.has _<|List.mem_of_getElem? hp).2
 rw[World.cell?,this]
 simpa using hv
theorem St.zo(H:St W0 w ps Γ)(i:Nat)(hf:Γ[i]? =some (atF b aF cs))(j:Nat)(hv:cs[j]? =some v):w.cell? ⟨b,aF+j,none⟩=some v:=
 H.get i hf j v hv
theorem St.cells(H:St W0 w ps Γ)(i:Nat)(hp:ps[i]? =some (.box b cs t)):jC w b 0 cs:=by
 intro j v hv
 rw[Nat.zero_add]
 exact H.cell i hp hv
theorem qC(h:jC w b aF cs)(j m:Nat):jC w b (aF+j) ((cs.drop j).take m):=by
 intro i v hv
 rw[List.getElem?_take] at hv
 split at hv
 ·rw[List.getElem?_drop] at hv
  rw[Nat.add_assoc]
  exact h (j+i) v hv
 ·cases hv
theorem o_alloc[Dfr](H:St W0 w ps Γ)(ht:TI P t z m gj)
 (k:∀b w',St W0 w' (.box b z.cells.toList t::ps) Γ->K (upd ρ d<|.pointer<|some ⟨b,0,none⟩) w'):
 OW P Q ⟨some d,.alloc t,ty,pos,af,none⟩ n ρ w K:=
 XW (w':=w.alloc<|.cells z.cells t) _ (by simp[execOp,Instr.alloc,ht.zero,newVar,newRow]) (k _ _<|H.alloc _ _)
theorem o_box[Dfr](H:St W0 w ps Γ)(v:Value)(hx:ev n ρ x=v)
 (k:∀b w',St W0 w' (.box b v.cells.toList t::ps) Γ->K (upd ρ d<|.pointer<|some ⟨b,0,none⟩) w'):
 OW P Q ⟨some d,.box t x,ty,pos,af,none⟩ n ρ w K:=
 XW (w':=w.alloc<|.cells v.cells t) _ (by simp[execOp,Instr.box,hx,newVar,newRow]) (k _ _<|H.alloc _ _)
theorem run_load1(ha:∀w,(isAgg t).run P w=.ok false w)(hc:w.cell? ⟨b,aF,none⟩=some v):
 (Instr.loadAt t<|.pointer<|some ⟨b,aF,none⟩).run P w=.ok v w:=by
 simp[Instr.loadAt,Instr.sureAddr,loadVar,ha,hc]
theorem zB[Dfr](v:Value)(ha:∀w,(isAgg t).run P w=.ok false w)(hx:ev n ρ x=.pointer (some ⟨b,aF,none⟩))
 (hc:w.cell? ⟨b,aF,none⟩=some v) (k:K (upd ρ d v) w):OW P Q ⟨some d,.load t x,ty,pos,af,none⟩ n ρ w K:=
 XW v (by simp[execOp,hx,run_load1 ha hc]) k
theorem run_loadN(ha:∀w,(isAgg t).run P w=.ok true w)(hs:∀w,(Go.sizeOf t).run P w=.ok cs.length w)
 (hc:jC w b aF cs):(Instr.loadAt t<|.pointer<|some ⟨b,aF,none⟩).run P w=.ok (.agg cs.toArray) w:=by
 have:=run_loadCells_list (P:=P) w ⟨b,aF,none⟩ cs (fun j v hv=>by rw[Addr.add_mid];exact hc j v hv)
 simp[Instr.loadAt,Instr.sureAddr,loadVar,ha,hs,this]
theorem xy[Dfr](cs:List Value)(ha:∀w,(isAgg t).run P w=.ok true w)(hs:∀w,(Go.sizeOf t).run P w=.ok cs.length w)
 (hx:ev n ρ x=.pointer (some ⟨b,aF,none⟩)) (hc:jC w b aF cs) (k:K (upd ρ d<|.agg cs.toArray) w):
 OW P Q ⟨some d,.load t x,ty,pos,af,none⟩ n ρ w K:=
 XW _ (by simp[execOp,hx,run_loadN ha hs hc]) k
theorem o_field[Dfr]{fs:Array Field}{f:Field}(b aF j:Nat)(hu:P.underlying t=some (.struct fs))(hf:fs[i]? =some f)(hj:f.offset=j)
 (hs:∀w,(Go.sizeOf f.type).run P w=.ok (m+1) w) (hx:ev n ρ x=.pointer (some ⟨b,aF,none⟩)) (k:K (upd ρ d<|.pointer<|some ⟨b,aF+j,none⟩) w):
 OW P Q ⟨some d,.fieldAddr t x i,ty,pos,af,none⟩ n ρ w K:=
 XW _ (by subst hj;simp[execOp,hx,Instr.fieldAt,Instr.sureAddr,fieldPlace,run_underlying hu,hf,hs,Addr.add_mid]) k
theorem St.setAll(H:St W0 w ps Γ)(i:Nat)(hp:ps[i]? =some (.box b cs t))(KZ :List Value):
 St W0 (w.setRow b KZ.toArray) (ps.set i<|.box b KZ t) Γ:=by
 have hb:=H.has _<|List.mem_of_getElem? hp
 refine H.change i hp rfl rfl rfl (by simp[World.setRow]) (fun c _ hc=>?_) ⟨hb.1,?_⟩<|Or.inl rfl
 ·have iQ:b≠c:=fun e=>hc (by simp[Prv.blk,e])
  simp[World.setRow,Array.getElem?_modify,iQ]
 ·simp[World.setRow,Array.getElem?_modify,hb.2]
theorem o_store[Dfr](H:St W0 w ps Γ)(i:Nat)(hp:ps[i]? =some (.box b cs tb))(v:Value)
 (hs:∀w,(Go.sizeOf t).run P w=.ok v.cells.size w) (hx:ev n ρ x=.pointer (some ⟨b,aF,none⟩)) (hy:ev n ρ y=v) (h1:∀u∈v.cells.toList,u.oneCell'=true) (ho:aF+v.cells.size<=cs.length)
 (k:∀w',St W0 w' (ps.set i<|.box b (cs.take aF++v.cells.toList++cs.drop (aF+v.cells.size)) tb) Γ->K ρ w'):
 OW P Q ⟨none,.store t x y,ty,pos,af,none⟩ n ρ w K:=by
 have hb:=(H.has _<|List.mem_of_getElem? hp).2
 have hr:=run_storeCells_at P b aF tb v.cells.toList 0 cs.toArray w hb (by simpa using ho) h1
 refine o_unit (w':=w.setRow b (cs.take aF++v.cells.toList++cs.drop (aF+v.cells.size)).toArray) ?_<|k _<|H.setAll i hp _
 simp only[Nat.add_zero,Array.length_toList] at hr
 simp[execOp,hx,hy,Instr.storeAt,Instr.sureAddr,storeVar,hs,hr]
theorem o_store1[Dfr](H:St W0 w ps Γ)(i:Nat)(hp:ps[i]? =some (.box b cs tb))(v:Value)
 (hs:∀w,(Go.sizeOf t).run P w=.ok 1 w) (hx:ev n ρ x=.pointer (some ⟨b,aF,none⟩)) (hy:ev n ρ y=v) (h1:v.oneCell'=true) (ho:aF<cs.length)
 (k:∀w',St W0 w' (ps.set i<|.box b (cs.set aF v) tb) Γ->K ρ w'):
 OW P Q ⟨none,.store t x y,ty,pos,af,none⟩ n ρ w K:=by
 have hc:v.cells=#[v]:=by cases v <;> first|rfl|(simp[Value.oneCell'] at h1)
 refine o_store H i hp v (by simpa [hc] using hs) hx hy (by simp[hc,h1]) (by simp[hc];omega) ?_
 simp only[hc,List.size_toArray,List.length_cons,List.length_nil,Nat.zero_add]
 rw[show cs.take aF++[v]++cs.drop (aF+1)=cs.set aF v by rw[List.set_eq_take_append_cons_drop,if_pos ho];simp]
 exact k
variable{α : Type}[qX α][Inhabited α]
theorem o_idxAt[Dfr](iv:Int)(hu:P.underlying t=some (.slice e))(he:TI P e z sz gj)
 (hx:ev n ρ x=Sv (some ⟨b,aF,none⟩) m c) (hy:ev n ρ y=.int .i64 iv) (h0:0<=iv) (h1:iv<m)
 (k:K (upd ρ d<|.pointer<|some ⟨b,aF+iv.toNat*sz,none⟩) w):OW P Q ⟨some d,.indexAddr t x y,ty,pos,af,none⟩ n ρ w K:=
 XW _ (by simp[execOp,hx,hy,Instr.indexAt,asIntOf,run_underlying hu,he.sizeOf,h0,h1,Addr.add_mid]) k
theorem o_call[Dfr]{xs:Array Operand}{f:FuncId}{R:Value->World->Prop}(args:Array Value)(hv:ev n ρ x=.func (.func f) fst mu)
 (kM:fst.toList++xs.toList.map (ev n ρ)++mu.toList=args.toList) (hf:∀args w,(callFunc f args).run P w=.ok (.enter f args) w)
 (hc:Calls P f args w fun e w'=>∃v,e=.returned v/\R v w' /\Ext w w') (k:∀v w',R v w' ->Ext w w' ->K (upd ρ d v) w'):
 OW P Q ⟨some d,.call ⟨.value x,xs,ts⟩,ty,pos,af,none⟩ n ρ w K:=by
 have hr:(execOp (ev n ρ) ⟨some d,.call ⟨.value x,xs,ts⟩,ty,pos,af,none⟩).run P w=.ok (.enter f args) w:=by
  have e:fst++xs.map (ev n ρ)++mu=args:=by apply Array.toList_inj.1;rw[←kM];simp
  simp[execOp,resolve,Deferred.ofValue,hv,invoke,hf,e]
 unfold OW
 intro K' hK
 unfold Oper.wp
 rw[Xc,hr]
 refine hc.mono fun e w' ⟨v,he,hR,hE⟩=>?_
 subst he
 show K' ((mk n ρ).put (some d) v) w'
 rw[mk_put]
 exact hK _ _<|k v w' hR hE
theorem o_callV[Dfr]{xs:Array Operand}{f:FuncId}{R:Value->World->Prop}(as0:List Value)(hv:ev n ρ x=.func (.func f) #[] mu)
 (kM:xs.toList.map (ev n ρ)=as0) (hf:∀args w,(callFunc f args).run P w=.ok (.enter f args) w)
 (hc:Calls P f (as0++mu.toList).toArray w fun e w'=>∃v,e=.returned v/\R v w' /\Ext w w') (k:∀v w',R v w' ->Ext w w' ->K (upd ρ d v) w'):
 OW P Q ⟨some d,.call ⟨.value x,xs,ts⟩,ty,pos,af,none⟩ n ρ w K:=
 o_call _ hv (by rw[←kM];simp) hf hc k
end
def Ret(R:Value->World->Prop)(w:World)(e:Ending)(w':World):Prop:=∃v,e=.returned v/\R v w' /\Ext w w'
section
variable{α : Type}[qX α]
def OwnNew(w0 w:World)(e:TypeId)(v:Value)(l:List α):Prop:=
 ∃xs F,w.ownsRow w0.heap.size e (qX.size α) v l.length xs/\reps w F xs l/\(∀b∈F,w0.heap.size<=b)/\(∀b∈F,v.ownBlock≠some b)/\F.Nodup/\yf w F
end
theorem start_lt{α:Type}[qX α]{x:α}(h:qX.rep w F [v] x):∀b∈F,b<w.heap.size/\∀i,yO [] i≠some b:=
 fun b hb=>⟨qX.lt h b hb,fun i=>by simp[yO]⟩
theorem start_at(h:jC w b aF (v::cs)):∀c∈[b],c<w.heap.size/\∀i,yO [] i≠some c:=by
 intro c hc
 simp only[List.mem_singleton] at hc
 subst hc
 exact⟨World.block_lt_of_cell? w _<|h 0 v rfl,fun i=>by simp[yO]⟩
theorem St.arg{α:Type}[qX α]{Γ:List Fact}{x:α}(H:St w w [] Γ)(h:qX.rep w F [v] x):St w w [] (isF false F v x::Γ):=H.add _ ⟨h,by simp⟩<|start_lt h
theorem St.VF{Γ:List Fact}(H:St w w [] Γ)(h:jC w b aF (v::cs)):St w w [] (atF b aF (v::cs)::Γ):=H.add _ h<|start_at h
theorem ne_of_beq_false{α:Type}[BEq α][LawfulBEq α]{a b:α}(h:(a == b)=false):a≠b:=by simpa using h
theorem xA{α:Type}[BEq α][LawfulBEq α]{a b:α}(h:(a != b)=false):a=b:=by simpa using h
theorem x8{b:Bool}(h:(!b)=true):b=false:=by simpa using h
theorem xO{b:Bool}(h:(!b)=false):b=true:=by simpa using h
section
variable{W0 w w': World}{ps : List Prv}{Γ : List Fact}
end
section
variable{P : Program}{Q : Exit -> Act -> World -> Prop}{n : Nat}{ρ : Env}{W0 w : World}{ps : List Prv}{Γ : List Fact}
 {d:Nat} {ty:TypeId} {pos:String} {af:Array Edge} {K:Env->World->Prop}
theorem madeCells_one(z:Value)(n:Nat):(madeCells #[z] n).toList=List.replicate n z:=by
 apply List.ext_getElem
 ·simp[madeCells]
 ·intro i h1 h2
  simp[madeCells,Nat.mod_one]
theorem o_make1[Dfr](H:St W0 w ps Γ)(hu:P.underlying t=some (.slice e))(he:TI P e z 1 gj)(hz:z.cells=#[z])(nn:Nat)
 (hx:ev n ρ x=.int .i64 nn) (hy:ev n ρ y=.int .i64 nn) (hb:gj*nn<=281474976710656) (hm:nn<=9223372036854775807)
 (k:∀b w',St W0 w' (.box b (List.replicate nn z) e::ps) Γ->K (upd ρ d<|Sv (some ⟨b,0,none⟩) nn nn) w'):
 OW P Q ⟨some d,.makeSlice t x y,ty,pos,af,none⟩ n ρ w K:=by
 obtain⟨i,hi,h1,h2,h3⟩:=info_parts he
 have hr:=run_make (P:=P) (w:=w) t e i z hu hi h1 .i64 .i64 nn nn qf qf (by rw[h3];omega) qf
 refine XW (w':=w.alloc<|.cells (madeCells z.cells ((nn:Int).toNat*i.size)) e) _ (by simp[execOp,hx,hy,hr])<|k w.heap.size _ ?_
 have:=H.alloc (madeCells z.cells ((nn:Int).toNat*i.size)) e
 rw[hz,h2] at this
 rw[hz,h2]
 simpa [madeCells_one] using this
theorem madeCells_rep(z:Array Value)(sz:Nat)(hz:z.size=sz)(h0:0<sz)(n:Nat):(madeCells z<|n*sz).toList=(List.replicate n z.toList).flatten:=by
 simp only[madeCells,Array.toList_map,Array.toList_range,hz]
 induction n with
 |zero=>simp
 |succ n ih=>
  rw[Nat.add_mul,Nat.one_mul,List.range_add,List.map_append,ih,List.replicate_succ',List.flatten_append]
  congr 1
  simp only[List.map_map,List.flatten_cons,List.flatten_nil,List.append_nil]
  apply List.ext_getElem
  ·simp[hz]
  ·intro i h1 h2
   simp only[List.length_map,List.length_range] at h1
   have:(n*sz+i) % sz=i:=by rw[Nat.mul_comm,Nat.mul_add_mod];exact Nat.mod_eq_of_lt h1
   simp[this,hz,h1]
theorem o_makeN[Dfr](H:St W0 w ps Γ)(hu:P.underlying t=some (.slice e))(he:TI P e z sz gj)(hz:z.cells.size=sz)(h0:0<sz)(nn:Nat)
 (hx:ev n ρ x=.int .i64 nn) (hy:ev n ρ y=.int .i64 nn) (hb:gj*nn<=281474976710656) (hm:nn<=9223372036854775807)
 (k:∀b w',St W0 w' (.box b (List.replicate nn z.cells.toList).flatten e::ps) Γ->K (upd ρ d<|Sv (some ⟨b,0,none⟩) nn nn) w'):
 OW P Q ⟨some d,.makeSlice t x y,ty,pos,af,none⟩ n ρ w K:=by
 obtain⟨i,hi,h1,h2,h3⟩:=info_parts he
 have hr:=run_make (P:=P) (w:=w) t e i z hu hi h1 .i64 .i64 nn nn qf qf (by rw[h3];omega) qf
 refine XW (w':=w.alloc<|.cells (madeCells z.cells ((nn:Int).toNat*i.size)) e) _ (by simp[execOp,hx,hy,hr])<|k w.heap.size _ ?_
 have:=H.alloc (madeCells z.cells ((nn:Int).toNat*i.size)) e
 rw[h2] at this ⊢
 simpa [madeCells_rep z.cells sz hz h0] using this
theorem ja[Dfr](H:St W0 w ps Γ)(hu:P.underlying t=some (.slice e))(he:TI P e z sz gj)
 (k:∀b w',St W0 w' (.box b [] e::ps) Γ->K (upd ρ d<|Sv (some ⟨b,0,none⟩) 0 0) w'):
 OW P Q ⟨some d,.buildSlice t 0 #[],ty,pos,af,none⟩ n ρ w K:=
 XW (w':=w.alloc<|.cells #[] e) _ (by simp[execOp,Instr.buildSlice,run_underlying hu,he.sizeOf,Instr.fill,newRow,Array.range_zero']) (k _ _<|H.alloc _ _)
theorem o_build1[Dfr](H:St W0 w ps Γ)(hu:P.underlying t=some (.slice e))(he:TI P e z sz gj)(h0:0<sz)(hs:sz<=16777216)(v:Value)
 (hx:ev n ρ x=v) (hv:v.cells.size=sz) (k:∀b w',St W0 w' (.box b v.cells.toList e::ps) Γ->K (upd ρ d<|Sv (some ⟨b,0,none⟩) 1 1) w'):
 OW P Q ⟨some d,.buildSlice t 1 #[(0,x)],ty,pos,af,none⟩ n ρ w K:=by
 obtain⟨i,hi,h1,h2,h3⟩:=info_parts he
 have hr:=run_buildSlice (P:=P) w t e 1 #[(0,v)] v.cells i z hu hi h1 (by rw[h2];omega) (by rw[h2];omega) (by
  have:=Great.fill_whole h0 [v] (madeCells z.cells<|1*sz) (by simpa using hv) (by simp[madeCells])
  rw[h2]
  simpa [madeCells] using this)
 exact XW (w':=w.alloc<|.cells v.cells e) _ (by simp[execOp,hx,hr])<|k _ _<|H.alloc _ _
theorem o_buildF[Dfr]{xs:Array (Nat×Operand)}(H:St W0 w ps Γ)(hu:P.underlying t=some (.slice e))(he:TI P e z 1 gj)(vs:List Value)
 (hx:xs.toList.map (fun p=>(p.1,ev n ρ p.2))=vs.zipIdx.map (fun p=>(p.2,p.1))) (hv:∀v∈vs,v.cells=#[v]) (hm:vs.length=m) (h0:0<m) (hs:m<=16777216)
 (k:∀b w',St W0 w' (.box b vs e::ps) Γ->K (upd ρ d<|Sv (some ⟨b,0,none⟩) m m) w'):
 OW P Q ⟨some d,.buildSlice t m xs,ty,pos,af,none⟩ n ρ w K:=by
 obtain⟨i,hi,h1,h2,h3⟩:=info_parts he
 have hr:=run_buildSlice (P:=P) w t e m (xs.map fun p=>(p.1,ev n ρ p.2)) vs.toArray i z hu hi h1 (by rw[h2];omega) (by rw[h2];omega) (by
  have:=Great.fill_flat vs (madeCells z.cells<|m*1) hv (by simp[madeCells,hm])
  rw[h2,Array.toList_map,hx]
  simpa [madeCells] using this)
 exact XW (w':=w.alloc<|.cells vs.toArray e) _ (by simp[execOp,hr])<|k _ _<|H.alloc _ _
end
section
variable{P : Program}{Q : Exit -> Act -> World -> Prop}{n : Nat}{ρ : Env}{W0 w : World}{ps : List Prv}{Γ : List Fact}
 {d:Nat} {ty:TypeId} {pos:String} {af:Array Edge} {K:Env->World->Prop}
theorem St.nilRow(H:St W0 w ps Γ)(e:TypeId)(sz:Nat):St W0 w (.row (Sv none 0 0) e sz 0 []::ps) Γ:=
 H.own (Below.refl _ _) _ (World.ownsRow_nil _ _ _ _) (by intro b hb;simp[Prv.blk,Value.ownBlock] at hb)
theorem St.turn(H:St W0 w ps Γ)(i:Nat){p p':Prv}(hp:ps[i]? =some p)(hok:p.ok W0.heap.size w->p'.ok W0.heap.size w)(hb:p'.blk=p.blk):St W0 w (ps.set i p') Γ:=
 H.change i hp rfl rfl rfl (Nat.le_refl _) (fun _ _ _=>rfl) (hok<|H.has _<|List.mem_of_getElem? hp) (Or.inl hb)
theorem St.boxRow(H:St W0 w ps Γ)(i:Nat)(hp:ps[i]? =some (.box b cs e))(sz nn:Nat)(hl:cs.length=nn*sz)(hm:nn<=maxLen):
 St W0 w (ps.set i<|.row (Sv (some ⟨b,0,none⟩) nn nn) e sz nn cs) Γ:=
 H.turn i hp (fun h=>⟨hl,Or.inr ⟨b,nn,cs.toArray,rfl,h.1,h.2,Nat.le_refl _,hm,by simpa using hl,by rw[←hl];simp⟩⟩) rfl
theorem o_append[Dfr]{s:Operand}(H:St W0 w ps Γ)(i:Nat)(hp:ps[i]? =some (.row v e sz nn xs))(j:Nat)(hq:ps[j]? =some (.box b cs tb))
 (hu:P.underlying t=some (.slice e)) (he:TI P e z sz gj) (Ku:z.cells.size=sz) (h0:0<sz) (hs:ev n ρ s=v) (hx:ev n ρ x=Sv (some ⟨b,0,none⟩) m c) (hl:cs.length=m*sz)
 (h1:∀u∈cs,u.oneCell'=true) (hm:nn+m<=maxLen) (hb:(nn+m)*gj <=140737488355328)
 (k:∀v' w',St W0 w' (ps.set i<|.row v' e sz (nn+m)<|xs++cs) Γ->K (upd ρ d v') w'):
 OW P Q ⟨some d,.call ⟨.builtin .append,#[s,x],#[t,t]⟩,ty,pos,af,none⟩ n ρ w K:=by
 obtain⟨i',hi,hz1,hz2,hz3⟩:=info_parts he
 have t8:w.ownsRow W0.heap.size e sz v nn xs:=H.has _<|List.mem_of_getElem? hp
 obtain⟨v',w',hr,ho,hg,_,hbl⟩:=run_append_own_at (P:=P) w W0.heap.size t ty e i' z sz gj hu hi hz1 hz2 hz3 Ku h0 v nn xs t8 ⟨b,0,none⟩ m c cs hl
  (fun k' u hk=>by rw[Addr.add_mid];simpa using H.cells j hq k' u hk) h1 hm hb H.base.size
 refine XW v' (by simp[execOp,resolve,invoke,builtin,hs,hx,hr])<|k v' w'<|H.change i hp hg.os hg.tape hg.output hg.size (fun c hc iQ=>hg.block c hc<|fun e'=>iQ e'.symm) ho ?_
 rcases hbl with h|h
 ·exact Or.inl h
 ·exact Or.inr<|Or.inr ⟨_,h,Nat.le_refl _⟩
end
section
variable{P : Program}{Q : Exit -> Act -> World -> Prop}{n : Nat}{ρ : Env}{W0 w : World}{ps : List Prv}{Γ : List Fact}
 {d:Nat} {ty:TypeId} {pos:String} {af:Array Edge} {K:Env->World->Prop}
theorem run_append_none{i:TypeInfo}(hu:P.underlying t=some (.slice e))(hi:P.info? e=some i){b:yOA}{c':Nat}(hn:n<=c):
 (Builtin.append_ #[t,t] ty #[Sv b n c,Sv none 0 c']).run P w=.ok (Sv b n c) w:=by
 cases b <;> simp[Builtin.append_,run_underlying hu,sizeOf,typeInfo,hi,Builtin.lenOf,Builtin.firstCells,hn,loadCells,loadCellsFrom,storeCells]
theorem o_appendF[Dfr]{α:Type}[qX α]{s:Operand}{l:List α}(H:St W0 w ps Γ)(i:Nat)(hp:ps[i]? =some (.row v e (qX.size α) nn xs))
 (j:Nat) (hf:Γ[j]? =some (isF fr F (Sv a m c) l)) (hu:P.underlying t=some (.slice e)) (he:TI P e z (qX.size α) gj) (Ku:z.cells.size=qX.size α) (h0:0<qX.size α) (hs:ev n ρ s=v)
 (hx:ev n ρ x=Sv a m c) (hm:nn+m<=maxLen) (hb:(nn+m)*gj <=140737488355328)
 (k:∀v' w' vs G,St W0 w' (ps.set i<|.row v' e (qX.size α) (nn+m)<|xs++vs) (xG fr G vs l::Γ)->(∀b∈G,b∈F)->K (upd ρ d v') w'):
 OW P Q ⟨some d,.call ⟨.builtin .append,#[s,x],#[t,t]⟩,ty,pos,af,none⟩ n ρ w K:=by
 obtain⟨i',hi,hz1,hz2,hz3⟩:=info_parts he
 have t8:w.ownsRow W0.heap.size e (qX.size α) v nn xs:=H.has _<|List.mem_of_getElem? hp
 obtain⟨⟨a',ed,hc,hl,h⟩,dq⟩:=H.get j hf
 simp only[List.cons.injEq,Value.slice.injEq,and_true] at hc
 obtain⟨rfl,rfl,rfl⟩:=hc
 have hfF:=(H.facts _<|List.mem_of_getElem? hf).2
 rcases a with _|⟨b,aF,sp⟩
 ·rcases h with ⟨rfl,rfl⟩|⟨b,aF,F',vs,ha,_⟩
  ·have hv:∃b0 c0,v=Sv b0 nn c0/\nn<=c0:=by
    rcases t8.2 with ⟨rfl,rfl⟩|⟨g,cap',ee,rfl,_,_,PU,_⟩
    ·exact⟨none,0,rfl,Nat.le_refl _⟩
    ·exact⟨_,_,rfl,PU⟩
   obtain⟨b0,c0,rfl,PU⟩:=hv
   refine XW (Sv b0 nn c0) (by simp[execOp,resolve,invoke,builtin,hs,hx,run_append_none hu hi PU])<|k _ w [] [] ?_ qm
   simp only[List.append_nil,List.length_nil,Nat.add_zero]
   have:ps.set i (.row (Sv b0 nn c0) e (qX.size α) nn xs)=ps:=by
    apply List.ext_getElem?
    intro j'
    by_cases hj:i=j'
    ·subst hj
     rw[hp]
     have ox :i<ps.length:=(List.getElem?_eq_some_iff.1 hp).1
     rw[List.getElem?_set_self ox]
    ·rw[List.getElem?_set_ne hj]
   rw[this]
   exact H.add _ ⟨⟨rfl,rfl⟩,fun _=>yf.nil _⟩<|by simp[xG]
  ·cases ha
 ·rcases h with ⟨rfl,rfl⟩|⟨b',off',F',vs,ha,hF,hbl,hr,dp⟩
  ·obtain⟨v',w',hr,ho,hg,_,hbl⟩:=run_append_own_at (P:=P) w W0.heap.size t ty e i' z _ gj hu hi hz1 hz2 hz3 Ku h0 v nn xs t8 ⟨b,aF,sp⟩ 0 c [] qm qm qm hm hb H.base.size
   refine XW v' (by simp[execOp,resolve,invoke,builtin,hs,hx,hr])<|k v' w' [] [] ?_ qm
   have H':=H.change (p':=.row v' e (qX.size α) (nn+0)<|xs++[]) i hp hg.os hg.tape hg.output hg.size (fun c hc iQ=>hg.block c hc<|fun e'=>iQ e'.symm) ho (by
    rcases hbl with h|h
    ·exact Or.inl h
    ·exact Or.inr<|Or.inr ⟨_,h,Nat.le_refl _⟩)
   exact H'.add _ ⟨⟨rfl,rfl⟩,fun _=>yf.nil _⟩<|by simp[xG]
  ·simp only[Option.some.injEq,Addr.mk.injEq] at ha
   obtain⟨rfl,rfl,rfl⟩:=ha
   obtain⟨v',w',E9,ho,hg,_,aqa⟩:=run_append_own_at (P:=P) w W0.heap.size t ty e i' z _ gj hu hi hz1 hz2 hz3 Ku h0 v nn xs t8 ⟨b,aF,none⟩ l.length c vs (X7 hr)
    (fun k' u hk=>by rw[Addr.add_mid];exact dp k' u hk) (reps_cells hr) hm hb H.base.size
   refine XW v' (by simp[execOp,resolve,invoke,builtin,hs,hx,E9])<|k v' w' vs F' ?_<|by rw[hF];exact fun b hb=>List.mem_cons_of_mem _ hb
   have H0:St W0 w ps (xG fr F' vs l::Γ):=H.add _ ⟨hr,fun e=>(dq e).sub<|by rw[hF];exact fun b hb=>List.mem_cons_of_mem _ hb⟩ fun b hb=>hfF b<|by show b∈F;rw[hF];exact List.mem_cons_of_mem _ hb
   exact H0.change i hp hg.os hg.tape hg.output hg.size (fun c hc iQ=>hg.block c hc<|fun e'=>iQ e'.symm) ho (by
    rcases aqa with h|h
    ·exact Or.inl h
    ·exact Or.inr<|Or.inr ⟨_,h,Nat.le_refl _⟩)
theorem o_appendInts[Dfr]{s:Operand}(H:St W0 w ps Γ)(i:Nat)(hp:ps[i]? =some (.row v e 1 nn xs))
 (j:Nat) (hf:Γ[j]? =some (isF fr F (Sv a m c) l)) (hu:P.underlying t=some (.slice e)) (he:TI P e z 1 gj) (Ku:z.cells.size=1) (hs:ev n ρ s=v)
 (hx:ev n ρ x=Sv a m c) (hm:nn+m<=maxLen) (hb:(nn+m)*gj <=140737488355328)
 (k:∀v' w',St W0 w' (ps.set i<|.row v' e 1 (nn+m)<|xs++l.map (Value.int .i64)) Γ->K (upd ρ d v') w'):
 OW P Q ⟨some d,.call ⟨.builtin .append,#[s,x],#[t,t]⟩,ty,pos,af,none⟩ n ρ w K:=
 o_appendF (α:=Int) H i hp j hf hu he Ku qj hs hx hm hb fun v' w' vs G H' _=>by
  obtain⟨_,rfl⟩:=reps_ints (H'.get 0 rfl).1
  exact k v' w'<|H'.sub _ fun f hf=>List.mem_cons_of_mem _ hf
theorem run_eqB{P:Program}(hu:P.underlying t=some .bool)(a b:Bool)(w:World):(Op.equal t (Bv a)<|Bv b).run P w=.ok (a == b) w:=by
 have h:∀d:Nat,(Op.equalIn (d+1) t (Bv a)<|Bv b).run P w=.ok (a == b) w:=fun d=>by simp[Op.equalIn,run_underlying hu]
 simp[Op.equal,Op.maxDepth,h 9999]
theorem o_neB[Dfr](hu:P.underlying t=some .bool)(a b:Bool)(hx:ev n ρ x=Bv a)(hy:ev n ρ y=Bv b)(k:K (upd ρ d<|Bv<|a != b) w):
 OW P Q ⟨some d,.binOp .neq t x y u,ty,pos,af,none⟩ n ρ w K:=
 XW _ (by simp[execOp,hx,hy,eqGuard,binOp,run_eqB hu,bne]) k
theorem o_eqnil[Dfr](hu:P.underlying t=some (.slice e))(a:yOA)(m c:Nat)(hx:ev n ρ x=Sv a m c)(k:K (upd ρ d<|Bv a.isNone) w):
 OW P Q ⟨some d,.binOp .eql t x (.const<|Sv none 0 0) u,ty,pos,af,none⟩ n ρ w K:=
 XW _ (by
  have hc:ev n ρ (.const<|Sv none 0 0)=Sv none 0 0:=rfl
  simp[execOp,hx,hc,eqGuard,Lib.run_eql_slice_nil w t e a m c 0 0 hu]) k
end
section
variable{W0 w : World}{ps : List Prv}{Γ : List Fact}
theorem St.rowRep{α:Type}[qX α](H:St W0 w ps Γ)(i:Nat)(hp:ps[i]? =some (.row v e (qX.size α) nn xs)){l:List α}
 (h:reps w F xs l) (hn:nn=l.length) (hF:∀b∈F,W0.heap.size<=b):
 ∃a c G,v=Sv a l.length c/\qX.rep w G [v] l/\∀b∈G,W0.heap.size<=b:=by
 subst hn
 obtain⟨hl,ho⟩:=(H.has _ (List.mem_of_getElem? hp):w.ownsRow W0.heap.size e (qX.size α) v l.length xs)
 rcases ho with ⟨rfl,h0⟩|⟨g,ed,ee,rfl,hb,hg,PU,hcm,pn,htake⟩
 ·have:l=[]:=List.eq_nil_of_length_eq_zero h0
  subst this
  exact⟨none,0,[],rfl,⟨none,0,rfl,by simp,Or.inl ⟨rfl,rfl⟩⟩,by simp⟩
 ·refine⟨_,ed,(if l=[] then [] else g::F),rfl,⟨some ⟨g,0,none⟩,ed,rfl,by unfold maxLen at hcm;omega,?_⟩,?_⟩
  ·by_cases h0:l=[]
   ·exact Or.inl ⟨h0,by simp[h0]⟩
   ·refine Or.inr ⟨g,0,F,xs,rfl,by simp[h0],(Array.getElem?_eq_some_iff.1 hg).1,h,?_⟩
    intro j u hj
    rw[Nat.zero_add,World.cell?,hg]
    rw[←htake,List.getElem?_take] at hj
    split at hj
    ·simpa using hj
    ·cases hj
  ·intro b hbm
   split at hbm
   ·simp at hbm
   ·rcases List.mem_cons.1 hbm with rfl|hbm
    ·exact hb
    ·exact hF b hbm
theorem St.rowInts(H:St W0 w ps Γ)(i:Nat)(hp:ps[i]? =some (.row v e 1 nn<|l.map<|Value.int .i64))(hn:nn=l.length):
 ∃a c G,v=Sv a l.length c/\qX.rep w G [v] l/\∀b∈G,W0.heap.size<=b:=
 H.rowRep (α:=Int) i hp (reps_of_ints w l) hn qm
theorem St.newInts(H:St W0 w ps Γ)(i:Nat)(hp:ps[i]? =some (.row v e 1 nn<|l.map<|Value.int .i64))(hn:nn=l.length):OwnNew W0 w e v l:=by
 subst hn
 exact⟨_,[],H.has _<|List.mem_of_getElem? hp,reps_of_ints w l,by simp,by simp,by simp,yf.nil _⟩
theorem St.newRow{α:Type}[qX α](H:St W0 w ps Γ)(i:Nat)(hp:ps[i]? =some (.row v e (qX.size α) nn xs))(j:Nat){l:List α}
 (hf:Γ[j]? =some (xG true F xs l)) (hn:nn=l.length) (hF:∀b∈F,W0.heap.size<=b) (hd:F.Nodup):OwnNew W0 w e v l:=by
 subst hn
 refine⟨_,F,H.has _<|List.mem_of_getElem? hp,(H.get j hf).1,hF,fun b hb he=>((H.facts _<|List.mem_of_getElem? hf).2 b hb).2 i ?_,hd,(H.get j hf).2 rfl⟩
 simpa [yO,hp,Prv.blk] using he
theorem St.addr{α:Type}[qX α](H:St W0 w ps Γ)(i:Nat){l:List α}(hf:Γ[i]? =some (isF fr F (Sv a m c) l))(hl:0<l.length):∃b o,a=some ⟨b,o,none⟩:=by
 obtain⟨⟨a',ed,hc,_,h⟩,_⟩:=H.get i hf
 simp only[List.cons.injEq,Value.slice.injEq,and_true] at hc
 obtain⟨rfl,rfl,rfl⟩:=hc
 rcases h with ⟨rfl,_⟩|⟨b,aF,F',vs,rfl,_⟩
 ·simp at hl
 ·exact⟨b,aF,rfl⟩
theorem St.elem{α:Type}[qX α][Inhabited α](H:St W0 w ps Γ)(i:Nat){l:List α}(hf:Γ[i]? =some (isF fr F (Sv (some ⟨b,o,none⟩) m c) l))(iv:Int)(h0:0<=iv)(h1:iv<l.length):
 ∃cs Fk,jC w b (o+iv.toNat*qX.size α) cs/\qX.rep w Fk cs (l[iv.toNat]!)/\∀x∈b::Fk,x∈F:=by
 obtain⟨⟨a',ed,hc,hl,h⟩,_⟩:=H.get i hf
 simp only[List.cons.injEq,Value.slice.injEq,and_true] at hc
 obtain⟨rfl,rfl,rfl⟩:=hc
 have hk:iv.toNat<l.length:=by omega
 rcases h with ⟨rfl,_⟩|⟨b',aF,F',vs,ha,hF,hb,hr,dp⟩
 ·simp at hk
 ·simp only[Option.some.injEq,Addr.mk.injEq,and_true] at ha
  obtain⟨rfl,rfl⟩:=ha
  obtain⟨F1,Fk,F2,v1,cs,v2,eV,hvs,uD,pn,mB,_,_⟩:=reps_get hr _ hk
  refine⟨cs,Fk,?_,by rw[getElem!_pos l iv.toNat hk];exact mB,?_⟩
  ·rw[hvs] at dp
   rw[←uD]
   exact cells_mid dp
  ·intro x hx
   rw[hF,eV]
   rcases List.mem_cons.1 hx with rfl|hx
   ·exact List.mem_cons_self ..
   ·exact List.mem_cons_of_mem _<|List.mem_append_left _<|List.mem_append_right _ hx
theorem St.elemInt(H:St W0 w ps Γ)(i:Nat)(hf:Γ[i]? =some (isF fr F (Sv (some ⟨b,o,none⟩) m c) l))(iv:Int)(h0:0<=iv)(h1:iv<l.length):
 w.cell? ⟨b,o+iv.toNat*1,none⟩=some (.int .i64<|l[iv.toNat]!):=by
 obtain⟨cs,Fk,h2,h3,_⟩:=H.elem i hf iv h0 h1
 obtain⟨_,rfl⟩:Fk=[]/\cs=[.int .i64 (l[iv.toNat]!)]:=h3
 exact h2 0 _ rfl
theorem St.elemBool(H:St W0 w ps Γ)(i:Nat){l:List Bool}(hf:Γ[i]? =some (isF fr F (Sv (some ⟨b,o,none⟩) m c) l))(iv:Int)(h0:0<=iv)(h1:iv<l.length):
 w.cell? ⟨b,o+iv.toNat*1,none⟩=some (Bv<|l[iv.toNat]!):=by
 obtain⟨cs,Fk,h2,h3,_⟩:=H.elem i hf iv h0 h1
 obtain⟨_,rfl⟩:Fk=[]/\cs=[Bv (l[iv.toNat]!)]:=h3
 exact h2 0 _ rfl
theorem St.sel(H:St W0 w ps Γ)(mR :List Prv)(hps:mR.Sublist ps)(Γ':List Fact)(hΓ:∀f∈Γ',f∈Γ):St W0 w mR Γ':=by
 have afJ:ps.Pairwise fun p q=>∀b,p.blk=some b->q.blk≠some b:=by
  rw[List.pairwise_iff_getElem]
  intro i j hi hj Kr b h1 h2
  have:=H.dist i j b (by simp[yO,hi,h1])<|by simp[yO,hj,h2]
  omega
 have BO :=afJ.sublist hps
 refine⟨H.base,fun p hp=>H.has p<|hps.subset hp,?_,fun f hf=>⟨(H.facts f<|hΓ f hf).1,fun b hb=>⟨((H.facts f<|hΓ f hf).2 b hb).1,fun i hi=>?_⟩⟩⟩
 ·intro i j b hi hj
  unfold yO at hi hj
  rw[List.pairwise_iff_getElem] at BO
  cases h1:mR[i]? with
  |none=>simp[h1] at hi
  |some p=>
   cases h2:mR[j]? with
   |none=>simp[h2] at hj
   |some q=>
    obtain⟨ox,e1⟩:=List.getElem?_eq_some_iff.1 h1
    obtain⟨Gs,e2⟩:=List.getElem?_eq_some_iff.1 h2
    simp only[h1,Option.bind_some] at hi
    simp only[h2,Option.bind_some] at hj
    rcases Nat.lt_trichotomy i j with h|h|h
    ·exact absurd (by rw[e2];exact hj)<|BO i j ox Gs h b<|by rw[e1];exact hi
    ·exact h
    ·exact absurd (by rw[e1];exact hi)<|BO j i Gs ox h b<|by rw[e2];exact hj
 ·unfold yO at hi
  cases h1:mR[i]? with
  |none=>simp[h1] at hi
  |some p=>
   simp only[h1,Option.bind_some] at hi
   obtain⟨j,hj⟩:=List.getElem?_of_mem<|hps.subset<|List.mem_of_getElem? h1
   exact((H.facts f<|hΓ f hf).2 b hb).2 j<|by simp[yO,hj,hi]
end
section
variable{W0 w w': World}{ps : List Prv}{Γ : List Fact}
theorem ownsRow_up{B':Nat}(h:w.ownsRow B e sz v n xs)(hb:B' <=B):w.ownsRow B' e sz v n xs:=by
 refine⟨h.1,?_⟩
 rcases h.2 with h|⟨g,ed,ee,h1,h2,r⟩
 ·exact Or.inl h
 ·exact Or.inr ⟨g,ed,ee,h1,Nat.le_trans hb h2,r⟩
theorem St.zO(H:St W0 w ps Γ)(e:Ext w w')(h:OwnNew w w' t v l):
 St W0 w' (.row v t 1 l.length (l.map<|Value.int .i64)::ps) Γ:=by
 obtain⟨xs,F,ho,hr,hF,_⟩:=h
 obtain⟨_,rfl⟩:=reps_ints hr
 exact H.own e (.row v t _ l.length _) (ownsRow_up ho H.base.size) fun b hb=>(World.ownsRow.lt ho b hb).1
end
section
variable{W0 w : World}{ps : List Prv}{Γ : List Fact}
theorem St.vP{α:Type}[qX α](H:St W0 w ps Γ):St W0 w ps (xG true [] [] ([]:List α)::Γ):=H.add _ ⟨⟨rfl,rfl⟩,fun _=>yf.nil _⟩<|by simp[xG]
theorem St.yh{α:Type}[qX α](H:St W0 w ps Γ)(i:Nat){l:List α}(hf:Γ[i]? =some (xG fr F xs l))(j:Nat){x:α}(hg:Γ[j]? =some (isF fr G v x)):
 St W0 w ps (xG fr (F++G) (xs++[v]) (l++[x])::Γ):=by
 refine H.add _ ⟨Qw (H.get i hf).1<|reps_one (H.get j hg).1,fun e=>((H.get i hf).2 e).app ((H.get j hg).2 e)⟩ fun b hb=>?_
 rcases List.mem_append.1 hb with h|h
 ·exact(H.facts _<|List.mem_of_getElem? hf).2 b h
 ·exact(H.facts _<|List.mem_of_getElem? hg).2 b h
end
theorem ownNew_nil{α:Type}[qX α](w0 w:World)(e:TypeId):OwnNew w0 w e (Sv none 0 0) ([]:List α):=
 ⟨[],[],World.ownsRow_nil _ _ _ _,⟨rfl,rfl⟩,by simp,by simp,by simp,yf.nil _⟩
theorem St.nilOf{α:Type}[qX α]{ps:List Prv}{Γ:List Fact}(H:St W0 w ps Γ)(i:Nat){l:List α}(hf:Γ[i]? =some (isF fr F (Sv a m c) l))(ha:a.isNone=true):l=[]:=by
 obtain⟨⟨a',ed,hc,_,h⟩,_⟩:=H.get i hf
 simp only[List.cons.injEq,Value.slice.injEq,and_true] at hc
 obtain⟨rfl,rfl,rfl⟩:=hc
 rcases h with ⟨rfl,_⟩|⟨b,aF,F',vs,rfl,_⟩
 ·rfl
 ·simp at ha
section
variable{P : Program}{n : Nat}{ρ : Env}{W0 w : World}{ps : List Prv}{Γ : List Fact}
theorem retC{fn:Func}{R:Ending->World->Prop}{t:Nat}(H:St W0 w ps Γ)(i:Nat)(hp:ps[i]? =some (.box b cs tb))(hr:fn.results=#[.cell t T])
 (ha:∀w,(isAgg T).run P w=.ok true w) (hs:∀w,(Go.sizeOf T).run P w=.ok cs.length w) (hv:ev n ρ (.tmp t)=.pointer (some ⟨b,0,none⟩)) (h:R (.returned<|.agg cs.toArray) w):bodyPost P fn R .ret (mk n ρ) w:=by
 have hl:=run_loadCells_list (P:=P) w ⟨b,0,none⟩ cs (fun j v hv=>by rw[Addr.add_mid];exact H.cells i hp j v hv)
 have e:=congrFun (Xc n ρ)<|.tmp t
 simp only[Act.eval,Array.getD_eq_getD_getElem?] at e
 rw[hv] at e
 exact bodyPost_ret (v:=.agg cs.toArray) (by simp[results,hr,e,asAddr,loadVar,ha,hs,hl]) rfl h
theorem XC{fn:Func}{R:Ending->World->Prop}{t u:Nat}(H:St W0 w ps Γ)(i:Nat)(hp:ps[i]? =some (.box b cs tb))(x:Value)(hr:fn.results=#[.cell t T,.tmp u])
 (ha:∀w,(isAgg T).run P w=.ok true w) (hs:∀w,(Go.sizeOf T).run P w=.ok cs.length w) (hv:ev n ρ (.tmp t)=.pointer (some ⟨b,0,none⟩)) (hx:ev n ρ (.tmp u)=x)
 (h:R (.returned<|.tuple #[.agg cs.toArray,x]) w):bodyPost P fn R .ret (mk n ρ) w:=by
 have hl:=run_loadCells_list (P:=P) w ⟨b,0,none⟩ cs (fun j v hv=>by rw[Addr.add_mid];exact H.cells i hp j v hv)
 have e:=congrFun (Xc n ρ)<|.tmp t
 have e':=congrFun (Xc n ρ)<|.tmp u
 simp only[Act.eval,Array.getD_eq_getD_getElem?] at e e'
 rw[hv] at e
 rw[hx] at e'
 exact bodyPost_ret (v:=.tuple #[.agg cs.toArray,x]) (by simp[results,hr,e,e',asAddr,loadVar,ha,hs,hl]) rfl h
end
section
variable{P : Program}{Q : Exit -> Act -> World -> Prop}{n : Nat}{ρ : Env}{w : World}{S : World -> Prop}{l : List Oper}{fuel : Nat}{ao : Array Bool}
@[irreducible] def RW[Dfr](P : Program)(l : List Oper)(Q : Exit -> Act -> World -> Prop)(S : World -> Prop)(n fuel : Nat)(ao : Array Bool)(ρ : Env)(w : World) : Prop :=
 wpAnyH P .any l.toArray Q S fuel ao (mk n ρ) w
theorem c_draw[Dfr](S:World->Prop)(hm:P.follows .mixedOrders=true)(hS:S w.drew)(h:RW P l Q S n l.toArray.size (Array.replicate l.toArray.size false) ρ w.drew):
 (Code.region id l.toArray true).wp P Q (mk n ρ) w:=
 wp_region_held_drew hm hS fun _=>by unfold RW at h;exact h
theorem r_take[Dfr]{op:Op}{pos:String}{af:Array Edge}(i:Nat)(v:Value)(hi:l.toArray[i]? =some ⟨some d,op,ty,pos,af,none⟩)(Uq:Region.noSelect l.toArray=true)
 (HH:Region.free .any l.toArray ao i=true) (Co:(Region.ready .any l.toArray ao).contains i=true) (hQ:∀c a w,Q (.panic c) (a.put (some d) v) w->Q (.panic c) a w)
 (hy:∀w',S w' ->(execOp (ev n ρ) ⟨some d,op,ty,pos,af,none⟩).run P w'=.ok (.value v) w') (hS:S w) (h:RW P l Q S n fuel (ao.setIfInBounds i true) (upd ρ d v) w):
 RW P l Q S n (fuel+1) ao ρ w:=by
 unfold RW at h ⊢
 refine wpAnyH_take hi Uq HH Co hQ (Or.inl ⟨rfl,fun w' UW =>by rw[Xc];exact hy w' UW⟩) hS ?_
 show wpAnyH P .any l.toArray Q S fuel _ ((mk n ρ).put (some d) v) w
 rw[mk_put]
 exact h
theorem r_takeG[Dfr]{e:Nat}{b:Bool}{op:Op}{pos:String}{af:Array Edge}(i:Nat)(v:Value)(hi:l.toArray[i]? =some ⟨some d,op,ty,pos,af,some (j,b)⟩)(Uq:Region.noSelect l.toArray=true)
 (HH:Region.free .any l.toArray ao i=true) (Co:(Region.ready .any l.toArray ao).contains i=true) (hQ:∀c a w,Q (.panic c) (a.put (some d) v) w->Q (.panic c) a w)
 (hd:dstAt l j=some e) (hv:ev n ρ (.tmp e)=Bv b)
 (hy:∀w',S w' ->(execOp (ev n ρ) ⟨some d,op,ty,pos,af,some (j,b)⟩).run P w'=.ok (.value v) w') (hS:S w) (h:RW P l Q S n fuel (ao.setIfInBounds i true) (upd ρ d v) w):
 RW P l Q S n (fuel+1) ao ρ w:=by
 unfold RW at h ⊢
 refine wpAnyH_take hi Uq HH Co hQ (Or.inl ⟨by simp[Region.wanted,yielded_of ((dstAt_eq l j).trans hd) hv],fun w' UW =>by rw[Xc];exact hy w' UW⟩) hS ?_
 show wpAnyH P .any l.toArray Q S fuel _ ((mk n ρ).put (some d) v) w
 rw[mk_put]
 exact h
theorem xC[Dfr](hr:Region.ready .any l.toArray ao=[])(h:Q .normal (mk n ρ) w):RW P l Q S n fuel ao ρ w:=by
 unfold RW
 exact wpAnyH_done hr h fuel
theorem zY[Dfr](rs:yLN)(hr:Region.ready .any l.toArray ao=rs)(iQ:rs≠[])(h:AllReadyH P .any l.toArray Q S fuel ao (mk n ρ) w rs):RW P l Q S n (fuel+1) ao ρ w:=by
 unfold RW
 exact wpAnyH_ready hr iQ h
theorem vG[Dfr]{op:Op}{pos:String}{af:Array Edge}(hi:l.toArray[i]? =some ⟨dst,op,ty,pos,af,none⟩)
 (h:OW P Q ⟨dst,op,ty,pos,af,none⟩ n ρ w fun ρ w=>S w/\RW P l Q S n fuel (ao.setIfInBounds i true) ρ w) (hs:AllReadyH P .any l.toArray Q S fuel ao (mk n ρ) w rs):
 AllReadyH P .any l.toArray Q S fuel ao (mk n ρ) w (i::rs):=by
 refine AllReadyH.cons hi (fun K' hK=>?_) hs
 unfold OW at h
 rw[if_pos<|by rfl]
 refine h K' fun ρ' w' ⟨h1,h2⟩=>hK.out _ _ h1 fun _=>?_
 unfold RW at h2
 exact h2
theorem X4[Dfr]{op:Op}{pos:String}{af:Array Edge}{e:Nat}{b:Bool}(hi:l.toArray[i]? =some ⟨dst,op,ty,pos,af,some (j,b)⟩)
 (hd:dstAt l j=some e) (hv:ev n ρ (.tmp e)=Bv b)
 (h:OW P Q ⟨dst,op,ty,pos,af,none⟩ n ρ w fun ρ w=>S w/\RW P l Q S n fuel (ao.setIfInBounds i true) ρ w) (hs:AllReadyH P .any l.toArray Q S fuel ao (mk n ρ) w rs):
 AllReadyH P .any l.toArray Q S fuel ao (mk n ρ) w (i::rs):=by
 refine AllReadyH.cons hi (fun K' hK=>?_) hs
 unfold OW at h
 rw[if_pos<|by simp[Region.wanted,yielded_of ((dstAt_eq l j).trans hd) hv]]
 have:=h K' fun ρ' w' ⟨h1,h2⟩=>hK.out _ _ h1 fun _=>(by unfold RW at h2;exact h2)
 exact this
section
variable{d : Nat}{ty : TypeId}{pos : String}{af : Array Edge}{gd : Option (Nat × Bool)}
theorem y_pure{op:Op}(h:pv (ev n ρ) op=some v):∀w',S w' ->(execOp (ev n ρ) ⟨some d,op,ty,pos,af,gd⟩).run P w'=.ok (.value v) w':=
 fun w' _=>pv_run (by exact h) w'
theorem y_add(a b:Int)(hx:ev n ρ x=.int .i64 a)(hy:ev n ρ y=.int .i64 b)(h: -9223372036854775808<=a+b/\a+b<=9223372036854775807):
 ∀w',S w' ->(execOp (ev n ρ) ⟨some d,.binOp .add t x y u,ty,pos,af,gd⟩).run P w'=.ok (.value<|.int .i64<|a+b) w':=
 fun w' _=>by simp[execOp,hx,hy,eqGuard,binOp,Op.intArith,wrap_in h]
theorem y_sub(a b:Int)(hx:ev n ρ x=.int .i64 a)(hy:ev n ρ y=.int .i64 b)(h: -9223372036854775808<=a-b/\a-b<=9223372036854775807):
 ∀w',S w' ->(execOp (ev n ρ) ⟨some d,.binOp .sub t x y u,ty,pos,af,gd⟩).run P w'=.ok (.value<|.int .i64<|a-b) w':=
 fun w' _=>by simp[execOp,hx,hy,eqGuard,binOp,Op.intArith,wrap_in h]
theorem y_mul(a b:Int)(hx:ev n ρ x=.int .i64 a)(hy:ev n ρ y=.int .i64 b)(h: -9223372036854775808<=a*b/\a*b<=9223372036854775807):
 ∀w',S w' ->(execOp (ev n ρ) ⟨some d,.binOp .mul t x y u,ty,pos,af,gd⟩).run P w'=.ok (.value<|.int .i64<|a*b) w':=
 fun w' _=>by simp[execOp,hx,hy,eqGuard,binOp,Op.intArith,wrap_in h]
theorem y_neB(hu:P.underlying t=some .bool)(a b:Bool)(hx:ev n ρ x=Bv a)(hy:ev n ρ y=Bv b):
 ∀w',S w' ->(execOp (ev n ρ) ⟨some d,.binOp .neq t x y u,ty,pos,af,gd⟩).run P w'=.ok (.value<|Bv<|a != b) w':=
 fun w' _=>by simp[execOp,hx,hy,eqGuard,binOp,run_eqB hu,bne]
theorem y_len(hu:P.underlying t=some (.slice e))(a:yOA)(m c:Nat)(hx:ev n ρ x=Sv a m c):
 ∀w',S w' ->(execOp (ev n ρ) ⟨some d,.call ⟨.builtin .len,#[x],#[t]⟩,ty,pos,af,gd⟩).run P w'=.ok (.value<|.int .i64 m) w':=
 fun w' _=>by simp[execOp,resolve,invoke,builtin,Builtin.len_,hx,run_underlying hu,goInt]
theorem y_field{fs:Array Field}{f:Field}(b aF j:Nat)(hu:P.underlying t=some (.struct fs))(hf:fs[i]? =some f)(hj:f.offset=j)
 (hs:∀w,(Go.sizeOf f.type).run P w=.ok (m+1) w) (hx:ev n ρ x=.pointer (some ⟨b,aF,none⟩)):
 ∀w',S w' ->(execOp (ev n ρ) ⟨some d,.fieldAddr t x i,ty,pos,af,gd⟩).run P w'=.ok (.value<|.pointer<|some ⟨b,aF+j,none⟩) w':=
 fun w' _=>by subst hj;simp[execOp,hx,Instr.fieldAt,Instr.sureAddr,fieldPlace,run_underlying hu,hf,hs,Addr.add_mid]
theorem y_idxAt(b aF m c:Nat)(iv:Int)(hu:P.underlying t=some (.slice e))(he:TI P e z sz gj)
 (hx:ev n ρ x=Sv (some ⟨b,aF,none⟩) m c) (hy:ev n ρ y=.int .i64 iv) (h0:0<=iv) (h1:iv<m):
 ∀w',S w' ->(execOp (ev n ρ) ⟨some d,.indexAddr t x y,ty,pos,af,gd⟩).run P w'=.ok (.value<|.pointer<|some ⟨b,aF+iv.toNat*sz,none⟩) w':=
 fun w' _=>by simp[execOp,hx,hy,Instr.indexAt,asIntOf,run_underlying hu,he.sizeOf,h0,h1,Addr.add_mid]
theorem y_load1(ha:∀w,(isAgg t).run P w=.ok false w)(hx:ev n ρ x=.pointer (some ⟨b,aF,none⟩))
 (hc:∀w',S w' ->w'.cell? ⟨b,aF,none⟩=some v):∀w',S w' ->(execOp (ev n ρ) ⟨some d,.load t x,ty,pos,af,gd⟩).run P w'=.ok (.value v) w':=
 fun w' h=>by simp[execOp,hx,run_load1 ha<|hc w' h]
theorem yF(ha:∀w,(isAgg t).run P w=.ok true w)(hs:∀w,(Go.sizeOf t).run P w=.ok cs.length w)
 (hx:ev n ρ x=.pointer (some ⟨b,aF,none⟩)) (hc:∀w',S w' ->jC w' b aF cs):∀w',S w' ->(execOp (ev n ρ) ⟨some d,.load t x,ty,pos,af,gd⟩).run P w'=.ok (.value<|.agg cs.toArray) w':=
 fun w' h=>by simp[execOp,hx,run_loadN ha hs<|hc w' h]
end
theorem zZ[Dfr]:AllReadyH P .any l.toArray Q S fuel ao (mk n ρ) w []:=AllReadyH.nil
end
end
variable{f g:Fact}{ps mR:List Prv}{Γ Γ':List Fact}{ρ:Env}
section
def inR(n lo hi:Int):Bool:=decide (lo<=n) && decide (n<=hi)
theorem inR_no{n:Int}(h:¬lo<=n):inR n lo hi=false:=by simp[inR,h]
theorem inR_yes{n:Int}(h:lo<=n):inR n lo hi=decide (n<=hi):=by simp[inR,h]
theorem Q8{n:Int}:inR n lo hi=true<->lo<=n/\n<=hi:=by simp[inR]
theorem XG{n:Int}(h:inR n lo hi=false):¬(lo<=n/\n<=hi):=fun h'=>by rw[Q8.2 h'] at h;cases h
def withinTo(l m:yLI)(j:Nat):Prop:=∀k,k<j->l[k]! <=m[k]!
theorem withinTo_zero(l m:yLI):withinTo l m 0:=fun k hk=>by omega
theorem withinTo_succ{m:yLI}(h:withinTo l m k)(h1:l[k]! <=m[k]!):withinTo l m (k+1):=fun j hj=>by
 by_cases hjk:j=k
 ·subst hjk;exact h1
 ·exact h j qf
open Classical in
noncomputable def within(l m:yLI):Bool:=decide<|withinTo l m l.length
theorem within_iff{m:yLI}:within l m=true<->withinTo l m l.length:=by simp[within]
theorem within_no{m:yLI}(h:l[k]!>m[k]!)(hk:k<l.length):within l m=false:=by
 cases hw:within l m with
 |false=>rfl
 |true=>have:=within_iff.1 hw k hk;omega
theorem within_yes{m:yLI}(h:withinTo l m k)(hk:l.length<=k):within l m=true:=within_iff.2 fun j hj=>h j qf
theorem eqTo_succ{α:Type}[Inhabited α]{l m:List α}(hl:l.length=m.length)(hk:k<l.length)(h:l.take k=m.take k)(h1:l[k]! =m[k]!):l.take (k+1)=m.take (k+1):=by
 rw[List.take_succ_eq_append_getElem hk,List.take_succ_eq_append_getElem qf,h]
 rw[getElem!_pos l k hk,getElem!_pos m k qf] at h1
 rw[h1]
theorem eq_of_take{α:Type}{l m:List α}(hl:l.length=m.length)(hk:l.length<=k)(h:l.take k=m.take k):l=m:=by
 rwa [List.take_of_length_le hk,List.take_of_length_le qf] at h
theorem QM{α:Type}[Inhabited α]{l m:List α}(h:l[k]! ≠m[k]!):l≠m:=fun e=>h<|by rw[e]
theorem take_snoc{α:Type}[Inhabited α]{l:List α}(hk:k<l.length):l.take k++[l[k]!]=l.take (k+1):=by
 rw[List.take_succ_eq_append_getElem hk,getElem!_pos l k hk]
def Small(l:yLI):Prop:=l.length<=1000000/\∀k,k<l.length-> -1000000000<=l[k]! /\l[k]! <=1000000000
def Mid(l:yLI):Prop:=l.length<=1000000/\∀k,k<l.length-> -1000000000000000<=l[k]! /\l[k]! <=1000000000000000
theorem Small.mid(h:Small l):Mid l:=⟨h.1,fun k hk=>by have:=h.2 k hk;omega⟩
def sumTo(l:yLI):Nat->Int
 |0=>0
 |k+1=>sumTo l k+l[k]!
def Xr(l:yLI):Int:=sumTo l l.length
theorem sumTo_bd{l:yLI}(h:Small l):∀k,k<=l.length-> -(1000000000*(k:Int))<=sumTo l k/\sumTo l k<=1000000000*(k:Int)
 |0,_=>by simp[sumTo]
 |k+1,hk=>by
  have h1:=sumTo_bd h k qf
  have h2:=h.2 k qf
  simp only[sumTo]
  omega
theorem sumTo_small(h:Small l)(hk:k<=l.length): -1000000000000000<=sumTo l k/\sumTo l k<=1000000000000000:=by
 have h1:=sumTo_bd h k hk
 have h2:=h.1
 omega
def firstIdx(g:Nat->Bool)(n:Nat):Int:=match (List.range n).find? g with|some k=>k|none=> -1
theorem Xj{g:Nat->Bool}(hk:k<n)(h:∀j,j<k->g j=false)(h1:g k=true):firstIdx g n=k:=by
 have:(List.range n).find? g=some k:=by
  rw[List.find?_range_eq_some]
  exact⟨h1,by simpa using hk,fun j hj=>by simp[h j hj]⟩
 simp[firstIdx,this]
theorem firstIdx_none{g:Nat->Bool}(h:∀j,j<n->g j=false):firstIdx g n= -1:=by
 have:(List.range n).find? g=none:=by
  rw[List.find?_range_eq_none]
  exact fun j hj=>by simp[h j hj]
 simp[firstIdx,this]
def noneTo(g:Nat->Bool)(k:Nat):Prop:=∀j,j<k->g j=false
theorem noneTo_succ{g:Nat->Bool}(h:noneTo g k)(h1:g k=false):noneTo g (k+1):=fun j hj=>by
 by_cases hjk:j=k
 ·subst hjk;exact h1
 ·exact h j qf
open Classical in
noncomputable def anyTo(g:Nat->Bool)(n:Nat):Bool:=decide (∃k,k<n/\g k=true)
theorem anyTo_first(g:Nat->Bool)(n:Nat):decide (firstIdx g n>=0)=anyTo g n:=by
 by_cases h:∃k,k<n/\g k=true
 ·have hs:((List.range n).find? g).isSome:=by
   rw[List.find?_isSome]
   obtain⟨k,h1,h2⟩:=h
   exact⟨k,by simpa using h1,h2⟩
  obtain⟨k,hk⟩:=Option.isSome_iff_exists.1 hs
  simp[firstIdx,hk,anyTo,h]
 ·have:(List.range n).find? g=none:=by
   rw[List.find?_range_eq_none]
   intro j hj
   cases hg:g j with
   |false=>rfl
   |true=>exact absurd ⟨j,hj,hg⟩ h
  simp[firstIdx,this,anyTo,h]
theorem anyTo_iff{g:Nat->Bool}:anyTo g n=true<->∃k,k<n/\g k=true:=by simp[anyTo]
theorem anyTo_false{g:Nat->Bool}:anyTo g n=false<->noneTo g n:=by
 rw[←Bool.not_eq_true,anyTo_iff]
 constructor
 ·intro h j hj
  cases hg:g j with
  |false=>rfl
  |true=>exact absurd ⟨j,hj,hg⟩ h
 ·rintro h ⟨k,h1,h2⟩
  rw[h k h1] at h2;cases h2
def isCnt(n:Int):Bool:=inR n 0 1000
def tabTo(g:Nat->Int)(k:Nat):yLI:=(List.range k).map g
theorem tabTo_succ(g:Nat->Int)(k:Nat):tabTo g (k+1)=tabTo g k++[g k]:=by simp[tabTo,List.range_succ]
@[simp] theorem tabTo_len(g : Nat -> Int)(k : Nat) : (tabTo g k).length = k := by simp[tabTo]
def SmallT(m:yLI)(t:Int):Prop:=∀k,k<m.length-> -1000000000000000<=t*m[k]! /\t*m[k]! <=1000000000000000
def plusTo(l m:yLI)(t:Int)(k:Nat):yLI:=(List.range k).map fun j=>l[j]! +t*m[j]!
def jX(l m:yLI)(t:Int):yLI:=plusTo l m t l.length
theorem plusTo_succ(l m:yLI)(t:Int)(k:Nat):plusTo l m t (k+1)=plusTo l m t k++[l[k]! +t*m[k]!]:=by simp[plusTo,List.range_succ]
theorem Xh(l m:yLI)(t:Int):(jX l m t).length=l.length:=by simp[jX,plusTo]
theorem map_snoc{α:Type}{xs:yLI}{x:Int}{ys:yLI}(h:ys=xs++[x])(f:Int->α):xs.map f++[f x]=ys.map f:=by rw[h];simp
noncomputable def dec(p:Prop):Bool:=@decide p<|Classical.propDecidable p
theorem jP(h:p):dec p=true:=by simp[dec,h]
theorem xw(h:¬p):dec p=false:=by simp[dec,h]
theorem Qc(h:dec p=true):p:=by simpa [dec] using h
theorem vF(h:dec p=false):¬p:=by simpa [dec] using h
theorem dec_eq{b:Bool}(h:b=true<->p):b=dec p:=by
 cases b
 ·exact(xw fun hp=>by simp at h;exact h hp).symm
 ·exact(jP<|h.1 rfl).symm
theorem dec_congr{q:Prop}(h:p<->q):dec p=dec q:=by rw[show p=q from propext h]
def Counts(l:yLI)(k:Nat):Prop:=∀j,j<k->0<=l[j]! /\l[j]! <=1000
theorem Counts.zero(l:yLI):Counts l 0:=fun j hj=>by omega
theorem Counts.succ(h:Counts l k)(h1:0<=l[k]! /\l[k]! <=1000):Counts l (k+1):=fun j hj=>by
 by_cases e:j=k
 ·subst e;exact h1
 ·exact h j qf
def XZ(l:yLI):Prop:=Counts l l.length/\1<=l.length/\l.length<=8
def jm(n:Int)(l:yLI):Prop:=XZ l/\(l.length:Int)=n
theorem Qg(h:XZ l):Small l:=⟨by have:=h.2.2;omega,fun k hk=>by have:=h.1 k hk;omega⟩
theorem jk{n:Int}(h:jm n l):Small l:=Qg h.1
theorem isCnt_iff{n:Int}:isCnt n=true<->0<=n/\n<=1000:=Q8
theorem anyCnt_iff:(!anyTo (fun k=> !isCnt (l[k]!)) l.length)=true<->Counts l l.length:=by
 rw[Bool.not_eq_true',anyTo_false]
 constructor
 ·intro h j hj
  have:=h j hj
  simp only[Bool.not_eq_false'] at this
  exact isCnt_iff.1 this
 ·intro h j hj
  simp only[Bool.not_eq_false']
  exact isCnt_iff.2<|h j hj
class Tot(α:Type) where
 tot:α->Nat
open Go.Proofs.YtdhklgjmiamiaaaGreat.Tot (tot)
instance:Tot Int:=⟨fun _=>0⟩
instance:Tot Bool:=⟨fun _=>0⟩
section
variable{α : Type}[Tot α][Inhabited α]
def totTo(l:List α):Nat->Nat
 |0=>0
 |k+1=>totTo l k+tot (l[k]!)
instance:Tot (List α):=⟨fun l=>l.length+totTo l l.length⟩
theorem tot_list(l:List α):tot l=l.length+totTo l l.length:=rfl
theorem totTo_succ(l:List α)(k:Nat):totTo l (k+1)=totTo l k+tot (l[k]!):=rfl
end
end
open Go.Proofs.YtdhklgjmiamiaaaGreat.Tot (tot)
section
structure Chg(F:yLN)(w w':World):Prop where
 os:w'.os=w.os
 tape:w'.tape=w.tape
 output:w'.output=w.output
 size:w.heap.size<=w'.heap.size
 block:∀k,k<w.heap.size->k∉F->w'.heap[k]? =w.heap[k]?
theorem Chg.refl(F:yLN)(w:World):Chg F w w:=⟨rfl,rfl,rfl,Nat.le_refl _,fun _ _ _=>rfl⟩
theorem Chg.mono(h:Chg F w w')(hs:∀b∈F,b∈G):Chg G w w':=⟨h.os,h.tape,h.output,h.size,fun k hk hn=>h.block k hk fun hb=>hn<|hs k hb⟩
theorem Chg.trans{F:yLN}{a b c:World}(h:Chg F a b)(k:Chg F b c):Chg F a c:=
 ⟨k.os.trans h.os,k.tape.trans h.tape,k.output.trans h.output,Nat.le_trans h.size k.size,fun i hi hn=>(k.block i (Nat.lt_of_lt_of_le hi h.size) hn).trans<|h.block i hi hn⟩
section
variable{W w w': World}{ps : List Prv}{Γ : List Fact}
end
section
variable{α : Type}[qX α]
variable{W w : World}{ps : List Prv}{Γ : List Fact}
variable{P : Program}{Q : Exit -> Act -> World -> Prop}{n : Nat}{ρ : Env}{d : Nat}{ty : TypeId}{pos : String}{af : Array Edge}{K : Env -> World -> Prop}
end
section
variable{P : Program}{Q : Exit -> Act -> World -> Prop}{n : Nat}{ρ : Env}{w : World}{d : Nat}{ty : TypeId}{pos : String}{af : Array Edge}{K : Env -> World -> Prop}
theorem o_rem[Dfr](a b:Int)(hx:ev n ρ x=.int .i64 a)(hy:ev n ρ y=.int .i64 b)(h0:0<=a)(h1:0<b)(h2:a<=9223372036854775807)(k:K (upd ρ d<|.int .i64<|a % b) w):
 OW P Q ⟨some d,.binOp .rem t x y u,ty,pos,af,none⟩ n ρ w K:=
 XW _ (by
  have e:a.tmod b=a % b:=Int.tmod_eq_emod_of_nonneg h0
  simp[execOp,hx,hy,eqGuard,binOp,Op.intDiv,show b≠0 by omega,e]) k
end
class Mark(α:Type) where
 cnt:α->Nat
 mrk:α->Int->α
 mkd:α->Int->Prop
 mkd_mark:∀x k,mkd (mrk x k) k
 cnt_mark:∀x k,cnt (mrk x k)=cnt x
open Go.Proofs.YtdhklgjmiamiaaaGreat.Mark (cnt mrk mkd mkd_mark cnt_mark)
instance:Mark Int:=⟨fun _=>1,fun _ k=>k,fun x k=>x=k,fun _ _=>rfl,fun _ _=>rfl⟩
instance:Mark Bool:=⟨fun _=>1,fun _ k=>k % 3 == 0,fun x k=>x=(k % 3 == 0),fun _ _=>rfl,fun _ _=>rfl⟩
section
variable{α : Type}[Mark α][Inhabited α]
def cntTo(l:List α):Nat->Nat
 |0=>0
 |i+1=>cntTo l i+cnt (l[i]!)
theorem cntTo_succ(l:List α)(i:Nat):cntTo l (i+1)=cntTo l i+cnt (l[i]!):=rfl
def markTo(l:List α)(k:Int)(i:Nat):List α:=(List.range i).map (fun j=>mrk (l[j]!)<|k+(cntTo l j:Nat))++l.drop i
theorem markTo_len(l:List α)(k:Int)(h:i<=l.length):(markTo l k i).length=l.length:=by simp[markTo];omega
def markL(l:List α)(k:Int):List α:=markTo l k l.length
theorem markL_get(l:List α)(k:Int)(h:i<l.length):(markL l k)[i]! =mrk (l[i]!) (k+(cntTo l i:Nat)):=by
 rw[getElem!_pos _ i<|by rw[markL,markTo_len l k<|Nat.le_refl _];exact h]
 simp[markL,markTo,List.getElem_append,h]
theorem cntTo_markL(l:List α)(k:Int):∀i,i<=l.length->cntTo (markL l k) i=cntTo l i
 |0,_=>rfl
 |i+1,h=>by rw[cntTo_succ,cntTo_succ,cntTo_markL l k i qf,markL_get l k qf,cnt_mark]
instance:Mark (List α) where
 cnt l:=cntTo l l.length
 mrk:=markL
 mkd l k:=∀i,i<l.length->mkd (l[i]!) (k+(cntTo l i:Nat))
 mkd_mark l k i hi:=by
  have ox :i<l.length:=by simpa [markL,markTo] using hi
  rw[markL_get l k ox,cntTo_markL l k i qf]
  exact mkd_mark _ _
 cnt_mark l k:=by
  show cntTo (markL l k) (markL l k).length=cntTo l l.length
  rw[show (markL l k).length=l.length from markTo_len l k<|Nat.le_refl _,cntTo_markL l k _<|Nat.le_refl _]
theorem cnt_list(l:List α):cnt l=cntTo l l.length:=rfl
end
theorem ints_get(h:iv.toNat<l.length):(l.map<|Value.int .i64)[0+iv.toNat*1]? =some (.int .i64<|l[iv.toNat]!):=by
 rw[Nat.zero_add,Nat.mul_one,List.getElem?_map,List.getElem?_eq_getElem h,getElem!_pos l _ h];rfl
theorem ints_set{v:Int}:(l.map<|Value.int .i64).set (0+iv.toNat*1) (.int .i64 v)=(l.set iv.toNat v).map (Value.int .i64):=by
 rw[Nat.zero_add,Nat.mul_one,List.map_set]
theorem ints_lt(h:iv.toNat<l.length):0+iv.toNat*1<(l.map<|Value.int .i64).length:=by simpa using h
theorem ints_zero(n:Nat):List.replicate n (Value.int .i64 0)=(List.replicate n (0:Int)).map (Value.int .i64):=by simp
section
variable{P : Program}{Q : Exit -> Act -> World -> Prop}{n : Nat}{ρ : Env}{W w : World}{d : Nat}{ty : TypeId}{pos : String}{af : Array Edge}{K : Env -> World -> Prop}{ps : List Prv}{Γ : List Fact}
theorem o_tail[Dfr]{α:Type}[qX α]{l:List α}(H:St W w ps Γ)(i:Nat)(hf:Γ[i]? =some (isF fr F (Sv a m c) l))(kk:Nat)
 (hu:P.underlying t=some (.slice e)) (he:TI P e z (qX.size α) gj) (hx:ev n ρ x=Sv a m c) (hk:kk<=l.length)
 (k:∀a' G,(∀b∈G,b∈F)->St W w ps (isF fr G (Sv a' (l.drop kk).length<|c-kk) (l.drop kk)::Γ)->K (upd ρ d<|Sv a' (l.drop kk).length<|c-kk) w):
 OW P Q ⟨some d,.slice t x (some<|.const<|.int .i64 (kk:Int)) none none,ty,pos,af,none⟩ n ρ w K:=by
 obtain⟨⟨a0,c0,hc,⟨hl,akx⟩,h⟩,dq⟩:=H.get i hf
 simp only[List.cons.injEq,Value.slice.injEq,and_true] at hc
 obtain⟨rfl,rfl,rfl⟩:=hc
 have hev:ev n ρ (.const<|.int .i64 (kk:Int))=.int .i64 (kk:Int):=rfl
 have E9:(execOp (ev n ρ) ⟨some d,.slice t x (some<|.const<|.int .i64 (kk:Int)) none none,ty,pos,af,none⟩).run P w=
  .ok (.value (Sv (if c=kk then a else a.map (·.add (kk*qX.size α))) (l.length-kk)<|c-kk)) w:=by
  simp[execOp,hx,hev,Instr.sliceAt,Instr.slice,Instr.sliceBounds,Instr.sliceBound,asIntOf,run_underlying hu,he.sizeOf,hk]
 have jj:(l.drop kk).length=l.length-kk:=List.length_drop
 rcases h with ⟨h0,hF⟩|⟨b,aF,F',vs,ha,hF,hb,hr,dp⟩
 ·refine XW _ E9 ?_
  rw[←jj]
  refine k _ [] qm<|H.add _ ⟨⟨_,_,rfl,⟨by omega,by omega⟩,Or.inl ⟨by simp[h0],rfl⟩⟩,fun _=>yf.nil _⟩<|by simp[isF]
 ·subst ha
  rw[←List.take_append_drop kk l] at hr
  obtain⟨F1,F2,v1,v2,e1,e2,r1,r2⟩:=reps_split _ hr
  have uD:v1.length=kk*qX.size α:=by rw[X7 r1,List.length_take,Nat.min_eq_left hk]
  have aJ:∀z∈b::F2,z∈F:=by
   intro z hz
   rw[hF,e1]
   simp only[List.mem_cons,List.mem_append] at hz ⊢
   rcases hz with h|h <;> simp[h]
  refine XW _ E9 ?_
  rw[←jj]
  by_cases hck:c=kk
  ·have aoh:l.drop kk=[]:=List.drop_eq_nil_of_le qf
   refine k _ [] qm<|H.add _ ⟨⟨_,_,rfl,⟨by omega,by omega⟩,Or.inl ⟨aoh,rfl⟩⟩,fun _=>yf.nil _⟩<|by simp[isF]
  ·rw[if_neg hck]
   refine k _ (b::F2) aJ<|H.jO i hf _ ⟨⟨_,_,rfl,⟨by omega,by omega⟩,Or.inr ⟨b,aF+kk*qX.size α,F2,v2,by simp[Addr.add_mid],rfl,hb,r2,?_⟩⟩,fun e=>(dq e).sub aJ⟩ aJ
   intro j v hv
   rw[Nat.add_assoc]
   refine dp (kk*qX.size α+j) v ?_
   rw[e2,List.getElem?_append_right qf,uD,Nat.add_sub_cancel_left]
   exact hv
end
abbrev pp(b o:Nat):Value:=.pointer<|some ⟨b,o,none⟩
abbrev aa(b o:Nat):yOA:=some ⟨b,o,none⟩
section
variable{P : Program}{kE : Array Oper}{Q : Exit -> Act -> World -> Prop}{n : Nat}{ρ : Env}{W0 w : World}{ai : List Oper}{ps : List Prv}{Γ : List Fact}
 {d:Nat} {op:Op} {ty:TypeId} {pos:String} {af:Array Edge} {K:Env->World->Prop} {S:World->Prop} {l:List Oper} {fuel:Nat} {ao:Array Bool}
theorem sp[Dfr](v:Value)(k:WL P kE Q n ai (upd ρ d v) w)(h:pv (ev n ρ) op=some v:=by exact rfl):WL P kE Q n (⟨some d,op,ty,pos,af,none⟩::ai) ρ w:=
 sw (o_pure v h k)
def pvs(n:Nat):List Value->List Oper->Env->Prop
 | [],_,_=>True
 |v::vs,⟨some d,op,_,_,_,none⟩::os,ρ=>pv (ev n ρ) op=some v/\pvs n vs os (upd ρ d v)
 |_::_,_,_=>False
def updP:List Value->List Oper->Env->Env
 |v::vs,o::os,ρ=>updP vs os<|upd ρ (o.dst.getD 0) v
 |_,_,ρ=>ρ
theorem sps[Dfr]:∀(vs:List Value) {os:List Oper} {ρ:Env} (_:WL P kE Q n (os.drop vs.length) (updP vs os ρ) w) (_:pvs n vs os ρ:=by(repeat refine And.intro rfl ?_);exact trivial),WL P kE Q n os ρ w
 | [],[],_,k,_=>by simpa [updP] using k
 | [],o::os,_,k,_=>by simpa [updP] using k
 |v::vs,[],_,_,h=>h.elim
 |v::vs,⟨none,op,ty,pos,af,gd⟩::os,_,_,h=>h.elim
 |v::vs,⟨some d,op,ty,pos,af,some g⟩::os,_,_,h=>h.elim
 |v::vs,⟨some d,op,ty,pos,af,none⟩::os,ρ,k,h=>sp v (sps vs (by simpa [updP] using k) h.2) h.1
def updQ(n:Nat):Nat->List Oper->Env->Env
 |j+1,o::os,ρ=>updQ n j os<|upd ρ (o.dst.getD 0) ((pv (ev n ρ) o.op).getD undef)
 |_,_,ρ=>ρ
def okQ(n:Nat):Nat->List Oper->Env->Bool
 |0,_,_=>true
 |j+1,⟨some d,op,_,_,_,none⟩::os,ρ=>(pv (ev n ρ) op).isSome && okQ n j os (upd ρ d ((pv (ev n ρ) op).getD undef))
 |_,_,_=>false
theorem some_getD{v:Option Value}(h:v.isSome=true):v=some (v.getD undef):=by
 cases v with
 |none=>cases h
 |some x=>rfl
theorem sq[Dfr]:∀(j:Nat) {os:List Oper} {ρ:Env} (_:WL P kE Q n (os.drop j) (updQ n j os ρ) w) (_:okQ n j os ρ=true:=by exact rfl),WL P kE Q n os ρ w
 |0,os,_,k,_=>by simpa [updQ] using k
 |j+1,[],_,_,h=>by cases h
 |j+1,⟨none,op,ty,pos,af,gd⟩::os,_,_,h=>by cases h
 |j+1,⟨some d,op,ty,pos,af,some g⟩::os,_,_,h=>by cases h
 |j+1,⟨some d,op,ty,pos,af,none⟩::os,ρ,k,h=>by
  simp only[okQ,Bool.and_eq_true] at h
  exact sp _ (sq j (by simpa [updQ] using k) h.2)<|some_getD h.1
theorem ji[Dfr](hm:P.follows .mixedOrders=true)(H:St W0 w ps Γ)
 (h:St W0 w.drew ps Γ->RW P l Q (fun w=>St W0 w ps Γ) n l.toArray.size (Array.replicate l.toArray.size false) ρ w.drew):(Code.region id l.toArray true).wp P Q (mk n ρ) w:=
 c_draw (fun w=>St W0 w ps Γ) hm (H.ext<|ext_drew _) (h<|H.ext<|ext_drew _)
def takeOk(l:List Oper)(ao:Array Bool)(i:Nat):Bool:=Region.noSelect l.toArray && (Region.free .any l.toArray ao i && (Region.ready .any l.toArray ao).contains i)
def NoPanic(Q:Exit->Act->World->Prop)(d:Nat)(v:Value):Prop:=∀c a w,Q (.panic c) (a.put (some d) v) w->Q (.panic c) a w
theorem Vy(h:takeOk l ao i=true):Region.noSelect l.toArray=true/\Region.free .any l.toArray ao i=true/\(Region.ready .any l.toArray ao).contains i=true:=by
 simp only[takeOk,Bool.and_eq_true] at h
 exact h
theorem rt[Dfr](i:Nat)(v:Value)(hy:∀w',S w' ->(execOp (ev n ρ) ⟨some d,op,ty,pos,af,none⟩).run P w'=.ok (.value v) w')(hS:S w)
 (h:RW P l Q S n fuel (ao.setIfInBounds i true) (upd ρ d v) w) (hi:l.toArray[i]? =some ⟨some d,op,ty,pos,af,none⟩:=by exact rfl) (hk:takeOk l ao i=true:=by kernel_rfl)
 (hQ:NoPanic Q d v:=by exact fun _ _ _ h=>h):RW P l Q S n (fuel+1) ao ρ w:=
 r_take i v hi (Vy hk).1 (Vy hk).2.1 (Vy hk).2.2 hQ hy hS h
theorem rtp[Dfr](i:Nat)(v:Value)(hS:S w)(h:RW P l Q S n fuel (ao.setIfInBounds i true) (upd ρ d v) w)(hi:l.toArray[i]? =some ⟨some d,op,ty,pos,af,none⟩:=by exact rfl)
 (hp:pv (ev n ρ) op=some v:=by exact rfl) (hk:takeOk l ao i=true:=by kernel_rfl) (hQ:NoPanic Q d v:=by exact fun _ _ _ h=>h):RW P l Q S n (fuel+1) ao ρ w:=
 rt i v (y_pure hp) hS h hi hk hQ
theorem rg[Dfr]{b:Bool}(i:Nat)(v:Value)(e:Nat)(hy:∀w',S w' ->(execOp (ev n ρ) ⟨some d,op,ty,pos,af,some (j,b)⟩).run P w'=.ok (.value v) w')(hS:S w)
 (h:RW P l Q S n fuel (ao.setIfInBounds i true) (upd ρ d v) w) (hi:l.toArray[i]? =some ⟨some d,op,ty,pos,af,some (j,b)⟩:=by exact rfl) (hk:takeOk l ao i=true:=by kernel_rfl)
 (hd:dstAt l j=some e:=by exact rfl) (hv:ev n ρ (.tmp e)=Bv b:=by exact rfl) (hQ:NoPanic Q d v:=by exact fun _ _ _ h=>h):RW P l Q S n (fuel+1) ao ρ w:=
 r_takeG i v hi (Vy hk).1 (Vy hk).2.1 (Vy hk).2.2 hQ hd hv hy hS h
theorem rgp[Dfr]{b:Bool}(i:Nat)(v:Value)(e:Nat)(hS:S w)(h:RW P l Q S n fuel (ao.setIfInBounds i true) (upd ρ d v) w)(hi:l.toArray[i]? =some ⟨some d,op,ty,pos,af,some (j,b)⟩:=by exact rfl)
 (hp:pv (ev n ρ) op=some v:=by exact rfl) (hk:takeOk l ao i=true:=by kernel_rfl)
 (hd:dstAt l j=some e:=by exact rfl) (hv:ev n ρ (.tmp e)=Bv b:=by exact rfl) (hQ:NoPanic Q d v:=by exact fun _ _ _ h=>h):RW P l Q S n (fuel+1) ao ρ w:=
 rg i v e (y_pure hp) hS h hi hk hd hv hQ
theorem rtl[Dfr](i:Nat)(hS:S w)(h:RW P l Q S n fuel (ao.setIfInBounds i true) (upd ρ d ((pv (ev n ρ) op).getD undef)) w)(hi:l.toArray[i]? =some ⟨some d,op,ty,pos,af,none⟩:=by exact rfl)
 (hp:(pv (ev n ρ) op).isSome=true:=by exact rfl) (hk:takeOk l ao i=true:=by kernel_rfl) (hQ:NoPanic Q d ((pv (ev n ρ) op).getD undef):=by exact fun _ _ _ h=>h):RW P l Q S n (fuel+1) ao ρ w:=
 rtp i _ hS h hi (some_getD hp) hk hQ
theorem rgl[Dfr]{b:Bool}(i:Nat)(e:Nat)(hS:S w)(h:RW P l Q S n fuel (ao.setIfInBounds i true) (upd ρ d ((pv (ev n ρ) op).getD undef)) w)(hi:l.toArray[i]? =some ⟨some d,op,ty,pos,af,some (j,b)⟩:=by exact rfl)
 (hp:(pv (ev n ρ) op).isSome=true:=by exact rfl) (hk:takeOk l ao i=true:=by kernel_rfl)
 (hd:dstAt l j=some e:=by exact rfl) (hv:ev n ρ (.tmp e)=Bv b:=by exact rfl) (hQ:NoPanic Q d ((pv (ev n ρ) op).getD undef):=by exact fun _ _ _ h=>h):RW P l Q S n (fuel+1) ao ρ w:=
 rgp i _ e hS h hi (some_getD hp) hk hd hv hQ
theorem retC3{fn:Func}{R:Ending->World->Prop}{t u u':Nat}(H:St W0 w ps Γ)(i:Nat)(hp:ps[i]? =some (.box b cs tb))(x y:Value)(hr:fn.results=#[.cell t T,.tmp u,.tmp u'])
 (ha:∀w,(isAgg T).run P w=.ok true w) (hs:∀w,(Go.sizeOf T).run P w=.ok cs.length w) (hv:ev n ρ (.tmp t)=.pointer (some ⟨b,0,none⟩)) (hx:ev n ρ (.tmp u)=x) (hy:ev n ρ (.tmp u')=y)
 (h:R (.returned<|.tuple #[.agg cs.toArray,x,y]) w):bodyPost P fn R .ret (mk n ρ) w:=by
 have hl:=run_loadCells_list (P:=P) w ⟨b,0,none⟩ cs (fun j v hv=>by rw[Addr.add_mid];exact H.cells i hp j v hv)
 have e:=congrFun (Xc n ρ)<|.tmp t
 have e':=congrFun (Xc n ρ)<|.tmp u
 have U2 :=congrFun (Xc n ρ)<|.tmp u'
 simp only[Act.eval,Array.getD_eq_getD_getElem?] at e e' U2
 rw[hv] at e
 rw[hx] at e'
 rw[hy] at U2
 exact bodyPost_ret (v:=.tuple #[.agg cs.toArray,x,y]) (by simp[results,hr,e,e',U2,asAddr,loadVar,ha,hs,hl]) rfl h
def skipOk(n:Nat)(ρ:Env)(l:List Oper)(o:Oper):Bool:=
 match o.guard with
 |some (j,b)=>match dstAt l j with
  |some e=>match ev n ρ (.tmp e) with | .bool c=>c != b | .tuple vs=>vs.isEmpty|_=>false
  |none=>false
 |none=>false
theorem skipOk_wanted[Dfr]{o:Oper}(h:skipOk n ρ l o=true):Region.wanted o (yielded l.toArray (mk n ρ).tmps)=false:=by
 unfold skipOk at h
 unfold Region.wanted
 split at h
 ·rename_i j b hg
  split at h
  ·rename_i e he
   rw[hg]
   split at h
   ·rename_i c hc
    simp[yielded_of ((dstAt_eq l j).trans he) hc]
    simpa using h
   ·rename_i vs hc
    have:vs=#[]:=by simpa using h
    subst this
    simp[yielded_un ((dstAt_eq l j).trans he) hc]
   ·cases h
  ·cases h
 ·cases h
def updU(ρ:Env):yLN->Env
 | []=>ρ
 |d::ds=>updU (upd ρ d undef) ds
def chkL(n:Nat)(l:List Oper):List Oper->yLN->Env->Bool
 |_,[],_=>true
 |o::os,d::ds,ρ=>match o.dst with
  |some d'=>Nat.beq d' d && (skipOk n ρ l o && chkL n l os ds (upd ρ d undef))
  |none=>false
 | [],_::_,_=>false
theorem xY[Dfr]:∀(ds:yLN) {os:List Oper} {ρ:Env} (_:WL P l.toArray Q n (os.drop ds.length) (updU ρ ds) w) (_:chkL n l os ds ρ=true:=by kernel_rfl),WL P l.toArray Q n os ρ w
 | [],_,_,k,_=>by simpa [updU] using k
 |d::ds,[],ρ,_,h=>by simp[chkL] at h
 |d::ds,⟨dst,op,ty,pos,af,gd⟩::os,ρ,k,h=>by
  unfold chkL at h
  split at h
  ·rename_i d' hd
   simp only[Bool.and_eq_true] at h
   obtain⟨h1,h2,h3⟩:=h
   have KN :=Nat.eq_of_beq_eq_true h1
   simp only at hd
   subst hd KN
   have hw:=skipOk_wanted h2
   have k':=xY ds (os:=os) (ρ:=upd ρ d' undef) (by simpa [updU] using k) h3
   refine WL.of ?_
   unfold wpList
   rw[if_neg<|by rw[hw];simp,mk_put]
   exact k'.out
  ·cases h
def chkR(n:Nat)(l:List Oper):yLN->Array Bool->Env->Bool
 | [],_,_=>true
 |i::is,ao,ρ=>match l.toArray[i]? with
  |some o=>match o.dst with
   |some d=>skipOk n ρ l o && (takeOk l ao i && chkR n l is (ao.setIfInBounds i true) (upd ρ d undef))
   |none=>false
  |none=>false
def updR(l:List Oper):yLN->Env->Env
 | [],ρ=>ρ
 |i::is,ρ=>updR l is<|upd ρ ((dstAt l i).getD 0) undef
def lsts:yLN->Array Bool->Array Bool
 | [],a=>a
 |i::is,a=>lsts is<|a.setIfInBounds i true
theorem vJ[Dfr]:∀(is:yLN) (m:Nat) {fuel:Nat} {ao:Array Bool} {ρ:Env} (_:S w) (_:RW P l Q S n fuel (lsts is ao) (updR l is ρ) w) (_:chkR n l is ao ρ=true:=by kernel_rfl) (_:is.length=m:=by exact rfl)
 (_:∀d,NoPanic Q d undef:=by exact fun _ _ _ _ h=>h),RW P l Q S n (fuel+m) ao ρ w
 | [],m,_,_,_,_,k,_,hm,_=>by subst hm;exact k
 |i::is,m,fuel,ao,ρ,hS,k,h,hm,hQ=>by
  subst hm
  unfold chkR at h
  split at h
  ·rename_i o ho
   split at h
   ·rename_i d hd
    simp only[Bool.and_eq_true] at h
    obtain⟨h1,h2,h3⟩:=h
    have hw:=skipOk_wanted h1
    have e:dstAt l i=some d:=by rw[←dstAt_eq,ho];exact hd
    have k':=vJ is is.length (fuel:=fuel) (ao:=ao.setIfInBounds i true) (ρ:=upd ρ d undef) hS (by simpa [updR,lsts,e] using k) h3 rfl hQ
    show RW P l Q S n ((fuel+is.length)+1) ao ρ w
    obtain⟨dst,op,ty,pos,af,gd⟩:=o
    simp only at hd
    subst hd
    unfold RW at k' ⊢
    refine wpAnyH_take ho (Vy h2).1 (Vy h2).2.1 (Vy h2).2.2 (hQ d) (Or.inr ⟨hw,rfl⟩) hS ?_
    show wpAnyH P .any l.toArray Q S _ _ ((mk n ρ).put (some d) undef) w
    rw[mk_put]
    exact k'
   ·cases h
  ·cases h
end
end
open Go.Proofs.YtdhklgjmiamiaaaGreat.Mark (cnt mrk mkd mkd_mark cnt_mark)
section
structure Fresh(B:Nat)(L:List yLN):Prop where
 nd:∀F∈L,F.Nodup
 ge:∀F∈L,∀b∈F,B<=b
 dj:L.Pairwise fun F G=>∀b∈F,b∉G
section
variable{B : Nat}{L : List yLN}
theorem Fresh.nil(B:Nat):Fresh B []:=⟨by simp,by simp,List.Pairwise.nil⟩
theorem Fresh.pick(N:Fresh B L)(is:yLN)(he:is.map (fun i=>L[i]?)=L'.map some:=by exact rfl)(hd:is.Nodup:=by decide):Fresh B L':=by
 have acy:∀F∈L',F∈L:=by
  intro F hF
  have:some F∈L'.map some:=List.mem_map_of_mem hF
  rw[←he] at this
  obtain⟨i,_,hi⟩:=List.mem_map.1 this
  exact List.mem_of_getElem? hi
 refine⟨fun F hF=>N.nd F<|acy F hF,fun F hF=>N.ge F<|acy F hF,?_⟩
 have hl:is.length=L'.length:=by simpa using congrArg List.length he
 have e:∀k (hk:k<L'.length) (za :k<is.length),L[is[k]]? =some L'[k]:=by
  intro k hk za
  have h1:(is.map<|fun i=>L[i]?)[k]? =(L'.map some)[k]? :=by rw[he]
  simpa [hk,za] using h1
 rw[List.pairwise_iff_getElem]
 intro i j hi hj Kr b hb P5
 have ei:=e i hi qf
 have ej:=e j hj qf
 have iQ:is[i]'(by omega)≠is[j]'(by omega):=List.pairwise_iff_getElem.1 hd i j qf qf Kr
 have hp:=N.dj
 rw[List.pairwise_iff_getElem] at hp
 obtain⟨hi2,ei2⟩:=List.getElem?_eq_some_iff.1 ei
 obtain⟨Fq,ej2⟩:=List.getElem?_eq_some_iff.1 ej
 rcases Nat.lt_or_gt_of_ne iQ with h|h
 ·exact hp _ _ hi2 Fq h b (by rw[ei2];exact hb)<|by rw[ej2];exact P5
 ·exact hp _ _ Fq hi2 h b (by rw[ej2];exact P5)<|by rw[ei2];exact hb
theorem Fresh.cons(N:Fresh B L)(hg:(∀b∈G,T<=b)/\G.Nodup)(hB:B<=T)(hl:∀F∈L,∀b∈F,b<T):Fresh B (G::L):=
 ⟨fun F hF=>by
  rcases List.mem_cons.1 hF with rfl|h
  ·exact hg.2
  ·exact N.nd F h,fun F hF b hb=>by
  rcases List.mem_cons.1 hF with rfl|h
  ·exact Nat.le_trans hB (hg.1 b hb)
  ·exact N.ge F h b hb,List.pairwise_cons.2 ⟨fun F hF b hb P5 =>by have:=hl F hF b P5;have:=hg.1 b hb;omega,N.dj⟩⟩
theorem Fresh.emp(N:Fresh B L):Fresh B ([]::L):=
 ⟨fun F hF=>by
  rcases List.mem_cons.1 hF with rfl|h
  ·exact List.nodup_nil
  ·exact N.nd F h,fun F hF b hb=>by
  rcases List.mem_cons.1 hF with rfl|h
  ·simp at hb
  ·exact N.ge F h b hb,List.pairwise_cons.2 ⟨fun F _ b hb=>by simp at hb,N.dj⟩⟩
theorem Fresh.repl(N:Fresh B (F::G::L))(hs:(∀b∈F',b∈F\/b∈G)/\(F.Nodup->G.Nodup->(∀b∈F,b∉G)->F'.Nodup)):Fresh B (F'::L):=by
 have h1:=List.pairwise_cons.1 N.dj
 have h2:=List.pairwise_cons.1 h1.2
 refine⟨fun K hK=>?_,fun K hK b hb=>?_,List.pairwise_cons.2 ⟨fun K hK b hb=>?_,h2.2⟩⟩
 ·rcases List.mem_cons.1 hK with rfl|h
  ·exact hs.2 (N.nd F qm) (N.nd G qm)<|h1.1 G qm
  ·exact N.nd K<|by simp[h]
 ·rcases List.mem_cons.1 hK with rfl|h
  ·rcases hs.1 b hb with h|h
   ·exact N.ge F qm b h
   ·exact N.ge G qm b h
  ·exact N.ge K (by simp[h]) b hb
 ·rcases hs.1 b hb with h|h
  ·exact h1.1 K (by simp[hK]) b h
  ·exact h2.1 K hK b h
theorem Fresh.join(N:Fresh B (F::G::L)):Fresh B ((F++G)::L):=
 N.repl ⟨fun b hb=>List.mem_append.1 hb,fun h1 h2 h3=>List.nodup_append.2 ⟨h1,h2,fun a ha b hb e=>h3 a ha<|e▸hb⟩⟩
theorem Fresh.less(N:Fresh B (F::L))(hs:∀b∈F',b∈F)(hn:F.Nodup->F'.Nodup):Fresh B (F'::L):=by
 have h1:=List.pairwise_cons.1 N.dj
 refine⟨fun K hK=>?_,fun K hK b hb=>?_,List.pairwise_cons.2 ⟨fun K hK b hb=>h1.1 K hK b<|hs b hb,h1.2⟩⟩
 ·rcases List.mem_cons.1 hK with rfl|h
  ·exact hn<|N.nd F qm
  ·exact N.nd K<|by simp[h]
 ·rcases List.mem_cons.1 hK with rfl|h
  ·exact N.ge F qm b<|hs b hb
  ·exact N.ge K (by simp[h]) b hb
theorem Fresh.one(N:Fresh B (F::L)):(∀b∈F,B<=b)/\F.Nodup:=⟨N.ge F qm,N.nd F qm⟩
theorem Fresh.tail(N:Fresh B (F::L)):Fresh B L:=⟨fun K h=>N.nd K<|by simp[h],fun K h=>N.ge K<|by simp[h],(List.pairwise_cons.1 N.dj).2⟩
end
section
variable{W0 w w': World}{ps : List Prv}{Γ : List Fact}
theorem St.ltN(H:St W0 w ps Γ)(is:yLN)(he:is.map (fun i=>(Γ[i]?).map Fact.F)=L.map some:=by exact rfl):∀F∈L,∀b∈F,b<w.heap.size:=by
 intro F hF b hb
 have:some F∈L.map some:=List.mem_map_of_mem hF
 rw[←he] at this
 obtain⟨i,_,hi⟩:=List.mem_map.1 this
 cases hg:Γ[i]? with
 |none=>simp[hg] at hi
 |some f=>
  simp only[hg,Option.map_some,Option.some.injEq] at hi
  subst hi
  exact((H.facts f<|List.mem_of_getElem? hg).2 b hb).1
theorem St.vX(H:St W0 w ps Γ)(is:yLN)(he:is.map (fun i=>(Γ[i]?).map Fact.F)=L.map some:=by exact rfl):∀F∈L,∀b∈F,∀i,yO ps i≠some b:=by
 intro F hF b hb
 have:some F∈L.map some:=List.mem_map_of_mem hF
 rw[←he] at this
 obtain⟨i,_,hi⟩:=List.mem_map.1 this
 cases hg:Γ[i]? with
 |none=>simp[hg] at hi
 |some f=>
  simp only[hg,Option.map_some,Option.some.injEq] at hi
  subst hi
  exact((H.facts f<|List.mem_of_getElem? hg).2 b hb).2
theorem St.yc(H:St W0 w ps Γ)(k:Nat)(hp:ps[k]? =some (.row v e sz nn xs)):
 ∃a c,v=Sv a nn c/\nn<=c/\nn<=9223372036854775807:=by
 have h:=(H.has _ (List.mem_of_getElem? hp):w.ownsRow W0.heap.size e sz v nn xs)
 rcases h.2 with ⟨rfl,rfl⟩|⟨g,ed,ee,rfl,_,_,h1,h2,_⟩
 ·exact⟨none,0,rfl,Nat.le_refl _,by omega⟩
 ·exact⟨_,ed,rfl,h1,by unfold maxLen at h2;omega⟩
theorem St.jR(H:St W0 w ps Γ)(k:Nat)(hp:ps[k]? =some (.row (Sv a nn c) e sz nn xs))(h0:0<nn):
 ∃b,a=some ⟨b,0,none⟩:=by
 have h:=(H.has _ (List.mem_of_getElem? hp):w.ownsRow W0.heap.size e sz _ nn xs)
 rcases h.2 with ⟨_,rfl⟩|⟨g,ed,ee,h,_⟩
 ·omega
 ·simp only[Value.slice.injEq] at h
  exact⟨g,h.1⟩
theorem St.rowLen(H:St W0 w ps Γ)(k:Nat)(hp:ps[k]? =some (.row v e sz nn xs)):xs.length=nn*sz:=
 (H.has _ (List.mem_of_getElem? hp):w.ownsRow W0.heap.size e sz v nn xs).1
theorem St.VI(H:St W0 w ps Γ)(k:Nat)(hp:ps[k]? =some (.row (Sv (some ⟨b,0,none⟩) nn c) e sz nn xs))(hv:xs[i]? =some v):
 w.cell? ⟨b,i,none⟩=some v:=by
 have h:=(H.has _ (List.mem_of_getElem? hp):w.ownsRow W0.heap.size e sz _ nn xs)
 have:=h.cells (g:=b) rfl i v hv
 rwa [Addr.add_mid,Nat.zero_add] at this
theorem ints_at(h:iv.toNat=i)(h1:i<l.length):(l.map<|Value.int .i64)[0+iv.toNat*1]? =some (.int .i64<|l[i]!):=by
 subst h
 simp[h1,getElem!_pos]
theorem bools_at{l:List Bool}(h:iv.toNat=i)(h1:i<l.length):(l.map Value.bool)[0+iv.toNat*1]? =some (Bv<|l[i]!):=by
 subst h
 simp[h1,getElem!_pos]
theorem St.Xb(H:St W0 w ps Γ)(k:Nat)(hp:ps[k]? =some (.row (Sv (some ⟨b,0,none⟩) nn c) e 1 nn<|l.map<|Value.int .i64))(h:iv.toNat=i)(h1:i<nn):
 w.cell? ⟨b,0+iv.toNat*1,none⟩=some (.int .i64<|l[i]!):=by
 have hl:=H.rowLen k hp
 exact H.VI k hp<|ints_at h (by simp at hl;omega)
theorem St.rowBool(H:St W0 w ps Γ)(k:Nat){l:List Bool}(hp:ps[k]? =some (.row (Sv (some ⟨b,0,none⟩) nn c) e 1 nn<|l.map Value.bool))(h:iv.toNat=i)(h1:i<nn):
 w.cell? ⟨b,0+iv.toNat*1,none⟩=some (Bv<|l[i]!):=by
 have hl:=H.rowLen k hp
 exact H.VI k hp<|bools_at h (by simp at hl;omega)
theorem St.rowElem{α:Type}[qX α][Inhabited α](H:St W0 w ps Γ)(k:Nat)(hp:ps[k]? =some (.row (Sv (some ⟨b,0,none⟩) nn c) e (qX.size α) nn xs))(j:Nat){l:List α}
 (hf:Γ[j]? =some (xG fr F xs l)) (hz:0<qX.size α) {iv:Int} {i:Nat} (h:iv.toNat=i) (h1:i<nn):
 ∃cs G,jC w b (0+iv.toNat*qX.size α) cs/\qX.rep w G cs (l[i]!)/\(∀x∈G,x∈F)/\(fr=true->yf w G)/\∃v1 v2,xs=v1++cs++v2/\v1.length=i*qX.size α:=by
 subst h
 obtain⟨hr,dq⟩:=H.get j hf
 have hl:=H.rowLen k hp
 have hl2:=X7 hr
 have jj:iv.toNat<l.length:=by
  have:nn=l.length:=Nat.eq_of_mul_eq_mul_right hz<|hl.symm.trans hl2
  omega
 obtain⟨F1,Fk,F2,v1,cs,v2,hF,hv,uD,pn,mB,_,_⟩:=reps_get hr _ jj
 refine⟨cs,Fk,fun i v hi=>?_,by rw[getElem!_pos l _ jj];exact mB,?_,fun e=>(dq e).sub ?_,v1,v2,hv,uD⟩
 ·refine H.VI k hp ?_
  have hci:i<cs.length:=by
   rcases Nat.lt_or_ge i cs.length with h|h
   ·exact h
   ·simp[h] at hi
  rw[hv,List.append_assoc,Nat.zero_add,←uD,List.getElem?_append_right qf,Nat.add_sub_cancel_left,List.getElem?_append_left hci,hi]
 ·intro x hx;rw[hF];simp[hx]
 ·intro x hx;rw[hF];simp[hx]
theorem St.xQ{α:Type}[qX α](H:St W0 w ps Γ)(k:Nat)(hp:ps[k]? =some (.row v e (qX.size α) nn xs))(j:Nat){l:List α}
 (hf:Γ[j]? =some (xG fr F xs l)) (hz:0<qX.size α):nn=l.length:=
 Nat.eq_of_mul_eq_mul_right hz ((H.rowLen k hp).symm.trans<|X7 (H.get j hf).1)
theorem St.jS{α:Type}[qX α](H:St W0 w ps Γ)(k:Nat)(hp:ps[k]? =some (.row (Sv (some ⟨b,0,none⟩) nn c) e 1 nn xs))(j:Nat){l:List (List α)}
 (hf:Γ[j]? =some (xG fr F xs l)) {iv:Int} (i:Nat) (h:iv.toNat=i) (h1:i<nn):
 ∃(a:yOA) (c':Nat) (G:yLN),(∀x∈G,x∈F)/\w.cell? ⟨b,0+iv.toNat*1,none⟩=some (Sv a (l[i]!).length c')/\St W0 w ps (isF fr G (Sv a (l[i]!).length c') (l[i]!)::Γ):=by
 obtain⟨cs,G,hc,hr,aJ,dq,_⟩:=H.rowElem k hp j hf Nat.one_pos h h1
 obtain⟨a,c',rfl,hx⟩:=id hr
 exact⟨a,c',G,aJ,by simpa [qX.size] using hc 0 _ rfl,H.jO j hf _ ⟨hr,dq⟩ aJ⟩
theorem ownsRow_set(h:w.ownsRow B e sz (Sv (some ⟨b,0,none⟩) nn c) nn xs)(aF:Nat)(us:List Value)(ho:aF+us.length<=xs.length)(h1:∀u∈us,u.oneCell'=true){P:Program}:
 ∃w',(storeCells ⟨b,aF,none⟩ us).run P w=.ok () w' /\w'.os=w.os/\w'.tape=w.tape/\w'.output=w.output/\w'.heap.size=w.heap.size/\(∀i,b≠i->w'.heap[i]? =w.heap[i]?)∧
  w'.ownsRow B e sz (Sv (some ⟨b,0,none⟩) nn c) nn (xs.take aF++us++xs.drop (aF+us.length)):=by
 obtain⟨hl,h|⟨g,ed,ee,hv,hB,hg,hn,hm,pn,ht⟩⟩:=h
 ·simp at h
 simp only[Value.slice.injEq,Option.some.injEq,Addr.mk.injEq,and_true] at hv
 obtain⟨rfl,_,rfl⟩:=hv
 have mZ:nn*sz<=ee.size:=by rw[pn];exact Nat.mul_le_mul_right _ hn
 have hlx:xs.length=nn*sz:=hl
 have Ky:aF+us.length<=ee.size:=by omega
 have hr:=run_storeCells_at P b aF e us 0 ee w hg qf h1
 simp only[Nat.add_zero] at hr
 have hxs:xs.take aF++us++xs.drop (aF+us.length)=(ee.toList.take aF++us++ee.toList.drop (aF+us.length)).take (nn*sz):=by
  subst ht
  apply List.ext_getElem?
  intro i
  simp only[List.getElem?_take,List.getElem?_append,List.length_append,List.length_take,List.getElem?_drop,Array.length_toList]
  rw[Nat.min_eq_left<|show aF<=ee.size by omega,Nat.min_eq_left<|show nn*sz<=ee.size by omega,Nat.min_eq_left<|show aF<=nn*sz by omega]
  by_cases hi:i<nn*sz
  ·by_cases h1:i<aF
   ·simp[hi,h1,show i<aF+us.length by omega]
   ·by_cases h2:i<aF+us.length
    ·simp[hi,h1,h2]
    ·have:aF+us.length+(i-(aF+us.length))=i:=by omega
     simp[hi,h2,this]
  ·have h2:¬i<aF+us.length:=by omega
   have:aF+us.length+(i-(aF+us.length))=i:=by omega
   simp[hi,h2,this]
 refine⟨w.setRow b (ee.toList.take aF++us++ee.toList.drop (aF+us.length)).toArray,hr,rfl,rfl,rfl,by simp[World.setRow],fun i hi=>by simp[World.setRow,Array.getElem?_modify,hi],?_,Or.inr ⟨b,c,(ee.toList.take aF++us++ee.toList.drop (aF+us.length)).toArray,rfl,hB,by simp[World.setRow,Array.getElem?_modify,hg],hn,hm,?_,?_⟩⟩
 ·simp;omega
 ·simp;omega
 ·rw[hxs]
theorem St.rowSet(H:St W0 w ps Γ)(k:Nat)(hp:ps[k]? =some (.row (Sv (some ⟨b,0,none⟩) nn c) e sz nn xs))(aF:Nat)(us:List Value)(ho:aF+us.length<=xs.length)(h1:∀u∈us,u.oneCell'=true){P:Program}:
 ∃w',(storeCells ⟨b,aF,none⟩ us).run P w=.ok () w' /\St W0 w' (ps.set k<|.row (Sv (some ⟨b,0,none⟩) nn c) e sz nn<|xs.take aF++us++xs.drop (aF+us.length)) Γ:=by
 have h:=(H.has _ (List.mem_of_getElem? hp):w.ownsRow W0.heap.size e sz _ nn xs)
 obtain⟨w',hr,h1,h2,h3,h4,h5,h6⟩:=ownsRow_set h aF us ho h1 (P:=P)
 exact⟨w',hr,H.change k hp h1 h2 h3 qf (fun i _ hi=>h5 i fun e'=>hi<|by simp[Prv.blk,Value.ownBlock,e']) h6<|Or.inl rfl⟩
end
section
variable{P : Program}{Q : Exit -> Act -> World -> Prop}{n : Nat}{ρ : Env}{W0 w : World}{ps : List Prv}{Γ : List Fact}
 {d:Nat} {ty:TypeId} {pos:String} {af:Array Edge} {K:Env->World->Prop}
theorem o_storeRow[Dfr](H:St W0 w ps Γ)(k:Nat)(hp:ps[k]? =some (.row (Sv (some ⟨b,0,none⟩) nn c) e sz nn xs))(v:Value)
 (hs:∀w,(Go.sizeOf t).run P w=.ok v.cells.size w) (hx:ev n ρ x=.pointer (some ⟨b,aF,none⟩)) (hy:ev n ρ y=v) (h1:∀u∈v.cells.toList,u.oneCell'=true) (ho:aF+v.cells.size<=xs.length)
 (kk:∀w',St W0 w' (ps.set k<|.row (Sv (some ⟨b,0,none⟩) nn c) e sz nn<|xs.take aF++v.cells.toList++xs.drop (aF+v.cells.size)) Γ->K ρ w'):
 OW P Q ⟨none,.store t x y,ty,pos,af,none⟩ n ρ w K:=by
 obtain⟨w',hr,H'⟩:=H.rowSet k hp aF v.cells.toList (by simpa using ho) h1 (P:=P)
 refine o_unit (w':=w') ?_<|kk _<|by simpa using H'
 simp[execOp,hx,hy,Instr.storeAt,Instr.sureAddr,storeVar,hs,hr]
theorem V6[Dfr](H:St W0 w ps Γ)(k:Nat)(hp:ps[k]? =some (.row (Sv (some ⟨b,0,none⟩) nn c) e 1 nn xs))(v:Value)
 (hs:∀w,(Go.sizeOf t).run P w=.ok 1 w) (hx:ev n ρ x=.pointer (some ⟨b,0+iv.toNat*1,none⟩)) (hy:ev n ρ y=v) (h1:v.oneCell'=true) (h2:iv.toNat<nn)
 (kk:∀w',St W0 w' (ps.set k<|.row (Sv (some ⟨b,0,none⟩) nn c) e 1 nn<|xs.set iv.toNat v) Γ->K ρ w'):
 OW P Q ⟨none,.store t x y,ty,pos,af,none⟩ n ρ w K:=by
 have hc:v.cells=#[v]:=by cases v <;> first|rfl|(simp[Value.oneCell'] at h1)
 have hl:=H.rowLen k hp
 refine o_storeRow H k hp v (by simpa [hc] using hs) hx hy (by simp[hc,h1]) (by simp[hc];omega) ?_
 simp only[hc,List.size_toArray,List.length_cons,List.length_nil,Nat.zero_add,Nat.mul_one]
 rw[show xs.take iv.toNat++[v]++xs.drop (iv.toNat+1)=xs.set iv.toNat v by rw[List.set_eq_take_append_cons_drop,if_pos qf];simp]
 exact kk
theorem Qe[Dfr](H:St W0 w ps Γ)(k:Nat)(hp:ps[k]? =some (.row (Sv (some ⟨b,0,none⟩) nn c) e 1 nn<|l.map<|Value.int .i64))(u:Int)
 (hs:∀w,(Go.sizeOf t).run P w=.ok 1 w) (hx:ev n ρ x=.pointer (some ⟨b,0+iv.toNat*1,none⟩)) (hy:ev n ρ y=.int .i64 u) (hi:iv.toNat=i) (h2:i<nn)
 (kk:∀w',St W0 w' (ps.set k<|.row (Sv (some ⟨b,0,none⟩) nn c) e 1 nn ((l.set i u).map<|Value.int .i64)) Γ->K ρ w'):
 OW P Q ⟨none,.store t x y,ty,pos,af,none⟩ n ρ w K:=by
 subst hi
 refine V6 H k hp (.int .i64 u) hs hx hy rfl h2 fun w' H'=>kk w' ?_
 rwa [List.map_set]
theorem QJ[Dfr]{l:List Bool}(H:St W0 w ps Γ)(k:Nat)(hp:ps[k]? =some (.row (Sv (some ⟨b,0,none⟩) nn c) e 1 nn<|l.map Value.bool))(u:Bool)
 (hs:∀w,(Go.sizeOf t).run P w=.ok 1 w) (hx:ev n ρ x=.pointer (some ⟨b,0+iv.toNat*1,none⟩)) (hy:ev n ρ y=Bv u) (hi:iv.toNat=i) (h2:i<nn)
 (kk:∀w',St W0 w' (ps.set k<|.row (Sv (some ⟨b,0,none⟩) nn c) e 1 nn ((l.set i u).map Value.bool)) Γ->K ρ w'):
 OW P Q ⟨none,.store t x y,ty,pos,af,none⟩ n ρ w K:=by
 subst hi
 refine V6 H k hp (Bv u) hs hx hy rfl h2 fun w' H'=>kk w' ?_
 rwa [List.map_set]
theorem reps_set{α:Type}[qX α]{l:List α}(h:reps w F xs l){y:α}(hy:qX.rep w G cs y)(k:Nat)(hk:k<l.length):
 ∃F',reps w F' (xs.take (k*qX.size α)++cs++xs.drop (k*qX.size α+cs.length)) (l.set k y)/\(∀b∈F',b∈F\/b∈G)/\(F.Nodup->G.Nodup->(∀b∈F,b∉G)->F'.Nodup):=by
 obtain⟨F1,Fk,F2,v1,ck,v2,hF,hv,uD,hck,_,h1,h2⟩:=reps_get h k hk
 have mZ:=qX.len hy
 refine⟨F1++G++F2,?_,fun b hb=>?_,fun n1 n2 n3=>?_⟩
 ·subst hv
  rw[←uD,List.append_assoc v1,List.take_left,mZ,←hck,List.drop_append,List.drop_of_length_le qf,List.nil_append,Nat.add_sub_cancel_left,List.drop_left,List.set_eq_take_append_cons_drop,if_pos hk,show List.take k l++y::List.drop (k+1) l=List.take k l++[y]++List.drop (k+1) l by simp]
  exact Qw (Qw h1<|reps_one hy) h2
 ·simp only[List.mem_append] at hb
  rcases hb with (hb|hb)|hb
  ·exact Or.inl<|by rw[hF];simp[hb]
  ·exact Or.inr hb
  ·exact Or.inl<|by rw[hF];simp[hb]
 ·subst hF
  have n1':=List.nodup_append.1 n1
  have n1a:=List.nodup_append.1 n1'.1
  refine List.nodup_append.2 ⟨List.nodup_append.2 ⟨n1a.1,n2,fun a ha b hb e=>n3 a (by simp[ha])<|e▸hb⟩,n1'.2.1,fun a ha b hb e=>?_⟩
  subst e
  rcases List.mem_append.1 ha with ha|ha
  ·exact n1'.2.2 a (by simp[ha]) a hb rfl
  ·exact n3 a (by simp[hb]) ha
theorem yu[Dfr]{α:Type}[qX α]{l:List α}{z:α}(f0:Bool)(H:St W0 w ps Γ)(k:Nat)(hp:ps[k]? =some (.row (Sv (some ⟨b,0,none⟩) nn c) e 1 nn xs))
 (j:Nat) (hf:Γ[j]? =some (xG fr F xs l)) (v:Value) (m:Nat) (hg:Γ[m]? =some (isF Jq G v z)) {iv:Int} {i:Nat} (hz:qX.size α=1)
 (hs:∀w,(Go.sizeOf t).run P w=.ok 1 w) (hx:ev n ρ x=.pointer (some ⟨b,0+iv.toNat*1,none⟩)) (hy:ev n ρ y=v) (hi:iv.toNat=i) (h2:i<nn) (h3:f0=true->fr=true/\Jq =true)
 (kk:∀w' HC F',((∀b∈F',b∈F\/b∈G)/\(F.Nodup->G.Nodup->(∀b∈F,b∉G)->F'.Nodup))->St W0 w' (ps.set k<|.row (Sv (some ⟨b,0,none⟩) nn c) e 1 nn HC) (xG f0 F' HC (l.set i z)::Γ)->K ρ w'):
 OW P Q ⟨none,.store t x y,ty,pos,af,none⟩ n ρ w K:=by
 subst hi
 have LU:v.oneCell'=true:=qX.one (H.get m hg).1 v qm
 have hn:nn=l.length:=H.xQ (α:=α) k (by rw[hz];exact hp) j hf qf
 obtain⟨F',hr,PS,T3⟩:=reps_set (H.get j hf).1 (H.get m hg).1 iv.toNat qf
 have hl:=H.rowLen k hp
 have e1:xs.take (iv.toNat*qX.size α)++[v]++xs.drop (iv.toNat*qX.size α+[v].length)=xs.set iv.toNat v:=by
  rw[hz,Nat.mul_one,List.set_eq_take_append_cons_drop,if_pos qf];simp
 rw[e1] at hr
 have H1:St W0 w ps (xG f0 F' (xs.set iv.toNat v) (l.set iv.toNat z)::Γ):=by
  refine H.add _ ⟨hr,fun e b hb=>?_⟩ fun b hb=>?_
  ·rcases PS b hb with h|h
   ·exact(H.get j hf).2 (h3 e).1 b h
   ·exact(H.get m hg).2 (h3 e).2 b h
  ·rcases PS b hb with h|h
   ·exact(H.facts _<|List.mem_of_getElem? hf).2 b h
   ·exact(H.facts _<|List.mem_of_getElem? hg).2 b h
 exact V6 H1 k hp v hs hx hy LU h2 fun w' H'=>kk w' _ F' ⟨PS,T3⟩ H'
theorem zq[Dfr](H:St W0 w ps Γ)(hu:P.underlying t=some (.slice e))(he:TI P e (.int .i64 0) 1 gj)(nn:Nat)
 (hx:ev n ρ x=.int .i64 iv) (hy:ev n ρ y=.int .i64 iv) (hn:iv=nn) (hb:gj*nn<=281474976710656) (hm:nn<=9223372036854775807)
 (k:∀b w',St W0 w' (.row (Sv (some ⟨b,0,none⟩) nn nn) e 1 nn ((List.replicate nn (0:Int)).map<|Value.int .i64)::ps) Γ->K (upd ρ d<|Sv (some ⟨b,0,none⟩) nn nn) w'):
 OW P Q ⟨some d,.makeSlice t x y,ty,pos,af,none⟩ n ρ w K:=by
 subst hn
 refine o_make1 H hu he rfl nn hx hy hb hm fun b w' H'=>k b w' ?_
 have:=H'.boxRow 0 rfl 1 nn qm qp
 simpa using this
theorem o_makeB[Dfr](H:St W0 w ps Γ)(hu:P.underlying t=some (.slice e))(he:TI P e (Bv false) 1 gj)(nn:Nat)
 (hx:ev n ρ x=.int .i64 iv) (hy:ev n ρ y=.int .i64 iv) (hn:iv=nn) (hb:gj*nn<=281474976710656) (hm:nn<=9223372036854775807)
 (k:∀b w',St W0 w' (.row (Sv (some ⟨b,0,none⟩) nn nn) e 1 nn ((List.replicate nn false).map Value.bool)::ps) Γ->K (upd ρ d<|Sv (some ⟨b,0,none⟩) nn nn) w'):
 OW P Q ⟨some d,.makeSlice t x y,ty,pos,af,none⟩ n ρ w K:=by
 subst hn
 refine o_make1 H hu he rfl nn hx hy hb hm fun b w' H'=>k b w' ?_
 have:=H'.boxRow 0 rfl 1 nn qm qp
 simpa using this
theorem reps_zeros{α:Type}[qX α]{w:World}{zs:List Value}{z:α}(h:qX.rep w [] zs z):∀n,reps w [] (List.replicate n zs).flatten (List.replicate n z)
 |0=>⟨rfl,rfl⟩
 |n+1=>⟨[],[],zs,(List.replicate n zs).flatten,rfl,by simp[List.replicate_succ],h,reps_zeros h n⟩
theorem o_makeZ[Dfr]{α:Type}[qX α](zx:α)(H:St W0 w ps Γ)(hu:P.underlying t=some (.slice e))(he:TI P e z (qX.size α) gj)(h0:0<qX.size α)(hzx:∀w,qX.rep w [] z.cells.toList zx)(nn:Nat)
 (hx:ev n ρ x=.int .i64 iv) (hy:ev n ρ y=.int .i64 iv) (hn:iv=nn) (hb:gj*nn<=281474976710656) (hm:nn<=9223372036854775807)
 (k:∀b w' xs,St W0 w' (.row (Sv (some ⟨b,0,none⟩) nn nn) e (qX.size α) nn xs::ps) (xG true [] xs (List.replicate nn zx)::Γ)->K (upd ρ d<|Sv (some ⟨b,0,none⟩) nn nn) w'):
 OW P Q ⟨some d,.makeSlice t x y,ty,pos,af,none⟩ n ρ w K:=by
 subst hn
 have mZ:z.cells.size=qX.size α:=by have:=qX.len (hzx w);simpa using this
 refine o_makeN H hu he mZ h0 nn hx hy hb hm fun b w' H'=>k b w' _<|St.add (H'.boxRow 0 rfl _ nn ?_ qp) _ ⟨reps_zeros (hzx w') nn,fun _=>yf.nil _⟩<|by simp[xG]
 simp[List.length_flatten,mZ]
end
section
variable{P : Program}{Q : Exit -> Act -> World -> Prop}{n : Nat}{ρ : Env}{W0 w : World}{ps : List Prv}{Γ : List Fact}
 {d:Nat} {ty:TypeId} {pos:String} {af:Array Edge} {K:Env->World->Prop}
theorem set_at{p q:Prv}(h:ps[i]? =some p):(ps.set i q)[i]? =some q:=by
 have:=(List.getElem?_eq_some_iff.1 h).1
 simp[this]
theorem zt[Dfr]{s:Operand}(H:St W0 w ps Γ)(i:Nat)(hp:ps[i]? =some (.row v e sz nn xs))(j:Nat)(hq:ps[j]? =some (.box b cs tb))
 (hu:P.underlying t=some (.slice e)) (he:TI P e z sz gj) (Ku:z.cells.size=sz) (h0:0<sz) (hs:ev n ρ s=v) (hx:ev n ρ x=Sv (some ⟨b,0,none⟩) m c) (hl:cs.length=m*sz)
 (h1:∀u∈cs,u.oneCell'=true) (hm:nn+m<=maxLen) (hb:(nn+m)*gj <=140737488355328)
 (k:∀a c' w',St W0 w' (ps.set i<|.row (Sv a (nn+m) c') e sz (nn+m)<|xs++cs) Γ->K (upd ρ d<|Sv a (nn+m) c') w'):
 OW P Q ⟨some d,.call ⟨.builtin .append,#[s,x],#[t,t]⟩,ty,pos,af,none⟩ n ρ w K:=
 o_append H i hp j hq hu he Ku h0 hs hx hl h1 hm hb fun v' w' H'=>by
  obtain⟨a,c',rfl,_⟩:=H'.yc i<|set_at hp
  exact k a c' w' H'
theorem o_appendFR[Dfr]{α:Type}[qX α]{s:Operand}{l:List α}(H:St W0 w ps Γ)(i:Nat)(hp:ps[i]? =some (.row v e (qX.size α) nn xs))
 (j:Nat) (hf:Γ[j]? =some (isF fr F (Sv a m c) l)) (hu:P.underlying t=some (.slice e)) (he:TI P e z (qX.size α) gj) (Ku:z.cells.size=qX.size α) (h0:0<qX.size α) (hs:ev n ρ s=v)
 (hx:ev n ρ x=Sv a m c) (hm:nn+m<=maxLen) (hb:(nn+m)*gj <=140737488355328)
 (k:∀a' c' w' vs G,St W0 w' (ps.set i<|.row (Sv a' (nn+m) c') e (qX.size α) (nn+m)<|xs++vs) (xG fr G vs l::Γ)->(∀b∈G,b∈F)->K (upd ρ d<|Sv a' (nn+m) c') w'):
 OW P Q ⟨some d,.call ⟨.builtin .append,#[s,x],#[t,t]⟩,ty,pos,af,none⟩ n ρ w K:=
 o_appendF H i hp j hf hu he Ku h0 hs hx hm hb fun v' w' vs G H' hG=>by
  obtain⟨a',c',rfl,_⟩:=H'.yc i<|set_at hp
  exact k a' c' w' vs G H' hG
theorem St.dead(H:St W0 w ps Γ)(k:Nat){p:Prv}(hp:ps[k]? =some p):St W0 w (ps.set k<|.row (Sv none 0 0) 0 1 0 []) Γ:=
 H.change k hp rfl rfl rfl (Nat.le_refl _) (fun _ _ _=>rfl) (World.ownsRow_nil _ _ _ _) (Or.inr<|Or.inl rfl)
theorem St.freeze{α:Type}[qX α](H:St W0 w ps Γ)(k:Nat)(hp:ps[k]? =some (.row v e (qX.size α) nn xs))(fr:Bool){l:List α}
 (hr:reps w F xs l) (dq:fr=true->yf w F) (hF:∀b∈F,b<w.heap.size/\∀i,yO ps i≠some b) (hn:nn=l.length):
 ∃G,(∀b∈G,b∈F\/yO ps k=some b)/\(F.Nodup->G.Nodup)/\St W0 w (ps.set k<|.row (Sv none 0 0) 0 1 0 []) (isF fr G v l::Γ):=by
 subst hn
 have ho:=(H.has _ (List.mem_of_getElem? hp):w.ownsRow W0.heap.size e (qX.size α) v l.length xs)
 have rE:∀(b i:Nat),yO (ps.set k<|.row (Sv none 0 0) 0 1 0 []) i=some b->i≠k/\yO ps i=some b:=by
  intro b i h
  unfold yO at h ⊢
  by_cases hi:i=k
  ·subst hi
   rw[set_at hp] at h
   simp[Prv.blk,Value.ownBlock] at h
  ·rw[List.getElem?_set_ne<|Ne.symm hi] at h
   exact⟨hi,h⟩
 rcases ho.2 with ⟨rfl,h0⟩|⟨g,ed,ee,rfl,hb,hg,PU,hcm,pn,htake⟩
 ·have:l=[]:=List.eq_nil_of_length_eq_zero h0
  subst this
  exact⟨[],by simp,by simp,(H.dead k hp).add _ ⟨⟨none,0,rfl,by simp,Or.inl ⟨rfl,rfl⟩⟩,fun _=>yf.nil _⟩<|by simp[isF]⟩
 ·have Bx:yO ps k=some g:=by simp[yO,hp,Prv.blk,Value.ownBlock]
  have mZ:jC w g 0 xs:=by
   intro i u hi
   rw[Nat.zero_add,World.cell?,hg]
   rw[←htake,List.getElem?_take] at hi
   split at hi
   ·simpa using hi
   ·cases hi
  refine⟨g::F,fun b hb=>?_,fun hn=>List.nodup_cons.2 ⟨fun h=>(hF g h).2 k Bx,hn⟩,(H.dead k hp).add _ ⟨⟨_,ed,rfl,by unfold maxLen at hcm;omega,Or.inr ⟨g,0,F,xs,rfl,rfl,(Array.getElem?_eq_some_iff.1 hg).1,hr,mZ⟩⟩,fun e b hb=>?_⟩ fun b hb=>?_⟩
  ·rcases List.mem_cons.1 hb with rfl|h
   ·exact Or.inr Bx
   ·exact Or.inl h
  ·rcases List.mem_cons.1 hb with rfl|h
   ·exact⟨_,_,hg⟩
   ·exact dq e b h
  ·rcases List.mem_cons.1 hb with rfl|h
   ·exact⟨(Array.getElem?_eq_some_iff.1 hg).1,fun i hi=>(rE b i hi).1<|H.dist i k b (rE b i hi).2 Bx⟩
   ·exact⟨(hF b h).1,fun i hi=>(hF b h).2 i (rE b i hi).2⟩
theorem reps_of_bools(w:World):∀(l:List Bool),reps w [] (l.map Value.bool) l
 | []=>⟨rfl,rfl⟩
 |x::l=>⟨[],[],[Bv x],l.map Value.bool,rfl,rfl,⟨rfl,rfl⟩,reps_of_bools w l⟩
theorem Fresh.ice(N:Fresh W0.heap.size (F::L))(H:St W0 w ps Γ)(k:Nat)(hs:∀b∈G,b∈F\/yO ps k=some b)(hn:F.Nodup->G.Nodup)(ha:∀K∈L,∀b∈K,∀i,yO ps i≠some b):Fresh W0.heap.size (G::L):=by
 have h1:=List.pairwise_cons.1 N.dj
 refine⟨fun K hK=>?_,fun K hK b hb=>?_,List.pairwise_cons.2 ⟨fun K hK b hb OZ=>?_,h1.2⟩⟩
 ·rcases List.mem_cons.1 hK with rfl|h
  ·exact hn<|N.nd F qm
  ·exact N.nd K<|by simp[h]
 ·rcases List.mem_cons.1 hK with rfl|h
  ·rcases hs b hb with h|h
   ·exact N.ge F qm b h
   ·exact(blkAt_has H h).1
  ·exact N.ge K (by simp[h]) b hb
 ·rcases hs b hb with h|h
  ·exact h1.1 K hK b h OZ
  ·exact ha K hK b OZ k h
theorem St.zQ(H:St W0 w ps Γ)(k:Nat)(hp:ps[k]? =some (.row v e 1 nn<|l.map<|Value.int .i64))(N:Fresh W0.heap.size L)(ha:∀K∈L,∀b∈K,∀i,yO ps i≠some b):
 ∃G,Fresh W0.heap.size (G::L)/\nn=l.length/\St W0 w (ps.set k<|.row (Sv none 0 0) 0 1 0 []) (isF true G v l::Γ):=by
 have hn:nn=l.length:=by have:=H.rowLen k hp;simp at this;omega
 obtain⟨G,h1,h2,h3⟩:=H.freeze (α:=Int) k hp true (reps_of_ints w l) (fun _=>yf.nil _) qm hn
 exact⟨G,N.emp.ice H k h1 h2 ha,hn,h3⟩
theorem St.freezeB(H:St W0 w ps Γ)(k:Nat){l:List Bool}(hp:ps[k]? =some (.row v e 1 nn<|l.map Value.bool))(N:Fresh W0.heap.size L)(ha:∀K∈L,∀b∈K,∀i,yO ps i≠some b):
 ∃G,Fresh W0.heap.size (G::L)/\nn=l.length/\St W0 w (ps.set k<|.row (Sv none 0 0) 0 1 0 []) (isF true G v l::Γ):=by
 have hn:nn=l.length:=by have:=H.rowLen k hp;simp at this;omega
 obtain⟨G,h1,h2,h3⟩:=H.freeze (α:=Bool) k hp true (reps_of_bools w l) (fun _=>yf.nil _) qm hn
 exact⟨G,N.emp.ice H k h1 h2 ha,hn,h3⟩
theorem St.yC{α:Type}[qX α](H:St W0 w ps Γ)(k:Nat)(hp:ps[k]? =some (.row v e (qX.size α) nn xs))(j:Nat){l:List α}(hf:Γ[j]? =some (xG fr F xs l))(hz:0<qX.size α):
 ∃G,((∀b∈G,b∈F\/yO ps k=some b)/\(F.Nodup->G.Nodup))/\nn=l.length/\St W0 w (ps.set k<|.row (Sv none 0 0) 0 1 0 []) (isF fr G v l::Γ):=by
 have hn:=H.xQ k hp j hf hz
 obtain⟨G,h1,h2,h3⟩:=H.freeze (α:=α) k hp fr (H.get j hf).1 (H.get j hf).2 (H.facts _<|List.mem_of_getElem? hf).2 hn
 exact⟨G,⟨h1,h2⟩,hn,h3⟩
theorem St.XB(H:St W0 w ps Γ)(k:Nat)(hp:ps[k]? =some (.row (Sv a nn c) e 1 nn<|l.map<|Value.int .i64)):∃G,nn=l.length/\qX.rep w G [Sv a nn c] l:=by
 have hn:nn=l.length:=by have:=H.rowLen k hp;simp at this;omega
 obtain⟨a',c',G,h1,h2,_⟩:=H.rowInts k hp hn
 exact⟨G,hn,h2⟩
theorem St.rowIsB(H:St W0 w ps Γ)(k:Nat){l:List Bool}(hp:ps[k]? =some (.row (Sv a nn c) e 1 nn<|l.map Value.bool)):∃G,nn=l.length/\qX.rep w G [Sv a nn c] l:=by
 have hn:nn=l.length:=by have:=H.rowLen k hp;simp at this;omega
 obtain⟨a',c',G,h1,h2,_⟩:=H.rowRep (α:=Bool) k hp (reps_of_bools w l) hn qm
 exact⟨G,hn,h2⟩
theorem St.QL{α:Type}[qX α](H:St W0 w ps Γ)(k:Nat)(hp:ps[k]? =some (.row (Sv a nn c) e (qX.size α) nn xs))(j:Nat){l:List α}(hf:Γ[j]? =some (xG fr F xs l))(hz:0<qX.size α):
 ∃G,nn=l.length/\qX.rep w G [Sv a nn c] l:=by
 have hn:=H.xQ k hp j hf hz
 subst hn
 have ho:=(H.has _ (List.mem_of_getElem? hp):w.ownsRow W0.heap.size e (qX.size α) _ l.length xs)
 rcases ho.2 with ⟨hv,h0⟩|⟨g,ed,ee,hv,hb,hg,PU,hcm,pn,htake⟩
 ·have:l=[]:=List.eq_nil_of_length_eq_zero h0
  subst this
  rw[hv]
  exact⟨[],rfl,none,0,rfl,by simp,Or.inl ⟨rfl,rfl⟩⟩
 ·rw[hv]
  refine⟨g::F,rfl,_,ed,rfl,by unfold maxLen at hcm;omega,Or.inr ⟨g,0,F,xs,rfl,rfl,(Array.getElem?_eq_some_iff.1 hg).1,(H.get j hf).1,?_⟩⟩
  intro i u hi
  rw[Nat.zero_add,World.cell?,hg]
  rw[←htake,List.getElem?_take] at hi
  split at hi
  ·simpa using hi
  ·cases hi
theorem zW[Dfr]{xs:Array Operand}{f:FuncId}(args:Array Value)(hv:ev n ρ x=.func (.func f) fst mu)
 (kM:fst.toList++xs.toList.map (ev n ρ)++mu.toList=args.toList) (hf:∀args w,(callFunc f args).run P w=.ok (.enter f args) w)
 (hc:Calls P f args w fun e w'=>∃v,e=.returned v/\K (upd ρ d v) w'):
 OW P Q ⟨some d,.call ⟨.value x,xs,ts⟩,ty,pos,af,none⟩ n ρ w K:=by
 have hr:(execOp (ev n ρ) ⟨some d,.call ⟨.value x,xs,ts⟩,ty,pos,af,none⟩).run P w=.ok (.enter f args) w:=by
  have e:fst++xs.map (ev n ρ)++mu=args:=by apply Array.toList_inj.1;rw[←kM];simp
  simp[execOp,resolve,Deferred.ofValue,hv,invoke,hf,e]
 unfold OW
 intro K' hK
 unfold Oper.wp
 rw[Xc,hr]
 refine hc.mono fun e w' ⟨v,he,hR⟩=>?_
 subst he
 show K' ((mk n ρ).put (some d) v) w'
 rw[mk_put]
 exact hK _ _ hR
end
theorem Qu{P:Program}{f:FuncId}{as0 bs:Array Value}{R:Ending->World->Prop}(h:as0=bs)(k:Calls P f bs w R):Calls P f as0 w R:=h▸k
section
variable{W0 w : World}{ps : List Prv}{Γ : List Fact}
theorem St.jy(H:St W0 w ps Γ)(k:Nat)(hp:ps[k]? =some (.row v e 1 nn<|l.map<|Value.int .i64)):nn=l.length:=by
 have:=H.rowLen k hp;simp at this;omega
theorem St.Xg(H:St W0 w ps Γ)(k:Nat){l:List Bool}(hp:ps[k]? =some (.row v e 1 nn<|l.map Value.bool)):nn=l.length:=by
 have:=H.rowLen k hp;simp at this;omega
theorem St.isLen{α:Type}[qX α](H:St W0 w ps Γ)(k:Nat){l:List α}(hf:Γ[k]? =some (isF fr F (Sv a m c) l)):m=l.length:=by
 obtain⟨⟨a',c',hc,_⟩,_⟩:=H.get k hf
 simp only[List.cons.injEq,Value.slice.injEq,and_true] at hc
 exact hc.2.1
end
theorem snocI(l:yLI)(x:Int):l.map (Value.int .i64)++[.int .i64 x]=(l++[x]).map (Value.int .i64):=by simp
theorem snocB(l:List Bool)(x:Bool):l.map Value.bool++[Bv x]=(l++[x]).map Value.bool:=by simp
theorem Fresh.split(N:Fresh B ((F++G)::L)):Fresh B (F::G::L):=by
 have h1:=List.pairwise_cons.1 N.dj
 have h2:=List.nodup_append.1<|N.nd (F++G) qm
 refine⟨fun K hK=>?_,fun K hK b hb=>?_,List.pairwise_cons.2 ⟨fun K hK b hb OZ=>?_,List.pairwise_cons.2 ⟨fun K hK b hb=>h1.1 K hK b<|by simp[hb],h1.2⟩⟩⟩
 ·rcases List.mem_cons.1 hK with rfl|h
  ·exact h2.1
  ·rcases List.mem_cons.1 h with rfl|h
   ·exact h2.2.1
   ·exact N.nd K<|by simp[h]
 ·rcases List.mem_cons.1 hK with rfl|h
  ·exact N.ge (K++G) qm b<|by simp[hb]
  ·rcases List.mem_cons.1 h with rfl|h
   ·exact N.ge (F++K) qm b<|by simp[hb]
   ·exact N.ge K (by simp[h]) b hb
 ·rcases List.mem_cons.1 hK with rfl|h
  ·exact h2.2.2 b hb b OZ rfl
  ·exact h1.1 K h b (by simp[hb]) OZ
section
variable{W0 w w': World}{ps : List Prv}{Γ : List Fact}
theorem St.addNil{α:Type}[qX α](H:St W0 w ps Γ):St W0 w ps (isF true [] (Sv none 0 0) ([]:List α)::Γ):=
 H.add _ ⟨⟨none,0,rfl,by simp,Or.inl ⟨rfl,rfl⟩⟩,fun _=>yf.nil _⟩ (by simp[isF])
end
section
variable{P : Program}{Q : Exit -> Act -> World -> Prop}{n : Nat}{ρ : Env}{W0 w : World}{ps : List Prv}{Γ : List Fact}
 {d:Nat} {ty:TypeId} {pos:String} {af:Array Edge} {K:Env->World->Prop}
theorem o_idxArr[Dfr](iv:Int)(hu:P.underlying t=some (.array m e))(he:TI P e z sz gj)
 (hx:ev n ρ x=.pointer (some ⟨b,aF,none⟩)) (hy:ev n ρ y=.int .i64 iv) (h0:0<=iv) (h1:iv<m)
 (k:K (upd ρ d<|.pointer<|some ⟨b,aF+iv.toNat*sz,none⟩) w):OW P Q ⟨some d,.indexAddr t x y,ty,pos,af,none⟩ n ρ w K:=
 XW _ (by simp[execOp,hx,hy,Instr.indexAt,Instr.sureAddr,asIntOf,run_underlying hu,he.sizeOf,h0,h1,Addr.add_mid]) k
theorem y_idxArr{S:World->Prop}{gd:Option (Nat×Bool)}(b aF m:Nat)(iv:Int)(hu:P.underlying t=some (.array m e))(he:TI P e z sz gj)
 (hx:ev n ρ x=.pointer (some ⟨b,aF,none⟩)) (hy:ev n ρ y=.int .i64 iv) (h0:0<=iv) (h1:iv<m):
 ∀w',S w' ->(execOp (ev n ρ) ⟨some d,.indexAddr t x y,ty,pos,af,gd⟩).run P w'=.ok (.value<|.pointer<|some ⟨b,aF+iv.toNat*sz,none⟩) w':=
 fun w' _=>by simp[execOp,hx,hy,Instr.indexAt,Instr.sureAddr,asIntOf,run_underlying hu,he.sizeOf,h0,h1,Addr.add_mid]
theorem o_storeArr[Dfr](H:St W0 w ps Γ)(k:Nat)(hp:ps[k]? =some (.box b (l.map<|Value.int .i64) tb))(u:Int)
 (hs:∀w,(Go.sizeOf t).run P w=.ok 1 w) (hx:ev n ρ x=.pointer (some ⟨b,0+iv.toNat*1,none⟩)) (hy:ev n ρ y=.int .i64 u) (hi:iv.toNat=i) (h2:i<l.length)
 (kk:∀w',St W0 w' (ps.set k<|.box b ((l.set i u).map<|Value.int .i64) tb) Γ->K ρ w'):OW P Q ⟨none,.store t x y,ty,pos,af,none⟩ n ρ w K:=by
 subst hi
 refine o_store1 H k hp (.int .i64 u) hs hx hy rfl qy fun w' H'=>kk w' ?_
 rwa [List.map_set,show iv.toNat=0+iv.toNat*1 by omega]
end
theorem Fresh.swap(N:Fresh B (F::G::L)):Fresh B (G::F::L):=by
 have h1:=List.pairwise_cons.1 N.dj
 have h2:=List.pairwise_cons.1 h1.2
 refine⟨fun K hK=>N.nd K ?_,fun K hK=>N.ge K ?_,List.pairwise_cons.2 ⟨fun K hK b hb OZ=>?_,List.pairwise_cons.2 ⟨fun K hK=>h1.1 K<|by simp[hK],h2.2⟩⟩⟩
 ·simp only[List.mem_cons] at hK ⊢
  rcases hK with h|h|h <;> simp[h]
 ·simp only[List.mem_cons] at hK ⊢
  rcases hK with h|h|h <;> simp[h]
 ·rcases List.mem_cons.1 hK with rfl|h
  ·exact h1.1 G qm b OZ hb
  ·exact h2.1 K h b hb OZ
section
variable{W0 w w': World}{ps : List Prv}{Γ : List Fact}
theorem St.pick(H:St W0 w ps Γ)(is js:yLN)(hi:is.map (fun i=>ps[i]?)=mR.map some:=by exact rfl)(hj:js.map (fun i=>Γ[i]?)=Γ'.map some:=by exact rfl)(hd:is.Nodup:=by decide):St W0 w mR Γ':=by
 have hl:is.length=mR.length:=by simpa using congrArg List.length hi
 have ei:∀k (hk:k<mR.length) (za :k<is.length),ps[is[k]]? =some mR[k]:=by
  intro k hk za
  have h1:(is.map<|fun i=>ps[i]?)[k]? =(mR.map some)[k]? :=by rw[hi]
  simpa [hk,za] using h1
 have B4:∀k b,yO mR k=some b->∃hk:k<is.length,yO ps is[k]=some b:=by
  intro k b h
  unfold yO at h
  cases hp:mR[k]? with
  |none=>simp[hp] at h
  |some p=>
   obtain⟨hk,e⟩:=List.getElem?_eq_some_iff.1 hp
   refine⟨by omega,?_⟩
   unfold yO
   rw[ei k hk qf,e]
   simpa [hp] using h
 refine⟨H.base,fun p hp=>?_,fun i j b h1 h2=>?_,fun f hf=>?_⟩
 ·have:some p∈mR.map some:=List.mem_map_of_mem hp
  rw[←hi] at this
  obtain⟨i,_,ox⟩:=List.mem_map.1 this
  exact H.has p<|List.mem_of_getElem? ox
 ·obtain⟨hk1,e1⟩:=B4 i b h1
  obtain⟨hk2,e2⟩:=B4 j b h2
  have e:=H.dist _ _ b e1 e2
  have hp:=List.pairwise_iff_getElem.1 hd
  rcases Nat.lt_trichotomy i j with h|h|h
  ·exact absurd e<|hp i j hk1 hk2 h
  ·exact h
  ·exact absurd e.symm<|hp j i hk2 hk1 h
 ·have:some f∈Γ'.map some:=List.mem_map_of_mem hf
  rw[←hj] at this
  obtain⟨i,_,ox⟩:=List.mem_map.1 this
  obtain⟨h1,h2⟩:=H.facts f<|List.mem_of_getElem? ox
  exact⟨h1,fun b hb=>⟨(h2 b hb).1,fun k hk=>by
   obtain⟨za,e⟩:=B4 k b hk
   exact(h2 b hb).2 _ e⟩⟩
theorem St.unfree{α:Type}[qX α](H:St W0 w ps Γ)(j:Nat){l:List α}(hf:Γ[j]? =some (xG fr F xs l)):St W0 w ps (xG false F xs l::Γ):=
 H.jO j hf _ ⟨(H.get j hf).1,by simp⟩ (fun b hb=>hb)
theorem St.unfreeI{α:Type}[qX α](H:St W0 w ps Γ)(j:Nat){l:α}(hf:Γ[j]? =some (isF fr F v l)):St W0 w ps (isF false F v l::Γ):=
 H.jO j hf _ ⟨(H.get j hf).1,by simp⟩ (fun b hb=>hb)
theorem St.repsCat{α:Type}[qX α](H:St W0 w ps Γ)(f0:Bool)(j:Nat){l:List α}(hf:Γ[j]? =some (xG fr F xs l))(m:Nat){l':List α}(hg:Γ[m]? =some (xG Jq G ys l'))(h3:f0=true->fr=true/\Jq =true):
 St W0 w ps (xG f0 (F++G) (xs++ys) (l++l')::Γ):=by
 refine H.add _ ⟨Qw (H.get j hf).1 (H.get m hg).1,fun e=>((H.get j hf).2 (h3 e).1).app ((H.get m hg).2 (h3 e).2)⟩ fun b hb=>?_
 rcases List.mem_append.1 hb with h|h
 ·exact(H.facts _<|List.mem_of_getElem? hf).2 b h
 ·exact(H.facts _<|List.mem_of_getElem? hg).2 b h
theorem reps_bools{w:World}:∀ {F:yLN} {vs:List Value} {l:List Bool},reps w F vs l->F=[]/\vs=l.map Value.bool
 |_,_,[],⟨hF,hv⟩=>⟨hF,hv⟩
 |_,_,x::l,⟨F1,F2,c1,c2,hF,hv,h1,h2⟩=>by
  obtain⟨e1,e2⟩:=reps_bools h2
  obtain⟨k1,k2⟩:F1=[]/\c1=[Bv x]:=h1
  subst e1 e2 k1 k2
  exact⟨hF,hv⟩
end
theorem catB(l m:List Bool):l.map Value.bool++m.map Value.bool=(l++m).map Value.bool:=by simp
section
variable{P : Program}{Q : Exit -> Act -> World -> Prop}{n : Nat}{ρ : Env}{W w : World}{d : Nat}{ty : TypeId}{pos : String}{af : Array Edge}{K : Env -> World -> Prop}{ps : List Prv}{Γ : List Fact}{S : World -> Prop}{gd : Option (Nat × Bool)}
theorem vg[Dfr]{xs:Array (Nat×Operand)}(cs:List Value)(ad:List (Nat×Value))(k:K (upd ρ d<|.agg cs.toArray) w)(hx:xs.toList.map (fun p=>(p.1,ev n ρ p.2))=ad:=by exact rfl)(h:P.built t ad=some cs.toArray:=by kernel_rfl):
 OW P Q ⟨some d,.build t xs,ty,pos,af,none⟩ n ρ w K:=by
 subst hx
 refine XW _ ?_ k
 have:=run_build (P:=P) w t (xs.map fun p=>(p.1,ev n ρ p.2)) cs.toArray<|by simpa using h
 simp[execOp,this]
theorem neg_i64{a:Int}(h: -9223372036854775807<=a/\a<=9223372036854775807):IntKind.i64.wrap (-a)= -a:=wrap_in qf
theorem run_neg{P:Program}{a:Int}(h: -9223372036854775807<=a/\a<=9223372036854775807):(Op.unary .neg<|.int .i64 a).run P w=.ok (.int .i64 (-a)) w:=by
 simp[Op.unary,Op.intArith,neg_i64 h]
theorem o_neg[Dfr](a:Int)(hx:ev n ρ x=.int .i64 a)(h: -9223372036854775807<=a/\a<=9223372036854775807)(k:K (upd ρ d<|.int .i64 (-a)) w):OW P Q ⟨some d,.unOp .neg t x,ty,pos,af,none⟩ n ρ w K:=
 XW _ (by simp[execOp,hx,run_neg h]) k
theorem y_neg(a:Int)(hx:ev n ρ x=.int .i64 a)(h: -9223372036854775807<=a/\a<=9223372036854775807):∀w',S w' ->(execOp (ev n ρ) ⟨some d,.unOp .neg t x,ty,pos,af,gd⟩).run P w'=.ok (.value<|.int .i64 (-a)) w':=
 fun w' _=>by simp[execOp,hx,run_neg h]
theorem o_quo[Dfr](a b:Int)(hx:ev n ρ x=.int .i64 a)(hy:ev n ρ y=.int .i64 b)(h0:0<=a/\a<=9223372036854775807)(h1:0<b)(k:K (upd ρ d<|.int .i64<|a / b) w):
 OW P Q ⟨some d,.binOp .quo t x y u,ty,pos,af,none⟩ n ρ w K:=
 XW _ (by
  have e:a.tdiv b=a / b:=Int.tdiv_eq_ediv_of_nonneg h0.1
  have e2:IntKind.i64.wrap (a / b)=a / b:=wrap_in ⟨by have:=Int.ediv_nonneg h0.1 (Int.le_of_lt h1);omega,by have:=Int.ediv_le_self b h0.1;omega⟩
  simp[execOp,hx,hy,eqGuard,binOp,Op.intDiv,show b≠0 by omega,e,e2]) k
theorem y_quo(a b:Int)(hx:ev n ρ x=.int .i64 a)(hy:ev n ρ y=.int .i64 b)(h0:0<=a/\a<=9223372036854775807)(h1:0<b):
 ∀w',S w' ->(execOp (ev n ρ) ⟨some d,.binOp .quo t x y u,ty,pos,af,gd⟩).run P w'=.ok (.value<|.int .i64<|a / b) w':=
 fun w' _=>by
  have e:a.tdiv b=a / b:=Int.tdiv_eq_ediv_of_nonneg h0.1
  have e2:IntKind.i64.wrap (a / b)=a / b:=wrap_in ⟨by have:=Int.ediv_nonneg h0.1 (Int.le_of_lt h1);omega,by have:=Int.ediv_le_self b h0.1;omega⟩
  simp[execOp,hx,hy,eqGuard,binOp,Op.intDiv,show b≠0 by omega,e,e2]
theorem max_if(x y:Int):(if y>x then y else x)=max x y:=by omega
theorem min_if(x y:Int):(if y<x then y else x)=min x y:=by omega
theorem o_min[Dfr](a b:Int)(hx:ev n ρ x=.int .i64 a)(hy:ev n ρ y=.int .i64 b)(k:K (upd ρ d<|.int .i64<|min a b) w):OW P Q ⟨some d,.call ⟨.builtin .min,#[x,y],ts⟩,ty,pos,af,none⟩ n ρ w K:=
 XW _ (by rw[←min_if];simp[execOp,resolve,invoke,builtin,hx,hy,run_min_int2]) k
theorem y_max(a b:Int)(hx:ev n ρ x=.int .i64 a)(hy:ev n ρ y=.int .i64 b):∀w',S w' ->(execOp (ev n ρ) ⟨some d,.call ⟨.builtin .max,#[x,y],ts⟩,ty,pos,af,gd⟩).run P w'=.ok (.value<|.int .i64<|max a b) w':=
 fun w' _=>by rw[←max_if];simp[execOp,resolve,invoke,builtin,hx,hy,run_max_int2]
theorem o_head[Dfr]{α:Type}[qX α]{l:List α}(H:St W w ps Γ)(i:Nat)(hf:Γ[i]? =some (isF fr F (Sv a m c) l))(kk:Nat)
 (hu:P.underlying t=some (.slice e)) (he:TI P e z (qX.size α) gj) (hx:ev n ρ x=Sv a m c) (hy:ev n ρ y=.int .i64 iv) (hv:iv=kk) (hk:kk<=l.length)
 (k:∀a' G,(∀b∈G,b∈F)->St W w ps (isF fr G (Sv a' (l.take kk).length c) (l.take kk)::Γ)->K (upd ρ d<|Sv a' (l.take kk).length c) w):
 OW P Q ⟨some d,.slice t x none (some y) none,ty,pos,af,none⟩ n ρ w K:=by
 subst hv
 obtain⟨⟨a0,c0,hc,⟨hl,akx⟩,h⟩,dq⟩:=H.get i hf
 simp only[List.cons.injEq,Value.slice.injEq,and_true] at hc
 obtain⟨rfl,rfl,rfl⟩:=hc
 have E9:(execOp (ev n ρ) ⟨some d,.slice t x none (some y) none,ty,pos,af,none⟩).run P w=
  .ok (.value (Sv (if c=0 then a else a.map (·.add 0)) kk c)) w:=by
  simp[execOp,hx,hy,Instr.sliceAt,Instr.slice,Instr.sliceBounds,Instr.sliceBound,asIntOf,run_underlying hu,he.sizeOf,show kk<=c by omega]
 have jj:(l.take kk).length=kk:=List.length_take_of_le hk
 have hlc:(l.take kk).length<=9223372036854775807/\(l.take kk).length<=c:=by rw[jj];omega
 refine XW _ E9 ?_
 rcases h with ⟨h0,hF⟩|⟨b,aF,F',vs,ha,hF,hb,hr,dp⟩
 ·have:=k (if c=0 then a else a.map (·.add 0)) [] qm (H.add _ ⟨⟨_,_,rfl,hlc,Or.inl ⟨by simp[h0],rfl⟩⟩,fun _=>yf.nil _⟩<|by simp[isF])
  rwa [jj] at this
 ·subst ha
  rw[←List.take_append_drop kk l] at hr
  obtain⟨F1,F2,v1,v2,e1,e2,r1,r2⟩:=reps_split _ hr
  have aJ:∀z∈b::F1,z∈F:=by
   intro z hz
   rw[hF,e1]
   simp only[List.mem_cons,List.mem_append] at hz ⊢
   rcases hz with h|h <;> simp[h]
  have anD:(if c=0 then some ⟨b,aF,none⟩ else (some (⟨b,aF,none⟩:Addr)).map (·.add 0))=some ⟨b,aF,none⟩:=by
   split <;> simp[Addr.add_mid]
  rw[anD]
  have:=k (some ⟨b,aF,none⟩) (b::F1) aJ<|H.jO i hf _ ⟨⟨_,_,rfl,hlc,Or.inr ⟨b,aF,F1,v1,rfl,rfl,hb,r1,?_⟩⟩,fun e=>(dq e).sub aJ⟩ aJ
  ·rwa [jj] at this
  ·intro j v hv
   refine dp j v ?_
   obtain⟨hj,_⟩:=List.getElem?_eq_some_iff.1 hv
   rw[e2,List.getElem?_append_left hj]
   exact hv
end
def Meet[Dfr](A:Env->World->Prop)(n:Nat):Exit->Act->World->Prop
 | .normal,a,w=>∃ρ,a=mk n ρ/\A ρ w
 |_,_,_=>False
theorem VD[Dfr]{P:Program}{Q:Exit->Act->World->Prop}{x:Code}(A:Env->World->Prop)(h1:x.wp P (Meet A n) (mk n ρ) w)(h2:∀ρ w,A ρ w->Q .normal (mk n ρ) w):x.wp P Q (mk n ρ) w:=by
 refine Code.wp_mono ?_ h1
 intro e a w h
 cases e with
 |normal=>obtain⟨ρ,rfl,hA⟩:=h;exact h2 ρ w hA
 |exit _=>exact h.elim
 |goto _=>exact h.elim
 |ret=>exact h.elim
 |panic _=>exact h.elim
 |outgrown=>exact h.elim
theorem meet[Dfr]{A:Env->World->Prop}(h:A ρ w):Meet A n .normal (mk n ρ) w:=⟨ρ,rfl,h⟩
theorem St.merge(H:St W0 w0 ps Γ)(K:St w0 w mR Γ')(M:Fresh w0.heap.size (Γ'.map Fact.F)):St W0 w (mR ++ps) (Γ' ++Γ):=by
 have WC:∀f∈Γ',∀b∈f.F,w0.heap.size<=b:=fun f hf b hb=>M.ge f.F (List.mem_map_of_mem hf) b hb
 have wT:∀i b,yO (mR ++ps) i=some b->(i<mR.length/\yO mR i=some b/\w0.heap.size<=b)\/(mR.length<=i/\yO ps (i-mR.length)=some b/\b<w0.heap.size):=by
  intro i b h
  rcases Nat.lt_or_ge i mR.length with hi|hi
  ·have:yO mR i=some b:=by unfold yO at h ⊢;rwa [List.getElem?_append_left hi] at h
   exact Or.inl ⟨hi,this,(blkAt_has K this).1⟩
  ·have:yO ps (i-mR.length)=some b:=by unfold yO at h ⊢;rwa [List.getElem?_append_right hi] at h
   exact Or.inr ⟨hi,this,(blkAt_has H this).2⟩
 refine⟨Ext.trans' H.base K.base,fun p hp=>?_,fun i j b hi hj=>?_,fun f hf=>?_⟩
 ·rcases List.mem_append.1 hp with h|h
  ·have hk:=K.has p h
   cases p with
   |box b cs t=>exact⟨Nat.le_trans H.base.size hk.1,hk.2⟩
   |row v e sz n xs=>exact ownsRow_up hk H.base.size
  ·exact(H.has p h).stay fun b hb=>K.base.block b ((H.has p h).lt hb).2
 ·rcases wT i b hi with ⟨h1,h2,h3⟩|⟨h1,h2,h3⟩ <;> rcases wT j b hj with ⟨k1,k2,k3⟩|⟨k1,k2,k3⟩
  ·exact K.dist i j b h2 k2
  ·omega
  ·omega
  ·have:=H.dist _ _ b h2 k2;omega
 ·rcases List.mem_append.1 hf with h|h
  ·obtain⟨h1,h2⟩:=K.facts f h
   exact⟨h1,fun b hb=>⟨(h2 b hb).1,fun i hi=>by
    rcases wT i b hi with ⟨_,k,_⟩|⟨_,_,k⟩
    ·exact(h2 b hb).2 i k
    ·have:=WC f h b hb;omega⟩⟩
  ·obtain⟨h1,h2⟩:=H.facts f h
   exact⟨f.stay w0 w h1 fun b hb=>K.base.block b (h2 b hb).1,fun b hb=>⟨Nat.lt_of_lt_of_le (h2 b hb).1 K.base.size,fun i hi=>by
    rcases wT i b hi with ⟨_,_,k⟩|⟨_,k,_⟩
    ·have:=(h2 b hb).1;omega
    ·exact(h2 b hb).2 _ k⟩⟩
theorem Fresh.merge{C:Nat}(N:Fresh B L)(h:B<=C)(hl:∀F∈L,∀b∈F,b<C)(M:Fresh C L'):Fresh B (L' ++L):=by
 refine⟨fun F hF=>?_,fun F hF b hb=>?_,List.pairwise_append.2 ⟨M.dj,N.dj,fun F hF G hG b hb hbG=>by have:=M.ge F hF b hb;have:=hl G hG b hbG;omega⟩⟩
 ·rcases List.mem_append.1 hF with k|k
  ·exact M.nd F k
  ·exact N.nd F k
 ·rcases List.mem_append.1 hF with k|k
  ·exact Nat.le_trans h<|M.ge F k b hb
  ·exact N.ge F k b hb
theorem St.mergeIn(H:St W0 w0 ps Γ)(K:St w0 w mR [f])(j:Nat)(hg:Γ[j]? =some g)(hF:∀b∈f.F,b∈g.F):St W0 w (mR ++ps) (f::Γ):=by
 have H1:St W0 w (mR ++ps) ([]++Γ):=St.merge H (K.sub [] qm)<|Fresh.nil _
 exact H1.jO j hg f (K.get 0 rfl) hF
theorem pick_some{α:Type}(l:List α):∀(is:yLN),is.all (fun i=>Nat.blt i l.length)=true->is.map (fun i=>l[i]?)=(is.filterMap fun i=>l[i]?).map some
 | [],_=>rfl
 |i::is,h=>by
  simp only[List.all_cons,Bool.and_eq_true] at h
  have hi:i<l.length:=by simpa [Nat.blt_eq] using h.1
  simp[List.getElem?_eq_getElem hi,pick_some l is h.2]
theorem St.jF(H:St W0 w ps Γ)(is js:yLN)(hi:is.all (fun i=>Nat.blt i ps.length)=true:=by exact rfl)(hj:js.all (fun i=>Nat.blt i Γ.length)=true:=by exact rfl)(hd:is.Nodup:=by decide):
 St W0 w (is.filterMap fun i=>ps[i]?) (js.filterMap fun i=>Γ[i]?):=H.pick is js (pick_some ps is hi) (pick_some Γ js hj) hd
theorem Qd[Dfr]{P:Program}{Q:Exit->Act->World->Prop}{l:List Oper}(hm:P.follows .mixedOrders=true)(H:St W0 w ps Γ)(is:yLN)
 (k:St W0 w.drew ps Γ->RW P l Q (fun w=>St W0 w (is.filterMap fun i=>ps[i]?) Γ) n l.toArray.size (Array.replicate l.toArray.size false) ρ w.drew)
 (hi:is.all (fun i=>Nat.blt i ps.length)=true:=by exact rfl) (hd:is.Nodup:=by decide):(Code.region id l.toArray true).wp P Q (mk n ρ) w:=by
 have H':=H.ext<|ext_drew _
 refine c_draw (fun w=>St W0 w (is.filterMap fun i=>ps[i]?) Γ) hm ?_<|k H'
 exact H'.pick is (List.range Γ.length) (pick_some ps is hi) (by
  apply List.ext_getElem?
  intro i
  rcases Nat.lt_or_ge i Γ.length with h|h
  ·simp[h]
  ·simp[h]) hd
theorem St.VX{α:Type}[qX α](H:St W0 w ps Γ)(f0:Bool)(j:Nat){x:α}(hf:Γ[j]? =some (isF fr F v x))(m:Nat){l:List α}(hg:Γ[m]? =some (xG Jq G ys l))(h3:f0=true->fr=true/\Jq =true):
 St W0 w ps (xG f0 (F++G) (v::ys) (x::l)::Γ):=by
 refine H.add _ ⟨⟨F,G,[v],ys,rfl,rfl,(H.get j hf).1,(H.get m hg).1⟩,fun e=>((H.get j hf).2 (h3 e).1).app ((H.get m hg).2 (h3 e).2)⟩ fun b hb=>?_
 rcases List.mem_append.1 hb with h|h
 ·exact(H.facts _<|List.mem_of_getElem? hf).2 b h
 ·exact(H.facts _<|List.mem_of_getElem? hg).2 b h
section
variable{P : Program}{Q : Exit -> Act -> World -> Prop}{n : Nat}{ρ : Env}{W0 w : World}{ps : List Prv}{Γ : List Fact}
 {d:Nat} {ty:TypeId} {pos:String} {af:Array Edge} {K:Env->World->Prop}
theorem zN[Dfr](H:St W0 w ps Γ)(cs:List Value)(k:∀b w',St W0 w' (.box b cs t::ps) Γ->K (upd ρ d<|.pointer<|some ⟨b,0,none⟩) w')
 (hx:ev n ρ x=v:=by exact rfl) (hc:v.cells.toList=cs:=by exact rfl):OW P Q ⟨some d,.box t x,ty,pos,af,none⟩ n ρ w K:=by
 subst hc
 exact o_box H v hx k
theorem xg[Dfr](H:St W0 w ps Γ)(ht:TI P t z m gj)(cs:List Value)(k:∀b w',St W0 w' (.box b cs t::ps) Γ->K (upd ρ d<|.pointer<|some ⟨b,0,none⟩) w')
 (hc:z.cells.toList=cs:=by exact rfl):OW P Q ⟨some d,.alloc t,ty,pos,af,none⟩ n ρ w K:=by
 subst hc
 exact o_alloc H ht k
theorem xx[Dfr](H:St W0 w ps Γ)(i:Nat)(KZ :List Value)(hs:∀w,(Go.sizeOf t).run P w=.ok m w)
 (k:∀w',St W0 w' (ps.set i<|.box b KZ tb) Γ->K ρ w') (hx:ev n ρ x=.pointer (some ⟨b,aF,none⟩):=by exact rfl) (hy:ev n ρ y=v:=by exact rfl) (hm:v.cells.size=m:=by exact rfl) (hp:ps[i]? =some (.box b cs tb):=by exact rfl)
 (h1:KZ.all Value.oneCell'=true:=by exact rfl) (ho:aF+v.cells.size<=cs.length:=by exact Nat.le_of_ble_eq_true rfl)
 (hc:cs.take aF++v.cells.toList++cs.drop (aF+v.cells.size)=KZ :=by exact rfl):OW P Q ⟨none,.store t x y,ty,pos,af,none⟩ n ρ w K:=by
 subst hc hm
 exact o_store H i hp v hs hx hy (fun u hu=>List.all_eq_true.1 h1 u (by simp at hu ⊢;simp[hu])) ho k
theorem xn[Dfr](H:St W0 w ps Γ)(i:Nat)(KZ :List Value)(hs:∀w,(Go.sizeOf t).run P w=.ok 1 w)
 (k:∀w',St W0 w' (ps.set i<|.box b KZ tb) Γ->K ρ w') (hx:ev n ρ x=.pointer (some ⟨b,aF,none⟩):=by exact rfl) (hy:ev n ρ y=v:=by exact rfl) (hp:ps[i]? =some (.box b cs tb):=by exact rfl)
 (h1:v.oneCell'=true:=by exact rfl) (ho:aF<cs.length:=by exact Nat.le_of_ble_eq_true rfl) (hc:cs.set aF v=KZ :=by exact rfl):OW P Q ⟨none,.store t x y,ty,pos,af,none⟩ n ρ w K:=by
 subst hc
 exact o_store1 H i hp v hs hx hy h1 ho k
theorem zl[Dfr](H:St W0 w ps Γ)(hu:P.underlying t=some (.slice e))(he:TI P e z sz gj)(cs:List Value)
 (k:∀b w',St W0 w' (.box b cs e::ps) Γ->K (upd ρ d<|Sv (some ⟨b,0,none⟩) 1 1) w') (hx:ev n ρ x=v:=by exact rfl) (h0:0<sz:=by decide) (hs:sz<=16777216:=by decide) (hv:v.cells.size=sz:=by exact rfl) (hc:v.cells.toList=cs:=by exact rfl):
 OW P Q ⟨some d,.buildSlice t 1 #[(0,x)],ty,pos,af,none⟩ n ρ w K:=by
 subst hc
 exact o_build1 H hu he h0 hs v hx hv k
end
section
variable{W0 w : World}{ps : List Prv}{Γ : List Fact}
theorem St.nilRowI(H:St W0 w ps Γ)(e:TypeId):St W0 w (.row (Sv none 0 0) e 1 0 (([]:yLI).map<|Value.int .i64)::ps) Γ:=H.nilRow e 1
theorem St.nilRowB(H:St W0 w ps Γ)(e:TypeId):St W0 w (.row (Sv none 0 0) e 1 0 (([]:List Bool).map Value.bool)::ps) Γ:=H.nilRow e 1
theorem St.boxRowI(H:St W0 w ps Γ)(i:Nat)(l:yLI)(nn:Nat)(hp:ps[i]? =some (.box b (l.map<|Value.int .i64) e):=by exact rfl)(hl:l.length=nn:=by exact rfl)(hm:nn<=maxLen:=by decide):
 St W0 w (ps.set i<|.row (Sv (some ⟨b,0,none⟩) nn nn) e 1 nn<|l.map<|Value.int .i64) Γ:=H.boxRow i hp 1 nn (by simp[hl]) hm
theorem St.boxRowB(H:St W0 w ps Γ)(i:Nat)(l:List Bool)(nn:Nat)(hp:ps[i]? =some (.box b (l.map Value.bool) e):=by exact rfl)(hl:l.length=nn:=by exact rfl)(hm:nn<=maxLen:=by decide):
 St W0 w (ps.set i<|.row (Sv (some ⟨b,0,none⟩) nn nn) e 1 nn<|l.map Value.bool) Γ:=H.boxRow i hp 1 nn (by simp[hl]) hm
def zU:yLN->List Prv->List Prv
 | [],ps=>ps
 |i::is,ps=>zU is<|ps.eraseIdx i
theorem St.erases:∀(is:yLN) {ps:List Prv},St W0 w ps Γ->St W0 w (zU is ps) Γ
 | [],_,H=>H
 |i::is,ps,H=>St.erases is<|H.sel _ (List.eraseIdx_sublist ps i) _ fun f h=>h
end
end
section
class FldC(P:Program)(t:TypeId)(i:Nat)(j:outParam Nat):Prop where
 out:∃(fs:Array Field) (f:Field) (m:Nat),P.underlying t=some (.struct fs)/\fs[i]? =some f/\f.offset=j/\∀w,(Go.sizeOf f.type).run P w=.ok (m+1) w
class SclC(P:Program)(t:TypeId):Prop where
 out:∀w,(isAgg t).run P w=.ok false w
class SliC(P:Program)(t:TypeId)(e:outParam TypeId):Prop where
 out:P.underlying t=some (.slice e)
class TIC(P:Program)(t:TypeId)(z:outParam Value)(sz gj :outParam Nat):Prop where
 out:TI P t z sz gj
class QY(P:Program)(f:FuncId):Prop where
 out:∀args w,(callFunc f args).run P w=.ok (.enter f args) w
section
variable{P : Program}{kE : Array Oper}{Q : Exit -> Act -> World -> Prop}{n : Nat}{ρ : Env}{W0 w : World}{ai : List Oper}{ps : List Prv}{Γ : List Fact}
 {d:Nat} {op:Op} {ty:TypeId} {pos:String} {af:Array Edge} {K:Env->World->Prop} {S:World->Prop} {l:List Oper} {fuel:Nat} {ao:Array Bool}
theorem en{f:FuncId}{fn:Func}{c:Code}{R:Ending->World->Prop}(hf:P.funcs[f]? =some fn)(hn:fn.ntmps=n)(h:c.wp P (bodyPost P fn R) (mk n<|env0 args.toList) w)
 (hb:fn.body=some c:=by exact rfl) (hs:args.size<=n:=by exact Nat.le_of_ble_eq_true rfl):Calls P f args w R:=enter hf hb hn hs h
theorem oF[Dfr][hF:FldC P t i j](hx:ev n ρ x=.pointer (some ⟨b,aF,none⟩))(k:WL P kE Q n ai (upd ρ d<|.pointer<|some ⟨b,aF+j,none⟩) w):
 WL P kE Q n (⟨some d,.fieldAddr t x i,ty,pos,af,none⟩::ai) ρ w:=by
 obtain⟨fs,f,m,h1,h2,h3,h4⟩:=hF.out
 exact sw<|o_field b aF j h1 h2 h3 h4 hx k
theorem oL[Dfr][hA:SclC P t](hx:ev n ρ x=.pointer (some ⟨b,aF,none⟩))(hc:w.cell? ⟨b,aF,none⟩=some v)(k:WL P kE Q n ai (upd ρ d v) w):
 WL P kE Q n (⟨some d,.load t x,ty,pos,af,none⟩::ai) ρ w:=sw<|zB v hA.out hx hc k
theorem oN[Dfr][hS:SliC P t e](hx:ev n ρ x=Sv a m c)(k:WL P kE Q n ai (upd ρ d<|.int .i64 m) w):
 WL P kE Q n (⟨some d,.call ⟨.builtin .len,#[x],#[t]⟩,ty,pos,af,none⟩::ai) ρ w:=sw<|o_len hS.out a m c hx k
theorem oI[Dfr][hS:SliC P t e][hT:TIC P e z sz gj](hx:ev n ρ x=Sv (some ⟨b,aF,none⟩) m c)(hy:ev n ρ y=.int .i64 iv)
 (k:WL P kE Q n ai (upd ρ d<|.pointer<|some ⟨b,aF+iv.toNat*sz,none⟩) w) (h0:0<=iv:=by omega) (h1:iv<m:=by omega):WL P kE Q n (⟨some d,.indexAddr t x y,ty,pos,af,none⟩::ai) ρ w:=
 sw (o_idxAt iv hS.out hT.out hx hy h0 h1 k)
theorem tF[Dfr](i:Nat)(hi:l.toArray[i]? =some ⟨some d,.fieldAddr t x j,ty,pos,af,none⟩)[hF:FldC P t j k](hx:ev n ρ x=.pointer (some ⟨b,aF,none⟩))(hS:S w)
 (h:RW P l Q S n fuel (ao.setIfInBounds i true) (upd ρ d<|.pointer<|some ⟨b,aF+k,none⟩) w) (hk:takeOk l ao i=true:=by kernel_rfl)
 (hQ:NoPanic Q d (.pointer<|some ⟨b,aF+k,none⟩):=by exact fun _ _ _ h=>h):RW P l Q S n (fuel+1) ao ρ w:=by
 obtain⟨fs,f,m,h1,h2,h3,h4⟩:=hF.out
 exact rt i _ (y_field b aF k h1 h2 h3 h4 hx) hS h hi hk hQ
theorem tL[Dfr](i:Nat)(hi:l.toArray[i]? =some ⟨some d,.load t x,ty,pos,af,none⟩)[hA:SclC P t](hx:ev n ρ x=.pointer (some ⟨b,aF,none⟩))
 (hc:∀w',S w' ->w'.cell? ⟨b,aF,none⟩=some v) (hS:S w) (h:RW P l Q S n fuel (ao.setIfInBounds i true) (upd ρ d v) w) (hk:takeOk l ao i=true:=by kernel_rfl)
 (hQ:NoPanic Q d v:=by exact fun _ _ _ h=>h):RW P l Q S n (fuel+1) ao ρ w:=rt i v (y_load1 hA.out hx hc) hS h hi hk hQ
theorem tN[Dfr](i:Nat)(hi:l.toArray[i]? =some ⟨some d,.call ⟨.builtin .len,#[x],#[t]⟩,ty,pos,af,none⟩)[hL:SliC P t e](hx:ev n ρ x=Sv a m c)(hS:S w)
 (h:RW P l Q S n fuel (ao.setIfInBounds i true) (upd ρ d<|.int .i64 m) w) (hk:takeOk l ao i=true:=by kernel_rfl) (hQ:NoPanic Q d (.int .i64 m):=by exact fun _ _ _ h=>h):
 RW P l Q S n (fuel+1) ao ρ w:=rt i _ (y_len hL.out a m c hx) hS h hi hk hQ
theorem tI[Dfr](i:Nat)(hi:l.toArray[i]? =some ⟨some d,.indexAddr t x y,ty,pos,af,none⟩)[hL:SliC P t e][hT:TIC P e z sz gj]
 (hx:ev n ρ x=Sv (some ⟨b,aF,none⟩) m c) (hy:ev n ρ y=.int .i64 iv) (hS:S w) (h:RW P l Q S n fuel (ao.setIfInBounds i true) (upd ρ d<|.pointer<|some ⟨b,aF+iv.toNat*sz,none⟩) w)
 (h0:0<=iv:=by omega) (h1:iv<m:=by omega) (hk:takeOk l ao i=true:=by kernel_rfl) (hQ:NoPanic Q d (.pointer<|some ⟨b,aF+iv.toNat*sz,none⟩):=by exact fun _ _ _ h=>h):RW P l Q S n (fuel+1) ao ρ w:=
 rt i _ (y_idxAt b aF m c iv hL.out hT.out hx hy h0 h1) hS h hi hk hQ
theorem gF[Dfr]{e:Nat}(i:Nat)(hi:l.toArray[i]? =some ⟨some d,.fieldAddr t x j,ty,pos,af,some (i',bb)⟩)[hF:FldC P t j k](hx:ev n ρ x=.pointer (some ⟨b,aF,none⟩))(hS:S w)
 (h:RW P l Q S n fuel (ao.setIfInBounds i true) (upd ρ d<|.pointer<|some ⟨b,aF+k,none⟩) w) (hk:takeOk l ao i=true:=by kernel_rfl)
 (hd:dstAt l i'=some e:=by exact rfl) (hv:ev n ρ (.tmp e)=Bv bb:=by exact rfl) (hQ:NoPanic Q d (.pointer<|some ⟨b,aF+k,none⟩):=by exact fun _ _ _ h=>h):RW P l Q S n (fuel+1) ao ρ w:=by
 obtain⟨fs,f,m,h1,h2,h3,h4⟩:=hF.out
 exact rg i _ e (y_field b aF k h1 h2 h3 h4 hx) hS h hi hk hd hv hQ
theorem gL[Dfr]{e:Nat}(i:Nat)(hi:l.toArray[i]? =some ⟨some d,.load t x,ty,pos,af,some (i',bb)⟩)[hA:SclC P t](hx:ev n ρ x=.pointer (some ⟨b,aF,none⟩))
 (hc:∀w',S w' ->w'.cell? ⟨b,aF,none⟩=some v) (hS:S w) (h:RW P l Q S n fuel (ao.setIfInBounds i true) (upd ρ d v) w) (hk:takeOk l ao i=true:=by kernel_rfl)
 (hd:dstAt l i'=some e:=by exact rfl) (hv:ev n ρ (.tmp e)=Bv bb:=by exact rfl) (hQ:NoPanic Q d v:=by exact fun _ _ _ h=>h):RW P l Q S n (fuel+1) ao ρ w:=
 rg i v e (y_load1 hA.out hx hc) hS h hi hk hd hv hQ
theorem gN[Dfr]{e:Nat}(i:Nat)(hi:l.toArray[i]? =some ⟨some d,.call ⟨.builtin .len,#[x],#[t]⟩,ty,pos,af,some (i',bb)⟩)[hL:SliC P t e'](hx:ev n ρ x=Sv a m c)(hS:S w)
 (h:RW P l Q S n fuel (ao.setIfInBounds i true) (upd ρ d<|.int .i64 m) w) (hk:takeOk l ao i=true:=by kernel_rfl)
 (hd:dstAt l i'=some e:=by exact rfl) (hv:ev n ρ (.tmp e)=Bv bb:=by exact rfl) (hQ:NoPanic Q d (.int .i64 m):=by exact fun _ _ _ h=>h):
 RW P l Q S n (fuel+1) ao ρ w:=rg i _ e (y_len hL.out a m c hx) hS h hi hk hd hv hQ
theorem gI[Dfr]{e:Nat}(i:Nat)(hi:l.toArray[i]? =some ⟨some d,.indexAddr t x y,ty,pos,af,some (i',bb)⟩)[hL:SliC P t e'][hT:TIC P e' z sz gj]
 (hx:ev n ρ x=Sv (some ⟨b,aF,none⟩) m c) (hy:ev n ρ y=.int .i64 iv) (hS:S w) (h:RW P l Q S n fuel (ao.setIfInBounds i true) (upd ρ d<|.pointer<|some ⟨b,aF+iv.toNat*sz,none⟩) w)
 (h0:0<=iv:=by omega) (h1:iv<m:=by omega) (hk:takeOk l ao i=true:=by kernel_rfl)
 (hd:dstAt l i'=some e:=by exact rfl) (hv:ev n ρ (.tmp e)=Bv bb:=by exact rfl) (hQ:NoPanic Q d (.pointer<|some ⟨b,aF+iv.toNat*sz,none⟩):=by exact fun _ _ _ h=>h):RW P l Q S n (fuel+1) ao ρ w:=
 rg i _ e (y_idxAt b aF m c iv hL.out hT.out hx hy h0 h1) hS h hi hk hd hv hQ
theorem oc[Dfr]{xs:Array Operand}{ts:Array TypeId}{f:FuncId}{R:Value->World->Prop}[hC:QY P f]
 (hc:Calls P f args w fun e w'=>∃v,e=.returned v/\R v w' /\Ext w w') (k:∀v w',R v w' ->Ext w w' ->K (upd ρ d v) w')
 (hv:ev n ρ x=.func (.func f) fst mu:=by exact rfl) (kM:fst.toList++xs.toList.map (ev n ρ)++mu.toList=args.toList:=by exact rfl):
 OW P Q ⟨some d,.call ⟨.value x,xs,ts⟩,ty,pos,af,none⟩ n ρ w K:=o_call args hv kM hC.out hc k
theorem oq[Dfr]{xs:Array Operand}{ts:Array TypeId}{f:FuncId}{val:Value}[hC:QY P f]
 (hc:Calls P f args w (Ret (fun v _=>v=val) w)) (H:St W0 w ps Γ) (k:∀w',St W0 w' ps Γ->K (upd ρ d val) w')
 (hv:ev n ρ x=.func (.func f) fst mu:=by exact rfl) (kM:fst.toList++xs.toList.map (ev n ρ)++mu.toList=args.toList:=by exact rfl):
 OW P Q ⟨some d,.call ⟨.value x,xs,ts⟩,ty,pos,af,none⟩ n ρ w K:=oc hc (fun _ w' e h=>e▸k w' (H.ext h)) hv kM
end
section
variable{W0 w : World}{ps : List Prv}{Γ : List Fact}
theorem St.zS(H:St W0 w ps Γ)(i:Nat)(hf:Γ[i]? =some (isF fr F (Sv (some ⟨b,o,none⟩) m c) l))(k:Nat)(h1:k<l.length):
 w.cell? ⟨b,o+(k:Int).toNat*1,none⟩=some (.int .i64<|l[k]!):=H.elemInt i hf (k:Int) qf qf
theorem St.elemBoolN(H:St W0 w ps Γ)(i:Nat){l:List Bool}(hf:Γ[i]? =some (isF fr F (Sv (some ⟨b,o,none⟩) m c) l))(k:Nat)(h1:k<l.length):
 w.cell? ⟨b,o+(k:Int).toNat*1,none⟩=some (Bv<|l[k]!):=H.elemBool i hf (k:Int) qf qf
end
section
variable{P : Program}{Q : Exit -> Act -> World -> Prop}{n : Nat}{ρ : Env}{w : World}{x : Operand}{y z : Code}
theorem cD[Dfr][Decidable p](hc:ev n ρ x=Bv (decide p))(h1:p->y.wp P Q (mk n ρ) w)(h2:¬p->z.wp P Q (mk n ρ) w):(Code.cond x y z).wp P Q (mk n ρ) w:=zX _ hc (fun h=>h1<|of_decide_eq_true h) fun h=>h2<|of_decide_eq_false h
theorem cE[Dfr]{a b:Int}(hc:ev n ρ x=Bv (a == b))(h1:a=b->y.wp P Q (mk n ρ) w)(h2:a≠b->z.wp P Q (mk n ρ) w):(Code.cond x y z).wp P Q (mk n ρ) w:=zX _ hc (fun h=>h1<|eq_of_beq h) fun h=>h2<|ne_of_beq_false h
theorem cP[Dfr](hc:ev n ρ x=Bv (dec p))(h1:p->y.wp P Q (mk n ρ) w)(h2:¬p->z.wp P Q (mk n ρ) w):(Code.cond x y z).wp P Q (mk n ρ) w:=zX _ hc (fun h=>h1<|Qc h) fun h=>h2<|vF h
theorem cQ[Dfr](hc:ev n ρ x=Bv (!(dec p)))(h1:¬p->y.wp P Q (mk n ρ) w)(h2:p->z.wp P Q (mk n ρ) w):(Code.cond x y z).wp P Q (mk n ρ) w:=zX _ hc (fun h=>h1<|vF<|x8 h) fun h=>h2<|Qc<|xO h
theorem ro[Dfr]{l:List Oper}{S:World->Prop}{fuel:Nat}{ao:Array Bool}{op:Op}{pos:String}{af:Array Edge}(i:Nat)(hi:l.toArray[i]? =some ⟨dst,op,ty,pos,af,none⟩)
 (h:OW P Q ⟨dst,op,ty,pos,af,none⟩ n ρ w fun ρ w=>S w/\RW P l Q S n fuel (ao.setIfInBounds i true) ρ w) (hr:Region.ready .any l.toArray ao=[i]:=by kernel_rfl):RW P l Q S n (fuel+1) ao ρ w:=
 zY [i] hr qm (vG hi h zZ)
end
theorem uE1(h1:ρ d1=v1:=by rfl):ρ=upd ρ d1 v1:=zy rfl h1
theorem uE2(h1:ρ d1=v1:=by rfl)(h2:ρ d2=v2:=by rfl):ρ=upd (upd ρ d1 v1) d2 v2:=zy (zy rfl h1) h2
theorem uE3(h1:ρ d1=v1:=by rfl)(h2:ρ d2=v2:=by rfl)(h3:ρ d3=v3:=by rfl):ρ=upd (upd (upd ρ d1 v1) d2 v2) d3 v3:=zy (zy (zy rfl h1) h2) h3
theorem uE4(h1:ρ d1=v1:=by rfl)(h2:ρ d2=v2:=by rfl)(h3:ρ d3=v3:=by rfl)(h4:ρ d4=v4:=by rfl):ρ=upd (upd (upd (upd ρ d1 v1) d2 v2) d3 v3) d4 v4:=zy (zy (zy (zy rfl h1) h2) h3) h4
theorem uE5(h1:ρ d1=v1:=by rfl)(h2:ρ d2=v2:=by rfl)(h3:ρ d3=v3:=by rfl)(h4:ρ d4=v4:=by rfl)(h5:ρ d5=v5:=by rfl):ρ=upd (upd (upd (upd (upd ρ d1 v1) d2 v2) d3 v3) d4 v4) d5 v5:=zy (zy (zy (zy (zy rfl h1) h2) h3) h4) h5
theorem uE6(h1:ρ d1=v1:=by rfl)(h2:ρ d2=v2:=by rfl)(h3:ρ d3=v3:=by rfl)(h4:ρ d4=v4:=by rfl)(h5:ρ d5=v5:=by rfl)(h6:ρ d6=v6:=by rfl):ρ=upd (upd (upd (upd (upd (upd ρ d1 v1) d2 v2) d3 v3) d4 v4) d5 v5) d6 v6:=zy (zy (zy (zy (zy (zy rfl h1) h2) h3) h4) h5) h6
theorem uE7(h1:ρ d1=v1:=by rfl)(h2:ρ d2=v2:=by rfl)(h3:ρ d3=v3:=by rfl)(h4:ρ d4=v4:=by rfl)(h5:ρ d5=v5:=by rfl)(h6:ρ d6=v6:=by rfl)(h7:ρ d7=v7:=by rfl):ρ=upd (upd (upd (upd (upd (upd (upd ρ d1 v1) d2 v2) d3 v3) d4 v4) d5 v5) d6 v6) d7 v7:=zy (zy (zy (zy (zy (zy (zy rfl h1) h2) h3) h4) h5) h6) h7
theorem uE8(h1:ρ d1=v1:=by rfl)(h2:ρ d2=v2:=by rfl)(h3:ρ d3=v3:=by rfl)(h4:ρ d4=v4:=by rfl)(h5:ρ d5=v5:=by rfl)(h6:ρ d6=v6:=by rfl)(h7:ρ d7=v7:=by rfl)(h8:ρ d8=v8:=by rfl):ρ=upd (upd (upd (upd (upd (upd (upd (upd ρ d1 v1) d2 v2) d3 v3) d4 v4) d5 v5) d6 v6) d7 v7) d8 v8:=zy (zy (zy (zy (zy (zy (zy (zy rfl h1) h2) h3) h4) h5) h6) h7) h8
theorem uE9(h1:ρ d1=v1:=by rfl)(h2:ρ d2=v2:=by rfl)(h3:ρ d3=v3:=by rfl)(h4:ρ d4=v4:=by rfl)(h5:ρ d5=v5:=by rfl)(h6:ρ d6=v6:=by rfl)(h7:ρ d7=v7:=by rfl)(h8:ρ d8=v8:=by rfl)(h9:ρ d9=v9:=by rfl):ρ=upd (upd (upd (upd (upd (upd (upd (upd (upd ρ d1 v1) d2 v2) d3 v3) d4 v4) d5 v5) d6 v6) d7 v7) d8 v8) d9 v9:=zy (zy (zy (zy (zy (zy (zy (zy (zy rfl h1) h2) h3) h4) h5) h6) h7) h8) h9
theorem uE10(h1:ρ d1=v1:=by rfl)(h2:ρ d2=v2:=by rfl)(h3:ρ d3=v3:=by rfl)(h4:ρ d4=v4:=by rfl)(h5:ρ d5=v5:=by rfl)(h6:ρ d6=v6:=by rfl)(h7:ρ d7=v7:=by rfl)(h8:ρ d8=v8:=by rfl)(h9:ρ d9=v9:=by rfl)(bx:ρ GV=GR:=by rfl):ρ=upd (upd (upd (upd (upd (upd (upd (upd (upd (upd ρ d1 v1) d2 v2) d3 v3) d4 v4) d5 v5) d6 v6) d7 v7) d8 v8) d9 v9) GV GR:=zy (zy (zy (zy (zy (zy (zy (zy (zy (zy rfl h1) h2) h3) h4) h5) h6) h7) h8) h9) bx
theorem uE11(h1:ρ d1=v1:=by rfl)(h2:ρ d2=v2:=by rfl)(h3:ρ d3=v3:=by rfl)(h4:ρ d4=v4:=by rfl)(h5:ρ d5=v5:=by rfl)(h6:ρ d6=v6:=by rfl)(h7:ρ d7=v7:=by rfl)(h8:ρ d8=v8:=by rfl)(h9:ρ d9=v9:=by rfl)(bx:ρ GV=GR:=by rfl)(aV:ρ KS=KR:=by rfl):ρ=upd (upd (upd (upd (upd (upd (upd (upd (upd (upd (upd ρ d1 v1) d2 v2) d3 v3) d4 v4) d5 v5) d6 v6) d7 v7) d8 v8) d9 v9) GV GR) KS KR:=zy (zy (zy (zy (zy (zy (zy (zy (zy (zy (zy rfl h1) h2) h3) h4) h5) h6) h7) h8) h9) bx) aV
theorem uE12(h1:ρ d1=v1:=by rfl)(h2:ρ d2=v2:=by rfl)(h3:ρ d3=v3:=by rfl)(h4:ρ d4=v4:=by rfl)(h5:ρ d5=v5:=by rfl)(h6:ρ d6=v6:=by rfl)(h7:ρ d7=v7:=by rfl)(h8:ρ d8=v8:=by rfl)(h9:ρ d9=v9:=by rfl)(bx:ρ GV=GR:=by rfl)(aV:ρ KS=KR:=by rfl)(cZ:ρ OL=OC:=by rfl):ρ=upd (upd (upd (upd (upd (upd (upd (upd (upd (upd (upd (upd ρ d1 v1) d2 v2) d3 v3) d4 v4) d5 v5) d6 v6) d7 v7) d8 v8) d9 v9) GV GR) KS KR) OL OC:=zy (zy (zy (zy (zy (zy (zy (zy (zy (zy (zy (zy rfl h1) h2) h3) h4) h5) h6) h7) h8) h9) bx) aV) cZ
theorem uE14(h1:ρ d1=v1:=by rfl)(h2:ρ d2=v2:=by rfl)(h3:ρ d3=v3:=by rfl)(h4:ρ d4=v4:=by rfl)(h5:ρ d5=v5:=by rfl)(h6:ρ d6=v6:=by rfl)(h7:ρ d7=v7:=by rfl)(h8:ρ d8=v8:=by rfl)(h9:ρ d9=v9:=by rfl)(bx:ρ GV=GR:=by rfl)(aV:ρ KS=KR:=by rfl)(cZ:ρ OL=OC:=by rfl)(dS:ρ W3=Kt:=by rfl)(eE:ρ We=KO:=by rfl):ρ=upd (upd (upd (upd (upd (upd (upd (upd (upd (upd (upd (upd (upd (upd ρ d1 v1) d2 v2) d3 v3) d4 v4) d5 v5) d6 v6) d7 v7) d8 v8) d9 v9) GV GR) KS KR) OL OC) W3 Kt) We KO:=zy (zy (zy (zy (zy (zy (zy (zy (zy (zy (zy (zy (zy (zy rfl h1) h2) h3) h4) h5) h6) h7) h8) h9) bx) aV) cZ) dS) eE
theorem uE17(h1:ρ d1=v1:=by rfl)(h2:ρ d2=v2:=by rfl)(h3:ρ d3=v3:=by rfl)(h4:ρ d4=v4:=by rfl)(h5:ρ d5=v5:=by rfl)(h6:ρ d6=v6:=by rfl)(h7:ρ d7=v7:=by rfl)(h8:ρ d8=v8:=by rfl)(h9:ρ d9=v9:=by rfl)(bx:ρ GV=GR:=by rfl)(aV:ρ KS=KR:=by rfl)(cZ:ρ OL=OC:=by rfl)(dS:ρ W3=Kt:=by rfl)(eE:ρ We=KO:=by rfl)(mc:ρ d15=v15:=by rfl)(FC:ρ d16=v16:=by rfl)(Cr:ρ d17=v17:=by rfl):ρ=upd (upd (upd (upd (upd (upd (upd (upd (upd (upd (upd (upd (upd (upd (upd (upd (upd ρ d1 v1) d2 v2) d3 v3) d4 v4) d5 v5) d6 v6) d7 v7) d8 v8) d9 v9) GV GR) KS KR) OL OC) W3 Kt) We KO) d15 v15) d16 v16) d17 v17:=zy (zy (zy (zy (zy (zy (zy (zy (zy (zy (zy (zy (zy (zy (zy (zy (zy rfl h1) h2) h3) h4) h5) h6) h7) h8) h9) bx) aV) cZ) dS) eE) mc) FC) Cr
theorem uE18{d18:Nat}{v18:Value}(h1:ρ d1=v1:=by rfl)(h2:ρ d2=v2:=by rfl)(h3:ρ d3=v3:=by rfl)(h4:ρ d4=v4:=by rfl)(h5:ρ d5=v5:=by rfl)(h6:ρ d6=v6:=by rfl)(h7:ρ d7=v7:=by rfl)(h8:ρ d8=v8:=by rfl)(h9:ρ d9=v9:=by rfl)(bx:ρ GV=GR:=by rfl)(aV:ρ KS=KR:=by rfl)(cZ:ρ OL=OC:=by rfl)(dS:ρ W3=Kt:=by rfl)(eE:ρ We=KO:=by rfl)(mc:ρ d15=v15:=by rfl)(FC:ρ d16=v16:=by rfl)(Cr:ρ d17=v17:=by rfl)(g8:ρ d18=v18:=by rfl):ρ=upd (upd (upd (upd (upd (upd (upd (upd (upd (upd (upd (upd (upd (upd (upd (upd (upd (upd ρ d1 v1) d2 v2) d3 v3) d4 v4) d5 v5) d6 v6) d7 v7) d8 v8) d9 v9) GV GR) KS KR) OL OC) W3 Kt) We KO) d15 v15) d16 v16) d17 v17) d18 v18:=zy (zy (zy (zy (zy (zy (zy (zy (zy (zy (zy (zy (zy (zy (zy (zy (zy (zy rfl h1) h2) h3) h4) h5) h6) h7) h8) h9) bx) aV) cZ) dS) eE) mc) FC) Cr) g8
abbrev rr(a:yOA)(n c:Nat)(e:TypeId)(sz:Nat)(xs:List Value):Prv:=.row (Sv a n c) e sz n xs
section
variable{α : Type}[qX α]
abbrev sF(fr:Bool)(F:yLN)(a:yOA)(c:Nat)(l:List α):Fact:=isF (α:=List α) fr F (Sv a l.length c) l
end
theorem St.dF(H:St W0 w ps Γ)(k:Nat):St W0 w ps (Γ.drop k):=H.sub _ fun _ h=>List.mem_of_mem_drop h
section
variable{P : Program}{kE : Array Oper}{Q Q': Exit -> Act -> World -> Prop}{n : Nat}{ρ : Env}{w : World}{a : Act}{N N1 N2 N3 : Act -> World -> Prop}{id id1 : Nat}{l : List Oper}{y z : Code}
theorem zjn[Dfr](h:N (mk n ρ) w):WL P kE (Exit.then N Q) n [] ρ w:=xZ<|t_n h
theorem zcr[Dfr](h:WL P l.toArray (Exit.then (y.wp P Q) Q) n l ρ w):((Code.region id l.toArray false).seq y).wp P Q (mk n ρ) w:=xU<|xX h
theorem zjr[Dfr](h:Q .ret (mk n ρ) w):WL P kE (Exit.then (Code.ret.wp P Q) Q') n [] ρ w:=zjn<|c_ret h
theorem zcc[Dfr](h:WL P l.toArray (Exit.then (y.wp P<|Exit.then (z.wp P Q) Q)<|Exit.then (z.wp P Q) Q) n l ρ w):(((Code.region id l.toArray false).seq y).seq z).wp P Q (mk n ρ) w:=xU<|zcr h
theorem zjc[Dfr](h:WL P l.toArray (Exit.then (y.wp P Q) Q) n l ρ w):WL P kE (Exit.then (((Code.region id l.toArray false).seq y).wp P Q) Q') n [] ρ w:=zjn<|zcr h
theorem zjcc[Dfr](h:WL P l.toArray (Exit.then (y.wp P<|Exit.then (z.wp P Q) Q)<|Exit.then (z.wp P Q) Q) n l ρ w):WL P kE (Exit.then ((((Code.region id l.toArray false).seq y).seq z).wp P Q) Q') n [] ρ w:=zjn<|zcc h
theorem zx4[Dfr](h:N3 (mk n ρ) w):(Code.exit id).wp P (Exit.then N1<|Exit.then N2<|Exit.inBlock id<|Exit.then N3 Q) (mk n ρ) w:=VR<|t_x<|t_x<|b_x<|t_n h
theorem zr5(h:Q .ret a w):Exit.inBlock id (Exit.then N1<|Exit.then N2<|Exit.inBlock id1<|Exit.then N3 Q) .ret a w:=b_r<|t_r<|t_r<|b_r<|t_r h
theorem cTr[Dfr]{y z:Code}(hc:ev n ρ x=Bv true)(h:y.wp P Q (mk n ρ) w):(Code.cond x y z).wp P Q (mk n ρ) w:=zX true hc (fun _=>h) fun h=>absurd h qj
theorem cFr[Dfr]{y z:Code}(hc:ev n ρ x=Bv false)(h:z.wp P Q (mk n ρ) w):(Code.cond x y z).wp P Q (mk n ρ) w:=zX false hc (fun h=>absurd h qj) fun _=>h
theorem rH1{fn:Func}{R:Value->World->Prop}{t:Nat}(v:Value)(H:St W0 w ps Γ)(h:R v w)(hr:fn.results=#[.tmp t]:=by exact rfl)(hv:ev n ρ (.tmp t)=v:=by exact rfl):
 bodyPost P fn (Ret R W0) .ret (mk n ρ) w:=ret1 v hr hv ⟨_,rfl,h,H.base⟩
end
section
variable{P : Program}{Q : Exit -> Act -> World -> Prop}{n : Nat}{ρ : Env}{w : World}{l : List Oper}{S : World -> Prop}{fuel Ar : Nat}{ao n9 : Array Bool}
theorem yL[Dfr](A:Env->World->Prop)(Ar :Nat)(n9 :Array Bool)(h1:∀ρ w,A ρ w->RW P l Q S n Ar n9 ρ w)(h2:(∀ρ w,A ρ w->RW P l Q S n Ar n9 ρ w)->RW P l Q S n fuel ao ρ w):RW P l Q S n fuel ao ρ w:=h2 h1
theorem jq[Dfr]{A:Env->World->Prop}(L:∀ρ w,A ρ w->RW P l Q S n Ar n9 ρ w)(h:A ρ w)(e:ao=n9 :=by kernel_rfl)(ef:fuel=Ar :=by kernel_rfl):RW P l Q S n fuel ao ρ w:=by
 subst e ef;exact L _ _ h
end
end
section
theorem ti2:TI Tryz.prog 2 (.int .i64 0) 1 8:=by unfold TI;kernel_rfl
theorem ti3:TI Tryz.prog 3 (.int .i64 0) 1 8:=by unfold TI;kernel_rfl
theorem ti4:TI Tryz.prog 4 (Bv false) 1 1:=by unfold TI;kernel_rfl
theorem ti5:TI Tryz.prog 5 (.int .u8 0) 1 1:=by unfold TI;kernel_rfl
theorem ti24:TI Tryz.prog 24 (Sv none 0 0) 1 24:=by unfold TI;kernel_rfl
theorem ti27:TI Tryz.prog 27 (.agg #[.int .i64 0,Sv none 0 0,Sv none 0 0]) 3 56:=by unfold TI;kernel_rfl
theorem ti29:TI Tryz.prog 29 (Sv none 0 0) 1 24:=by unfold TI;kernel_rfl
theorem ti31:TI Tryz.prog 31 (.agg #[Sv none 0 0,Sv none 0 0,Sv none 0 0]) 3 72:=by unfold TI;kernel_rfl
theorem ti46:TI Tryz.prog 46 (.agg #[Sv none 0 0,Sv none 0 0]) 2 48:=by unfold TI;kernel_rfl
theorem ti70:TI Tryz.prog 70 (.agg #[.int .i64 0,.int .i64 0,Sv none 0 0,Sv none 0 0,Sv none 0 0,Sv none 0 0,Sv none 0 0,Sv none 0 0,Bv false]) 9 168:=by unfold TI;kernel_rfl
theorem ti71:TI Tryz.prog 71 (.nilFunc) 1 8:=by unfold TI;kernel_rfl
theorem ti128:TI Tryz.prog 128 (.agg #[.int .i64 0,Sv none 0 0]) 2 32:=by unfold TI;kernel_rfl
theorem ti135:TI Tryz.prog 135 (Sv none 0 0) 1 24:=by unfold TI;kernel_rfl
theorem ti145:TI Tryz.prog 145 (.agg #[.int .i64 0,.int .i64 0,.int .i64 0,.int .i64 0,.int .i64 0,.int .i64 0]) 6 48:=by unfold TI;kernel_rfl
theorem ti162:TI Tryz.prog 162 (.agg #[.int .i64 0,.int .i64 0,.int .i64 0,.int .i64 0,.int .i64 0,.int .i64 0]) 6 48:=by unfold TI;kernel_rfl
theorem ti180:TI Tryz.prog 180 (.agg #[Sv none 0 0,Sv none 0 0]) 2 48:=by unfold TI;kernel_rfl
theorem ti235:TI Tryz.prog 235 (.pointer none) 1 8:=by unfold TI;kernel_rfl
theorem ti238:TI Tryz.prog 238 (.nilFunc) 1 8:=by unfold TI;kernel_rfl
instance iS24:SliC Tryz.prog 24 2:=⟨underlying24⟩
instance iT2:TIC Tryz.prog 2 (.int .i64 0) 1 8:=⟨ti2⟩
instance iA2:SclC Tryz.prog 2:=⟨isAgg2⟩
instance iC151:QY Tryz.prog 151:=⟨call151⟩
instance iC75:QY Tryz.prog 75:=⟨call75⟩
instance iC77:QY Tryz.prog 77:=⟨call77⟩
instance iC99:QY Tryz.prog 99:=⟨call99⟩
instance iC148:QY Tryz.prog 148:=⟨call148⟩
instance iC152:QY Tryz.prog 152:=⟨call152⟩
instance iC182:QY Tryz.prog 182:=⟨call182⟩
instance iF27_0:FldC Tryz.prog 27 0 0:=⟨⟨_,_,_,underlying27,rfl,rfl,sizeOf2⟩⟩
instance iF27_1:FldC Tryz.prog 27 1 1:=⟨⟨_,_,_,underlying27,rfl,rfl,sizeOf24⟩⟩
instance iA24:SclC Tryz.prog 24:=⟨isAgg24⟩
instance iF70_0:FldC Tryz.prog 70 0 0:=⟨⟨_,_,_,underlying70,rfl,rfl,sizeOf2⟩⟩
instance iF70_1:FldC Tryz.prog 70 1 1:=⟨⟨_,_,_,underlying70,rfl,rfl,sizeOf2⟩⟩
instance iF70_8:FldC Tryz.prog 70 8 8:=⟨⟨_,_,_,underlying70,rfl,rfl,sizeOf4⟩⟩
instance iA4:SclC Tryz.prog 4:=⟨isAgg4⟩
instance iF70_7:FldC Tryz.prog 70 7 7:=⟨⟨_,_,_,underlying70,rfl,rfl,sizeOf68⟩⟩
instance iA68:SclC Tryz.prog 68:=⟨isAgg68⟩
instance iS68:SliC Tryz.prog 68 128:=⟨underlying68⟩
instance iF70_2:FldC Tryz.prog 70 2 2:=⟨⟨_,_,_,underlying70,rfl,rfl,sizeOf24⟩⟩
instance iC137:QY Tryz.prog 137:=⟨call137⟩
instance iF70_3:FldC Tryz.prog 70 3 3:=⟨⟨_,_,_,underlying70,rfl,rfl,sizeOf24⟩⟩
instance iF70_4:FldC Tryz.prog 70 4 4:=⟨⟨_,_,_,underlying70,rfl,rfl,sizeOf24⟩⟩
instance iF70_5:FldC Tryz.prog 70 5 5:=⟨⟨_,_,_,underlying70,rfl,rfl,sizeOf24⟩⟩
instance iF70_6:FldC Tryz.prog 70 6 6:=⟨⟨_,_,_,underlying70,rfl,rfl,sizeOf24⟩⟩
instance iC138:QY Tryz.prog 138:=⟨call138⟩
instance iT128:TIC Tryz.prog 128 (.agg #[.int .i64 0,Sv none 0 0]) 2 32:=⟨ti128⟩
instance iF128_0:FldC Tryz.prog 128 0 0:=⟨⟨_,_,_,underlying128,rfl,rfl,sizeOf2⟩⟩
instance iC181:QY Tryz.prog 181:=⟨call181⟩
instance iF128_1:FldC Tryz.prog 128 1 1:=⟨⟨_,_,_,underlying128,rfl,rfl,sizeOf24⟩⟩
instance iF31_0:FldC Tryz.prog 31 0 0:=⟨⟨_,_,_,underlying31,rfl,rfl,sizeOf28⟩⟩
instance iA28:SclC Tryz.prog 28:=⟨isAgg28⟩
instance iS28:SliC Tryz.prog 28 4:=⟨underlying28⟩
instance iF31_1:FldC Tryz.prog 31 1 1:=⟨⟨_,_,_,underlying31,rfl,rfl,sizeOf29⟩⟩
instance iA29:SclC Tryz.prog 29:=⟨isAgg29⟩
instance iS29:SliC Tryz.prog 29 24:=⟨underlying29⟩
instance iT4:TIC Tryz.prog 4 (Bv false) 1 1:=⟨ti4⟩
instance iF31_2:FldC Tryz.prog 31 2 2:=⟨⟨_,_,_,underlying31,rfl,rfl,sizeOf24⟩⟩
instance iT24:TIC Tryz.prog 24 (Sv none 0 0) 1 24:=⟨ti24⟩
instance iC135:QY Tryz.prog 135:=⟨call135⟩
instance iF27_2:FldC Tryz.prog 27 2 2:=⟨⟨_,_,_,underlying27,rfl,rfl,sizeOf25⟩⟩
instance iA25:SclC Tryz.prog 25:=⟨isAgg25⟩
instance iS25:SliC Tryz.prog 25 70:=⟨underlying25⟩
instance iT70:TIC Tryz.prog 70 (.agg #[.int .i64 0,.int .i64 0,Sv none 0 0,Sv none 0 0,Sv none 0 0,Sv none 0 0,Sv none 0 0,Sv none 0 0,Bv false]) 9 168:=⟨ti70⟩
instance iC136:QY Tryz.prog 136:=⟨call136⟩
instance iC42:QY Tryz.prog 42:=⟨call42⟩
instance iC82:QY Tryz.prog 82:=⟨call82⟩
instance iC83:QY Tryz.prog 83:=⟨call83⟩
instance iC104:QY Tryz.prog 104:=⟨call104⟩
instance iC193:QY Tryz.prog 193:=⟨call193⟩
instance iC188:QY Tryz.prog 188:=⟨call188⟩
instance iC110:QY Tryz.prog 110:=⟨call110⟩
instance iC153:QY Tryz.prog 153:=⟨call153⟩
instance iC192:QY Tryz.prog 192:=⟨call192⟩
instance iC221:QY Tryz.prog 221:=⟨call221⟩
instance iC222:QY Tryz.prog 222:=⟨call222⟩
instance iS171:SliC Tryz.prog 171 29:=⟨underlying171⟩
instance iT29:TIC Tryz.prog 29 (Sv none 0 0) 1 24:=⟨ti29⟩
instance iS135:SliC Tryz.prog 135 3:=⟨underlying135⟩
instance iC190:QY Tryz.prog 190:=⟨call190⟩
instance iC155:QY Tryz.prog 155:=⟨call155⟩
instance iS170:SliC Tryz.prog 170 135:=⟨underlying170⟩
instance iT135:TIC Tryz.prog 135 (Sv none 0 0) 1 24:=⟨ti135⟩
instance iA135:SclC Tryz.prog 135:=⟨isAgg135⟩
instance iT3:TIC Tryz.prog 3 (.int .i64 0) 1 8:=⟨ti3⟩
instance iA3:SclC Tryz.prog 3:=⟨isAgg3⟩
instance iC156:QY Tryz.prog 156:=⟨call156⟩
instance iC191:QY Tryz.prog 191:=⟨call191⟩
instance iC112:QY Tryz.prog 112:=⟨call112⟩
instance iC184:QY Tryz.prog 184:=⟨call184⟩
instance iC94:QY Tryz.prog 94:=⟨call94⟩
instance iC185:QY Tryz.prog 185:=⟨call185⟩
instance iC95:QY Tryz.prog 95:=⟨call95⟩
instance iC142:QY Tryz.prog 142:=⟨call142⟩
instance iC143:QY Tryz.prog 143:=⟨call143⟩
instance iC90:QY Tryz.prog 90:=⟨call90⟩
instance iC120:QY Tryz.prog 120:=⟨call120⟩
instance iC121:QY Tryz.prog 121:=⟨call121⟩
instance iC124:QY Tryz.prog 124:=⟨call124⟩
instance iC167:QY Tryz.prog 167:=⟨call167⟩
instance iC125:QY Tryz.prog 125:=⟨call125⟩
instance iC229:QY Tryz.prog 229:=⟨call229⟩
instance iA126:SclC Tryz.prog 126:=⟨isAgg126⟩
instance iC216:QY Tryz.prog 216:=⟨call216⟩
instance iA235:SclC Tryz.prog 235:=⟨isAgg235⟩
instance iF237_0:FldC Tryz.prog 237 0 0:=⟨⟨_,_,_,underlying237,rfl,rfl,sizeOf29⟩⟩
instance iC139:QY Tryz.prog 139:=⟨call139⟩
instance iA238:SclC Tryz.prog 238:=⟨isAgg238⟩
instance iC127:QY Tryz.prog 127:=⟨call127⟩
instance iC223:QY Tryz.prog 223:=⟨call223⟩
instance iC73:QY Tryz.prog 73:=⟨call73⟩
instance iC196:QY Tryz.prog 196:=⟨call196⟩
instance iS176:SliC Tryz.prog 176 180:=⟨underlying176⟩
instance iT180:TIC Tryz.prog 180 (.agg #[Sv none 0 0,Sv none 0 0]) 2 48:=⟨ti180⟩
instance iF180_1:FldC Tryz.prog 180 1 1:=⟨⟨_,_,_,underlying180,rfl,rfl,sizeOf29⟩⟩
instance iF180_0:FldC Tryz.prog 180 0 0:=⟨⟨_,_,_,underlying180,rfl,rfl,sizeOf24⟩⟩
instance iC126:QY Tryz.prog 126:=⟨call126⟩
instance iC129:QY Tryz.prog 129:=⟨call129⟩
instance iC71:QY Tryz.prog 71:=⟨call71⟩
instance iC51:QY Tryz.prog 51:=⟨call51⟩
instance iC197:QY Tryz.prog 197:=⟨call197⟩
instance iC58:QY Tryz.prog 58:=⟨call58⟩
instance iS38:SliC Tryz.prog 38 31:=⟨underlying38⟩
instance iT31:TIC Tryz.prog 31 (.agg #[Sv none 0 0,Sv none 0 0,Sv none 0 0]) 3 72:=⟨ti31⟩
instance iC67:QY Tryz.prog 67:=⟨call67⟩
instance iC157:QY Tryz.prog 157:=⟨call157⟩
instance iC113:QY Tryz.prog 113:=⟨call113⟩
instance iC161:QY Tryz.prog 161:=⟨call161⟩
instance iC81:QY Tryz.prog 81:=⟨call81⟩
instance iC74:QY Tryz.prog 74:=⟨call74⟩
instance iC117:QY Tryz.prog 117:=⟨call117⟩
instance iC105:QY Tryz.prog 105:=⟨call105⟩
instance iC106:QY Tryz.prog 106:=⟨call106⟩
instance iC107:QY Tryz.prog 107:=⟨call107⟩
instance iC108:QY Tryz.prog 108:=⟨call108⟩
instance iC109:QY Tryz.prog 109:=⟨call109⟩
instance iC60:QY Tryz.prog 60:=⟨call60⟩
instance iF46_0:FldC Tryz.prog 46 0 0:=⟨⟨_,_,_,underlying46,rfl,rfl,sizeOf38⟩⟩
instance iA38:SclC Tryz.prog 38:=⟨isAgg38⟩
instance iC61:QY Tryz.prog 61:=⟨call61⟩
instance iF46_1:FldC Tryz.prog 46 1 1:=⟨⟨_,_,_,underlying46,rfl,rfl,sizeOf29⟩⟩
instance iA71:SclC Tryz.prog 71:=⟨isAgg71⟩
instance iC62:QY Tryz.prog 62:=⟨call62⟩
instance iC68:QY Tryz.prog 68:=⟨call68⟩
instance iC114:QY Tryz.prog 114:=⟨call114⟩
instance iF115_1:FldC Tryz.prog 115 1 1:=⟨⟨_,_,_,underlying115,rfl,rfl,sizeOf3⟩⟩
instance iF115_0:FldC Tryz.prog 115 0 0:=⟨⟨_,_,_,underlying115,rfl,rfl,sizeOf22⟩⟩
instance iA22:SclC Tryz.prog 22:=⟨isAgg22⟩
instance iS22:SliC Tryz.prog 22 5:=⟨underlying22⟩
instance iT5:TIC Tryz.prog 5 (.int .u8 0) 1 1:=⟨ti5⟩
instance iF115_2:FldC Tryz.prog 115 2 2:=⟨⟨_,_,_,underlying115,rfl,rfl,sizeOf113⟩⟩
instance iA113:SclC Tryz.prog 113:=⟨isAgg113⟩
instance iA5:SclC Tryz.prog 5:=⟨isAgg5⟩
instance iC70:QY Tryz.prog 70:=⟨call70⟩
instance iC163:QY Tryz.prog 163:=⟨call163⟩
instance iC48:QY Tryz.prog 48:=⟨call48⟩
instance iC72:QY Tryz.prog 72:=⟨call72⟩
instance iC22:QY Tryz.prog 22:=⟨call22⟩
instance iC21:QY Tryz.prog 21:=⟨call21⟩
instance iC69:QY Tryz.prog 69:=⟨call69⟩
instance iC30:QY Tryz.prog 30:=⟨call30⟩
instance iC86:QY Tryz.prog 86:=⟨call86⟩
instance iC84:QY Tryz.prog 84:=⟨call84⟩
instance iC85:QY Tryz.prog 85:=⟨call85⟩
instance iC28:QY Tryz.prog 28:=⟨call28⟩
instance iC29:QY Tryz.prog 29:=⟨call29⟩
instance iC23:QY Tryz.prog 23:=⟨call23⟩
instance iC31:QY Tryz.prog 31:=⟨call31⟩
instance iC32:QY Tryz.prog 32:=⟨call32⟩
instance iC33:QY Tryz.prog 33:=⟨call33⟩
instance iC34:QY Tryz.prog 34:=⟨call34⟩
instance iC35:QY Tryz.prog 35:=⟨call35⟩
instance iC36:QY Tryz.prog 36:=⟨call36⟩
instance iC37:QY Tryz.prog 37:=⟨call37⟩
instance iC18:QY Tryz.prog 18:=⟨call18⟩
instance iC26:QY Tryz.prog 26:=⟨call26⟩
instance iC24:QY Tryz.prog 24:=⟨call24⟩
instance iC38:QY Tryz.prog 38:=⟨call38⟩
instance iC27:QY Tryz.prog 27:=⟨call27⟩
end
section
variable{cl : Nat}
theorem Xe(w:World)(n:Int)(lo:Int)(hi:Int):Calls Tryz.prog 75 #[yI n,yI lo,yI hi] w (Ret (fun v w'=>v=Bv (inR n lo hi)) w):=by
 refine en func75 ntmps75 ?_
 have H:=St.start w
 refine zcr<|sp (Bv false)<|zjc<|sp (yI n)<|sp (yI lo)<|sp (Bv<|decide ((n:Int)>=lo))<|sp (Bv<|decide ((n:Int)>=lo)) ?_
 cases h1:(decide ((n:Int)>=lo))
 ·replace h1:=of_decide_eq_false h1
  refine xY [11,12,13]<|sp (Bv false)<|sp (Bv false)<|zjr<|rH1 (Bv false) H ?_
  rw[inR_no ‹_›]
 replace h1:=of_decide_eq_true h1
 refine qP 10 rfl rfl<|sp (yI n)<|qP 10 rfl rfl<|sp (yI hi)<|qP 10 rfl rfl<|sq 3<|zjr<|rH1 (Bv<|decide ((n:Int)<=hi)) H ?_
 rw[inR_yes ‹_›]
theorem l00In_ok(w:World)(n:Int)(lo:Int)(hi:Int):Calls Tryz.prog 152 #[yI n,yI lo,yI hi] w (Ret (fun v w'=>v=Bv (inR n lo hi)) w):=by
 refine en func152 ntmps152 ?_
 have H:=St.start w
 refine zcr<|sp (Bv false)<|zjc<|sp (yI n)<|sp (yI lo)<|sp (Bv<|decide ((n:Int)>=lo))<|sp (Bv<|decide ((n:Int)>=lo)) ?_
 cases h1:(decide ((n:Int)>=lo))
 ·replace h1:=of_decide_eq_false h1
  refine xY [11,12,13]<|sp (Bv false)<|sp (Bv false)<|zjr<|rH1 (Bv false) H ?_
  rw[inR_no ‹_›]
 replace h1:=of_decide_eq_true h1
 refine qP 10 rfl rfl<|sp (yI n)<|qP 10 rfl rfl<|sp (yI hi)<|qP 10 rfl rfl<|sq 3<|zjr<|rH1 (Bv<|decide ((n:Int)<=hi)) H ?_
 rw[inR_yes ‹_›]
theorem V7(w:World)(l:yLI)(m:yLI){cm:Nat}(hl:zP w Fl al cl l)(hm:zP w Fm am cm m)(p0:l.length<=m.length)(p1:l.length<=1000000):Calls Tryz.prog 124 #[Sv al l.length cl,Sv am m.length cm] w (Ret (fun v w'=>v=Bv (within l m)) w):=by
 refine en func124 ntmps124 ?_
 have H:=((St.start w).arg hm).arg hl
 have nhm:=qR hm
 clear hl hm
 refine zcr<|sp (Bv false)<|zjcc<|sq 1<|oN rfl<|sp (yI 0)<|zjn<|xf<|zD ((fun Z0 Z1=>fun m' ρ w1=>∃(xN:Env) (k:Nat),ρ=upd (upd (upd (upd xN 1<|Sv am m.length cm) 7<|Sv al l.length cl) 8<|yI l.length) 9 (yI k)/\(k<=l.length)/\(withinTo l m k)/\m'=l.length-k/\St w w1 [] [Z0,Z1]) _ _) (l.length-0) ⟨_,0,uE4,qf,(by exact withinTo_zero l m),rfl,H⟩ ?_
 clear H
 rintro m' ρ w2 ⟨xN,k,rfl,i0,i1,rfl,H⟩
 refine zcr<|sq 1<|zjn<|xU<|cD rfl (fun h3=>?_)<|fun h3=>?_
 ·refine qZ (t_n<|xU<|xf<|zcr<|sp (yI k) ?_)
  obtain⟨b4,o5,rfl⟩:=H.addr 0 rfl qf
  refine oI rfl rfl<|oL rfl (H.zS 0 rfl k qf)<|sp (yI k)<|sq 1<|zjc<|sq 2<|sp (yI k) ?_
  obtain⟨b6,o7,rfl⟩:=H.addr 1 rfl qf
  refine oI rfl rfl<|oL rfl (H.zS 1 rfl k qf)<|sq 1<|zjn<|cD rfl (fun h8=>?_)<|fun h8=>?_
  ·refine zcr (sp (Bv false)<|zjr<|zr5<|rH1 (Bv false) H ?_)
   rw[within_no (k:=k) ‹_› qf]
  refine qZ<|b_n<|t_n<|xX<|sw<|zC k 1 rfl rfl qf<|sq 1<|xZ<|xh (m':=l.length-(k+1)) qf ⟨_,k+1,uE4,?_,?_,rfl,H⟩
  ·omega
  ·exact withinTo_succ ‹_› qf
 refine zx4<|zcr<|sp (Bv true)<|zjr<|rH1 (Bv true) H ?_
 rw[within_yes ‹_› qf]
theorem VE(w:World)(l:yLI)(hl:zP w Fl al cl l)(p0:Small l):Calls Tryz.prog 95 #[Sv al l.length cl] w (Ret (fun v w'=>v=yI (Xr l)) w):=by
 refine en func95 ntmps95 ?_
 have H:=(St.start w).arg hl
 have y4:=qR hl
 clear hl
 have p1:=p0.1
 refine zcr<|sp (yI 0)<|zjc<|sp (yI 0)<|zjcc<|sq 1<|oN rfl<|sp (yI 0)<|zjn<|xf<|zD ((fun Z0=>fun m' ρ w1=>∃(xN:Env) (k:Nat),ρ=upd (upd (upd (upd (upd xN 2<|yI 0) 3<|yI<|sumTo l k) 6<|Sv al l.length cl) 7<|yI l.length) 8 (yI k)/\(k<=l.length)/\m'=l.length-k/\St w w1 [] [Z0]) _) (l.length-0) ⟨_,0,uE5,qf,rfl,H⟩ ?_
 clear H
 rintro m' ρ w2 ⟨xN,k,rfl,i0,rfl,H⟩
 have hs:=sumTo_small p0 i0
 have hv:=p0.2 k
 refine zcr<|sq 1<|zjn<|xU<|cD rfl (fun h3=>?_)<|fun h3=>?_
 ·refine qZ (t_n<|xU<|xf<|zcr ?_)
  obtain⟨b4,o5,rfl⟩:=H.addr 0 rfl qf
  refine oI rfl rfl<|oL rfl (H.zS 0 rfl k qf)<|sq 1<|zjn<|xX<|sq 2<|sw<|zC (sumTo l k) (l[k]!) rfl rfl (by(have:=hv qf;omega))<|sq 1<|xZ<|b_n<|t_n<|xX<|sw<|zC k 1 rfl rfl (by(have:=hv qf;omega))<|sq 1<|xZ<|xh (m':=l.length-(k+1)) qf ⟨_,k+1,uE5,?_,rfl,H⟩
  ·omega
 refine zx4<|zcr<|sq 2<|zjr<|rH1 (yI<|sumTo l k) H ?_
 obtain rfl:k=l.length:=by omega
 rfl
theorem Vz(w:World)(l:yLI)(hl:zP w Fl al cl l)(p0:Small l):Calls Tryz.prog 138 #[Sv al l.length cl] w (Ret (fun v w'=>v=yI (Xr l)) w):=by
 refine en func138 ntmps138 ?_
 have H:=(St.start w).arg hl
 have y4:=qR hl
 clear hl
 have p1:=p0.1
 refine zcr<|sp (yI 0)<|zjc<|sp (yI 0)<|zjcc<|sp (yI 0)<|zjn<|xf<|zD ((fun Z0=>fun m' ρ w1=>∃(xN:Env) (k:Nat),ρ=upd (upd (upd (upd xN 0<|Sv al l.length cl) 2<|yI 0) 3<|yI<|sumTo l k) 4 (yI k)/\(k<=l.length)/\m'=l.length-k/\St w w1 [] [Z0]) _) (l.length-0) ⟨_,0,uE4,qf,rfl,H⟩ ?_
 clear H
 rintro m' ρ w2 ⟨xN,k,rfl,i0,rfl,H⟩
 have hs:=sumTo_small p0 i0
 have hv:=p0.2 k
 refine zcc<|sp (yI k)<|sq 1<|oN rfl<|sq 1<|zjn<|cD rfl (fun h3=>?_)<|fun h3=>?_
 ·refine qZ (t_n<|xU<|xf<|xX<|sq 2<|sp (yI k) ?_)
  obtain⟨b4,o5,rfl⟩:=H.addr 0 rfl qf
  refine oI rfl rfl<|oL rfl (H.zS 0 rfl k qf)<|sw<|zC (sumTo l k) (l[k]!) rfl rfl (by(have:=hv qf;omega))<|sq 1<|xZ<|b_n<|t_n<|xX<|sp (yI k)<|sw<|zC k 1 rfl rfl (by(have:=hv qf;omega))<|sq 1<|xZ<|xh (m':=l.length-(k+1)) qf ⟨_,k+1,uE4,?_,rfl,H⟩
  ·omega
 refine zx4<|zcr<|sq 2<|zjr<|rH1 (yI<|sumTo l k) H ?_
 obtain rfl:k=l.length:=by omega
 rfl
theorem indexFuncI_ok(w:World)(l:yLI)(f:FuncId)(ns:Array Value)(gf:Nat->Bool)(hl:zP w Fl al cl l)(hff:∀args w,(callFunc f args).run Tryz.prog w=.ok (.enter f args) w)(Ss:∀k w',k<l.length->Ext w w' ->Calls Tryz.prog f (([yI<|l[k]!]:List Value)++ns.toList).toArray w' (Ret (fun v _=>v=Bv (gf k)) w')):Calls Tryz.prog 151 #[Sv al l.length cl,.func (.func f) #[] ns] w (Ret (fun v w'=>v=yI (firstIdx gf l.length)) w):=by
 refine en func151 ntmps151 ?_
 have H:=(St.start w).arg hl
 have y4:=qR hl
 clear hl
 refine zcr<|sp (yI 0)<|zjcc<|sq 1<|oN rfl<|sp (yI 0)<|zjn<|xf<|zD ((fun Z0=>fun m' ρ w1=>∃(xN:Env) (k:Nat),ρ=upd (upd (upd (upd xN 0<|Sv al l.length cl) 1<|.func (.func f) #[] ns) 7<|yI l.length) 8 (yI k)/\(k<=l.length)/\(noneTo gf k)/\m'=l.length-k/\St w w1 [] [Z0]) _) (l.length-0) ⟨_,0,uE4,qf,qx,rfl,H⟩ ?_
 clear H
 rintro m' ρ w2 ⟨xN,k,rfl,i0,i1,rfl,H⟩
 refine zcr<|sq 1<|zjn<|xU<|cD rfl (fun h3=>?_)<|fun h3=>?_
 ·refine qZ (t_n<|xU<|xf<|zcr<|sp (yI k)<|sp (yI k)<|zjc<|sp (.func (.func f) #[] ns)<|sq 1<|sp (yI k) ?_)
  obtain⟨b4,o5,rfl⟩:=H.addr 0 rfl qf
  refine oI rfl rfl<|oL rfl (H.zS 0 rfl k qf)<|sw<|o_callV [yI<|l[k]!] rfl rfl hff (Ss k _ qf H.base) ?_
  rintro _ w6 rfl x7
  replace H:=H.ext x7
  refine zjn<|zX _ rfl (fun h8=>?_)<|fun h8=>?_
  ·refine zcr (sp (yI k)<|sp (yI k)<|zjr<|zr5<|rH1 (yI k) H ?_)
   rw[Xj (k:=k) qf i1 ‹_›]
  refine qZ<|b_n<|t_n<|xX<|sw<|zC k 1 rfl rfl qf<|sq 1<|xZ<|xh (m':=l.length-(k+1)) qf ⟨_,k+1,uE4,?_,?_,rfl,H⟩
  ·omega
  ·exact noneTo_succ ‹_› ‹_›
 refine zx4<|zcr<|sq 1<|zjr<|rH1 (yI (-1)) H ?_
 rw[firstIdx_none<|fun j hj=>i1 j qf]
theorem containsFuncI_ok(w:World)(l:yLI)(f:FuncId)(ns:Array Value)(gf:Nat->Bool)(hl:zP w Fl al cl l)(hff:∀args w,(callFunc f args).run Tryz.prog w=.ok (.enter f args) w)(Ss:∀k w',k<l.length->Ext w w' ->Calls Tryz.prog f (([yI<|l[k]!]:List Value)++ns.toList).toArray w' (Ret (fun v _=>v=Bv (gf k)) w')):Calls Tryz.prog 99 #[Sv al l.length cl,.func (.func f) #[] ns] w (Ret (fun v w'=>v=Bv (anyTo gf l.length)) w):=by
 refine en func99 ntmps99 ?_
 have H:=(St.start w).arg hl
 clear hl
 refine zcr<|sp (Bv false)<|zjc<|sq 1<|sp (.func (.func f) #[] ns)<|sw<|oq (indexFuncI_ok _ l f ns gf (H.get 0 rfl).1 hff Ss) H fun w1 H=>sp (Bv<|decide ((firstIdx gf l.length:Int)>=0))<|sp (Bv<|decide ((firstIdx gf l.length:Int)>=0))<|zjr<|rH1 (Bv<|decide ((firstIdx gf l.length:Int)>=0)) H ?_
 rw[anyTo_first]
theorem validBag1_ok(w:World)(n:Int):Calls Tryz.prog 147 #[yI n] w (Ret (fun v w'=>v=Bv (!isCnt n)) w):=by
 refine en func147 ntmps147 ?_
 have H:=St.start w
 refine zcr<|sp (Bv false)<|zjc<|sp (yI n)<|sw<|oq (Xe w n 0 1000) H fun w1 H=>sq 2<|zjr<|rH1 (Bv (!(inR n 0 1000))) H ?_
 rfl
theorem sizeI_ok(w:World)(l:yLI)(hl:zP w Fl al cl l):Calls Tryz.prog 77 #[Sv al l.length cl] w (Ret (fun v w'=>v=yI (l.length:Int)) w):=by
 refine en func77 ntmps77 ?_
 have H:=(St.start w).arg hl
 clear hl
 refine zcr<|sp (yI 0)<|zjc<|sq 1<|oN rfl<|sq 1<|zjr<|rH1 (yI l.length) H ?_
 rfl
theorem V5(w:World)(kinds:Int)(l:yLI)(hl:zP w Fl al cl l):Calls Tryz.prog 94 #[yI kinds,Sv al l.length cl] w (Ret (fun v w'=>v=Bv (dec<|jm kinds l)) w):=by
 refine en func94 ntmps94 ?_
 have H:=(St.start w).arg hl
 have y4:=qR hl
 clear hl
 refine zcr<|sp (Bv false)<|zjc<|sq 1<|sw<|oq (Xe w kinds 1 8) H fun w1 H=>sp (Bv<|inR kinds 1 8) ?_
 cases h3:(inR kinds 1 8)
 ·replace h3:=XG h3
  refine xY (zR 8 4)<|sp (Bv false)<|sp (Bv false)<|xY [14,15,16]<|sp (Bv false)<|sp (Bv false)<|zjr<|rH1 (Bv false) H ?_
  rw[xw (fun h=>by have:=h.1.2;have:=h.2;omega)]
 replace h3:=Q8.1 h3
 refine qP 7 rfl rfl<|sq 1<|qP 7 rfl rfl<|sw<|oq (sizeI_ok _ l (H.get 0 rfl).1) H fun w4 H=>qP 7 rfl rfl<|sq 1<|qP 7 rfl rfl<|sp (Bv (((l.length:Int):Int) == kinds))<|sp (Bv (((l.length:Int):Int) == kinds))<|sp (Bv (((l.length:Int):Int) == kinds)) ?_
 cases h6:(((l.length:Int):Int) == kinds)
 ·replace h6:=ne_of_beq_false h6
  refine xY [14,15,16]<|sp (Bv false)<|sp (Bv false)<|zjr<|rH1 (Bv false) H ?_
  rw[xw (fun h=>by have:=h.1.2;have:=h.2;omega)]
 replace h6:=eq_of_beq h6
 refine qP 13 rfl rfl<|sq 1<|qP 13 rfl rfl<|sw<|oq (containsFuncI_ok _ l 147 #[] (fun k=> !isCnt (l[k]!)) (H.get 0 rfl).1 call147<|fun k w' hk e=>validBag1_ok w' _) H fun w7 H=>qP 13 rfl rfl<|sq 3<|zjr<|rH1 (Bv (!(anyTo (fun k=> !isCnt (l[k]!)) l.length))) H<|congrArg Value.bool<|dec_eq ?_
 rw[anyCnt_iff]
 exact⟨fun h=>⟨⟨h,by omega,by omega⟩,by omega⟩,fun h=>h.1.1⟩
end
section
theorem slice_form{α:Type}[qX α]{l:List α}(h:qX.rep w F [v] l):∃a c,v=Sv a l.length c:=by
 obtain⟨a,c,hc,_⟩:=h
 simp only[List.cons.injEq,and_true] at hc
 exact⟨a,c,hc⟩
theorem one_of{α:Type}[qX α]{x:α}(h:qX.rep w F [v] x):v.oneCell'=true:=qX.one h v<|List.mem_singleton.2 rfl
theorem St.jo{α:Type}[qX α](H:St W0 w ps Γ)(i:Nat){l:List (List α)}(hf:Γ[i]? =some (isF fr F (Sv (some ⟨b,o,none⟩) m c) l))(iv:Int)(k:Nat)(hk:iv.toNat=k)(h0:0<=iv)(h1:iv<l.length):
 ∃(a':yOA) (c':Nat) (Fk:yLN),St W0 w ps (isF fr Fk (Sv a' (l[k]!).length c') (l[k]!)::atF b (o+iv.toNat*1) [Sv a' (l[k]!).length c']::Γ):=by
 obtain⟨cs,Fk,hc,hr,aJ⟩:=H.elem i hf iv h0 h1
 have dq:fr=true->yf w Fk:=fun e=>((H.get i hf).2 e).sub fun x hx=>aJ x<|List.mem_cons_of_mem _ hx
 rw[hk] at hr
 obtain⟨a',c',rfl,_⟩:=id hr
 exact⟨a',c',Fk,(H.jO i hf (atF b (o+iv.toNat*1) _) hc<|fun x hx=>aJ x (by simp only[atF,List.mem_singleton] at hx;subst hx;exact List.mem_cons_self ..)).jO (i+1) hf (isF fr Fk _ _) ⟨hr,dq⟩<|fun x hx=>aJ x<|List.mem_cons_of_mem _ hx⟩
structure Vw where
 qY:Int
 Xq:yLI
 deriving DecidableEq
instance:Inhabited Vw:=⟨⟨0,[]⟩⟩
instance:Tot Vw:=⟨fun x=>tot x.Xq⟩
theorem tot_IntoD(x:Vw):tot x=tot x.Xq:=rfl
instance:qX Vw where
 size:=2
 rep:=fun w F cs x=>∃(rH:Value) (sl:yLN),cs=[.int .i64 x.qY,rH]/\F=sl/\qX.rep w sl [rH] x.Xq
 len:=by rintro w F cs x ⟨rH,sl,rfl,_,rB⟩;rfl
 one:=by
  rintro w F cs x ⟨rH,sl,rfl,rfl,rB⟩ u hu
  simp only[List.mem_cons,List.not_mem_nil,or_false] at hu
  rcases hu with rfl|rfl <;> first|rfl|exact one_of ql
 stay:=by
  rintro w w' F cs x ⟨rH,sl,rfl,rfl,rB⟩ hs
  exact⟨_,_,rfl,rfl,qX.stay rB fun b hb=>hs b<|by simp[hb]⟩
 lt:=by
  rintro w F cs x ⟨rH,sl,rfl,rfl,rB⟩ b hb
  exact qX.lt rB b hb
theorem St.Qr(H:St W0 w ps Γ)(i:Nat){l:List Vw}(hf:Γ[i]? =some (isF fr F (Sv (some ⟨b,o,none⟩) m c) l))(iv:Int)(k:Nat)(hk:iv.toNat=k)(h0:0<=iv)(h1:iv<l.length):
 ∃(MW:yOA) (Lv:Nat) (sl:yLN),St W0 w ps (isF fr sl (Sv MW (l[k]!).Xq.length Lv) (l[k]!).Xq::atF b (o+iv.toNat*2) [.int .i64 (l[k]!).qY,Sv MW (l[k]!).Xq.length Lv]::Γ):=by
 obtain⟨cs,Fk,hc,hr,aJ⟩:=H.elem i hf iv h0 h1
 have dq:fr=true->yf w Fk:=fun e=>((H.get i hf).2 e).sub fun x hx=>aJ x<|List.mem_cons_of_mem _ hx
 rw[hk] at hr
 obtain⟨rH,sl,rfl,eV,rB⟩:=hr
 obtain⟨MW,Lv,rfl⟩:=slice_form rB
 exact⟨_,_,_,((H.jO i hf (atF b (o+iv.toNat*2) [.int .i64 (l[k]!).qY,Sv MW (l[k]!).Xq.length Lv]) hc<|fun x hx=>aJ x (by simp only[atF,List.mem_singleton] at hx;subst hx;exact List.mem_cons_self ..)).jO (i+1) hf (isF fr sl _ (l[k]!).Xq) ⟨rB,fun e=>(dq e).sub<|by rw[eV];intro x hx;simp[hx]⟩<|fun x hx=>aJ x<|List.mem_cons_of_mem _<|eV.symm▸(by have hx:x∈sl:=hx;simp[hx]))⟩
theorem St.snoc_IntoD(H:St W0 w ps Γ)(i:Nat){l:List Vw}(hf:Γ[i]? =some (xG fr F xs l))(nD:Int)(Ru:Nat){L6:yLN}{rH:Value}{R8:yLI}(rB:Γ[Ru]? =some (isF fr L6 rH R8)):
 St W0 w ps (xG fr (F++(L6)) (xs++[.int .i64 nD,rH]) (l++[⟨nD,R8⟩])::Γ):=by
 have hr:qX.rep w (L6) [.int .i64 nD,rH] (⟨nD,R8⟩:Vw):=⟨rH,L6,rfl,rfl,(H.get Ru rB).1⟩
 refine H.add _ ⟨Qw (H.get i hf).1<|reps_one hr,fun e=>((H.get i hf).2 e).app (((H.get Ru rB).2 e))⟩ fun b hb=>?_
 rcases List.mem_append.1 hb with h|h
 ·exact(H.facts _<|List.mem_of_getElem? hf).2 b h
 ·exact(H.facts _<|List.mem_of_getElem? rB).2 b h
structure yH where
 qY:Int
 yK:Int
 zJ:yLI
 jB:yLI
 jD:yLI
 jJ:yLI
 Qq:yLI
 xF:List Vw
 jY:Bool
 deriving DecidableEq
instance:Inhabited yH:=⟨⟨0,0,[],[],[],[],[],[],false⟩⟩
instance:Tot yH:=⟨fun x=>tot x.zJ+tot x.jB+tot x.jD+tot x.jJ+tot x.Qq+tot x.xF⟩
theorem tot_RuleD(x:yH):tot x=tot x.zJ+tot x.jB+tot x.jD+tot x.jJ+tot x.Qq+tot x.xF:=rfl
instance:qX yH where
 size:=9
 rep:=fun w F cs x=>∃(kF kx kt kw rv kB:Value) (kN lI kP lq uA lm:yLN),cs=[.int .i64 x.qY,.int .i64 x.yK,kF,kx,kt,kw,rv,kB,Bv x.jY]/\F=kN++lI++kP++lq++uA++lm/\qX.rep w kN [kF] x.zJ/\qX.rep w lI [kx] x.jB/\qX.rep w kP [kt] x.jD/\qX.rep w lq [kw] x.jJ/\qX.rep w uA [rv] x.Qq/\qX.rep w lm [kB] x.xF
 len:=by rintro w F cs x ⟨kF,kx,kt,kw,rv,kB,kN,lI,kP,lq,uA,lm,rfl,_,kj,kH,ky,kC,rA,kD⟩;rfl
 one:=by
  rintro w F cs x ⟨kF,kx,kt,kw,rv,kB,kN,lI,kP,lq,uA,lm,rfl,rfl,kj,kH,ky,kC,rA,kD⟩ u hu
  simp only[List.mem_cons,List.not_mem_nil,or_false] at hu
  rcases hu with rfl|rfl|rfl|rfl|rfl|rfl|rfl|rfl|rfl <;> first|rfl|exact one_of ql
 stay:=by
  rintro w w' F cs x ⟨kF,kx,kt,kw,rv,kB,kN,lI,kP,lq,uA,lm,rfl,rfl,kj,kH,ky,kC,rA,kD⟩ hs
  exact⟨_,_,_,_,_,_,_,_,_,_,_,_,rfl,rfl,qX.stay kj fun b hb=>hs b<|by simp[hb],qX.stay kH fun b hb=>hs b<|by simp[hb],qX.stay ky fun b hb=>hs b<|by simp[hb],qX.stay kC fun b hb=>hs b<|by simp[hb],qX.stay rA fun b hb=>hs b<|by simp[hb],qX.stay kD fun b hb=>hs b<|by simp[hb]⟩
 lt:=by
  rintro w F cs x ⟨kF,kx,kt,kw,rv,kB,kN,lI,kP,lq,uA,lm,rfl,rfl,kj,kH,ky,kC,rA,kD⟩ b hb
  simp only[List.mem_append] at hb
  rcases hb with (((((hb|hb)|hb)|hb)|hb)|hb)
  ·exact qX.lt kj b hb
  ·exact qX.lt kH b hb
  ·exact qX.lt ky b hb
  ·exact qX.lt kC b hb
  ·exact qX.lt rA b hb
  ·exact qX.lt kD b hb
theorem St.Qa(H:St W0 w ps Γ)(i:Nat){l:List yH}(hf:Γ[i]? =some (isF fr F (Sv (some ⟨b,o,none⟩) m c) l))(iv:Int)(k:Nat)(hk:iv.toNat=k)(h0:0<=iv)(h1:iv<l.length):
 ∃(C9:yOA) (D6:Nat) (kN:yLN) (D0:yOA) (DU:Nat) (lI:yLN) (DX:yOA) (EA:Nat) (kP:yLN) (Ds:yOA) (C2:Nat) (lq:yLN) (Lj:yOA) (LD:Nat) (uA:yLN) (Dj:yOA) (DQ:Nat) (lm:yLN),St W0 w ps (isF fr kN (Sv C9 (l[k]!).zJ.length D6) (l[k]!).zJ::isF fr lI (Sv D0 (l[k]!).jB.length DU) (l[k]!).jB::isF fr kP (Sv DX (l[k]!).jD.length EA) (l[k]!).jD::isF fr lq (Sv Ds (l[k]!).jJ.length C2) (l[k]!).jJ::isF fr uA (Sv Lj (l[k]!).Qq.length LD) (l[k]!).Qq::isF fr lm (Sv Dj (l[k]!).xF.length DQ) (l[k]!).xF::atF b (o+iv.toNat*9) [.int .i64 (l[k]!).qY,.int .i64 (l[k]!).yK,Sv C9 (l[k]!).zJ.length D6,Sv D0 (l[k]!).jB.length DU,Sv DX (l[k]!).jD.length EA,Sv Ds (l[k]!).jJ.length C2,Sv Lj (l[k]!).Qq.length LD,Sv Dj (l[k]!).xF.length DQ,Bv (l[k]!).jY]::Γ):=by
 obtain⟨cs,Fk,hc,hr,aJ⟩:=H.elem i hf iv h0 h1
 have dq:fr=true->yf w Fk:=fun e=>((H.get i hf).2 e).sub fun x hx=>aJ x<|List.mem_cons_of_mem _ hx
 rw[hk] at hr
 obtain⟨kF,kx,kt,kw,rv,kB,kN,lI,kP,lq,uA,lm,rfl,eV,kj,kH,ky,kC,rA,kD⟩:=hr
 obtain⟨C9,D6,rfl⟩:=slice_form kj
 obtain⟨D0,DU,rfl⟩:=slice_form kH
 obtain⟨DX,EA,rfl⟩:=slice_form ky
 obtain⟨Ds,C2,rfl⟩:=slice_form kC
 obtain⟨Lj,LD,rfl⟩:=slice_form rA
 obtain⟨Dj,DQ,rfl⟩:=slice_form kD
 exact⟨_,_,_,_,_,_,_,_,_,_,_,_,_,_,_,_,_,_,(((((((H.jO i hf (atF b (o+iv.toNat*9) [.int .i64 (l[k]!).qY,.int .i64 (l[k]!).yK,Sv C9 (l[k]!).zJ.length D6,Sv D0 (l[k]!).jB.length DU,Sv DX (l[k]!).jD.length EA,Sv Ds (l[k]!).jJ.length C2,Sv Lj (l[k]!).Qq.length LD,Sv Dj (l[k]!).xF.length DQ,Bv (l[k]!).jY]) hc<|fun x hx=>aJ x (by simp only[atF,List.mem_singleton] at hx;subst hx;exact List.mem_cons_self ..)).jO (i+1) hf (isF fr lm _ (l[k]!).xF) ⟨kD,fun e=>(dq e).sub<|by rw[eV];intro x hx;simp[hx]⟩<|fun x hx=>aJ x<|List.mem_cons_of_mem _<|eV.symm▸(by have hx:x∈lm:=hx;simp[hx])).jO (i+2) hf (isF fr uA _ (l[k]!).Qq) ⟨rA,fun e=>(dq e).sub<|by rw[eV];intro x hx;simp[hx]⟩<|fun x hx=>aJ x<|List.mem_cons_of_mem _<|eV.symm▸(by have hx:x∈uA:=hx;simp[hx])).jO (i+3) hf (isF fr lq _ (l[k]!).jJ) ⟨kC,fun e=>(dq e).sub<|by rw[eV];intro x hx;simp[hx]⟩<|fun x hx=>aJ x<|List.mem_cons_of_mem _<|eV.symm▸(by have hx:x∈lq:=hx;simp[hx])).jO (i+4) hf (isF fr kP _ (l[k]!).jD) ⟨ky,fun e=>(dq e).sub<|by rw[eV];intro x hx;simp[hx]⟩<|fun x hx=>aJ x<|List.mem_cons_of_mem _<|eV.symm▸(by have hx:x∈kP:=hx;simp[hx])).jO (i+5) hf (isF fr lI _ (l[k]!).jB) ⟨kH,fun e=>(dq e).sub<|by rw[eV];intro x hx;simp[hx]⟩<|fun x hx=>aJ x<|List.mem_cons_of_mem _<|eV.symm▸(by have hx:x∈lI:=hx;simp[hx])).jO (i+6) hf (isF fr kN _ (l[k]!).zJ) ⟨kj,fun e=>(dq e).sub<|by rw[eV];intro x hx;simp[hx]⟩<|fun x hx=>aJ x<|List.mem_cons_of_mem _<|eV.symm▸(by have hx:x∈kN:=hx;simp[hx]))⟩
theorem St.snoc_RuleD(H:St W0 w ps Γ)(i:Nat){l:List yH}(hf:Γ[i]? =some (xG fr F xs l))(nD:Int)(Ew:Int)(JV:Nat){Di:yLN}{kF:Value}{HS:yLI}(kj:Γ[JV]? =some (isF fr Di kF HS))(HE:Nat){DD:yLN}{kx:Value}{JE:yLI}(kH:Γ[HE]? =some (isF fr DD kx JE))(Ix:Nat){C4:yLN}{kt:Value}{JX:yLI}(ky:Γ[Ix]? =some (isF fr C4 kt JX))(Jc:Nat){Ee:yLN}{kw:Value}{J5:yLI}(kC:Γ[Jc]? =some (isF fr Ee kw J5))(Ut:Nat){MB:yLN}{rv:Value}{Rk:yLI}(rA:Γ[Ut]? =some (isF fr MB rv Rk))(Ik:Nat){DF:yLN}{kB:Value}{HP:List Vw}(kD:Γ[Ik]? =some (isF fr DF kB HP))(xj:Bool):
 St W0 w ps (xG fr (F++(Di++DD++C4++Ee++MB++DF)) (xs++[.int .i64 nD,.int .i64 Ew,kF,kx,kt,kw,rv,kB,Bv xj]) (l++[⟨nD,Ew,HS,JE,JX,J5,Rk,HP,xj⟩])::Γ):=by
 have hr:qX.rep w (Di++DD++C4++Ee++MB++DF) [.int .i64 nD,.int .i64 Ew,kF,kx,kt,kw,rv,kB,Bv xj] (⟨nD,Ew,HS,JE,JX,J5,Rk,HP,xj⟩:yH):=⟨kF,kx,kt,kw,rv,kB,Di,DD,C4,Ee,MB,DF,rfl,rfl,(H.get JV kj).1,(H.get HE kH).1,(H.get Ix ky).1,(H.get Jc kC).1,(H.get Ut rA).1,(H.get Ik kD).1⟩
 refine H.add _ ⟨Qw (H.get i hf).1<|reps_one hr,fun e=>((H.get i hf).2 e).app ((((((((H.get JV kj).2 e).app ((H.get HE kH).2 e)).app ((H.get Ix ky).2 e)).app ((H.get Jc kC).2 e)).app ((H.get Ut rA).2 e)).app ((H.get Ik kD).2 e)))⟩ fun b hb=>?_
 rcases List.mem_append.1 hb with h|h
 ·exact(H.facts _<|List.mem_of_getElem? hf).2 b h
 ·simp only[List.mem_append] at h
  rcases h with (((((h|h)|h)|h)|h)|h)
  ·exact(H.facts _<|List.mem_of_getElem? kj).2 b h
  ·exact(H.facts _<|List.mem_of_getElem? kH).2 b h
  ·exact(H.facts _<|List.mem_of_getElem? ky).2 b h
  ·exact(H.facts _<|List.mem_of_getElem? kC).2 b h
  ·exact(H.facts _<|List.mem_of_getElem? rA).2 b h
  ·exact(H.facts _<|List.mem_of_getElem? kD).2 b h
structure qH where
 zf:Int
 qA:yLI
 qB:List yH
 deriving DecidableEq
instance:Inhabited qH:=⟨⟨0,[],[]⟩⟩
instance:Tot qH:=⟨fun x=>tot x.qA+tot x.qB⟩
instance:qX qH where
 size:=3
 rep:=fun w F cs x=>∃(ii oz:Value) (ix oA:yLN),cs=[.int .i64 x.zf,ii,oz]/\F=ix++oA/\qX.rep w ix [ii] x.qA/\qX.rep w oA [oz] x.qB
 len:=by rintro w F cs x ⟨ii,oz,ix,oA,rfl,_,lw,tg⟩;rfl
 one:=by
  rintro w F cs x ⟨ii,oz,ix,oA,rfl,rfl,lw,tg⟩ u hu
  simp only[List.mem_cons,List.not_mem_nil,or_false] at hu
  rcases hu with rfl|rfl|rfl <;> first|rfl|exact one_of ql
 stay:=by
  rintro w w' F cs x ⟨ii,oz,ix,oA,rfl,rfl,lw,tg⟩ hs
  exact⟨_,_,_,_,rfl,rfl,qX.stay lw fun b hb=>hs b<|by simp[hb],qX.stay tg fun b hb=>hs b<|by simp[hb]⟩
 lt:=by
  rintro w F cs x ⟨ii,oz,ix,oA,rfl,rfl,lw,tg⟩ b hb
  simp only[List.mem_append] at hb
  rcases hb with (hb|hb)
  ·exact qX.lt lw b hb
  ·exact qX.lt tg b hb
structure qG where
 qK:List Bool
 qQ:yLL
 qJ:yLI
 deriving DecidableEq
instance:Inhabited qG:=⟨⟨[],[],[]⟩⟩
instance:Tot qG:=⟨fun x=>tot x.qK+tot x.qQ+tot x.qJ⟩
instance:qX qG where
 size:=3
 rep:=fun w F cs x=>∃(eQ kA dm:Value) (fQ lv dO:yLN),cs=[eQ,kA,dm]/\F=fQ++lv++dO/\qX.rep w fQ [eQ] x.qK/\qX.rep w lv [kA] x.qQ/\qX.rep w dO [dm] x.qJ
 len:=by rintro w F cs x ⟨eQ,kA,dm,fQ,lv,dO,rfl,_,eU,kG,di⟩;rfl
 one:=by
  rintro w F cs x ⟨eQ,kA,dm,fQ,lv,dO,rfl,rfl,eU,kG,di⟩ u hu
  simp only[List.mem_cons,List.not_mem_nil,or_false] at hu
  rcases hu with rfl|rfl|rfl <;> exact one_of ql
 stay:=by
  rintro w w' F cs x ⟨eQ,kA,dm,fQ,lv,dO,rfl,rfl,eU,kG,di⟩ hs
  exact⟨_,_,_,_,_,_,rfl,rfl,qX.stay eU fun b hb=>hs b<|by simp[hb],qX.stay kG fun b hb=>hs b<|by simp[hb],qX.stay di fun b hb=>hs b<|by simp[hb]⟩
 lt:=by
  rintro w F cs x ⟨eQ,kA,dm,fQ,lv,dO,rfl,rfl,eU,kG,di⟩ b hb
  simp only[List.mem_append] at hb
  rcases hb with ((hb|hb)|hb)
  ·exact qX.lt eU b hb
  ·exact qX.lt kG b hb
  ·exact qX.lt di b hb
theorem St.XO(H:St W0 w ps Γ)(i:Nat){l:List qG}(hf:Γ[i]? =some (isF fr F (Sv (some ⟨b,o,none⟩) m c) l))(iv:Int)(k:Nat)(hk:iv.toNat=k)(h0:0<=iv)(h1:iv<l.length):
 ∃(wZ:yOA) (yo:Nat) (fQ:yLN) (Ey:yOA) (EH:Nat) (lv:yLN) (rR:yOA) (rO:Nat) (dO:yLN),St W0 w ps (isF fr fQ (Sv wZ (l[k]!).qK.length yo) (l[k]!).qK::isF fr lv (Sv Ey (l[k]!).qQ.length EH) (l[k]!).qQ::isF fr dO (Sv rR (l[k]!).qJ.length rO) (l[k]!).qJ::atF b (o+iv.toNat*3) [Sv wZ (l[k]!).qK.length yo,Sv Ey (l[k]!).qQ.length EH,Sv rR (l[k]!).qJ.length rO]::Γ):=by
 obtain⟨cs,Fk,hc,hr,aJ⟩:=H.elem i hf iv h0 h1
 have dq:fr=true->yf w Fk:=fun e=>((H.get i hf).2 e).sub fun x hx=>aJ x<|List.mem_cons_of_mem _ hx
 rw[hk] at hr
 obtain⟨eQ,kA,dm,fQ,lv,dO,rfl,eV,eU,kG,di⟩:=hr
 obtain⟨wZ,yo,rfl⟩:=slice_form eU
 obtain⟨Ey,EH,rfl⟩:=slice_form kG
 obtain⟨rR,rO,rfl⟩:=slice_form di
 exact⟨_,_,_,_,_,_,_,_,_,((((H.jO i hf (atF b (o+iv.toNat*3) [Sv wZ (l[k]!).qK.length yo,Sv Ey (l[k]!).qQ.length EH,Sv rR (l[k]!).qJ.length rO]) hc<|fun x hx=>aJ x (by simp only[atF,List.mem_singleton] at hx;subst hx;exact List.mem_cons_self ..)).jO (i+1) hf (isF fr dO _ (l[k]!).qJ) ⟨di,fun e=>(dq e).sub<|by rw[eV];intro x hx;simp[hx]⟩<|fun x hx=>aJ x<|List.mem_cons_of_mem _<|eV.symm▸(by have hx:x∈dO:=hx;simp[hx])).jO (i+2) hf (isF fr lv _ (l[k]!).qQ) ⟨kG,fun e=>(dq e).sub<|by rw[eV];intro x hx;simp[hx]⟩<|fun x hx=>aJ x<|List.mem_cons_of_mem _<|eV.symm▸(by have hx:x∈lv:=hx;simp[hx])).jO (i+3) hf (isF fr fQ _ (l[k]!).qK) ⟨eU,fun e=>(dq e).sub<|by rw[eV];intro x hx;simp[hx]⟩<|fun x hx=>aJ x<|List.mem_cons_of_mem _<|eV.symm▸(by have hx:x∈fQ:=hx;simp[hx]))⟩
theorem St.Qo(H:St W0 w ps Γ)(i:Nat){l:List qG}(hf:Γ[i]? =some (xG fr F xs l))(CD:Nat){yy:yLN}{eQ:Value}{CC:List Bool}(eU:Γ[CD]? =some (isF fr yy eQ CC))(Jl:Nat){Do:yLN}{kA:Value}{Hd:yLL}(kG:Γ[Jl]? =some (isF fr Do kA Hd))(wR:Nat){rK:yLN}{dm:Value}{xl:yLI}(di:Γ[wR]? =some (isF fr rK dm xl)):
 St W0 w ps (xG fr (F++(yy++Do++rK)) (xs++[eQ,kA,dm]) (l++[⟨CC,Hd,xl⟩])::Γ):=by
 have hr:qX.rep w (yy++Do++rK) [eQ,kA,dm] (⟨CC,Hd,xl⟩:qG):=⟨eQ,kA,dm,yy,Do,rK,rfl,rfl,(H.get CD eU).1,(H.get Jl kG).1,(H.get wR di).1⟩
 refine H.add _ ⟨Qw (H.get i hf).1<|reps_one hr,fun e=>((H.get i hf).2 e).app (((((H.get CD eU).2 e).app ((H.get Jl kG).2 e)).app ((H.get wR di).2 e)))⟩ fun b hb=>?_
 rcases List.mem_append.1 hb with h|h
 ·exact(H.facts _<|List.mem_of_getElem? hf).2 b h
 ·simp only[List.mem_append] at h
  rcases h with ((h|h)|h)
  ·exact(H.facts _<|List.mem_of_getElem? eU).2 b h
  ·exact(H.facts _<|List.mem_of_getElem? kG).2 b h
  ·exact(H.facts _<|List.mem_of_getElem? di).2 b h
structure inCellD where
 frules:yLI
 fpackings:yLL
 deriving DecidableEq
instance:Inhabited inCellD:=⟨⟨[],[]⟩⟩
instance:Tot inCellD:=⟨fun x=>tot x.frules+tot x.fpackings⟩
instance:qX inCellD where
 size:=2
 rep:=fun w F cs x=>∃(eP bE:Value) (gi bJ:yLN),cs=[eP,bE]/\F=gi++bJ/\qX.rep w gi [eP] x.frules/\qX.rep w bJ [bE] x.fpackings
 len:=by rintro w F cs x ⟨eP,bE,gi,bJ,rfl,_,eT,bD⟩;rfl
 one:=by
  rintro w F cs x ⟨eP,bE,gi,bJ,rfl,rfl,eT,bD⟩ u hu
  simp only[List.mem_cons,List.not_mem_nil,or_false] at hu
  rcases hu with rfl|rfl <;> exact one_of ql
 stay:=by
  rintro w w' F cs x ⟨eP,bE,gi,bJ,rfl,rfl,eT,bD⟩ hs
  exact⟨_,_,_,_,rfl,rfl,qX.stay eT fun b hb=>hs b<|by simp[hb],qX.stay bD fun b hb=>hs b<|by simp[hb]⟩
 lt:=by
  rintro w F cs x ⟨eP,bE,gi,bJ,rfl,rfl,eT,bD⟩ b hb
  simp only[List.mem_append] at hb
  rcases hb with (hb|hb)
  ·exact qX.lt eT b hb
  ·exact qX.lt bD b hb
theorem St.elem_inCellD(H:St W0 w ps Γ)(i:Nat){l:List inCellD}(hf:Γ[i]? =some (isF fr F (Sv (some ⟨b,o,none⟩) m c) l))(iv:Int)(k:Nat)(hk:iv.toNat=k)(h0:0<=iv)(h1:iv<l.length):
 ∃(yv:yOA) (yp:Nat) (gi:yLN) (lW:yOA) (lX:Nat) (bJ:yLN),St W0 w ps (isF fr gi (Sv yv (l[k]!).frules.length yp) (l[k]!).frules::isF fr bJ (Sv lW (l[k]!).fpackings.length lX) (l[k]!).fpackings::atF b (o+iv.toNat*2) [Sv yv (l[k]!).frules.length yp,Sv lW (l[k]!).fpackings.length lX]::Γ):=by
 obtain⟨cs,Fk,hc,hr,aJ⟩:=H.elem i hf iv h0 h1
 have dq:fr=true->yf w Fk:=fun e=>((H.get i hf).2 e).sub fun x hx=>aJ x<|List.mem_cons_of_mem _ hx
 rw[hk] at hr
 obtain⟨eP,bE,gi,bJ,rfl,eV,eT,bD⟩:=hr
 obtain⟨yv,yp,rfl⟩:=slice_form eT
 obtain⟨lW,lX,rfl⟩:=slice_form bD
 exact⟨_,_,_,_,_,_,(((H.jO i hf (atF b (o+iv.toNat*2) [Sv yv (l[k]!).frules.length yp,Sv lW (l[k]!).fpackings.length lX]) hc<|fun x hx=>aJ x (by simp only[atF,List.mem_singleton] at hx;subst hx;exact List.mem_cons_self ..)).jO (i+1) hf (isF fr bJ _ (l[k]!).fpackings) ⟨bD,fun e=>(dq e).sub<|by rw[eV];intro x hx;simp[hx]⟩<|fun x hx=>aJ x<|List.mem_cons_of_mem _<|eV.symm▸(by have hx:x∈bJ:=hx;simp[hx])).jO (i+2) hf (isF fr gi _ (l[k]!).frules) ⟨eT,fun e=>(dq e).sub<|by rw[eV];intro x hx;simp[hx]⟩<|fun x hx=>aJ x<|List.mem_cons_of_mem _<|eV.symm▸(by have hx:x∈gi:=hx;simp[hx]))⟩
theorem St.snoc_inCellD(H:St W0 w ps Γ)(i:Nat){l:List inCellD}(hf:Γ[i]? =some (xG fr F xs l))(Cd:Nat){xi:yLN}{eP:Value}{CQ:yLI}(eT:Γ[Cd]? =some (isF fr xi eP CQ))(oy:Nat){lP:yLN}{bE:Value}{oW:yLL}(bD:Γ[oy]? =some (isF fr lP bE oW)):
 St W0 w ps (xG fr (F++(xi++lP)) (xs++[eP,bE]) (l++[⟨CQ,oW⟩])::Γ):=by
 have hr:qX.rep w (xi++lP) [eP,bE] (⟨CQ,oW⟩:inCellD):=⟨eP,bE,xi,lP,rfl,rfl,(H.get Cd eT).1,(H.get oy bD).1⟩
 refine H.add _ ⟨Qw (H.get i hf).1<|reps_one hr,fun e=>((H.get i hf).2 e).app ((((H.get Cd eT).2 e).app ((H.get oy bD).2 e)))⟩ fun b hb=>?_
 rcases List.mem_append.1 hb with h|h
 ·exact(H.facts _<|List.mem_of_getElem? hf).2 b h
 ·simp only[List.mem_append] at h
  rcases h with (h|h)
  ·exact(H.facts _<|List.mem_of_getElem? eT).2 b h
  ·exact(H.facts _<|List.mem_of_getElem? bD).2 b h
abbrev yS(s:qH)(a:Option Addr)(c:Nat)(a':Option Addr)(c':Nat):List Value:=[.int .i64 s.zf,Sv a s.qA.length c,Sv a' s.qB.length c']
abbrev yT(t:qG)(a:Option Addr)(c:Nat)(a':Option Addr)(c':Nat)(b:Option Addr)(d:Nat):List Value:=[Sv a t.qK.length c,Sv a' t.qQ.length c',Sv b t.qJ.length d]
end
variable{s:qH}
section
variable{cl cm : Nat}
theorem both_ok(w:World)(l:yLI)(m:yLI)(of:FuncId)(xz:Array Value)(KP:Nat->Int)(hl:zP w Fl al cl l)(hm:zP w Fm am cm m)(p0:l.length<=m.length)(p1:l.length<=1000000)(apL:∀args w,(callFunc of args).run Tryz.prog w=.ok (.enter of args) w)(ZL:∀k w',k<l.length->Ext w w' ->Calls Tryz.prog of (([yI<|l[k]!,yI<|m[k]!]:List Value)++xz.toList).toArray w' (Ret (fun v _=>v=yI (KP k)) w')):Calls Tryz.prog 148 #[Sv al l.length cl,Sv am m.length cm,.func (.func of) #[] xz] w (Ret (fun v w'=>OwnNew w w' 2 v<|tabTo KP l.length) w):=by
 refine en func148 ntmps148 ?_
 have H:=((St.start w).arg hm).arg hl
 have nhm:=qR hm
 clear hl hm
 refine zcr<|sq 1<|zjc<|sw<|ja H underlying24 ti2 fun b1 w2 H=>sq 1<|zjcc<|sq 1<|oN rfl<|sp (yI 0)<|zjn<|xf ?_
 replace H:=H.boxRow 0 rfl 1 0 rfl qj
 replace H:St _ _ [rr (aa b1 0) 0 0 2 1 []] _:=H
 refine zD ((fun Z0 Z1=>fun m' ρ w3=>∃(xN:Env) (k:Nat) (Bu:Value),ρ=upd (upd (upd (upd (upd (upd (upd xN 1<|Sv am m.length cm) 2<|.func (.func of) #[] xz) 6 yN) 7<|Bu) 11<|Sv al l.length cl) 12<|yI l.length) 13 (yI k)/\(k<=l.length)/\m'=l.length-k/\St w w3 [.row Bu 2 1 k ((tabTo KP k).map<|Value.int .i64)] [Z0,Z1]) _ _) (l.length-0) ⟨_,0,(Sv (aa b1 0) 0 0),uE7,qf,rfl,H⟩ ?_
 clear H
 rintro m' ρ w4 ⟨xN,k,Bu,rfl,i0,rfl,H⟩
 refine zcr<|sq 1<|zjn<|xU<|cD rfl (fun h5=>?_)<|fun h5=>?_
 ·refine qZ (t_n<|xU<|xf<|zcr<|sp (yI k) ?_)
  obtain⟨b6,o7,rfl⟩:=H.addr 0 rfl qf
  refine oI rfl rfl<|oL rfl (H.zS 0 rfl k qf)<|sp (yI k)<|sq 1<|zjn<|xX<|sp Bu<|sp (.func (.func of) #[] xz)<|sq 2<|sp (yI k) ?_
  obtain⟨b8,o9,rfl⟩:=H.addr 1 rfl qf
  refine oI rfl rfl<|oL rfl (H.zS 1 rfl k qf)<|sw<|o_callV [yI<|l[k]!,yI<|m[k]!] rfl rfl apL (ZL k _ qf H.base) ?_
  rintro _ ov rfl x11
  replace H:=H.ext x11
  refine sw<|o_build1 H underlying24 ti2 qj qj (yI<|KP k) rfl rfl fun uG xp H=>sw<|o_append H 1 rfl 0 rfl underlying24 ti2 rfl qj rfl rfl rfl qw qp qf fun KO uK H=>?_
  replace H:St _ _ [.box uG [yI<|KP k] 2,.row KO 2 1 (k+1) (((tabTo KP k).map<|Value.int .i64)++[yI<|KP k])] _:=H
  refine sp (KO)<|xZ<|b_n<|t_n<|xX<|sw<|zC k 1 rfl rfl qf<|sq 1<|xZ ?_
  rw[show ((tabTo KP k).map<|Value.int .i64)++[yI<|KP k]=(tabTo KP<|k+1).map (Value.int .i64) from by(rw[tabTo_succ];simp)] at H
  refine xh (m':=l.length-(k+1)) qf ⟨_,k+1,KO,uE7,?_,rfl,H.sel _ (.cons _<|.refl _) _ qm⟩
  ·omega
 refine zx4<|zcr<|sp Bu<|sp Bu<|zjr<|rH1 (Bu) H ?_
 obtain rfl:k=l.length:=by omega
 exact H.newInts 0 rfl qm
theorem plus1_ok(w:World)(x:Int)(y:Int)(t:Int)(bt ot:Nat)(hpt:jC w bt ot [yI t])(p0: -1000000000000000<=x/\x<=1000000000000000)(p1: -1000000000000000<=t*y/\t*y<=1000000000000000):Calls Tryz.prog 168 #[yI x,yI y,pp bt ot] w (Ret (fun v w'=>v=yI (x+t*y)) w):=by
 refine en func168 ntmps168 ?_
 have H:=(St.start w).VF hpt
 clear hpt
 refine zcr<|sp (yI 0)<|zjc<|sp (yI x)<|oL rfl (H.zo 0 rfl 0 rfl)<|sp (yI y)<|sw<|o_mul t y rfl rfl qf<|sw<|zC x (t*y) rfl rfl qf<|sq 1<|zjr<|rH1 (yI<|x+(t*y)) H ?_
 rfl
theorem plus_ok(w:World)(l:yLI)(m:yLI)(t:Int)(hl:zP w Fl al cl l)(hm:zP w Fm am cm m)(p0:l.length<=m.length)(p1:Mid l)(p2:SmallT m t):Calls Tryz.prog 127 #[Sv al l.length cl,Sv am m.length cm,yI t] w (Ret (fun v w'=>OwnNew w w' 2 v<|jX l m t) w):=by
 refine en func127 ntmps127 ?_
 have H:=((St.start w).arg hm).arg hl
 clear hl hm
 have p3:=p1.1
 refine zcr<|sw<|o_box H (yI t) rfl fun b1 w2 H=>?_
 replace H:St _ _ [.box b1 [yI t] 2] _:=H
 refine sq 1<|zjc<|sq 2<|sp (.func (.func 168) #[] #[pp b1 0])<|sw<|oc (both_ok _ l m 168 #[pp b1 0] (fun k=>l[k]! +t*m[k]!) (H.get 0 rfl).1 (H.get 1 rfl).1 qf qf call168<|fun k w' hk e=>plus1_ok w' _ _ t _ _ ((H.ext e).cells 0 rfl) (by have:=p1.2 k hk;omega)<|p2 k qf) ?_
 rintro v5 w3 r5 x4
 replace H:=H.zO x4 r5
 refine sp (v5)<|zjr<|rH1 (v5) H<|H.newInts 0 rfl<|by simp[Xh]
theorem X3(w:World)(l:yLI)(m:yLI)(t:Int)(hl:zP w Fl al cl l)(hm:zP w Fm am cm m)(p0:l.length<=m.length)(p1:Mid l)(p2:SmallT m t):Calls Tryz.prog 192 #[Sv al l.length cl,Sv am m.length cm,yI t] w (Ret (fun v w'=>OwnNew w w' 2 v<|jX l m t) w):=by
 refine en func192 ntmps192 ?_
 have H:=((St.start w).arg hm).arg hl
 have y4:=qR hl
 have nhm:=qR hm
 clear hl hm
 have p3:=p1.1
 refine zcr<|sq 1<|zjc<|sw<|ja H underlying24 ti2 fun b1 w2 H=>sq 1<|zjcc<|sp (yI 0)<|zjn<|xf ?_
 replace H:=H.boxRow 0 rfl 1 0 rfl qj
 replace H:St _ _ [rr (aa b1 0) 0 0 2 1 []] _:=H
 refine zD ((fun Z0 Z1=>fun m' ρ w3=>∃(xN:Env) (k:Nat) (Bu:Value),ρ=upd (upd (upd (upd (upd (upd xN 0<|Sv al l.length cl) 1<|Sv am m.length cm) 2<|yI t) 6 yN) 7<|Bu) 8 (yI k)/\(k<=l.length)/\m'=l.length-k/\St w w3 [.row Bu 2 1 k ((plusTo l m t k).map<|Value.int .i64)] [Z0,Z1]) _ _) (l.length-0) ⟨_,0,(Sv (aa b1 0) 0 0),uE6,qf,rfl,H⟩ ?_
 clear H
 rintro m' ρ w4 ⟨xN,k,Bu,rfl,i0,rfl,H⟩
 refine zcc<|sp (yI k)<|sq 1<|oN rfl<|sq 1<|zjn<|cD rfl (fun h5=>?_)<|fun h5=>?_
 ·refine qZ (t_n<|xU<|xf<|c_draw (fun w6=>St w w6 [] [sF false Fl al cl l,sF false Fm am cm m]) rfl ((H.ext<|ext_drew _).sel _ (.cons _<|.refl _) _<|fun _ h=>h) ?_)
  replace H:=H.ext<|ext_drew _
  refine rtp 0 (Bu) (H.sel _ (.cons _<|.refl _) _<|fun _ h=>h) ?_
  refine rtl 1 (H.sel _ (.cons _<|.refl _) _<|fun _ h=>h) ?_
  refine rtp 2 (yI k) (H.sel _ (.cons _<|.refl _) _<|fun _ h=>h) ?_
  obtain⟨b7,o8,rfl⟩:=H.addr 0 rfl qf
  refine tI 3 rfl rfl rfl (H.sel _ (.cons _<|.refl _) _<|fun _ h=>h) ?_
  refine tL 4 rfl rfl (fun _ h=>h.zS 0 rfl k qf) (H.sel _ (.cons _<|.refl _) _<|fun _ h=>h) ?_
  refine rtl 5 (H.sel _ (.cons _<|.refl _) _<|fun _ h=>h) ?_
  refine rtp 6 (yI k) (H.sel _ (.cons _<|.refl _) _<|fun _ h=>h) ?_
  obtain⟨b9,o10,rfl⟩:=H.addr 1 rfl qf
  refine tI 7 rfl rfl rfl (H.sel _ (.cons _<|.refl _) _<|fun _ h=>h) ?_
  refine tL 8 rfl rfl (fun _ h=>h.zS 1 rfl k qf) (H.sel _ (.cons _<|.refl _) _<|fun _ h=>h) ?_
  refine rtp 9 (yI t) (H.sel _ (.cons _<|.refl _) _<|fun _ h=>h) ?_
  refine rt 10 _ (y_mul (m[k]!) t rfl rfl<|by(have:=p1.2 k qf;have:=p2 k qf;rw[Int.mul_comm] at this;omega)) (H.sel _ (.cons _<|.refl _) _<|fun _ h=>h) ?_
  refine rt 11 _ (y_add (l[k]!) ((m[k]!)*t) rfl rfl<|by(have:=p1.2 k qf;have:=p2 k qf;rw[Int.mul_comm] at this;omega)) (H.sel _ (.cons _<|.refl _) _<|fun _ h=>h) ?_
  refine ro 12 rfl<|o_build1 H underlying24 ti2 qj qj (yI ((l[k]!)+((m[k]!)*t))) rfl rfl fun oO we H=>?_
  replace H:St _ _ [.box oO [yI ((l[k]!)+((m[k]!)*t))] 2,.row Bu 2 1 k ((plusTo l m t k).map<|Value.int .i64)] _:=H
  refine⟨H.sel _ (.cons _<|.cons _<|.refl _) _<|fun _ h=>h,(ro 13 rfl<|o_append H 1 rfl 0 rfl underlying24 ti2 rfl qj rfl rfl rfl qw qp qf fun Kt O5 H=>?_)⟩
  replace H:St _ _ [.box oO [yI ((l[k]!)+((m[k]!)*t))] 2,.row Kt 2 1 (k+1) (((plusTo l m t k).map<|Value.int .i64)++[yI ((l[k]!)+((m[k]!)*t))])] _:=H
  refine⟨H.sel _ (.cons _<|.cons _<|.refl _) _<|fun _ h=>h,(rtp 14 (Kt) (H.sel _ (.cons _<|.cons _<|.refl _) _<|fun _ h=>h) ?_)⟩
  refine xC qh<|b_n<|t_n<|xX<|sp (yI k)<|sw<|zC k 1 rfl rfl (by(have:=p1.2 k qf;have:=p2 k qf;rw[Int.mul_comm] at this;omega))<|sq 1<|xZ ?_
  rw[show ((plusTo l m t k).map<|Value.int .i64)++[yI ((l[k]!)+((m[k]!)*t))]=(plusTo l m t<|k+1).map (Value.int .i64) from by(rw[plusTo_succ,Int.mul_comm t];simp)] at H
  refine xh (m':=l.length-(k+1)) qf ⟨_,k+1,Kt,uE6,?_,rfl,H.sel _ (.cons _<|.refl _) _ qm⟩
  ·omega
 refine zx4<|zcr<|sp Bu<|sp Bu<|zjr<|rH1 (Bu) H ?_
 obtain rfl:k=l.length:=by omega
 exact H.newInts 0 rfl<|by simp[jX,plusTo]
theorem XX(w:World)(l:yLI)(hl:zP w Fl al cl l)(p0:l.length<=1000000):Calls Tryz.prog 42 #[Sv al l.length cl] w (Ret (fun v w'=>OwnNew w w' 2 v l) w):=by
 refine en func42 ntmps42 ?_
 have H:=(St.start w).arg hl
 clear hl
 refine zcr<|sq 1<|zjc<|sw<|ja H underlying24 ti2 fun b1 w2 H=>sq 1 ?_
 replace H:=H.boxRow 0 rfl 1 0 rfl qj
 refine sw<|o_appendInts H 0 rfl 0 rfl underlying24 ti2 rfl rfl rfl qp qf fun v3 w4 H=>?_
 replace H:St _ _ [.row v3 2 1 (0+l.length) ([]++l.map (Value.int .i64))] _:=H
 refine sp (v3)<|zjr<|rH1 (v3) H<|H.newInts 0 rfl qf
theorem cloneI_ok(w:World)(l:yLI)(hl:zP w Fl al cl l)(p0:l.length<=1000000):Calls Tryz.prog 121 #[Sv al l.length cl] w (Ret (fun v w'=>OwnNew w w' 2 v l) w):=by
 refine en func121 ntmps121 ?_
 have H:=(St.start w).arg hl
 have y4:=qR hl
 clear hl
 refine zcr<|sq 1<|zjcc<|sq 1<|sw<|o_eqnil underlying24 al l.length cl rfl<|zjn<|zX _ rfl (fun h1=>?_)<|fun h1=>?_
 ·refine zcr (sq 1<|zjr<|t_r<|rH1 yN H ?_)
  obtain rfl:=H.nilOf 0 rfl ‹_›
  exact ownNew_nil _ _ _
 refine qZ<|t_n<|zcr<|sw<|ja H underlying24 ti2 fun b2 w3 H=>sq 1 ?_
 replace H:=H.boxRow 0 rfl 1 0 rfl qj
 refine sw<|o_appendInts H 0 rfl 0 rfl underlying24 ti2 rfl rfl rfl qp qf fun v4 w5 H=>?_
 replace H:St _ _ [.row v4 2 1 (0+l.length) ([]++l.map (Value.int .i64))] _:=H
 refine sp (v4)<|zjr<|rH1 (v4) H<|H.newInts 0 rfl qf
end
section
instance:Mark Vw where
 cnt x:=1+cnt x.Xq
 mrk x k:=⟨mrk x.qY<|k,mrk x.Xq<|k+1⟩
 mkd x k:=mkd x.qY (k)/\mkd x.Xq (k+1)
 mkd_mark x k:=by
  simp only[cnt_mark]
  exact⟨mkd_mark _ _,mkd_mark _ _⟩
 cnt_mark x k:=by simp only[cnt_mark]
theorem cnt_IntoD(x:Vw):cnt x=1+cnt x.Xq:=rfl
instance:Mark yH where
 cnt x:=1+1+cnt x.zJ+cnt x.jB+cnt x.jD+cnt x.jJ+cnt x.Qq+cnt x.xF+1
 mrk x k:=⟨mrk x.qY<|k,mrk x.yK<|k+1,mrk x.zJ<|k+1+1,mrk x.jB<|k+1+1+(cnt x.zJ:Nat),mrk x.jD<|k+1+1+(cnt x.zJ:Nat)+(cnt x.jB:Nat),mrk x.jJ<|k+1+1+(cnt x.zJ:Nat)+(cnt x.jB:Nat)+(cnt x.jD:Nat),mrk x.Qq<|k+1+1+(cnt x.zJ:Nat)+(cnt x.jB:Nat)+(cnt x.jD:Nat)+(cnt x.jJ:Nat),mrk x.xF<|k+1+1+(cnt x.zJ:Nat)+(cnt x.jB:Nat)+(cnt x.jD:Nat)+(cnt x.jJ:Nat)+(cnt x.Qq:Nat),mrk x.jY<|k+1+1+(cnt x.zJ:Nat)+(cnt x.jB:Nat)+(cnt x.jD:Nat)+(cnt x.jJ:Nat)+(cnt x.Qq:Nat)+(cnt x.xF:Nat)⟩
 mkd x k:=mkd x.qY (k)/\mkd x.yK (k+1)/\mkd x.zJ (k+1+1)/\mkd x.jB (k+1+1+(cnt x.zJ:Nat))/\mkd x.jD (k+1+1+(cnt x.zJ:Nat)+(cnt x.jB:Nat))/\mkd x.jJ (k+1+1+(cnt x.zJ:Nat)+(cnt x.jB:Nat)+(cnt x.jD:Nat))/\mkd x.Qq (k+1+1+(cnt x.zJ:Nat)+(cnt x.jB:Nat)+(cnt x.jD:Nat)+(cnt x.jJ:Nat))/\mkd x.xF (k+1+1+(cnt x.zJ:Nat)+(cnt x.jB:Nat)+(cnt x.jD:Nat)+(cnt x.jJ:Nat)+(cnt x.Qq:Nat))/\mkd x.jY (k+1+1+(cnt x.zJ:Nat)+(cnt x.jB:Nat)+(cnt x.jD:Nat)+(cnt x.jJ:Nat)+(cnt x.Qq:Nat)+(cnt x.xF:Nat))
 mkd_mark x k:=by
  simp only[cnt_mark]
  exact⟨mkd_mark _ _,mkd_mark _ _,mkd_mark _ _,mkd_mark _ _,mkd_mark _ _,mkd_mark _ _,mkd_mark _ _,mkd_mark _ _,mkd_mark _ _⟩
 cnt_mark x k:=by simp only[cnt_mark]
theorem cnt_RuleD(x:yH):cnt x=1+1+cnt x.zJ+cnt x.jB+cnt x.jD+cnt x.jJ+cnt x.Qq+cnt x.xF+1:=rfl
instance:Mark qG where
 cnt x:=cnt x.qK+cnt x.qQ+cnt x.qJ
 mrk x k:=⟨mrk x.qK<|k,mrk x.qQ<|k+(cnt x.qK:Nat),mrk x.qJ<|k+(cnt x.qK:Nat)+(cnt x.qQ:Nat)⟩
 mkd x k:=mkd x.qK (k)/\mkd x.qQ (k+(cnt x.qK:Nat))/\mkd x.qJ (k+(cnt x.qK:Nat)+(cnt x.qQ:Nat))
 mkd_mark x k:=by
  simp only[cnt_mark]
  exact⟨mkd_mark _ _,mkd_mark _ _,mkd_mark _ _⟩
 cnt_mark x k:=by simp only[cnt_mark]
end
section
def FrameTo(s:qH)(k:Nat):Prop:=∀c,1<=c->c<k->0<=s.qA[c]! /\s.qA[c]! <=(c:Int)-1
theorem FrameTo.one(s:qH):FrameTo s 1:=fun c h1 h2=>by omega
theorem FrameTo.succ(h:FrameTo s k)(h1:0<=s.qA[k]! /\s.qA[k]! <=(k:Int)-1):FrameTo s (k+1):=fun c hc hk=>by
 by_cases e:c=k
 ·subst e;exact h1
 ·exact h c hc qf
def yP(s:qH):Prop:=(1<=s.zf/\s.zf<=8)/\(1<=s.qA.length/\s.qA.length<=6)/\s.qA[0]! = -1/\FrameTo s s.qA.length
theorem yP.up(h:yP s){c:Int}(h0:0<c)(h1:c<=(s.qA.length:Int)-1):0<=s.qA[c.toNat]! /\s.qA[c.toNat]!<c:=by
 have:=h.2.2.2 c.toNat qf qf
 omega
inductive Lies(p:yLI)(o:Int):Int->Prop where
 |here {c:Int}:0<c->p[c.toNat]! =o->Lies p o c
 |up {c:Int}:0<c->Lies p o (p[c.toNat]!)->Lies p o c
theorem lies_iff{p:yLI}{o c:Int}:Lies p o c<->0<c/\(p[c.toNat]! =o\/Lies p o (p[c.toNat]!)):=by
 constructor
 ·rintro(⟨h,e⟩|⟨h,e⟩)
  ·exact⟨h,.inl e⟩
  ·exact⟨h,.inr e⟩
 ·rintro⟨h,e|e⟩
  ·exact .here h e
  ·exact .up h e
abbrev CellIn(s:qH)(c:Int):Prop:=0<=c/\c<=(s.qA.length:Int)-1
def IntoOk(s:qH)(r:yH)(j:Nat):Prop:=
 CellIn s (r.xF[j]!).qY/\Lies s.qA r.qY (r.xF[j]!).qY/\jm s.zf (r.xF[j]!).Xq/\Xr (r.xF[j]!).Xq≠0/\(0<j->(r.xF[j-1]!).qY<(r.xF[j]!).qY)
def IntosTo(s:qH)(r:yH)(k:Nat):Prop:=∀j,j<k->IntoOk s r j
theorem IntosTo.succ{r:yH}(h:IntosTo s r k)(h1:IntoOk s r k):IntosTo s r (k+1):=fun j hj=>by
 by_cases e:j=k
 ·subst e;exact h1
 ·exact h j qf
def RuleOk(s:qH)(r:yH):Prop:=
 CellIn s r.qY/\(0<=r.yK/\r.yK<=9)/\¬(r.jY=true/\r.qY=0)/\r.xF.length<=3∧
  jm s.zf r.zJ/\jm s.zf r.jB/\jm s.zf r.jD/\jm s.zf r.jJ/\jm s.zf r.Qq/\Xr r.zJ≠0/\IntosTo s r r.xF.length
def VJ(rs:List yH)(c:Int):Nat->Int
 |0=>0
 |k+1=>VJ rs c k+if (rs[k]!).qY=c then 1 else 0
def RulesTo(s:qH)(k:Nat):Prop:=∀j,j<k->RuleOk s (s.qB[j]!)/\VJ s.qB (s.qB[j]!).qY (j+1)<=8
theorem RulesTo.succ(h:RulesTo s k)(h1:RuleOk s (s.qB[k]!))(h2:VJ s.qB (s.qB[k]!).qY (k+1)<=8):RulesTo s (k+1):=fun j hj=>by
 by_cases e:j=k
 ·subst e;exact⟨h1,h2⟩
 ·exact h j qf
def vz(s:qH):Prop:=yP s/\s.qB.length<=16/\RulesTo s s.qB.length
def BagsTo(s:qH)(t:qG)(k:Nat):Prop:=∀c,c<k->jm s.zf (t.qQ[c]!)/\(t.qK[c]! =false->Xr (t.qQ[c]!)<=0)
theorem BagsTo.succ{t:qG}(h:BagsTo s t k)(h1:jm s.zf (t.qQ[k]!))(h2:t.qK[k]! =false->Xr (t.qQ[k]!)<=0):BagsTo s t (k+1):=fun j hj=>by
 by_cases e:j=k
 ·subst e;exact⟨h1,h2⟩
 ·exact h j qf
def xK(s:qH)(t:qG):Prop:=
 t.qK.length=s.qA.length/\t.qQ.length=s.qA.length/\t.qK[0]! =true/\jm s.zf t.qJ/\BagsTo s t t.qQ.length
theorem yP.step(h:yP s){c:Int}(h0:0<=c)(h1:c<=(s.qA.length:Int)-1): -1<=s.qA[c.toNat]! /\s.qA[c.toNat]!<c:=by
 rcases Int.lt_or_eq_of_le h0 with h2|h2
 ·have:=h.up h2 h1;omega
 ·subst h2
  have:=h.2.2.1
  simp only[Int.toNat_zero]
  omega
def climb(p:yLI)(alive:List Bool):Nat->Int->Int
 |0,c=>c
 |n+1,c=>if 0<=c/\alive[c.toNat]! =false then climb p alive n (p[c.toNat]!) else c
theorem climb_go{p:yLI}{c:Int}(hn:c<n)(h0:0<=c)(h:alive[c.toNat]! =false):climb p alive n c=climb p alive (n-1) (p[c.toNat]!):=by
 obtain⟨m,rfl⟩:∃m,n=m+1:=⟨n-1,by omega⟩
 rw[climb,if_pos ⟨h0,h⟩];rfl
theorem climb_end{p:yLI}{c:Int}(h:¬(0<=c/\alive[c.toNat]! =false)):climb p alive n c=c:=by
 cases n with
 |zero=>rfl
 |succ m=>rw[climb,if_neg h]
def x9(s:qH)(t:qG)(c:Int):Int:=climb s.qA t.qK s.qA.length<|s.qA[c.toNat]!
theorem ofCell_bd(rs:List yH)(c:Int):∀k,0<=VJ rs c k/\VJ rs c k<=k
 |0=>by simp[VJ]
 |k+1=>by
  have:=ofCell_bd rs c k
  simp only[VJ]
  split <;> omega
def counts(s:qH)(k:Nat):yLI:=(List.range s.qA.length).map fun c:Nat=>VJ s.qB (c:Int) k
theorem counts_len(s:qH)(k:Nat):(counts s k).length=s.qA.length:=by simp[counts]
theorem counts_zero(s:qH):List.replicate s.qA.length (0:Int)=counts s 0:=by
 apply List.ext_getElem
 ·simp[counts]
 ·intro i h1 h2;simp[counts,VJ]
theorem Ye{c:Int}(h:CellIn s c):(counts s k)[c.toNat]! =VJ s.qB c k:=by
 rw[getElem!_pos _ _<|by rw[counts_len];omega]
 simp only[counts,List.getElem_map,List.getElem_range]
 rw[show ((c.toNat:Nat):Int)=c by omega]
theorem counts_succ(h:CellIn s (s.qB[k]!).qY):
 (counts s k).set (s.qB[k]!).qY.toNat ((counts s k)[(s.qB[k]!).qY.toNat]! +1)=counts s (k+1):=by
 rw[Ye h]
 apply List.ext_getElem
 ·simp[counts]
 ·intro i h1 h2
  rw[List.getElem_set]
  simp only[counts,List.getElem_map,List.getElem_range,VJ]
  by_cases e:(s.qB[k]!).qY.toNat=i
  ·subst e
   rw[if_pos rfl,if_pos qf,show (((s.qB[k]!).qY.toNat:Nat):Int)=(s.qB[k]!).qY by omega]
  ·rw[if_neg e,if_neg qf];omega
open Classical in
noncomputable def cellCodeOf(s:qH)(t:qG)(c:Int):Int:=
 if ¬(vz s/\xK s t) then 1 else if ¬CellIn s c then 2 else if t.qK[c.toNat]! =false then 4 else 0
end
end Go.Proofs.YtdhklgjmiamiaaaGreat
